/- One text of these: Orc0, OrcW1, OrcP1, Orc2. -/
import Derived.Test.YtchfbhiaboggmaaSha
import Derived.Test.YtchfbhiaboggmaaAbsE

/- The oracle: texts in order, and which ones there are. -/
namespace Go.Sh
open Go Go.Abs

def ocell (s : List UInt8) : List AVal := .str s :: (sum s).map ofByte
def ocells (T : List (List UInt8)) : List AVal := (T.map ocell).flatten
theorem ocell_len (s : List UInt8) : (ocell s).length = 33 := by simp [ocell, sum_len]
theorem ocells_len (T : List (List UInt8)) : (ocells T).length = T.length * 33 := by
  induction T with
  | nil => rfl
  | cons t T ih =>
    have : ocells (t :: T) = ocell t ++ ocells T := rfl
    rw [this, List.length_append, ih, ocell_len, List.length_cons]; omega
theorem ocells_app (T : List (List UInt8)) (s : List UInt8) : ocells (T ++ [s]) = ocells T ++ ocell s := by simp [ocells]
theorem ocell_plain (s : List UInt8) : ∀ x ∈ ocell s, x.plain = true := by
  intro x hx
  simp only [ocell, List.mem_cons, List.mem_map] at hx
  rcases hx with rfl | ⟨b, _, rfl⟩ <;> rfl
theorem ocells_plain (T : List (List UInt8)) : ∀ x ∈ ocells T, x.plain = true := by
  intro x hx
  simp only [ocells, List.mem_flatten, List.mem_map] at hx
  obtain ⟨l, ⟨t, _, rfl⟩, hx⟩ := hx
  exact ocell_plain t x hx
theorem ocell_cell (s : List UInt8) : (ocell s).all AVal.isCell = true := by
  rw [List.all_eq_true]
  intro x hx
  simp only [ocell, List.mem_cons, List.mem_map] at hx
  rcases hx with rfl | ⟨b, _, rfl⟩ <;> rfl

/-- An oracle that keeps texts. -/
structure ORep (H : AHeap) (i v m mv : Nat) (lv : AVal) (T : List (List UInt8)) : Prop where
  cell : H[i]? = some (.cells v .exact [lv, .map m])
  mp : H[m]? = some (.map mv (ents T))
  lst : (lv = .nils ∧ T = []) ∨ ∃ j u, lv = .slice ⟨j, u, 0⟩ T.length (.op 33) ∧ H[j]? = some (.cells u .opn (ocells T)) ∧ j ≠ i
  nd : T.Nodup
  short : ∀ s ∈ T, s.length ≤ 1099511627776

/-- The same, on a heap that has grown. -/
theorem ORep.pre {H K : AHeap} {i v m mv : Nat} {lv : AVal} {T : List (List UInt8)} (h : ORep H i v m mv lv T) (p : H <+: K) : ORep K i v m mv lv T := by
  refine ⟨by rw [pre_get p (lt_of_some h.cell)]; exact h.cell, by rw [pre_get p (lt_of_some h.mp)]; exact h.mp, ?_, h.nd, h.short⟩
  rcases h.lst with h1 | ⟨j, u, h1, h2, h3⟩
  · exact .inl h1
  · exact .inr ⟨j, u, h1, by rw [pre_get p (lt_of_some h2)]; exact h2, h3⟩

theorem ORep.view {H : AHeap} {i v m mv : Nat} {lv : AVal} {T : List (List UInt8)} (h : ORep H i v m mv lv T) : View H lv 33 T.length (ocells T) := by
  refine ⟨ocells_len T, ?_⟩
  rcases h.lst with ⟨rfl, rfl⟩ | ⟨j, u, rfl, h2, _⟩
  · exact .inl ⟨rfl, rfl⟩
  · exact .inr ⟨j, u, 0, _, _, _, rfl, h2, fun _ => by rw [ocells_len]; omega, by rw [List.drop_zero, ← ocells_len, List.take_length], rfl⟩

/-- What is kept behind a sum. -/
def keepT (T : List (List UInt8)) (s : List UInt8) : List (List UInt8) := if s ∈ T then T else T ++ [s]

def oputV (H : AHeap) (lv : AVal) (n : Nat) : AVal :=
  match lv with
  | .slice r _ _ => .slice ⟨r.id, r.ver + 1, 0⟩ n (.op 33)
  | _ => .slice ⟨H.length, 0, 0⟩ n (.op 33)
/-- The heap behind a new text. -/
def oput (H : AHeap) (i v m mv : Nat) (lv : AVal) (T : List (List UInt8)) : AHeap :=
  match lv with
  | .slice r _ _ => ((H.set m (.map (mv + 1) (ents T))).set r.id (.cells (r.ver + 1) .opn (ocells T))).set i (.cells v .exact [oputV H lv T.length, .map m])
  | _ => ((H.set m (.map (mv + 1) (ents T))).set i (.cells v .exact [oputV H lv T.length, .map m])) ++ [.cells 0 .opn (ocells T)]

theorem kinds {H : AHeap} {i m v w : Nat} {kd : Kd} {cs : List AVal} {es : List (AVal × AVal)} (h : H[i]? = some (.cells v kd cs)) (k : H[m]? = some (.map w es)) : i ≠ m := by
  rintro rfl; rw [h] at k; cases k

def newO (H : AHeap) : AHeap := H ++ [.map 0 [], .cells 0 .exact [.nils, .map H.length]]
theorem ORep.new (H : AHeap) : ORep (newO H) (H.length + 1) 0 H.length 0 .nils [] :=
  ⟨by simp [newO], by simp [newO, ents], .inl ⟨rfl, rfl⟩, List.nodup_nil, fun _ h => by cases h⟩

def S_oracle_New : Abs.Spec := fun args H r H' => args = [] ∧ r = .ptr ⟨H.length + 1, 0, 0⟩ ∧ H' = newO H
/-- The old way to tell a sum. -/
def SumOld : Abs.Spec := fun args H r H' => ∃ o s, args = [o, .str s] ∧ s.length ≤ 1099511627776 ∧ r = .agg ((sum s).map ofByte) ∧
  ((o = .nilp ∧ H' = H) ∨ ∃ i v m mv lv T, o = .ptr ⟨i, v, 0⟩ ∧ ORep H i v m mv lv T ∧ T.length ≤ 1073741824 ∧ ((s ∈ T ∧ H' = H) ∨ (s ∉ T ∧ H' = oput H i v m mv lv (T ++ [s]))))

/-- What is kept behind sums. -/
def keepTs (T : List (List UInt8)) : List (List UInt8) → List (List UInt8)
  | [] => T
  | s :: ss => keepTs (keepT T s) ss

/-- The heap behind so many new texts. -/
def oset (H : AHeap) (i v m mv : Nat) (lv : AVal) (T T' : List (List UInt8)) : AHeap :=
  if T'.length = T.length then H else
  match lv with
  | .slice r _ _ => ((H.set m (.map (mv + (T'.length - T.length)) (ents T'))).set r.id (.cells (r.ver + (T'.length - T.length)) .opn (ocells T'))).set i (.cells v .exact [.slice ⟨r.id, r.ver + (T'.length - T.length), 0⟩ T'.length (.op 33), .map m])
  | _ => ((H.set m (.map (mv + (T'.length - T.length)) (ents T'))).set i (.cells v .exact [.slice ⟨H.length, 0, 0⟩ T'.length (.op 33), .map m])) ++ [.cells 0 .opn (ocells T')]

def Osums (H : AHeap) (o : AVal) (ss : List (List UInt8)) (H' : AHeap) : Prop :=
  (o = .nilp ∧ H' = H) ∨ ∃ i v m mv lv T, o = .ptr ⟨i, v, 0⟩ ∧ ORep H i v m mv lv T ∧ T.length + ss.length ≤ 1073741824 ∧ H' = oset H i v m mv lv T (keepTs T ss)
def S_oracle_Oracle_Sum : Abs.Spec := fun args H r H' => ∃ o s, args = [o, .str s] ∧ s.length ≤ 1099511627776 ∧ r = .agg ((sum s).map ofByte) ∧ Osums H o [s] H'
def zero32 : AVal := .agg (List.replicate 32 (.int .u8 0))
theorem keepT_len (T : List (List UInt8)) (s : List UInt8) : T.length ≤ (keepT T s).length ∧ (keepT T s).length ≤ T.length + 1 := by
  unfold keepT; split <;> simp
theorem keepTs_len (ss : List (List UInt8)) : ∀ T : List (List UInt8), T.length ≤ (keepTs T ss).length ∧ (keepTs T ss).length ≤ T.length + ss.length := by
  induction ss with
  | nil => intro T; simp [keepTs]
  | cons s ss ih =>
    intro T
    have h1 := keepT_len T s
    have h2 := ih (keepT T s)
    simp only [keepTs, List.length_cons]
    omega
theorem keepTs_app (ss tt : List (List UInt8)) : ∀ T, keepTs T (ss ++ tt) = keepTs (keepTs T ss) tt := by
  induction ss with
  | nil => intro T; rfl
  | cons s ss ih => intro T; simp only [List.cons_append, keepTs, ih]
theorem keepTs_same (ss : List (List UInt8)) : ∀ T : List (List UInt8), (keepTs T ss).length = T.length → keepTs T ss = T := by
  induction ss with
  | nil => intro T _; rfl
  | cons s ss ih =>
    intro T h
    have h1 := keepT_len T s
    have h2 := keepTs_len ss (keepT T s)
    simp only [keepTs] at h ⊢
    have : (keepT T s).length = T.length := by omega
    have hk : keepT T s = T := by
      unfold keepT at this ⊢
      split
      · rfl
      · rename_i hs; rw [if_neg hs] at this; simp at this
    rw [hk] at h ⊢
    exact ih T h
theorem keepTs_nd (ss : List (List UInt8)) : ∀ T : List (List UInt8), T.Nodup → (keepTs T ss).Nodup := by
  induction ss with
  | nil => intro T h; exact h
  | cons s ss ih =>
    intro T h
    refine ih _ ?_
    unfold keepT
    split
    · exact h
    · rename_i hs
      exact List.nodup_append.2 ⟨h, by simp, fun a ha b hb => by simp at hb; subst hb; rintro rfl; exact hs ha⟩
theorem keepTs_mem (ss : List (List UInt8)) : ∀ (T : List (List UInt8)) (x : List UInt8), x ∈ keepTs T ss ↔ x ∈ T ∨ x ∈ ss := by
  induction ss with
  | nil => intro T x; simp [keepTs]
  | cons s ss ih =>
    intro T x
    simp only [keepTs, ih, List.mem_cons]
    unfold keepT
    split
    · rename_i hs
      constructor
      · rintro (h | h)
        · exact .inl h
        · exact .inr (.inr h)
      · rintro (h | rfl | h)
        · exact .inl h
        · exact .inl hs
        · exact .inr h
    · simp only [List.mem_append, List.mem_cons, List.not_mem_nil, or_false]
      constructor
      · rintro ((h | h) | h)
        · exact .inl h
        · exact .inr (.inl h)
        · exact .inr (.inr h)
      · rintro (h | h | h)
        · exact .inl (.inl h)
        · exact .inl (.inr h)
        · exact .inr h

/-- The new way tells the old one. -/
theorem sum_old {args : List AVal} {H : AHeap} {r : AVal} {H' : AHeap} (h : S_oracle_Oracle_Sum args H r H') : SumOld args H r H' := by
  obtain ⟨o, s, ha, hs, hr, h⟩ := h
  refine ⟨o, s, ha, hs, hr, ?_⟩
  rcases h with h | ⟨i, v, m, mv, lv, T, ho, hp, hT, rfl⟩
  · exact .inl h
  · refine .inr ⟨i, v, m, mv, lv, T, ho, hp, by omega, ?_⟩
    have e : keepTs T [s] = keepT T s := rfl
    by_cases hin : s ∈ T
    · refine .inl ⟨hin, ?_⟩
      have hk : keepT T s = T := if_pos hin
      rw [e, hk]; exact if_pos rfl
    · refine .inr ⟨hin, ?_⟩
      have hk : keepT T s = T ++ [s] := if_neg hin
      rw [e, hk]
      unfold oset
      rw [if_neg (by simp)]
      rcases hp.lst with ⟨rfl, rfl⟩ | ⟨j, u, rfl, _⟩
      · simp [oput, oputV]
      · simp [oput, oputV]
end Go.Sh

/- What Go functions come to over abstract values, printed by a program (wtext.py). -/
namespace Go.Sh
open Go Go.Abs

def oracle_New.w (H : AHeap) (K : AVal → AHeap → Prop) : Prop :=
 hb (aMakeMap H) fun v1 H2 =>
 vb (aBuild [.nils, .nilm] (fun k => ([(0, 1), (1, 1)] : List (Nat × Nat))[k]?) [(1, v1)]) fun v3 =>
 hb (aBox H2 v3) fun v4 H5 =>
 fin .ret [.v (v4)] H5 K

def oracle_Oracle_Sum.w (x0 : AVal) (x1 : AVal) (H : AHeap) (K : AVal → AHeap → Prop) : Prop :=
 hb (aAlloc H (List.replicate 32 (.int .u8 0))) fun v1 H2 =>
 cb (S_sha_Sum [x1] H2) fun v3 H4 =>
 hb (aAlloc H4 (List.replicate 32 (.int .u8 0))) fun v5 H6 =>
 sb (aStore H6 32 v5 v3) fun H7 =>
 vb (aEql false .ptr H7 x0 .nilp) fun v8 =>
 isB v8 fun b9 => cond b9
 (vb (aLoad H7 true 32 v5) fun v10 =>
 sb (aStore H7 32 v1 v10) fun H11 =>
 fin .ret [.c true 32 (v1)] H11 K)
 (JoinP (fun Kj12 => vb (aNilCheck x0) fun v13 =>
 vb (aFieldAddr 1 v13) fun v14 =>
 vb (aLoad H7 false 1 v14) fun v15 =>
 vb (aEql false .map H7 v15 .nilm) fun v16 =>
 isB v16 fun b17 => cond b17
 (hb (aMakeMap H7) fun v18 H19 =>
 vb (aNilCheck x0) fun v20 =>
 vb (aFieldAddr 1 v20) fun v21 =>
 sb (aStore H19 1 v21 v18) fun H22 =>
 Kj12 .normal [] H22)
 (Kj12 .normal [] H7))
 (fun e23 vs24 H25 =>
 onE e23 .normal
 (vb (aNilCheck x0) fun v26 =>
 vb (aFieldAddr 1 v26) fun v27 =>
 vb (aLoad H25 false 1 v27) fun v28 =>
 vb (aLookup H25 .str (.bool false) false v28 x1) fun v29 =>
 vb (aUn .not v29) fun v30 =>
 isB v30 fun b31 => cond b31
 (vb (aNilCheck x0) fun v32 =>
 vb (aFieldAddr 1 v32) fun v33 =>
 vb (aLoad H25 false 1 v33) fun v34 =>
 sb (aMapUpdate H25 .str v34 x1 (.bool true)) fun H35 =>
 vb (aNilCheck x0) fun v36 =>
 vb (aFieldAddr 0 v36) fun v37 =>
 vb (aLoad H35 false 1 v37) fun v38 =>
 vb (aLoad H35 true 32 v5) fun v39 =>
 vb (aBuild [.str [], .int .u8 0, .int .u8 0, .int .u8 0, .int .u8 0, .int .u8 0, .int .u8 0, .int .u8 0, .int .u8 0, .int .u8 0, .int .u8 0, .int .u8 0, .int .u8 0, .int .u8 0, .int .u8 0, .int .u8 0, .int .u8 0, .int .u8 0, .int .u8 0, .int .u8 0, .int .u8 0, .int .u8 0, .int .u8 0, .int .u8 0, .int .u8 0, .int .u8 0, .int .u8 0, .int .u8 0, .int .u8 0, .int .u8 0, .int .u8 0, .int .u8 0, .int .u8 0] (fun k => ([(0, 1), (1, 32)] : List (Nat × Nat))[k]?) [(0, x1), (1, v39)]) fun v40 =>
 hb (aBuildSlice H35 33 [.str [], .int .u8 0, .int .u8 0, .int .u8 0, .int .u8 0, .int .u8 0, .int .u8 0, .int .u8 0, .int .u8 0, .int .u8 0, .int .u8 0, .int .u8 0, .int .u8 0, .int .u8 0, .int .u8 0, .int .u8 0, .int .u8 0, .int .u8 0, .int .u8 0, .int .u8 0, .int .u8 0, .int .u8 0, .int .u8 0, .int .u8 0, .int .u8 0, .int .u8 0, .int .u8 0, .int .u8 0, .int .u8 0, .int .u8 0, .int .u8 0, .int .u8 0, .int .u8 0] 1 [(0, v40)]) fun v41 H42 =>
 hb (aAppendS H42 33 48 v38 v41) fun v43 H44 =>
 vb (aNilCheck x0) fun v45 =>
 vb (aFieldAddr 0 v45) fun v46 =>
 sb (aStore H44 1 v46 v43) fun H47 =>
 vb (aLoad H47 true 32 v5) fun v48 =>
 sb (aStore H47 32 v1 v48) fun H49 =>
 fin .ret [.c true 32 (v1)] H49 K)
 (vb (aLoad H25 true 32 v5) fun v50 =>
 sb (aStore H25 32 v1 v50) fun H51 =>
 fin .ret [.c true 32 (v1)] H51 K))
 (False)))

end Go.Sh

/- The oracle's functions come to what is told. -/
namespace Go.Sh
open Go Go.Abs

theorem oracle_New.ok (args : List AVal) (H : AHeap) (r : AVal) (H' : AHeap) (h : S_oracle_New args H r H') : args = [] ∧ oracle_New.w H fun r1 H1 => r1 = r ∧ H1 = H' := by
  obtain ⟨rfl, rfl, rfl⟩ := h
  refine ⟨rfl, ?_⟩
  unfold oracle_New.w
  refine hb_i rfl ?_
  refine vb_i rfl ?_
  refine hb_i rfl ?_
  refine fin_ret (rvs_v (rvs_nil _)) ⟨by simp [tup1], by simp [newO, splice, AVal.cells]⟩

theorem bytes_plain (l : List UInt8) : ∀ x ∈ l.map ofByte, x.plain = true := map_plain (fun _ => rfl) l

theorem oracle_Oracle_Sum.ok (args : List AVal) (H : AHeap) (r : AVal) (H' : AHeap) (h : S_oracle_Oracle_Sum args H r H') : ∃ x0 x1, args = [x0, x1] ∧ oracle_Oracle_Sum.w x0 x1 H fun r1 H1 => Weak H r1 H1 r H' := by
  replace h := sum_old h
  obtain ⟨o, s, rfl, hs, rfl, h⟩ := h
  refine ⟨_, _, rfl, ?_⟩
  unfold oracle_Oracle_Sum.w
  have hsl := sum_len s
  refine hb_i rfl ?_
  refine cb_i _ _ ⟨s, rfl, hs, rfl, rfl⟩ ?_
  refine hb_i rfl ?_
  simp (disch := first | omega | (simp only [evS]; done) | (simp only [len_map, len_rep, hsl]; done) | fail) only [ev, evH, List.append_assoc, List.cons_append, List.nil_append, List.length_append, List.length_cons, List.length_nil, Nat.zero_add, List.getElem?_cons_zero, List.getElem?_cons_succ, List.set_cons_zero, List.set_cons_succ]
  rcases h with ⟨rfl, rfl⟩ | ⟨i, v, m, mv, lv, T, rfl, hr, hT, h⟩
  · simp (disch := first | omega | (simp only [evS]; done) | (simp only [len_map, len_rep, hsl]; done) | fail) only [ev, evH, List.append_assoc, List.cons_append, List.nil_append, List.length_append, List.length_cons, List.length_nil, Nat.zero_add, List.getElem?_cons_zero, List.getElem?_cons_succ, List.set_cons_zero, List.set_cons_succ]
    refine fin_ret (vs := [.agg ((sum s).map ofByte)]) (rvs_c (e_loadAll (v := 0) (kd := .exact) (by simp) (by simp [hsl])) (rvs_nil _)) ?_
    exact Weak.agg (bytes_plain _) (pre_app _ _)
  · have hi := lt_of_some hr.cell
    have hm := lt_of_some hr.mp
    have him := kinds hr.cell hr.mp
    generalize hB : H ++ [AObj.cells 0 .exact (List.replicate 32 (.int .u8 0)), AObj.cells 0 .exact ((sum s).map ofByte)] = B
    have hpB : H <+: B := by rw [← hB]; exact pre_app _ _
    have hBl : B.length = H.length + 2 := by rw [← hB]; simp
    have hB0 : B[H.length]? = some (.cells 0 .exact (List.replicate 32 (.int .u8 0))) := by rw [← hB]; simp
    have hB1 : B[H.length + 1]? = some (.cells 0 .exact ((sum s).map ofByte)) := by rw [← hB]; simp
    have hrB := hr.pre hpB
    have hcB := hrB.cell
    refine JoinP.mk (fun e vs B' => B' = B ∧ e = .normal) ?_ ?_
    · simp (disch := first | omega | (simp only [evS]; done) | (simp only [len_cons, len_nil] <;> omega) | fail) only [ev, evH, hcB, Nat.zero_add, List.getD_cons_zero, List.getD_cons_succ]
      refine vb_i (v := .bool false) rfl ?_
      rw [isB_false, cond_false]
      exact ⟨by trivial, by trivial⟩
    · rintro e vs B' ⟨rfl, rfl⟩
      rw [onE_same]
      simp (disch := first | omega | (simp only [evS]; done) | (simp only [len_cons, len_nil] <;> omega) | fail) only [ev, evH, hcB, Nat.zero_add, List.getD_cons_zero, List.getD_cons_succ, look_in hrB.mp]
      rw [show (!decide (s ∈ T)) = decide (s ∉ T) by simp]
      have fin2 : ∀ (C : AHeap), H.length + 2 ≤ C.length → C[H.length]? = B'[H.length]? → C[H.length + 1]? = B'[H.length + 1]? → Weak H (.agg ((sum s).map ofByte)) (C.set H.length (.cells 0 .exact ((sum s).map ofByte))) (.agg ((sum s).map ofByte)) H' →
          vb (ldN C[H.length + 1]? 0 0 32) fun v50 => sb (aStore C 32 (.ptr ⟨H.length, 0, 0⟩) v50) fun H51 => fin .ret [.c true 32 (.ptr ⟨H.length, 0, 0⟩)] H51 fun r1 H1 => Weak H r1 H1 (.agg ((sum s).map ofByte)) H' := by
        intro C hC h0 h1 hw
        rw [hB0] at h0
        rw [hB1] at h1
        simp (disch := first | omega | (simp only [evS]; done) | (simp only [len_map, len_rep, hsl]; done) | fail) only [ev, evH, h0, h1]
        exact fin_ret (vs := [.agg ((sum s).map ofByte)]) (rvs_c (e_loadAll (by rw [List.getElem?_set_self (by omega)]) (by simp [hsl])) (rvs_nil _)) hw
      rcases h with ⟨hin, rfl⟩ | ⟨hout, rfl⟩
      · refine isB_f (by simpa using hin) ?_
        rw [cond_false]
        refine fin2 B' (by omega) rfl rfl (Weak.agg (bytes_plain _) (pre_set hpB (Nat.le_refl _) _))
      · refine isB_t hout ?_
        rw [cond_true]
        have hiB : i < B'.length := by omega
        have hmB : m < B'.length := by omega
        have hoc := ocell_len s
        have hone : aBuild ([AVal.str [], AVal.int .u8 0, AVal.int .u8 0, AVal.int .u8 0, AVal.int .u8 0, AVal.int .u8 0, AVal.int .u8 0, AVal.int .u8 0, AVal.int .u8 0, AVal.int .u8 0, AVal.int .u8 0, AVal.int .u8 0, AVal.int .u8 0, AVal.int .u8 0, AVal.int .u8 0, AVal.int .u8 0, AVal.int .u8 0, AVal.int .u8 0, AVal.int .u8 0, AVal.int .u8 0, AVal.int .u8 0, AVal.int .u8 0, AVal.int .u8 0, AVal.int .u8 0, AVal.int .u8 0, AVal.int .u8 0, AVal.int .u8 0, AVal.int .u8 0, AVal.int .u8 0, AVal.int .u8 0, AVal.int .u8 0, AVal.int .u8 0, AVal.int .u8 0]) (fun k => ([(0, 1), (1, 32)] : List (Nat × Nat))[k]?) [(0, .str s), (1, .agg ((sum s).map ofByte))] = some (.agg (ocell s)) :=
          build_two rfl (by simp [hsl]) rfl
        refine sb_i (put_out hrB.mp hout) ?_
        have hL1 : (B'.set m (.map (mv + 1) (ents (T ++ [s]))))[i]? = some (.cells v .exact [lv, .map m]) := by rw [List.getElem?_set_ne him.symm]; exact hcB
        have hL2 : (B'.set m (.map (mv + 1) (ents (T ++ [s]))))[H.length + 1]? = some (.cells 0 .exact ((sum s).map ofByte)) := by rw [List.getElem?_set_ne (by omega)]; exact hB1
        have hL0 : (B'.set m (.map (mv + 1) (ents (T ++ [s]))))[H.length]? = some (.cells 0 .exact (List.replicate 32 (.int .u8 0))) := by rw [List.getElem?_set_ne (by omega)]; exact hB0
        have hCm : (B'.set m (.map (mv + 1) (ents (T ++ [s]))))[m]? = some (.map (mv + 1) (ents (T ++ [s]))) := by rw [List.getElem?_set_self hmB]
        have hCo : ∀ k, k ≠ m → (B'.set m (.map (mv + 1) (ents (T ++ [s]))))[k]? = B'[k]? := fun k hk => by rw [List.getElem?_set_ne (Ne.symm hk)]
        have hCl : (B'.set m (.map (mv + 1) (ents (T ++ [s])))).length = H.length + 2 := by rw [List.length_set]; exact hBl
        generalize B'.set m (.map (mv + 1) (ents (T ++ [s]))) = C at *
        simp (disch := first | omega | (simp only [evS]; done) | (simp only [len_map, len_rep, len_cons, len_nil, hsl] <;> omega) | fail) only [ev, evH, hL1, hL2, List.getD_cons_zero]
        refine vb_i hone ?_
        refine hb_i (buildSlice_one hoc rfl) ?_
        have hrow := append_row (H := C ++ [.cells 0 .exact (ocell s)]) (q := C.length) (m := 1) (es := 33) (bytes := 48) (s := lv) (xs := ocell s) (by simp) (by rw [hoc])
        rw [hrow]
        have hB2 : ∀ k, k < H.length → B'[k]? = H[k]? := fun k hk => pre_get hpB hk
        have hTl : (T ++ [s]).length = T.length + 1 := by simp
        rcases hr.lst with ⟨rfl, rfl⟩ | ⟨j, u, rfl, h2, h3⟩
        · refine hb_i (append_nil (by decide) (by decide) (by decide)) ?_
          simp (disch := first | omega | (simp only [evS]; done) | (simp only [len_map, len_rep, len_cons, len_nil, len_app, hsl] <;> omega) | fail) only [ev, evH, List.getElem?_append_left, hL1, List.set_cons_zero]
          refine fin2 _ ?_ ?_ ?_ ?_
          · simp; omega
          · rw [List.getElem?_set_ne (by omega), List.getElem?_append_left (by simp; omega), List.getElem?_append_left (by omega), hL0, hB0]
          · rw [List.getElem?_set_ne (by omega), List.getElem?_append_left (by simp; omega), List.getElem?_append_left (by omega), hL2, hB1]
          · have hq : (C ++ [AObj.cells 0 .exact (ocell s)]).length = H.length + 3 := by simp; omega
            have hoc1 : ocells ([] ++ [s]) = ocell s := by simp [ocells]
            refine Weak.oldsNew (q := H.length + 3) (w := 0) (kd := .opn) (cs := ocells ([] ++ [s])) (by simp [oput]) ?_ (by omega) ?_ (ocells_plain _) ?_ (ren_agg (bytes_plain _))
            · simp only [oput]
              rw [List.getElem?_append_right (by simp)]; simp
            · rw [List.getElem?_set_ne (by omega), List.getElem?_set_ne (by omega), List.getElem?_append_right (by omega), hq, hoc1]; simp
            · intro k hk
              by_cases e1 : k = i
              · subst e1
                right
                refine ⟨.cells v .exact [.slice ⟨H.length, 0, 0⟩ 1 (.op 33), .map m], .cells v .exact [.slice ⟨H.length + 3, 0, 0⟩ 1 (.op 33), .map m], ?_, ?_, ?_⟩
                · simp only [oput, oputV]
                  rw [List.getElem?_append_left (by simp; omega), List.getElem?_set_self (by simp; omega)]; rfl
                · rw [List.getElem?_set_ne (by omega), List.getElem?_set_self (by simp; omega), hq]
                · refine ⟨_, rfl, renL_cons ?_ (renL_cons ?_ renL_nil)⟩
                  · simp only [Ren]; exact ⟨by omega, by simp⟩
                  · simp only [Ren]; exact ⟨by omega, by rw [if_neg (by omega)]⟩
              · by_cases e2 : k = m
                · subst e2
                  right
                  refine ⟨.map (mv + 1) (ents ([] ++ [s])), _, ?_, ?_, ents_ren⟩
                  · simp only [oput]
                    rw [List.getElem?_append_left (by simp; omega), List.getElem?_set_ne him, List.getElem?_set_self hm]
                  · rw [List.getElem?_set_ne (by omega), List.getElem?_set_ne him, List.getElem?_append_left (by simp; omega), List.getElem?_append_left (by omega), hCm]
                · left
                  refine ⟨?_, ?_⟩
                  · rw [List.getElem?_set_ne (by omega), List.getElem?_set_ne (Ne.symm e1), List.getElem?_append_left (by simp; omega), List.getElem?_append_left (by omega), hCo k e2, hB2 k hk]
                  · simp only [oput]
                    rw [List.getElem?_append_left (by simp; omega), List.getElem?_set_ne (Ne.symm e1), List.getElem?_set_ne (Ne.symm e2)]
        · have hj := lt_of_some h2
          have hjm := kinds h2 hr.mp
          have hCj : (C ++ [AObj.cells 0 .exact (ocell s)])[j]? = some (.cells u .opn (ocells T)) := by rw [List.getElem?_append_left (by omega), hCo j hjm, hB2 j hj, h2]
          refine hb_i (append_op hCj (ocells_len T) (by decide) (by decide) (ocell_cell s) (by simp only [room]; omega) (by simp only [room]; omega)) ?_
          have hjn : j ≠ i := h3
          have hD1 : ((C ++ [AObj.cells 0 .exact (ocell s)]).set j (.cells (u + 1) .opn (ocells T ++ ocell s)))[i]? = some (.cells v .exact [.slice ⟨j, u, 0⟩ T.length (.op 33), .map m]) := by
            rw [List.getElem?_set_ne hjn, List.getElem?_append_left (by omega), hL1]
          simp (disch := first | omega | (simp only [evS]; done) | (simp only [len_map, len_rep, len_cons, len_nil, len_app, hsl] <;> omega) | fail) only [ev, evH, hD1, List.set_cons_zero]
          refine fin2 _ ?_ ?_ ?_ ?_
          · simp; omega
          · rw [List.getElem?_set_ne (by omega), List.getElem?_set_ne (by omega), List.getElem?_append_left (by omega), hL0, hB0]
          · rw [List.getElem?_set_ne (by omega), List.getElem?_set_ne (by omega), List.getElem?_append_left (by omega), hL2, hB1]
          · refine Weak.olds (by simp [oput]) ?_ (ren_agg (bytes_plain _))
            intro k hk
            by_cases e1 : k = i
            · subst e1
              right
              refine ⟨.cells v .exact [.slice ⟨j, u + 1, 0⟩ (T.length + 1) (.op 33), .map m], ?_, ?_, ?_⟩
              · simp only [oput, oputV]
                rw [List.getElem?_set_self (by simp; omega), hTl]
              · rw [List.getElem?_set_ne (by omega), List.getElem?_set_self (by simp; omega)]
              · refine ⟨_, rfl, renL_cons ?_ (renL_cons ?_ renL_nil)⟩
                · simp only [Ren]; exact ⟨by omega, by simp⟩
                · simp only [Ren]; exact ⟨by omega, trivial⟩
            · by_cases e2 : k = j
              · subst e2
                right
                refine ⟨.cells (u + 1) .opn (ocells T ++ ocell s), ?_, ?_, ?_⟩
                · simp only [oput]
                  rw [List.getElem?_set_ne (Ne.symm e1), List.getElem?_set_self (by simp; omega), ocells_app]
                · rw [List.getElem?_set_ne (by omega), List.getElem?_set_ne (Ne.symm e1), List.getElem?_set_self (by simp; omega)]
                · refine ⟨_, rfl, RenL.plain fun x hx => ?_⟩
                  rw [← ocells_app] at hx
                  exact ocells_plain _ x hx
              · by_cases e3 : k = m
                · subst e3
                  right
                  refine ⟨.map (mv + 1) (ents (T ++ [s])), ?_, ?_, ents_ren⟩
                  · simp only [oput]
                    rw [List.getElem?_set_ne (Ne.symm e1), List.getElem?_set_ne (Ne.symm e2), List.getElem?_set_self hm]
                  · rw [List.getElem?_set_ne (by omega), List.getElem?_set_ne (Ne.symm e1), List.getElem?_set_ne (Ne.symm e2), List.getElem?_append_left (by omega), hCm]
                · left
                  refine ⟨?_, ?_⟩
                  · rw [List.getElem?_set_ne (by omega), List.getElem?_set_ne (Ne.symm e1), List.getElem?_set_ne (Ne.symm e2), List.getElem?_append_left (by omega), hCo k e3, hB2 k hk]
                  · simp only [oput]
                    rw [List.getElem?_set_ne (Ne.symm e1), List.getElem?_set_ne (Ne.symm e2), List.getElem?_set_ne (Ne.symm e3)]

theorem zero32_build : aBuild (List.replicate 32 (.int .u8 0)) (fun k => some (k * 1, 1)) [] = some zero32 := rfl
theorem zero32_plain : ∀ x ∈ List.replicate 32 (AVal.int .u8 0), x.plain = true := fun x hx => by rw [List.eq_of_mem_replicate hx]; rfl

end Go.Sh

/- How an oracle goes on while others work on the heap. -/
namespace Go.Sh
open Go Go.Abs

/-- From H on, in the heap C: the oracle has got from T to T'. -/
structure OInv (H : AHeap) (i v m mv : Nat) (lv : AVal) (T : List (List UInt8)) (C : AHeap) (mv' : Nat) (lv' : AVal) (T' : List (List UInt8)) : Prop where
  src : ORep H i v m mv lv T
  rep : ORep C i v m mv' lv' T'
  mvE : mv' = mv + (T'.length - T.length)
  le : T.length ≤ T'.length
  len : H.length ≤ C.length
  keep : ∀ k, k < H.length → k ≠ i → k ≠ m → slId lv ≠ some k → C[k]? = H[k]?
  same : T'.length = T.length → T' = T ∧ lv' = lv
  old : ∀ r n c, lv = .slice r n c → lv' = .slice ⟨r.id, r.ver + (T'.length - T.length), 0⟩ T'.length (.op 33)
  new : lv = .nils → lv' = .nils ∨ ∃ q w, lv' = .slice ⟨q, w, 0⟩ T'.length (.op 33) ∧ H.length ≤ q

theorem OInv.refl {H : AHeap} {i v m mv : Nat} {lv : AVal} {T : List (List UInt8)} (h : ORep H i v m mv lv T) : OInv H i v m mv lv T H mv lv T := by
  refine ⟨h, h, by simp, Nat.le_refl _, Nat.le_refl _, fun _ _ _ _ _ => rfl, fun _ => ⟨rfl, rfl⟩, fun r n c e => ?_, fun e => .inl e⟩
  rcases h.lst with ⟨e', _⟩ | ⟨j, u, e', _⟩
  · rw [e'] at e; cases e
  · rw [e'] at e ⊢; cases e; simp

section
variable {H : AHeap} {i v m mv : Nat} {lv : AVal} {T : List (List UInt8)} {C : AHeap} {mv' : Nat} {lv' : AVal} {T' : List (List UInt8)}

theorem OInv.pre (h : OInv H i v m mv lv T C mv' lv' T') {D : AHeap} (p : C <+: D) : OInv H i v m mv lv T D mv' lv' T' :=
  ⟨h.src, h.rep.pre p, h.mvE, h.le, Nat.le_trans h.len p.length_le, fun k hk h1 h2 h3 => by rw [pre_get p (Nat.lt_of_lt_of_le hk h.len)]; exact h.keep k hk h1 h2 h3, h.same, h.old, h.new⟩

/-- Another one's new object is written. -/
theorem OInv.set (h : OInv H i v m mv lv T C mv' lv' T') {a : Nat} (ha : H.length ≤ a) (hs : slId lv' ≠ some a) (o : AObj) : OInv H i v m mv lv T (C.set a o) mv' lv' T' := by
  have hi := lt_of_some h.src.cell
  have hm := lt_of_some h.src.mp
  refine ⟨h.src, ⟨by rw [List.getElem?_set_ne (by omega)]; exact h.rep.cell, by rw [List.getElem?_set_ne (by omega)]; exact h.rep.mp, ?_, h.rep.nd, h.rep.short⟩, h.mvE, h.le, by rw [List.length_set]; exact h.len, fun k hk h1 h2 h3 => by rw [List.getElem?_set_ne (by omega)]; exact h.keep k hk h1 h2 h3, h.same, h.old, h.new⟩
  rcases h.rep.lst with h1 | ⟨j, u, rfl, h2, h3⟩
  · exact .inl h1
  · refine .inr ⟨j, u, rfl, ?_, h3⟩
    rw [List.getElem?_set_ne (fun e => hs (by rw [e]; rfl))]; exact h2

theorem plain_id {ρ σ : Nat → Nat} {n : Nat} {T : List (List UInt8)} : RenL ρ σ n (ocells T) (ocells T) := RenL.plain (ocells_plain T)

/-- All old objects that are not the oracle's are as they were; so what was told of the oracle is what has come. -/
theorem OInv.weak (h : OInv H i v m mv lv T C mv' lv' T') {r r1 : AVal} (hr : ∀ ρ σ n, H.length ≤ n → (∀ k, k < H.length → ρ k = k ∧ σ k = 0) → Ren ρ σ n r r1) : Weak H r1 C r (oset H i v m mv lv T T') := by
  have hi := lt_of_some h.src.cell
  have hm := lt_of_some h.src.mp
  have him := kinds h.src.cell h.src.mp
  unfold oset
  split
  · rename_i he
    obtain ⟨rfl, rfl⟩ := h.same he
    have hmv : mv' = mv := by have := h.mvE; omega
    subst hmv
    refine Weak.cells (hr _ _ _ (Nat.le_refl _) fun _ _ => ⟨rfl, rfl⟩) (pre_of_get h.len fun k hk => ?_)
    by_cases e1 : k = i
    · subst e1; rw [h.rep.cell, h.src.cell]
    · by_cases e2 : k = m
      · subst e2; rw [h.rep.mp, h.src.mp]
      · by_cases e3 : slId lv' = some k
        · rcases h.src.lst with ⟨rfl, _⟩ | ⟨j, u, rfl, a2, _⟩
          · cases e3
          · cases e3
            rcases h.rep.lst with ⟨e, _⟩ | ⟨j', u', e, b2, _⟩
            · cases e
            · cases e; rw [a2, b2]
        · exact h.keep k hk e1 e2 e3
  · rename_i hne
    rcases h.src.lst with ⟨rfl, hT⟩ | ⟨j, u, rfl, a2, a3⟩
    · rcases h.new rfl with rfl | ⟨q, w, rfl, hq⟩
      · exfalso
        rcases h.rep.lst with ⟨_, e⟩ | ⟨j, u, e, _⟩
        · subst e; subst hT; exact hne rfl
        · cases e
      · rcases h.rep.lst with ⟨e, _⟩ | ⟨j', u', e, b2, b3⟩
        · cases e
        · cases e
          simp only
          refine Weak.oldsNew (q := q) (w := w) (kd := .opn) (cs := ocells T') (by simp) (by rw [List.getElem?_append_right (by simp)]; simp) hq b2 (ocells_plain _) ?_ (hr _ _ _ (by omega) fun k hk => ⟨if_neg (by omega), if_neg (by omega)⟩)
          intro k hk
          by_cases e1 : k = i
          · subst e1
            refine .inr ⟨.cells v .exact [.slice ⟨H.length, 0, 0⟩ T'.length (.op 33), .map m], _, ?_, h.rep.cell, ?_⟩
            · rw [List.getElem?_append_left (by simp; omega), List.getElem?_set_self (by simp; omega)]
            · refine ⟨_, rfl, renL_cons ?_ (renL_cons ?_ renL_nil)⟩
              · simp only [Ren]; exact ⟨by omega, by simp⟩
              · simp only [Ren]; exact ⟨by omega, by rw [if_neg (by omega)]⟩
          · by_cases e2 : k = m
            · subst e2
              refine .inr ⟨.map (mv + (T'.length - T.length)) (ents T'), _, ?_, h.rep.mp, ?_⟩
              · rw [List.getElem?_append_left (by simp; omega), List.getElem?_set_ne him, List.getElem?_set_self hm]
              · rw [h.mvE]; exact ents_ren
            · refine .inl ⟨h.keep k hk e1 e2 (by simp [slId]), ?_⟩
              rw [List.getElem?_append_left (by simp; omega), List.getElem?_set_ne (Ne.symm e1), List.getElem?_set_ne (Ne.symm e2)]
    · have hj := lt_of_some a2
      have hjm := kinds a2 h.src.mp
      have ho := h.old _ _ _ rfl
      subst ho
      rcases h.rep.lst with ⟨e, _⟩ | ⟨j', u', e, b2, b3⟩
      · cases e
      · cases e
        simp only
        refine Weak.olds (by simp) ?_ (hr _ _ _ (Nat.le_refl _) fun _ _ => ⟨rfl, rfl⟩)
        intro k hk
        by_cases e1 : k = i
        · subst e1
          refine .inr ⟨_, ?_, h.rep.cell, ?_⟩
          · rw [List.getElem?_set_self (by simp; omega)]
          · refine ⟨_, rfl, renL_cons ?_ (renL_cons ?_ renL_nil)⟩
            · simp only [Ren]; exact ⟨by omega, by simp⟩
            · simp only [Ren]; exact ⟨by omega, trivial⟩
        · by_cases e2 : k = j
          · subst e2
            refine .inr ⟨_, ?_, b2, ⟨_, rfl, plain_id⟩⟩
            rw [List.getElem?_set_ne (Ne.symm e1), List.getElem?_set_self (by simp; omega)]
          · by_cases e3 : k = m
            · subst e3
              refine .inr ⟨_, ?_, h.rep.mp, ents_ren⟩
              rw [List.getElem?_set_ne (Ne.symm e1), List.getElem?_set_ne (Ne.symm e2), List.getElem?_set_self hm, h.mvE]
            · refine .inl ⟨h.keep k hk e1 e3 (by simp only [slId]; intro e; cases e; exact e2 rfl), ?_⟩
              rw [List.getElem?_set_ne (Ne.symm e1), List.getElem?_set_ne (Ne.symm e2), List.getElem?_set_ne (Ne.symm e3)]

/-- A function that sums is called. -/
theorem OInv.sums (h : OInv H i v m mv lv T C mv' lv' T') {ss : List (List UInt8)} (hl : T'.length + ss.length ≤ 1073741824) (hs : ∀ s ∈ ss, s.length ≤ 1099511627776) :
    ∃ C2 mv2 lv2, Osums C (.ptr ⟨i, v, 0⟩) ss C2 ∧ OInv H i v m mv lv T C2 mv2 lv2 (keepTs T' ss) ∧ C.length ≤ C2.length ∧
      (∀ k, k < C.length → H.length ≤ k → slId lv' ≠ some k → C2[k]? = C[k]? ∧ slId lv2 ≠ some k) := by
  have hi := lt_of_some h.src.cell
  have hm := lt_of_some h.src.mp
  have him := kinds h.src.cell h.src.mp
  obtain ⟨k1, k2⟩ := keepTs_len ss T'
  have hle := h.le
  have hshort : ∀ s ∈ keepTs T' ss, s.length ≤ 1099511627776 := fun s hh => by
    rcases (keepTs_mem ss T' s).1 hh with hh | hh
    · exact h.rep.short s hh
    · exact hs s hh
  have hnd := keepTs_nd ss T' h.rep.nd
  have hO : Osums C (.ptr ⟨i, v, 0⟩) ss (oset C i v m mv' lv' T' (keepTs T' ss)) := .inr ⟨_, _, _, _, _, _, rfl, h.rep, hl, rfl⟩
  have hC := h.len
  have hiC : i < C.length := by omega
  have hmC : m < C.length := by omega
  by_cases he : (keepTs T' ss).length = T'.length
  · have hk := keepTs_same ss T' he
    have ho : oset C i v m mv' lv' T' (keepTs T' ss) = C := if_pos he
    rw [ho] at hO
    exact ⟨C, mv', lv', hO, by rw [hk]; exact h, Nat.le_refl _, fun k _ _ hk => ⟨rfl, hk⟩⟩
  · generalize hTT : keepTs T' ss = U at *
    rcases h.rep.lst with ⟨rfl, hT⟩ | ⟨j, u, rfl, a2, a3⟩
    · have ho : oset C i v m mv' .nils T' U = ((C.set m (.map (mv' + (U.length - T'.length)) (ents U))).set i (.cells v .exact [.slice ⟨C.length, 0, 0⟩ U.length (.op 33), .map m])) ++ [.cells 0 .opn (ocells U)] := if_neg he
      rw [ho] at hO
      refine ⟨_, mv' + (U.length - T'.length), .slice ⟨C.length, 0, 0⟩ U.length (.op 33), hO, ⟨h.src, ⟨?_, ?_, .inr ⟨C.length, 0, rfl, ?_, by omega⟩, hnd, hshort⟩, by rw [h.mvE]; omega, by omega, by simp; omega, ?_, ?_, ?_, ?_⟩, by simp, ?_⟩
      · rw [List.getElem?_append_left (by simp; omega), List.getElem?_set_self (by simp; omega)]
      · rw [List.getElem?_append_left (by simp; omega), List.getElem?_set_ne him, List.getElem?_set_self hmC]
      · rw [List.getElem?_append_right (by simp)]; simp
      · intro k hk h1 h2 h3
        rw [List.getElem?_append_left (by simp; omega), List.getElem?_set_ne (Ne.symm h1), List.getElem?_set_ne (Ne.symm h2)]
        exact h.keep k hk h1 h2 h3
      · intro e; exfalso; omega
      · intro r n c e
        have := h.old r n c e
        cases this
      · intro _; exact .inr ⟨C.length, 0, rfl, h.len⟩
      · intro k hk1 hk2 _
        refine ⟨?_, by simp only [slId]; intro e; cases e; omega⟩
        rw [List.getElem?_append_left (by simp; omega), List.getElem?_set_ne (by omega), List.getElem?_set_ne (by omega)]
    · have hj := lt_of_some a2
      have hjm := kinds a2 h.rep.mp
      have ho : oset C i v m mv' (.slice ⟨j, u, 0⟩ T'.length (.op 33)) T' U = ((C.set m (.map (mv' + (U.length - T'.length)) (ents U))).set j (.cells (u + (U.length - T'.length)) .opn (ocells U))).set i (.cells v .exact [.slice ⟨j, u + (U.length - T'.length), 0⟩ U.length (.op 33), .map m]) := if_neg he
      rw [ho] at hO
      refine ⟨_, mv' + (U.length - T'.length), .slice ⟨j, u + (U.length - T'.length), 0⟩ U.length (.op 33), hO, ⟨h.src, ⟨?_, ?_, .inr ⟨j, _, rfl, ?_, a3⟩, hnd, hshort⟩, by rw [h.mvE]; omega, by omega, by simp; omega, ?_, ?_, ?_, ?_⟩, by simp, ?_⟩
      · rw [List.getElem?_set_self (by simp; omega)]
      · rw [List.getElem?_set_ne him, List.getElem?_set_ne hjm, List.getElem?_set_self hmC]
      · rw [List.getElem?_set_ne (Ne.symm a3), List.getElem?_set_self (by simp; omega)]
      · intro k hk h1 h2 h3
        have hkj : k ≠ j := by
          rintro rfl
          rcases h.src.lst with ⟨rfl, _⟩ | ⟨j0, u0, rfl, _⟩
          · rcases h.new rfl with e | ⟨q, w, e, hq⟩
            · cases e
            · cases e; omega
          · have := h.old _ _ _ rfl
            cases this
            exact h3 rfl
        rw [List.getElem?_set_ne (Ne.symm h1), List.getElem?_set_ne (Ne.symm hkj), List.getElem?_set_ne (Ne.symm h2)]
        exact h.keep k hk h1 h2 h3
      · intro e; exfalso; omega
      · intro r n c e
        have := h.old r n c e
        cases this
        congr 2
        omega
      · intro e
        rcases h.new e with e' | ⟨q, w, e', hq⟩
        · cases e'
        · cases e'; exact .inr ⟨_, _, rfl, hq⟩
      · intro k hk1 hk2 hk3
        have hkj : k ≠ j := fun e => hk3 (by rw [e]; rfl)
        refine ⟨?_, by simp only [slId]; intro e; cases e; exact hkj rfl⟩
        rw [List.getElem?_set_ne (by omega), List.getElem?_set_ne (Ne.symm hkj), List.getElem?_set_ne (by omega)]
end
end Go.Sh
