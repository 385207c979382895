/- One text of these: Chain0, ChainW1, ChainP1, ChainP2, ChainP3, ChainP4, ChainP5, ChainP6, ChainP7, ChainQ. -/
import Derived.Test.YtkpcnmaohhgofaaPair

/- Anchors in a chain. -/
namespace Go.Sh
open Go Go.Abs

def S_chain_sum : Abs.Spec := S_node_sum
def S_chain_Start_1 : Abs.Spec := fun args H r H' => ∃ n : Int, args = [.int .i64 n] ∧ r = .bool (decide (n = 0 ∨ n = 1)) ∧ H' = H
def startT (d a : Int) (s : List UInt8) : List UInt8 := [115, 116, 97, 114, 116] ++ [UInt8.ofNat d.toNat, UInt8.ofNat a.toNat] ++ s
def startE (d a : Int) (s : List UInt8) : Int := if ¬ (d = 0 ∨ d = 1) ∨ ¬ (a = 0 ∨ a = 1) then 2 else if s.length ≠ 64 then 6 else 0
def S_chain_Start : Abs.Spec := fun args H r H' => ∃ (o : AVal) (s : List UInt8) (d a : Int), args = [o, .str s, .int .i64 d, .int .i64 a] ∧
  ((startE d a s ≠ 0 ∧ r = .tup [zero32, .int .i64 (startE d a s)] ∧ H' = H) ∨ (startE d a s = 0 ∧ r = .tup [.agg ((sum (startT d a s)).map ofByte), .int .i64 0] ∧ Osums H o [startT d a s] H'))
def S_chain_Next_1 : Abs.Spec := fun args H r H' => ∃ (s : List UInt8) (j : Nat) (sv sv' : AVal) (H1 : AHeap), args = [.str s, .ptr ⟨j, 0, 0⟩] ∧ H[j]? = some (.cells 0 .exact [sv]) ∧ aAppend H 1 1 sv (.str s) = some (sv', H1) ∧ H1[j]? = some (.cells 0 .exact [sv]) ∧
  sv'.cells = [sv'] ∧ sv'.isCell = true ∧ r = .bool (decide (s.length = 64)) ∧ H' = H1.set j (.cells 0 .exact [sv'])
def nextT (a : List UInt8) (l : List (List UInt8)) : List UInt8 := [110, 101, 120, 116] ++ a ++ l.flatten
def good (l : List (List UInt8)) : Prop := l.length ≠ 0 ∧ l.length ≤ 80 ∧ ∀ s ∈ l, s.length = 64
/-- A row that is read; an empty one may have no block. -/
def VwN (B : AHeap) (sv : AVal) (n : Nat) (cs : List AVal) : Prop := View B sv 1 n cs ∨ (n = 0 ∧ cs = [] ∧ ∃ (r : Ref) (c : Cap), sv = .slice r 0 c)
theorem vb_lenN {B : AHeap} {sv : AVal} {n : Nat} {cs : List AVal} {K : AVal → Prop} (h : VwN B sv n cs) (k : K (.int .i64 n)) : vb (lenSl sv) K := by
  rcases h with h | ⟨rfl, rfl, r, c, rfl⟩
  · exact vb_i (lenSl_view h) k
  · exact vb_i (v := .int .i64 (0 : Nat)) rfl k
theorem VwN.at {B : AHeap} {sv : AVal} {n : Nat} {cs : List AVal} (h : VwN B sv n cs) (h0 : 0 < n) : View B sv 1 n cs := by
  rcases h with h | ⟨rfl, _⟩
  · exact h
  · omega
structure NArgs (H : AHeap) (x : AVal) (l : List (List UInt8)) : Prop where
  v : VwN H x l.length (strs l)
  hl : l.length ≤ 9223372036854775807
  hs : ∀ s ∈ l, s.length ≤ 1099511627776
def S_chain_Next : Abs.Spec := fun args H r H' => ∃ (o x : AVal) (a : List UInt8) (l : List (List UInt8)), args = [o, .agg (a.map ofByte), x] ∧ a.length = 32 ∧ NArgs H x l ∧
  ((¬ good l ∧ r = .tup [zero32, .int .i64 6] ∧ H' = H) ∨ (good l ∧ r = .tup [.agg ((sum (nextT a l)).map ofByte), .int .i64 0] ∧ Osums H o [nextT a l] H'))

instance goodDec (l : List (List UInt8)) : Decidable (good l) := by unfold good; infer_instance
end Go.Sh

/- What Go functions come to over abstract values, printed by a program (wtext.py). -/
namespace Go.Sh
open Go Go.Abs


def chain_sum.w (x0 : AVal) (x1 : AVal) (H : AHeap) (K : AVal → AHeap → Prop) : Prop :=
 hb (aAlloc H (List.replicate 32 (.int .u8 0))) fun v1 H2 =>
 vb (aEql false .ptr H2 x0 .nilp) fun v3 =>
 isB v3 fun b4 => cond b4
 (cb (S_sha_Sum [x1] H2) fun v5 H6 =>
 sb (aStore H6 32 v1 v5) fun H7 =>
 fin .ret [.c true 32 (v1)] H7 K)
 (cb (S_oracle_Oracle_Sum [x0, x1] H2) fun v8 H9 =>
 sb (aStore H9 32 v1 v8) fun H10 =>
 fin .ret [.c true 32 (v1)] H10 K)

def chain_Start_1.w (x0 : AVal) (H : AHeap) (K : AVal → AHeap → Prop) : Prop :=
 vb (aBin .eql x0 (.int .i64 0)) fun v1 =>
 isB v1 fun b2 => cond b2
 (fin .ret [.v (.bool true)] H K)
 (vb (aBin .eql x0 (.int .i64 1)) fun v3 =>
 fin .ret [.v (v3)] H K)

def chain_Start.w (x0 : AVal) (x1 : AVal) (x2 : AVal) (x3 : AVal) (H : AHeap) (K : AVal → AHeap → Prop) : Prop :=
 hb (aAlloc H (List.replicate 32 (.int .u8 0))) fun v1 H2 =>
 cb (S_chain_Start_1 [x2] H2) fun v3 H4 =>
 vb (aUn .not v3) fun v5 =>
 isB v5 fun b6 => cond b6
 (vb (aBuild (List.replicate 32 (.int .u8 0)) (fun k => some (k * 1, 1)) []) fun v7 =>
 sb (aStore H4 32 v1 v7) fun H8 =>
 fin .ret [.c true 32 (v1), .v (.int .i64 2)] H8 K)
 (cb (S_chain_Start_1 [x3] H4) fun v9 H10 =>
 vb (aUn .not v9) fun v11 =>
 isB v11 fun b12 => cond b12
 (vb (aBuild (List.replicate 32 (.int .u8 0)) (fun k => some (k * 1, 1)) []) fun v13 =>
 sb (aStore H10 32 v1 v13) fun H14 =>
 fin .ret [.c true 32 (v1), .v (.int .i64 2)] H14 K)
 (vb (lenSt x1) fun v15 =>
 vb (aBin .neq v15 (.int .i64 64)) fun v16 =>
 isB v16 fun b17 => cond b17
 (vb (aBuild (List.replicate 32 (.int .u8 0)) (fun k => some (k * 1, 1)) []) fun v18 =>
 sb (aStore H10 32 v1 v18) fun H19 =>
 fin .ret [.c true 32 (v1), .v (.int .i64 6)] H19 K)
 (vb (aInt2 .u8 x2) fun v20 =>
 vb (aInt2 .u8 x3) fun v21 =>
 hb (aBuildSlice H10 1 [.int .u8 0] 2 [(0, v20), (1, v21)]) fun v22 H23 =>
 vb (aBytes2Str H23 v22) fun v24 =>
 vb (aBin .add (.str [115, 116, 97, 114, 116]) v24) fun v25 =>
 vb (aBin .add v25 x1) fun v26 =>
 cb (S_chain_sum [x0, v26] H23) fun v27 H28 =>
 sb (aStore H28 32 v1 v27) fun H29 =>
 fin .ret [.c true 32 (v1), .v (.int .i64 0)] H29 K)))

def chain_Next_1.w (x0 : AVal) (x1 : AVal) (H : AHeap) (K : AVal → AHeap → Prop) : Prop :=
 vb (aLoad H false 1 x1) fun v1 =>
 hb (aAppend H 1 1 v1 x0) fun v2 H3 =>
 sb (aStore H3 1 x1 v2) fun H4 =>
 vb (lenSt x0) fun v5 =>
 vb (aBin .eql v5 (.int .i64 64)) fun v6 =>
 fin .ret [.v (v6)] H4 K

def chain_Next.L6.b (v28 : AVal) (x2 : AVal) (v25 : AVal) (v3 : AVal) (x28_6 : AVal) (H29 : AHeap) (Kn30 : List AVal → AHeap → Prop) (Ke31 : AExit → List AVal → AHeap → Prop) : Prop :=
 vb (aBin .lss x28_6 v28) fun v32 =>
 isB v32 fun b33 => cond b33
 (vb (aIndexAddr 1 x2 x28_6) fun v34 =>
 vb (aLoad H29 false 1 v34) fun v35 =>
 cb (S_chain_Next_1 [v35, v25] H29) fun v36 H37 =>
 vb (aUn .not v36) fun v38 =>
 isB v38 fun b39 => cond b39
 (vb (aBuild (List.replicate 32 (.int .u8 0)) (fun k => some (k * 1, 1)) []) fun v40 =>
 sb (aStore H37 32 v3 v40) fun H41 =>
 Ke31 .ret [.int .i64 6] H41)
 (vb (aBin .add x28_6 (.int .i64 1)) fun v42 =>
 Kn30 [v42] H37))
 (Ke31 (.exit 0) [.undef] H29)

def chain_Next.L6 (v28 : AVal) (x2 : AVal) (v25 : AVal) (v3 : AVal) : Body := fun vs H Kn Ke => chain_Next.L6.b v28 x2 v25 v3 (vs.getD 0 .undef) H Kn Ke

def chain_Next.w (x0 : AVal) (x1 : AVal) (x2 : AVal) (H : AHeap) (K : AVal → AHeap → Prop) : Prop :=
 hb (aBox H x1) fun v1 H2 =>
 hb (aAlloc H2 (List.replicate 32 (.int .u8 0))) fun v3 H4 =>
 JoinP (fun Kj5 => vb (lenSl x2) fun v6 =>
 vb (aBin .eql v6 (.int .i64 0)) fun v7 =>
 isB v7 fun b8 => cond b8
 (vb (aBuild (List.replicate 32 (.int .u8 0)) (fun k => some (k * 1, 1)) []) fun v9 =>
 sb (aStore H4 32 v3 v9) fun H10 =>
 Kj5 .ret [.int .i64 6] H10)
 (vb (lenSl x2) fun v11 =>
 vb (aBin .gtr v11 (.int .i64 80)) fun v12 =>
 isB v12 fun b13 => cond b13
 (vb (aBuild (List.replicate 32 (.int .u8 0)) (fun k => some (k * 1, 1)) []) fun v14 =>
 sb (aStore H4 32 v3 v14) fun H15 =>
 Kj5 .ret [.int .i64 6] H15)
 (Kj5 .normal [.int .i64 0] H4)))
 (fun e16 vs17 H18 =>
 onE e16 .normal
 (hb (aBuildSlice H18 1 [.int .u8 0] 4 [(0, .int .u8 110), (1, .int .u8 101), (2, .int .u8 120), (3, .int .u8 116)]) fun v19 H20 =>
 vb (aMark H20 v19) fun v21 =>
 vb (aSliceArr 32 1 v1 none none none) fun v22 =>
 hb (aAppendS H20 1 1 v21 v22) fun v23 H24 =>
 hb (aAlloc H24 [.nils]) fun v25 H26 =>
 sb (aStore H26 1 v25 v23) fun H27 =>
 vb (lenSl x2) fun v28 =>
 LoopP (chain_Next.L6 v28 x2 v25 v3) [.int .i64 0] H27 fun e43 vs44 H45 =>
 onE e43 (.exit 0)
 (vb (aLoad H45 false 1 v25) fun v46 =>
 vb (aBytes2Str H45 v46) fun v47 =>
 cb (S_chain_sum [x0, v47] H45) fun v48 H49 =>
 sb (aStore H49 32 v3 v48) fun H50 =>
 fin .ret [.c true 32 (v3), .v (.int .i64 0)] H50 K)
 (onE e43 .ret
 (fin .ret [.c true 32 (v3), .v (vs44.getD 0 .undef)] H45 K)
 (False)))
 (onE e16 .ret
 (fin .ret [.c true 32 (v3), .v (vs17.getD 0 .undef)] H18 K)
 (False)))

end Go.Sh

/- Anchors: the functions come to what is told. -/
namespace Go.Sh
open Go Go.Abs


theorem chain_sum.ok (args : List AVal) (H : AHeap) (r : AVal) (H' : AHeap) (h : S_chain_sum args H r H') : ∃ x0 x1, args = [x0, x1] ∧ chain_sum.w x0 x1 H fun r1 H1 => Weak H r1 H1 r H' := node_sum.ok args H r H' h

theorem chain_Start_1.ok (args : List AVal) (H : AHeap) (r : AVal) (H' : AHeap) (h : S_chain_Start_1 args H r H') : ∃ x0, args = [x0] ∧ chain_Start_1.w x0 H fun r1 H1 => Weak H r1 H1 r H' := by
  obtain ⟨n, rfl, rfl, rfl⟩ := h
  refine ⟨_, rfl, ?_⟩
  unfold chain_Start_1.w
  by_cases h1 : n = 0
  · repeat with_reducible first
    | (refine isB_ct ?_ ?_; (· first | omega | rfl | assumption | trivial))
    | refine vb_i (eql64 _ _ _) ?_
    rw [decide_eq_true (Or.inl h1)]
    exact fin_ret (vs := [.bool true]) (rvs_v (rvs_nil _)) (Weak.plain rfl (List.prefix_refl _))
  · repeat with_reducible first
    | (refine isB_cf ?_ ?_; (· first | omega | assumption))
    | refine vb_i (eql64 _ _ _) ?_
    refine fin_ret (vs := [.bool (decide (n = 1))]) (rvs_v (rvs_nil _)) ?_
    have e : decide (n = 0 ∨ n = 1) = decide (n = 1) := decide_eq_decide.2 (by omega)
    rw [e]
    exact Weak.plain rfl (List.prefix_refl _)

/-- The end of what gives a sum and an error: no sum. -/
theorem end_zero {H' B : AHeap} {n : Int} (p : H' <+: B) :
    vb (aBuild (List.replicate 32 (.int .u8 0)) (fun k => some (k * 1, 1)) []) fun v5 =>
      sb (aStore (B ++ [AObj.cells 0 .exact (List.replicate 32 (.int .u8 0))]) 32 (.ptr ⟨B.length, 0, 0⟩) v5) fun H6 => fin .ret [.c true 32 (.ptr ⟨B.length, 0, 0⟩), .v (.int .i64 n)] H6 fun r1 H1 => Weak H' r1 H1 (.tup [zero32, .int .i64 n]) H' := by
  refine vb_i zero32_build ?_
  unfold zero32
  with_reducible refine sb_i (store_new List.length_replicate List.length_replicate (cells_rep _ _ _)) ?_
  refine fin_ret (vs := [.agg (List.replicate 32 (.int .u8 0)), .int .i64 n]) (rvs_c (load_new List.length_replicate) (rvs_v (rvs_nil _))) ?_
  exact Weak.any (ren_pair (agg_plain zero32_plain) (ren_p rfl)) (p.trans (pre_app _ _))

theorem byte_int {n : Int} (h : n = 0 ∨ n = 1) : aInt2 .u8 (.int .i64 n) = some (ofByte (UInt8.ofNat n.toNat)) := byte_of_int .i64 (by omega)
theorem two_bytes (H : AHeap) (a b : UInt8) : aBuildSlice H 1 [.int .u8 0] 2 [(0, ofByte a), (1, ofByte b)] = some (.slice ⟨H.length, 0, 0⟩ 2 (.ex 2), H ++ [.cells 0 .exact ([a, b].map ofByte)]) := rfl

theorem chain_Start.ok (args : List AVal) (H : AHeap) (r : AVal) (H' : AHeap) (h : S_chain_Start args H r H') : ∃ x0 x1 x2 x3, args = [x0, x1, x2, x3] ∧ chain_Start.w x0 x1 x2 x3 H fun r1 H1 => Weak H r1 H1 r H' := by
  obtain ⟨o, s, d, a, rfl, h⟩ := h
  refine ⟨_, _, _, _, rfl, ?_⟩
  unfold chain_Start.w
  refine hb_i (e_alloc _ _) (cb_i _ _ ⟨d, rfl, rfl, rfl⟩ ?_)
  by_cases h1 : d = 0 ∨ d = 1
  · repeat with_reducible first
    | (refine isB_cf ?_ ?_; (· first | omega | assumption))
    | refine vb_i e_notd ?_
    refine cb_i _ _ ⟨a, rfl, rfl, rfl⟩ ?_
    by_cases h2 : a = 0 ∨ a = 1
    · repeat with_reducible first
      | (refine isB_cf ?_ ?_; (· first | omega | assumption))
      | refine vb_i (neq64 _ _ _) ?_
      | refine vb_i (e_lenSt _) ?_
      | refine vb_i e_notd ?_
      by_cases h3 : s.length = 64
      · have he : startE d a s = 0 := by unfold startE; rw [if_neg (by omega), if_neg (by omega)]
        rcases h with ⟨h0, _⟩ | ⟨_, rfl, h⟩
        · exact absurd he h0
        have hT : (startT d a s).length = 71 := by simp [startT, h3]
        obtain ⟨C2, hO, hL, hl, hW⟩ := sums_call h (by simp; omega) [.cells 0 .exact (List.replicate 32 (.int .u8 0)), .cells 0 .exact ([UInt8.ofNat d.toNat, UInt8.ofNat a.toNat].map ofByte)]
        have hL0 := hL 0 (by simp)
        simp only [Nat.add_zero, List.getElem?_cons_zero] at hL0
        simp only [List.length_cons, List.length_nil, Nat.zero_add] at hl hW
        repeat with_reducible first
        | refine vb_i (byte_int (by omega)) ?_
        | (refine isB_cf ?_ ?_; (· first | omega | assumption))
        refine hb_i (two_bytes _ _ _) ?_
        refine vb_i (arr_str (app_get0 _ _) rfl) ?_
        repeat with_reducible (refine vb_i (adds ?_) ?_; (· first | omega | (simp only [List.length_cons, List.length_nil, List.length_append]; omega)))
        have hsl := sum_len (startT d a s)
        have hO' : Osums ((H ++ [AObj.cells 0 .exact (List.replicate 32 (.int .u8 0))]) ++ [AObj.cells 0 .exact ([UInt8.ofNat d.toNat, UInt8.ofNat a.toNat].map ofByte)]) o [startT d a s] C2 := by rw [List.append_assoc]; exact hO
        refine cb_i _ _ ⟨o, startT d a s, rfl, by omega, rfl, hO'⟩ ?_
        refine sb_i (store32 hL0 List.length_replicate (by rw [List.length_map]; exact hsl) (cells_byte _)) ?_
        refine fin_ret (vs := [.agg ((sum (startT d a s)).map ofByte), .int .i64 0]) (rvs_c (e_loadAll (by rw [List.getElem?_set_self (by omega)]) (by simp [hsl])) (rvs_v (rvs_nil _))) ?_
        exact hW _ _ _ (by simp; omega) (fun j _ hj => List.getElem?_set_ne (by omega)) (ren_pair (agg_plain (bytes_plain _)) (ren_p rfl))
      · have he : startE d a s = 6 := by unfold startE; rw [if_neg (by omega), if_pos h3]
        rcases h with ⟨_, rfl, rfl⟩ | ⟨h0, _⟩
        · rw [he]
          repeat with_reducible (refine isB_ct ?_ ?_; (· first | omega | rfl | assumption | trivial))
          exact end_zero (List.prefix_refl _)
        · omega
    · have he : startE d a s = 2 := by unfold startE; rw [if_pos (.inr h2)]
      rcases h with ⟨_, rfl, rfl⟩ | ⟨h0, _⟩
      · rw [he]
        repeat with_reducible first
        | (refine isB_ct ?_ ?_; (· first | omega | rfl | assumption | trivial))
        | refine vb_i e_notd ?_
        exact end_zero (List.prefix_refl _)
      · omega
  · have he : startE d a s = 2 := by unfold startE; rw [if_pos (.inl h1)]
    rcases h with ⟨_, rfl, rfl⟩ | ⟨h0, _⟩
    · rw [he]
      repeat with_reducible first
      | (refine isB_ct ?_ ?_; (· first | omega | rfl | assumption | trivial))
      | refine vb_i e_notd ?_
      exact end_zero (List.prefix_refl _)
    · omega

end Go.Sh

/- The next anchor. -/
namespace Go.Sh
open Go Go.Abs

theorem chain_Next_1.ok (args : List AVal) (H : AHeap) (r : AVal) (H' : AHeap) (h : S_chain_Next_1 args H r H') : ∃ x0 x1, args = [x0, x1] ∧ chain_Next_1.w x0 x1 H fun r1 H1 => r1 = r ∧ H1 = H' := by
  obtain ⟨s, j, sv, sv', H1, rfl, h1, h2, h3, h4, h5, rfl, rfl⟩ := h
  refine ⟨_, _, rfl, ?_⟩
  unfold chain_Next_1.w
  refine vb_i (e_load1 h1 (by simp)) ?_
  refine hb_i h2 ?_
  refine sb_i (e_store1 h3 (by decide) h4 (by simp) h5) ?_
  repeat with_reducible first
  | refine isB_T ?_
  | refine isB_F ?_
  | (refine isB_ct ?_ ?_; (· first | omega | rfl | assumption | trivial))
  | (refine isB_cf ?_ ?_; (· first | omega | assumption))
  | refine onE_i ?_
  | (refine onE_s ?_ ?_; (· decide))
  | refine vb_i e_ext0 ?_
  | refine vb_i e_ext1 ?_
  | refine vb_i e_ext2 ?_
  | refine vb_i (lss64 _ _ _) ?_
  | refine vb_i (leq64 _ _ _) ?_
  | refine vb_i (gtr64 _ _ _) ?_
  | refine vb_i (geq64 _ _ _) ?_
  | refine vb_i (eql64 _ _ _) ?_
  | refine vb_i (neq64 _ _ _) ?_
  | refine vb_i (eqls _ _) ?_
  | refine vb_i (neqs _ _) ?_
  | (refine vb_i (add64 ?_ ?_) ?_; (· omega); (· omega))
  | (refine vb_i (sub64 ?_ ?_) ?_; (· omega); (· omega))
  | (refine vb_i (mul64 ?_ ?_) ?_; (· omega); (· omega))
  | (refine vb_i (quo64 ?_ ?_ ?_) ?_; (· omega); (· omega); (· omega))
  | (refine vb_i (rem64 ?_ ?_) ?_; (· omega); (· omega))
  | refine vb_i (e_lenSt _) ?_
  | refine vb_i (e_lenSl _ _ _) ?_
  | refine vb_i e_lenNil ?_
  | refine vb_i (lenSl_view (by assumption)) ?_
  | refine vb_i (e_ptrNil _ _) ?_
  | refine vb_i (e_ptrNilN _ _) ?_
  | refine vb_i (e_nilNil _) ?_
  | refine vb_i (e_nilNilN _) ?_
  | refine vb_i (e_pickT _ _) ?_
  | refine vb_i (e_pickF _ _) ?_
  | refine vb_i e_notd ?_
  | refine vb_i e_boolNe ?_
  | refine vb_i e_boolEq ?_
  | refine vb_i (e_not _) ?_
  | refine vb_i (e_nilCheck _) ?_
  | refine vb_i (e_fieldAddr _ _) ?_
  | refine hb_i (e_alloc _ _) ?_
  | (refine vb_i (adds ?_) ?_; (· first | omega | (simp only [List.length_cons, List.length_nil, List.length_append]; omega)))
  exact fin_ret (vs := [.bool (decide ((s.length : Int) = 64))]) (rvs_v (rvs_nil _)) ⟨by simp only [tup1]; congr 1; apply decide_eq_decide.2; omega, rfl⟩

theorem four_bytes (H : AHeap) : aBuildSlice H 1 [.int .u8 0] 4 [(0, .int .u8 110), (1, .int .u8 101), (2, .int .u8 120), (3, .int .u8 116)] = some (.slice ⟨H.length, 0, 0⟩ 4 (.ex 4), H ++ [.cells 0 .exact (([110, 101, 120, 116] : List UInt8).map ofByte)]) := rfl
theorem mark_new (H : AHeap) (n : Nat) (cs : List AVal) : aMark (H ++ [AObj.cells 0 .exact cs]) (.slice ⟨H.length, 0, 0⟩ n (.ex n)) = some (.slice ⟨H.length, 0, 0⟩ n (.ex n)) := by
  simp [aMark]
theorem slice_cell {B : AHeap} {sv : AVal} {es n : Nat} {cs : List AVal} (h : Own B sv es n cs) : sv.cells = [sv] ∧ sv.isCell = true := by
  rcases h.2 with ⟨rfl, _⟩ | ⟨i, v, rfl, _⟩ | ⟨i, v, rfl, _⟩ <;> exact ⟨rfl, rfl⟩
theorem str_append {B : AHeap} {sv : AVal} {n : Nat} {cs : List AVal} {s : List UInt8} (h : Own B sv 1 n cs) (h1 : n + s.length ≤ room) :
    ∃ sv' B', aAppend B 1 1 sv (.str s) = some (sv', B') ∧ Own B' sv' 1 (n + s.length) (cs ++ s.map ofByte) ∧ Keeps B sv B' ∧ (slId sv' = slId sv ∨ slId sv' = some B.length) := by
  obtain ⟨sv', B', a1, a2, a3, a4⟩ := append_to (xs := s.map ofByte) (bytes := 1) (m := s.length) h (by decide) (by simp) (cells_byte s) (by omega) h1
  refine ⟨sv', B', ?_, a2, a3, a4⟩
  rw [aAppend]
  simp only [srcLen, srcCells, List.take_length, a1]

theorem flat_take {l : List (List UInt8)} {i : Nat} (hi : i < l.length) : (l.take (i + 1)).flatten = (l.take i).flatten ++ l.getD i [] := by
  rw [List.take_add_one, List.flatten_append, List.getElem?_eq_getElem hi]
  simp [List.getD_eq_getElem?_getD, List.getElem?_eq_getElem hi]
theorem flat_len {l : List (List UInt8)} (h : ∀ s ∈ l, s.length = 64) : l.flatten.length = 64 * l.length := by
  induction l with
  | nil => rfl
  | cons x l ih =>
    simp only [List.flatten_cons, List.length_append, List.length_cons]
    rw [ih fun s hs => h s (List.mem_cons_of_mem _ hs), h x List.mem_cons_self]; omega
theorem getD_mem {l : List (List UInt8)} {i : Nat} (hi : i < l.length) : l.getD i [] ∈ l := by
  rw [List.getD_eq_getElem?_getD, List.getElem?_eq_getElem hi]; exact List.getElem_mem hi

theorem chain_Next.ok (args : List AVal) (H : AHeap) (r : AVal) (H' : AHeap) (h : S_chain_Next args H r H') : ∃ x0 x1 x2, args = [x0, x1, x2] ∧ chain_Next.w x0 x1 x2 H fun r1 H1 => Weak H r1 H1 r H' := by
  obtain ⟨o, x, a, l, rfl, ha, hN, h⟩ := h
  refine ⟨_, _, _, rfl, ?_⟩
  unfold chain_Next.w
  have hl := hN.hl
  have hw := hN.v
  have hcl : (AVal.agg (a.map ofByte)).cells = a.map ofByte := rfl
  refine hb_i (e_box rfl) ?_
  rw [hcl]
  refine hb_i (e_alloc _ _) ?_
  have e0 : (H ++ [AObj.cells 0 .exact (a.map ofByte)]) ++ [AObj.cells 0 .exact (List.replicate 32 (.int .u8 0))] = H ++ [AObj.cells 0 .exact (a.map ofByte), AObj.cells 0 .exact (List.replicate 32 (.int .u8 0))] := by rw [List.append_assoc]; rfl
  have p0 : H <+: (H ++ [AObj.cells 0 .exact (a.map ofByte)]) ++ [AObj.cells 0 .exact (List.replicate 32 (.int .u8 0))] := (pre_app _ _).trans (pre_app _ _)
  have badz : ¬ good l → vb (aBuild (List.replicate 32 (.int .u8 0)) (fun k => some (k * 1, 1)) []) (fun v9 => sb (aStore ((H ++ [AObj.cells 0 .exact (a.map ofByte)]) ++ [AObj.cells 0 .exact (List.replicate 32 (.int .u8 0))]) 32 (.ptr ⟨(H ++ [AObj.cells 0 .exact (a.map ofByte)]).length, 0, 0⟩) v9) fun H10 => H10 = (H ++ [AObj.cells 0 .exact (a.map ofByte)]) ++ [AObj.cells 0 .exact (List.replicate 32 (.int .u8 0))]) := by
    intro _
    refine vb_i zero32_build ?_
    unfold zero32
    with_reducible refine sb_i (store_new List.length_replicate List.length_replicate (cells_rep _ _ _)) ?_
    rfl
  refine JoinP.mk (fun e vs B => B = (H ++ [AObj.cells 0 .exact (a.map ofByte)]) ++ [AObj.cells 0 .exact (List.replicate 32 (.int .u8 0))] ∧ ((e = .ret ∧ vs = [.int .i64 6] ∧ ¬ good l) ∨ (e = .normal ∧ l.length ≠ 0 ∧ l.length ≤ 80))) ?_ ?_
  · refine vb_lenN hw ?_
    repeat with_reducible first
    | refine isB_T ?_
    | refine isB_F ?_
    | (refine isB_ct ?_ ?_; (· first | omega | rfl | assumption | trivial))
    | (refine isB_cf ?_ ?_; (· first | omega | assumption))
    | refine onE_i ?_
    | (refine onE_s ?_ ?_; (· decide))
    | refine vb_i e_ext0 ?_
    | refine vb_i e_ext1 ?_
    | refine vb_i e_ext2 ?_
    | refine vb_i (lss64 _ _ _) ?_
    | refine vb_i (leq64 _ _ _) ?_
    | refine vb_i (gtr64 _ _ _) ?_
    | refine vb_i (geq64 _ _ _) ?_
    | refine vb_i (eql64 _ _ _) ?_
    | refine vb_i (neq64 _ _ _) ?_
    | refine vb_i (eqls _ _) ?_
    | refine vb_i (neqs _ _) ?_
    | (refine vb_i (add64 ?_ ?_) ?_; (· omega); (· omega))
    | (refine vb_i (sub64 ?_ ?_) ?_; (· omega); (· omega))
    | (refine vb_i (mul64 ?_ ?_) ?_; (· omega); (· omega))
    | (refine vb_i (quo64 ?_ ?_ ?_) ?_; (· omega); (· omega); (· omega))
    | (refine vb_i (rem64 ?_ ?_) ?_; (· omega); (· omega))
    | refine vb_i (e_lenSt _) ?_
    | refine vb_i (e_lenSl _ _ _) ?_
    | refine vb_i e_lenNil ?_
    | refine vb_i (lenSl_view (by assumption)) ?_
    | refine vb_i (e_ptrNil _ _) ?_
    | refine vb_i (e_ptrNilN _ _) ?_
    | refine vb_i (e_nilNil _) ?_
    | refine vb_i (e_nilNilN _) ?_
    | refine vb_i (e_pickT _ _) ?_
    | refine vb_i (e_pickF _ _) ?_
    | refine vb_i e_notd ?_
    | refine vb_i e_boolNe ?_
    | refine vb_i e_boolEq ?_
    | refine vb_i (e_not _) ?_
    | refine vb_i (e_nilCheck _) ?_
    | refine vb_i (e_fieldAddr _ _) ?_
    | refine hb_i (e_alloc _ _) ?_
    | (refine vb_i (adds ?_) ?_; (· first | omega | (simp only [List.length_cons, List.length_nil, List.length_append]; omega)))
    refine isB_c (fun h1 => ?_) (fun h1 => ?_)
    · refine vb_i zero32_build ?_
      unfold zero32
      with_reducible refine sb_i (store_new List.length_replicate List.length_replicate (cells_rep _ _ _)) ?_
      exact ⟨rfl, .inl ⟨rfl, rfl, fun hg => hg.1 (by omega)⟩⟩
    · refine vb_lenN hw ?_
      repeat with_reducible first
      | refine isB_T ?_
      | refine isB_F ?_
      | (refine isB_ct ?_ ?_; (· first | omega | rfl | assumption | trivial))
      | (refine isB_cf ?_ ?_; (· first | omega | assumption))
      | refine onE_i ?_
      | (refine onE_s ?_ ?_; (· decide))
      | refine vb_i e_ext0 ?_
      | refine vb_i e_ext1 ?_
      | refine vb_i e_ext2 ?_
      | refine vb_i (lss64 _ _ _) ?_
      | refine vb_i (leq64 _ _ _) ?_
      | refine vb_i (gtr64 _ _ _) ?_
      | refine vb_i (geq64 _ _ _) ?_
      | refine vb_i (eql64 _ _ _) ?_
      | refine vb_i (neq64 _ _ _) ?_
      | refine vb_i (eqls _ _) ?_
      | refine vb_i (neqs _ _) ?_
      | (refine vb_i (add64 ?_ ?_) ?_; (· omega); (· omega))
      | (refine vb_i (sub64 ?_ ?_) ?_; (· omega); (· omega))
      | (refine vb_i (mul64 ?_ ?_) ?_; (· omega); (· omega))
      | (refine vb_i (quo64 ?_ ?_ ?_) ?_; (· omega); (· omega); (· omega))
      | (refine vb_i (rem64 ?_ ?_) ?_; (· omega); (· omega))
      | refine vb_i (e_lenSt _) ?_
      | refine vb_i (e_lenSl _ _ _) ?_
      | refine vb_i e_lenNil ?_
      | refine vb_i (lenSl_view (by assumption)) ?_
      | refine vb_i (e_ptrNil _ _) ?_
      | refine vb_i (e_ptrNilN _ _) ?_
      | refine vb_i (e_nilNil _) ?_
      | refine vb_i (e_nilNilN _) ?_
      | refine vb_i (e_pickT _ _) ?_
      | refine vb_i (e_pickF _ _) ?_
      | refine vb_i e_notd ?_
      | refine vb_i e_boolNe ?_
      | refine vb_i e_boolEq ?_
      | refine vb_i (e_not _) ?_
      | refine vb_i (e_nilCheck _) ?_
      | refine vb_i (e_fieldAddr _ _) ?_
      | refine hb_i (e_alloc _ _) ?_
      | (refine vb_i (adds ?_) ?_; (· first | omega | (simp only [List.length_cons, List.length_nil, List.length_append]; omega)))
      refine isB_c (fun h2 => ?_) (fun h2 => ?_)
      · refine vb_i zero32_build ?_
        unfold zero32
        with_reducible refine sb_i (store_new List.length_replicate List.length_replicate (cells_rep _ _ _)) ?_
        exact ⟨rfl, .inl ⟨rfl, rfl, fun hg => by have := hg.2.1; omega⟩⟩
      · exact ⟨rfl, .inr ⟨rfl, by omega, by omega⟩⟩
  · rintro _ vs B ⟨rfl, ⟨rfl, rfl, hb⟩ | ⟨rfl, hl0, hl80⟩⟩
    · repeat with_reducible first
      | refine isB_T ?_
      | refine isB_F ?_
      | (refine isB_ct ?_ ?_; (· first | omega | rfl | assumption | trivial))
      | (refine isB_cf ?_ ?_; (· first | omega | assumption))
      | refine onE_i ?_
      | (refine onE_s ?_ ?_; (· decide))
      | refine vb_i e_ext0 ?_
      | refine vb_i e_ext1 ?_
      | refine vb_i e_ext2 ?_
      | refine vb_i (lss64 _ _ _) ?_
      | refine vb_i (leq64 _ _ _) ?_
      | refine vb_i (gtr64 _ _ _) ?_
      | refine vb_i (geq64 _ _ _) ?_
      | refine vb_i (eql64 _ _ _) ?_
      | refine vb_i (neq64 _ _ _) ?_
      | refine vb_i (eqls _ _) ?_
      | refine vb_i (neqs _ _) ?_
      | (refine vb_i (add64 ?_ ?_) ?_; (· omega); (· omega))
      | (refine vb_i (sub64 ?_ ?_) ?_; (· omega); (· omega))
      | (refine vb_i (mul64 ?_ ?_) ?_; (· omega); (· omega))
      | (refine vb_i (quo64 ?_ ?_ ?_) ?_; (· omega); (· omega); (· omega))
      | (refine vb_i (rem64 ?_ ?_) ?_; (· omega); (· omega))
      | refine vb_i (e_lenSt _) ?_
      | refine vb_i (e_lenSl _ _ _) ?_
      | refine vb_i e_lenNil ?_
      | refine vb_i (lenSl_view (by assumption)) ?_
      | refine vb_i (e_ptrNil _ _) ?_
      | refine vb_i (e_ptrNilN _ _) ?_
      | refine vb_i (e_nilNil _) ?_
      | refine vb_i (e_nilNilN _) ?_
      | refine vb_i (e_pickT _ _) ?_
      | refine vb_i (e_pickF _ _) ?_
      | refine vb_i e_notd ?_
      | refine vb_i e_boolNe ?_
      | refine vb_i e_boolEq ?_
      | refine vb_i (e_not _) ?_
      | refine vb_i (e_nilCheck _) ?_
      | refine vb_i (e_fieldAddr _ _) ?_
      | refine hb_i (e_alloc _ _) ?_
      | (refine vb_i (adds ?_) ?_; (· first | omega | (simp only [List.length_cons, List.length_nil, List.length_append]; omega)))
      simp only [evB]
      rcases h with ⟨_, rfl, rfl⟩ | ⟨hg, _⟩
      · refine fin_ret (vs := [.agg (List.replicate 32 (.int .u8 0)), .int .i64 6]) (rvs_c (load_new List.length_replicate) (rvs_v (rvs_nil _))) ?_
        exact Weak.any (ren_pair (agg_plain zero32_plain) (ren_p rfl)) p0
      · exact absurd hg hb
    · have hv := hw.at (show 0 < l.length by omega)
      repeat with_reducible first
      | refine isB_T ?_
      | refine isB_F ?_
      | (refine isB_ct ?_ ?_; (· first | omega | rfl | assumption | trivial))
      | (refine isB_cf ?_ ?_; (· first | omega | assumption))
      | refine onE_i ?_
      | (refine onE_s ?_ ?_; (· decide))
      | refine vb_i e_ext0 ?_
      | refine vb_i e_ext1 ?_
      | refine vb_i e_ext2 ?_
      | refine vb_i (lss64 _ _ _) ?_
      | refine vb_i (leq64 _ _ _) ?_
      | refine vb_i (gtr64 _ _ _) ?_
      | refine vb_i (geq64 _ _ _) ?_
      | refine vb_i (eql64 _ _ _) ?_
      | refine vb_i (neq64 _ _ _) ?_
      | refine vb_i (eqls _ _) ?_
      | refine vb_i (neqs _ _) ?_
      | (refine vb_i (add64 ?_ ?_) ?_; (· omega); (· omega))
      | (refine vb_i (sub64 ?_ ?_) ?_; (· omega); (· omega))
      | (refine vb_i (mul64 ?_ ?_) ?_; (· omega); (· omega))
      | (refine vb_i (quo64 ?_ ?_ ?_) ?_; (· omega); (· omega); (· omega))
      | (refine vb_i (rem64 ?_ ?_) ?_; (· omega); (· omega))
      | refine vb_i (e_lenSt _) ?_
      | refine vb_i (e_lenSl _ _ _) ?_
      | refine vb_i e_lenNil ?_
      | refine vb_i (lenSl_view (by assumption)) ?_
      | refine vb_i (e_ptrNil _ _) ?_
      | refine vb_i (e_ptrNilN _ _) ?_
      | refine vb_i (e_nilNil _) ?_
      | refine vb_i (e_nilNilN _) ?_
      | refine vb_i (e_pickT _ _) ?_
      | refine vb_i (e_pickF _ _) ?_
      | refine vb_i e_notd ?_
      | refine vb_i e_boolNe ?_
      | refine vb_i e_boolEq ?_
      | refine vb_i (e_not _) ?_
      | refine vb_i (e_nilCheck _) ?_
      | refine vb_i (e_fieldAddr _ _) ?_
      | refine hb_i (e_alloc _ _) ?_
      | (refine vb_i (adds ?_) ?_; (· first | omega | (simp only [List.length_cons, List.length_nil, List.length_append]; omega)))
      refine hb_i (four_bytes _) ?_
      refine vb_i (mark_new _ _ _) ?_
      refine vb_i (sliceArr_all _ _ _ _) ?_
      have hB0 : ((H ++ [AObj.cells 0 .exact (a.map ofByte)]) ++ [AObj.cells 0 .exact (List.replicate 32 (.int .u8 0))]).length = H.length + 2 := by simp
      generalize hBe : (H ++ [AObj.cells 0 .exact (a.map ofByte)]) ++ [AObj.cells 0 .exact (List.replicate 32 (.int .u8 0))] = B0 at *
      have g0 : B0[H.length]? = some (.cells 0 .exact (a.map ofByte)) := by rw [e0, app_get0]; rfl
      have g1 : B0[H.length + 1]? = some (.cells 0 .exact (List.replicate 32 (.int .u8 0))) := by rw [e0, app_get]; rfl
      have hHl : (H ++ [AObj.cells 0 .exact (a.map ofByte)]).length = H.length + 1 := by simp
      rw [hHl]
      have ow : Own (B0 ++ [AObj.cells 0 .exact (([110, 101, 120, 116] : List UInt8).map ofByte)]) (.slice ⟨B0.length, 0, 0⟩ 4 (.ex 4)) 1 4 (([110, 101, 120, 116] : List UInt8).map ofByte) := ⟨rfl, .inr (.inl ⟨B0.length, 0, rfl, app_get0 _ _⟩)⟩
      have pB : B0 <+: B0 ++ [AObj.cells 0 .exact (([110, 101, 120, 116] : List UInt8).map ofByte)] := pre_app _ _
      have vwa : View (B0 ++ [AObj.cells 0 .exact (([110, 101, 120, 116] : List UInt8).map ofByte)]) (.slice ⟨H.length, 0, 0⟩ 32 (.ex 32)) 1 32 (a.map ofByte) := view_ex (by rw [pre_get pB (by omega)]; exact g0) (by simp [ha])
      refine append_view ow (by decide) vwa (cells_byte a) (by simp only [room]; omega) (by simp only [room]; omega) fun sv B1 ow1 kp hid => ?_
      have hid1 : ∀ k, slId sv = some k → H.length + 2 ≤ k := fun k hk => by
        rcases hid with e | e
        · rw [e] at hk; simp only [slId, Option.some.injEq] at hk; omega
        · rw [e] at hk; cases hk; simp; omega
      have kp1 : ∀ k, k < H.length + 2 → B1[k]? = B0[k]? := fun k hk => by
        rw [kp.get k (by simp; omega) (by simp only [slId]; intro e; cases e; omega), pre_get pB (by omega)]
      have hB1l : H.length + 2 ≤ B1.length := by have := kp.len; simp at this; omega
      refine hb_i (e_alloc _ _) ?_
      have sc := slice_cell ow1
      refine sb_i (H := B1 ++ [AObj.cells 0 .exact [sv]]) ?_ ?_
      · rw [e_store1 (v := 0) (kd := .exact) (cs := [.nils]) (app_get0 _ _) (by decide) sc.1 (by simp) sc.2, app_set0]; rfl
      repeat with_reducible first
      | refine isB_T ?_
      | refine isB_F ?_
      | (refine isB_ct ?_ ?_; (· first | omega | rfl | assumption | trivial))
      | (refine isB_cf ?_ ?_; (· first | omega | assumption))
      | refine onE_i ?_
      | (refine onE_s ?_ ?_; (· decide))
      | refine vb_i e_ext0 ?_
      | refine vb_i e_ext1 ?_
      | refine vb_i e_ext2 ?_
      | refine vb_i (lss64 _ _ _) ?_
      | refine vb_i (leq64 _ _ _) ?_
      | refine vb_i (gtr64 _ _ _) ?_
      | refine vb_i (geq64 _ _ _) ?_
      | refine vb_i (eql64 _ _ _) ?_
      | refine vb_i (neq64 _ _ _) ?_
      | refine vb_i (eqls _ _) ?_
      | refine vb_i (neqs _ _) ?_
      | (refine vb_i (add64 ?_ ?_) ?_; (· omega); (· omega))
      | (refine vb_i (sub64 ?_ ?_) ?_; (· omega); (· omega))
      | (refine vb_i (mul64 ?_ ?_) ?_; (· omega); (· omega))
      | (refine vb_i (quo64 ?_ ?_ ?_) ?_; (· omega); (· omega); (· omega))
      | (refine vb_i (rem64 ?_ ?_) ?_; (· omega); (· omega))
      | refine vb_i (e_lenSt _) ?_
      | refine vb_i (e_lenSl _ _ _) ?_
      | refine vb_i e_lenNil ?_
      | refine vb_i (lenSl_view (by assumption)) ?_
      | refine vb_i (e_ptrNil _ _) ?_
      | refine vb_i (e_ptrNilN _ _) ?_
      | refine vb_i (e_nilNil _) ?_
      | refine vb_i (e_nilNilN _) ?_
      | refine vb_i (e_pickT _ _) ?_
      | refine vb_i (e_pickF _ _) ?_
      | refine vb_i e_notd ?_
      | refine vb_i e_boolNe ?_
      | refine vb_i e_boolEq ?_
      | refine vb_i (e_not _) ?_
      | refine vb_i (e_nilCheck _) ?_
      | refine vb_i (e_fieldAddr _ _) ?_
      | refine hb_i (e_alloc _ _) ?_
      | (refine vb_i (adds ?_) ?_; (· first | omega | (simp only [List.length_cons, List.length_nil, List.length_append]; omega)))
      clear badz
      refine LoopP.ruleG (α := Nat) (fun i => [.int .i64 i])
        (fun i C => i ≤ l.length ∧ H.length + 2 ≤ C.length ∧ (∀ k, k < H.length + 2 → C[k]? = B0[k]?) ∧ (∀ k, k < i → (l.getD k []).length = 64) ∧ ∃ sv, C[B1.length]? = some (.cells 0 .exact [sv]) ∧ slId sv ≠ some B1.length ∧ (∀ k, slId sv = some k → H.length + 2 ≤ k) ∧
          Own C sv 1 (36 + 64 * i) ((([110, 101, 120, 116] ++ a) ++ (l.take i).flatten).map ofByte)) (fun i => l.length - i) 0 rfl ⟨Nat.zero_le _, by simp; omega, fun k hk => by rw [List.getElem?_append_left (by omega)]; exact kp1 k hk, fun k hk => by omega, sv, by simp, ?_, hid1, ?_⟩ ?_
      · intro e; have := ow1.lt e; omega
      · have := ow1.pre (pre_app B1 [AObj.cells 0 .exact [sv]])
        simp only [List.take_zero, List.flatten_nil, List.append_nil, Nat.mul_zero, Nat.add_zero]
        rw [List.map_append]
        exact this
      · rintro i C Kn ⟨hi, hCl, hCk, h64, sw, hC1, hC2, hC3, hC4⟩ hn
        have pC : H <+: C := pre_of_get (by omega) fun k hk => by
          rw [hCk k (by omega), e0, List.getElem?_append_left hk]
        have gC1 : C[H.length + 1]? = some (.cells 0 .exact (List.replicate 32 (.int .u8 0))) := by rw [hCk _ (by omega)]; exact g1
        unfold chain_Next.L6 chain_Next.L6.b
        simp only [evB]
        by_cases hil : i < l.length
        · obtain ⟨q, q1, q2⟩ := strs_at hv hil pC
          have hsm := getD_mem hil
          have hsl := hN.hs _ hsm
          repeat with_reducible first
          | refine isB_T ?_
          | refine isB_F ?_
          | (refine isB_ct ?_ ?_; (· first | omega | rfl | assumption | trivial))
          | (refine isB_cf ?_ ?_; (· first | omega | assumption))
          | refine onE_i ?_
          | (refine onE_s ?_ ?_; (· decide))
          | refine vb_i e_ext0 ?_
          | refine vb_i e_ext1 ?_
          | refine vb_i e_ext2 ?_
          | refine vb_i (lss64 _ _ _) ?_
          | refine vb_i (leq64 _ _ _) ?_
          | refine vb_i (gtr64 _ _ _) ?_
          | refine vb_i (geq64 _ _ _) ?_
          | refine vb_i (eql64 _ _ _) ?_
          | refine vb_i (neq64 _ _ _) ?_
          | refine vb_i (eqls _ _) ?_
          | refine vb_i (neqs _ _) ?_
          | (refine vb_i (add64 ?_ ?_) ?_; (· omega); (· omega))
          | (refine vb_i (sub64 ?_ ?_) ?_; (· omega); (· omega))
          | (refine vb_i (mul64 ?_ ?_) ?_; (· omega); (· omega))
          | (refine vb_i (quo64 ?_ ?_ ?_) ?_; (· omega); (· omega); (· omega))
          | (refine vb_i (rem64 ?_ ?_) ?_; (· omega); (· omega))
          | refine vb_i (e_lenSt _) ?_
          | refine vb_i (e_lenSl _ _ _) ?_
          | refine vb_i e_lenNil ?_
          | refine vb_i (lenSl_view (by assumption)) ?_
          | refine vb_i (e_ptrNil _ _) ?_
          | refine vb_i (e_ptrNilN _ _) ?_
          | refine vb_i (e_nilNil _) ?_
          | refine vb_i (e_nilNilN _) ?_
          | refine vb_i (e_pickT _ _) ?_
          | refine vb_i (e_pickF _ _) ?_
          | refine vb_i e_notd ?_
          | refine vb_i e_boolNe ?_
          | refine vb_i e_boolEq ?_
          | refine vb_i (e_not _) ?_
          | refine vb_i (e_nilCheck _) ?_
          | refine vb_i (e_fieldAddr _ _) ?_
          | refine hb_i (e_alloc _ _) ?_
          | (refine vb_i (adds ?_) ?_; (· first | omega | (simp only [List.length_cons, List.length_nil, List.length_append]; omega)))
          refine vb_i q1 (vb_i q2 ?_)
          obtain ⟨sv', D, a1, a2, a3, a4⟩ := str_append (s := l.getD i []) hC4 (by simp only [room]; omega)
          have sc' := slice_cell a2
          have hCB := lt_of_some hC1
          have hD1 : D[B1.length]? = some (.cells 0 .exact [sw]) := by rw [a3.get _ hCB hC2]; exact hC1
          refine cb_i _ _ ⟨_, _, sw, sv', D, rfl, hC1, a1, hD1, sc'.1, sc'.2, rfl, rfl⟩ ?_
          have hDl := a3.len
          have hDk : ∀ k, k < H.length + 2 → (D.set B1.length (.cells 0 .exact [sv']))[k]? = B0[k]? := fun k hk => by
            rw [List.getElem?_set_ne (by omega), a3.get k (by omega) (fun e => by have := hC3 k e; omega)]
            exact hCk k hk
          by_cases hs : (l.getD i []).length = 64
          · repeat with_reducible first
            | refine isB_T ?_
            | refine isB_F ?_
            | (refine isB_ct ?_ ?_; (· first | omega | rfl | assumption | trivial))
            | (refine isB_cf ?_ ?_; (· first | omega | assumption))
            | refine onE_i ?_
            | (refine onE_s ?_ ?_; (· decide))
            | refine vb_i e_ext0 ?_
            | refine vb_i e_ext1 ?_
            | refine vb_i e_ext2 ?_
            | refine vb_i (lss64 _ _ _) ?_
            | refine vb_i (leq64 _ _ _) ?_
            | refine vb_i (gtr64 _ _ _) ?_
            | refine vb_i (geq64 _ _ _) ?_
            | refine vb_i (eql64 _ _ _) ?_
            | refine vb_i (neq64 _ _ _) ?_
            | refine vb_i (eqls _ _) ?_
            | refine vb_i (neqs _ _) ?_
            | (refine vb_i (add64 ?_ ?_) ?_; (· omega); (· omega))
            | (refine vb_i (sub64 ?_ ?_) ?_; (· omega); (· omega))
            | (refine vb_i (mul64 ?_ ?_) ?_; (· omega); (· omega))
            | (refine vb_i (quo64 ?_ ?_ ?_) ?_; (· omega); (· omega); (· omega))
            | (refine vb_i (rem64 ?_ ?_) ?_; (· omega); (· omega))
            | refine vb_i (e_lenSt _) ?_
            | refine vb_i (e_lenSl _ _ _) ?_
            | refine vb_i e_lenNil ?_
            | refine vb_i (lenSl_view (by assumption)) ?_
            | refine vb_i (e_ptrNil _ _) ?_
            | refine vb_i (e_ptrNilN _ _) ?_
            | refine vb_i (e_nilNil _) ?_
            | refine vb_i (e_nilNilN _) ?_
            | refine vb_i (e_pickT _ _) ?_
            | refine vb_i (e_pickF _ _) ?_
            | refine vb_i e_notd ?_
            | refine vb_i e_boolNe ?_
            | refine vb_i e_boolEq ?_
            | refine vb_i (e_not _) ?_
            | refine vb_i (e_nilCheck _) ?_
            | refine vb_i (e_fieldAddr _ _) ?_
            | refine hb_i (e_alloc _ _) ?_
            | (refine vb_i (adds ?_) ?_; (· first | omega | (simp only [List.length_cons, List.length_nil, List.length_append]; omega)))
            refine hn (i + 1) _ ⟨by omega, by simp; omega, hDk, fun k hk => ?_, sv', by rw [List.getElem?_set_self (by omega)], ?_, ?_, ?_⟩ (by omega)
            · by_cases e : k = i
              · subst e; exact hs
              · exact h64 k (by omega)
            · rcases a4 with e | e
              · rw [e]; exact hC2
              · rw [e]; simp only [ne_eq, Option.some.injEq]; omega
            · intro k hk
              rcases a4 with e | e
              · exact hC3 k (by rw [← e]; exact hk)
              · rw [e] at hk; cases hk; omega
            · have hne : slId sv' ≠ some B1.length := by
                rcases a4 with e | e
                · rw [e]; exact hC2
                · rw [e]; simp only [ne_eq, Option.some.injEq]; omega
              rw [hs] at a2
              have := a2.set hne (.cells 0 .exact [sv'])
              rw [flat_take hil, ← List.append_assoc, List.map_append]
              have e36 : 36 + 64 * (i + 1) = 36 + 64 * i + 64 := by omega
              rw [e36]
              exact this
          · have hng : ¬ good l := fun hg => hs (hg.2.2 _ hsm)
            repeat with_reducible first
            | refine isB_T ?_
            | refine isB_F ?_
            | (refine isB_ct ?_ ?_; (· first | omega | rfl | assumption | trivial))
            | (refine isB_cf ?_ ?_; (· first | omega | assumption))
            | refine onE_i ?_
            | (refine onE_s ?_ ?_; (· decide))
            | refine vb_i e_ext0 ?_
            | refine vb_i e_ext1 ?_
            | refine vb_i e_ext2 ?_
            | refine vb_i (lss64 _ _ _) ?_
            | refine vb_i (leq64 _ _ _) ?_
            | refine vb_i (gtr64 _ _ _) ?_
            | refine vb_i (geq64 _ _ _) ?_
            | refine vb_i (eql64 _ _ _) ?_
            | refine vb_i (neq64 _ _ _) ?_
            | refine vb_i (eqls _ _) ?_
            | refine vb_i (neqs _ _) ?_
            | (refine vb_i (add64 ?_ ?_) ?_; (· omega); (· omega))
            | (refine vb_i (sub64 ?_ ?_) ?_; (· omega); (· omega))
            | (refine vb_i (mul64 ?_ ?_) ?_; (· omega); (· omega))
            | (refine vb_i (quo64 ?_ ?_ ?_) ?_; (· omega); (· omega); (· omega))
            | (refine vb_i (rem64 ?_ ?_) ?_; (· omega); (· omega))
            | refine vb_i (e_lenSt _) ?_
            | refine vb_i (e_lenSl _ _ _) ?_
            | refine vb_i e_lenNil ?_
            | refine vb_i (lenSl_view (by assumption)) ?_
            | refine vb_i (e_ptrNil _ _) ?_
            | refine vb_i (e_ptrNilN _ _) ?_
            | refine vb_i (e_nilNil _) ?_
            | refine vb_i (e_nilNilN _) ?_
            | refine vb_i (e_pickT _ _) ?_
            | refine vb_i (e_pickF _ _) ?_
            | refine vb_i e_notd ?_
            | refine vb_i e_boolNe ?_
            | refine vb_i e_boolEq ?_
            | refine vb_i (e_not _) ?_
            | refine vb_i (e_nilCheck _) ?_
            | refine vb_i (e_fieldAddr _ _) ?_
            | refine hb_i (e_alloc _ _) ?_
            | (refine vb_i (adds ?_) ?_; (· first | omega | (simp only [List.length_cons, List.length_nil, List.length_append]; omega)))
            refine vb_i zero32_build ?_
            unfold zero32
            have gD : (D.set B1.length (.cells 0 .exact [sv']))[H.length + 1]? = some (.cells 0 .exact (List.replicate 32 (.int .u8 0))) := by rw [hDk _ (by omega)]; exact g1
            refine sb_i (store32 gD List.length_replicate List.length_replicate (cells_rep _ _ _)) ?_
            repeat with_reducible first
            | refine isB_T ?_
            | refine isB_F ?_
            | (refine isB_ct ?_ ?_; (· first | omega | rfl | assumption | trivial))
            | (refine isB_cf ?_ ?_; (· first | omega | assumption))
            | refine onE_i ?_
            | (refine onE_s ?_ ?_; (· decide))
            | refine vb_i e_ext0 ?_
            | refine vb_i e_ext1 ?_
            | refine vb_i e_ext2 ?_
            | refine vb_i (lss64 _ _ _) ?_
            | refine vb_i (leq64 _ _ _) ?_
            | refine vb_i (gtr64 _ _ _) ?_
            | refine vb_i (geq64 _ _ _) ?_
            | refine vb_i (eql64 _ _ _) ?_
            | refine vb_i (neq64 _ _ _) ?_
            | refine vb_i (eqls _ _) ?_
            | refine vb_i (neqs _ _) ?_
            | (refine vb_i (add64 ?_ ?_) ?_; (· omega); (· omega))
            | (refine vb_i (sub64 ?_ ?_) ?_; (· omega); (· omega))
            | (refine vb_i (mul64 ?_ ?_) ?_; (· omega); (· omega))
            | (refine vb_i (quo64 ?_ ?_ ?_) ?_; (· omega); (· omega); (· omega))
            | (refine vb_i (rem64 ?_ ?_) ?_; (· omega); (· omega))
            | refine vb_i (e_lenSt _) ?_
            | refine vb_i (e_lenSl _ _ _) ?_
            | refine vb_i e_lenNil ?_
            | refine vb_i (lenSl_view (by assumption)) ?_
            | refine vb_i (e_ptrNil _ _) ?_
            | refine vb_i (e_ptrNilN _ _) ?_
            | refine vb_i (e_nilNil _) ?_
            | refine vb_i (e_nilNilN _) ?_
            | refine vb_i (e_pickT _ _) ?_
            | refine vb_i (e_pickF _ _) ?_
            | refine vb_i e_notd ?_
            | refine vb_i e_boolNe ?_
            | refine vb_i e_boolEq ?_
            | refine vb_i (e_not _) ?_
            | refine vb_i (e_nilCheck _) ?_
            | refine vb_i (e_fieldAddr _ _) ?_
            | refine hb_i (e_alloc _ _) ?_
            | (refine vb_i (adds ?_) ?_; (· first | omega | (simp only [List.length_cons, List.length_nil, List.length_append]; omega)))
            try simp only [evB]
            rcases h with ⟨_, rfl, rfl⟩ | ⟨hg, _⟩
            · refine fin_ret (vs := [.agg (List.replicate 32 (.int .u8 0)), .int .i64 6]) (rvs_c (e_loadAll (by rw [List.getElem?_set_self (by simp; omega)]) List.length_replicate) (rvs_v (rvs_nil _))) ?_
              refine Weak.any (ren_pair (agg_plain zero32_plain) (ren_p rfl)) (pre_of_get (by simp; omega) fun k hk => ?_)
              rw [List.getElem?_set_ne (by omega), hDk k (by omega), e0, List.getElem?_append_left hk]
            · exact absurd hg hng
        · have hie : i = l.length := by omega
          subst hie
          have hgood : good l := ⟨hl0, hl80, fun s hs => by
            obtain ⟨k, hk, rfl⟩ := List.getElem_of_mem hs
            have := h64 k hk
            rwa [List.getD_eq_getElem?_getD, List.getElem?_eq_getElem hk] at this⟩
          rcases h with ⟨hg, _⟩ | ⟨_, rfl, h⟩
          · exact absurd hgood hg
          rw [List.take_length] at hC4
          have htl : (nextT a l).length ≤ 1099511627776 := by
            have := hC4.1
            simp only [List.length_map] at this
            simp only [nextT]; omega
          obtain ⟨L, rfl⟩ := pC
          have hLl : 2 ≤ L.length := by simp at hCl; omega
          obtain ⟨C2, hO, hL, hl2, hW⟩ := sums_call h (by simpa using htl) L
          have hL1 := hL 1 (by omega)
          rw [app_get] at gC1
          rw [gC1] at hL1
          have hsl := sum_len (nextT a l)
          repeat with_reducible first
          | refine isB_T ?_
          | refine isB_F ?_
          | (refine isB_ct ?_ ?_; (· first | omega | rfl | assumption | trivial))
          | (refine isB_cf ?_ ?_; (· first | omega | assumption))
          | refine onE_i ?_
          | (refine onE_s ?_ ?_; (· decide))
          | refine vb_i e_ext0 ?_
          | refine vb_i e_ext1 ?_
          | refine vb_i e_ext2 ?_
          | refine vb_i (lss64 _ _ _) ?_
          | refine vb_i (leq64 _ _ _) ?_
          | refine vb_i (gtr64 _ _ _) ?_
          | refine vb_i (geq64 _ _ _) ?_
          | refine vb_i (eql64 _ _ _) ?_
          | refine vb_i (neq64 _ _ _) ?_
          | refine vb_i (eqls _ _) ?_
          | refine vb_i (neqs _ _) ?_
          | (refine vb_i (add64 ?_ ?_) ?_; (· omega); (· omega))
          | (refine vb_i (sub64 ?_ ?_) ?_; (· omega); (· omega))
          | (refine vb_i (mul64 ?_ ?_) ?_; (· omega); (· omega))
          | (refine vb_i (quo64 ?_ ?_ ?_) ?_; (· omega); (· omega); (· omega))
          | (refine vb_i (rem64 ?_ ?_) ?_; (· omega); (· omega))
          | refine vb_i (e_lenSt _) ?_
          | refine vb_i (e_lenSl _ _ _) ?_
          | refine vb_i e_lenNil ?_
          | refine vb_i (lenSl_view (by assumption)) ?_
          | refine vb_i (e_ptrNil _ _) ?_
          | refine vb_i (e_ptrNilN _ _) ?_
          | refine vb_i (e_nilNil _) ?_
          | refine vb_i (e_nilNilN _) ?_
          | refine vb_i (e_pickT _ _) ?_
          | refine vb_i (e_pickF _ _) ?_
          | refine vb_i e_notd ?_
          | refine vb_i e_boolNe ?_
          | refine vb_i e_boolEq ?_
          | refine vb_i (e_not _) ?_
          | refine vb_i (e_nilCheck _) ?_
          | refine vb_i (e_fieldAddr _ _) ?_
          | refine hb_i (e_alloc _ _) ?_
          | (refine vb_i (adds ?_) ?_; (· first | omega | (simp only [List.length_cons, List.length_nil, List.length_append]; omega)))
          refine vb_i (e_load1 hC1 (by simp)) ?_
          refine vb_i (bytes_str hC4.view) ?_
          refine cb_i _ _ ⟨o, nextT a l, rfl, htl, rfl, hO⟩ ?_
          refine sb_i (store32 hL1 List.length_replicate (by rw [List.length_map]; exact hsl) (cells_byte _)) ?_
          refine fin_ret (vs := [.agg ((sum (nextT a l)).map ofByte), .int .i64 0]) (rvs_c (e_loadAll (by rw [List.getElem?_set_self (by omega)]) (by simp [hsl])) (rvs_v (rvs_nil _))) ?_
          exact hW _ _ _ (by simp; omega) (fun j _ hj => List.getElem?_set_ne (by omega)) (ren_pair (agg_plain (bytes_plain _)) (ren_p rfl))
end Go.Sh

/- Along rows. -/
namespace Go.Sh
open Go Go.Abs

section
variable {H : AHeap} {o : AVal} {ss : List (List UInt8)} {H' C : AHeap} {own : Nat → Prop} {done : List (List UInt8)}

end

theorem good_short {a : List UInt8} {l : List (List UInt8)} (ha : a.length = 32) (h : good l) : (nextT a l).length ≤ 1099511627776 := by
  have := flat_len h.2.2
  have := h.2.1
  simp only [nextT, List.length_append, List.length_cons, List.length_nil]
  omega

end Go.Sh

/- The laws of chains. -/
namespace Go.Sh
open Go Go.Abs

theorem zs32_len : (zs 32).length = 32 := zs_len 32
section
variable {A C : AHeap} {own : Nat → Prop} {T : List (List UInt8)}
end


end Go.Sh

/- The laws of chains, 2. -/
namespace Go.Sh
open Go Go.Abs

end Go.Sh

/- The laws of chains, 3. -/
namespace Go.Sh
open Go Go.Abs

def right (d a : Int) : Prop := (d = 0 ∨ d = 1) ∧ (a = 0 ∨ a = 1)
instance (d a : Int) : Decidable (right d a) := by unfold right; infer_instance
theorem startT_len (d a : Int) (s : List UInt8) : (startT d a s).length = 7 + s.length := by simp [startT]; omega

end Go.Sh

/- The laws of chains, 4. -/
namespace Go.Sh
open Go Go.Abs

end Go.Sh

/- Functions that leave what was there as it was. -/
namespace Go.Sh
open Go Go.Abs

theorem chain_Start_1.quiet {args : List AVal} {H : AHeap} {r : AVal} {H' : AHeap} (h : S_chain_Start_1 args H r H') : H <+: H' := by
  unfold S_chain_Start_1 at h; grind [pre_app, pre_of_eq, newO]
end Go.Sh
