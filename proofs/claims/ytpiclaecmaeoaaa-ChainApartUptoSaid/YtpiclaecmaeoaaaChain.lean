/- One text of these: Chain0, ChainW1, ChainP1, ChainP2, ChainP3, ChainP4, ChainP5, ChainP6, ChainP7, ChainQ, ChainQ2. -/
import Derived.Test.YtpiclaecmaeoaaaPair

/- Anchors in a chain. -/
namespace Go.Sh
open Go Go.Abs

def S_chain_sum : Abs.Spec := S_node_sum
def S_chain_Start_1 : Abs.Spec := fun args H r H' => ∃ n : Int, args = [.int .i64 n] ∧ r = .bool (decide (n = 0 ∨ n = 1)) ∧ H' = H
def startT (d a : Int) (s : List UInt8) : List UInt8 := [115, 116, 97, 114, 116] ++ [UInt8.ofNat d.toNat, UInt8.ofNat a.toNat] ++ s
def startE (d a : Int) (s : List UInt8) : Int := if ¬ (d = 0 ∨ d = 1) ∨ ¬ (a = 0 ∨ a = 1) then 2 else if s.length ≠ 64 then 6 else 0
def S_chain_Start : Abs.Spec := fun args H r H' => ∃ (o : AVal) (s : List UInt8) (d a : Int), args = [o, .str s, .int .i64 d, .int .i64 a] ∧
  ((startE d a s ≠ 0 ∧ r = .tup [zero32, .int .i64 (startE d a s)] ∧ H' = H) ∨ (startE d a s = 0 ∧ r = .tup [.agg ((sum (startT d a s)).map ofByte), .int .i64 0] ∧ Osums H o [startT d a s] H'))
def keyT (k : List UInt8) : List UInt8 := [107, 101, 121] ++ k
def S_chain_Check : Abs.Spec := fun args H r H' => ∃ (o : AVal) (k : List UInt8), args = [o, .str k] ∧
  ((k.length ≠ 32 ∧ r = .tup [.str [], .int .i64 2] ∧ H' = H) ∨ (k.length = 32 ∧ r = .tup [.str (sum (keyT k)), .int .i64 0] ∧ Osums H o [keyT k] H'))
def S_chain_Next_1 : Abs.Spec := fun args H r H' => ∃ (s : List UInt8) (j : Nat) (sv sv' : AVal) (H1 : AHeap), args = [.str s, .ptr ⟨j, 0, 0⟩] ∧ H[j]? = some (.cells 0 .exact [sv]) ∧ aAppend H 1 1 sv (.str s) = some (sv', H1) ∧ H1[j]? = some (.cells 0 .exact [sv]) ∧
  sv'.cells = [sv'] ∧ sv'.isCell = true ∧ r = .bool (decide (s.length = 64)) ∧ H' = H1.set j (.cells 0 .exact [sv'])
def nextT (a : List UInt8) (l : List (List UInt8)) : List UInt8 := [110, 101, 120, 116] ++ a ++ l.flatten
def good (l : List (List UInt8)) : Prop := l.length ≠ 0 ∧ l.length ≤ 80 ∧ ∀ s ∈ l, s.length = 64
/-- A row that is read; an empty one may have no block. -/
def VwN (B : AHeap) (sv : AVal) (n : Nat) (cs : List AVal) : Prop := View B sv 1 n cs ∨ (n = 0 ∧ cs = [] ∧ ∃ (r : Ref) (c : Cap), sv = .slice r 0 c)
theorem vb_lenN {B : AHeap} {sv : AVal} {n : Nat} {cs : List AVal} {K : AVal → Prop} (h : VwN B sv n cs) (k : K (.int .i64 n)) : vb (lenSl sv) K := by
  rcases h with h | ⟨rfl, rfl, r, c, rfl⟩
  · exact vb_i (lenSl_view h) k
  · exact vb_i (v := .int .i64 (0 : Nat)) rfl k
theorem VwN.at {B : AHeap} {sv : AVal} {n : Nat} {cs : List AVal} (h : VwN B sv n cs) (h0 : 0 < n) : View B sv 1 n cs := by
  rcases h with h | ⟨rfl, _⟩
  · exact h
  · omega
theorem VwN.zero {B C : AHeap} {sv : AVal} {cs : List AVal} (h : VwN B sv 0 cs) : VwN C sv 0 cs := by
  rcases h with ⟨e, ⟨rfl, _⟩ | ⟨i, v, off, c, kd, cs', rfl, _⟩⟩ | h
  · exact .inl ⟨e, .inl ⟨rfl, rfl⟩⟩
  · exact .inr ⟨rfl, List.eq_nil_of_length_eq_zero (by omega), _, _, rfl⟩
  · exact .inr h
structure NArgs (H : AHeap) (x : AVal) (l : List (List UInt8)) : Prop where
  v : VwN H x l.length (strs l)
  hl : l.length ≤ 9223372036854775807
  hs : ∀ s ∈ l, s.length ≤ 1099511627776
theorem NArgs.pre {H K : AHeap} {x : AVal} {l : List (List UInt8)} (h : NArgs H x l) (p : H <+: K) : NArgs K x l := ⟨h.v.imp (fun h => h.pre p) id, h.hl, h.hs⟩
def S_chain_Next : Abs.Spec := fun args H r H' => ∃ (o x : AVal) (a : List UInt8) (l : List (List UInt8)), args = [o, .agg (a.map ofByte), x] ∧ a.length = 32 ∧ NArgs H x l ∧
  ((¬ good l ∧ r = .tup [zero32, .int .i64 6] ∧ H' = H) ∨ (good l ∧ r = .tup [.agg ((sum (nextT a l)).map ofByte), .int .i64 0] ∧ Osums H o [nextT a l] H'))

instance goodDec (l : List (List UInt8)) : Decidable (good l) := by unfold good; infer_instance
def alongR : List UInt8 → List (List (List UInt8)) → Option (List UInt8)
  | a, [] => some a
  | a, l :: rows => if good l then alongR (sum (nextT a l)) rows else none
def alongT : List UInt8 → List (List (List UInt8)) → List (List UInt8)
  | _, [] => []
  | a, l :: rows => if good l then nextT a l :: alongT (sum (nextT a l)) rows else []
/-- What an oracle does not touch. -/
def Untouched (H : AHeap) (o : AVal) (k : Nat) : Prop := ∀ i v m lv, o = .ptr ⟨i, v, 0⟩ → H[i]? = some (.cells v .exact [lv, .map m]) → k ≠ i ∧ k ≠ m ∧ slId lv ≠ some k
structure RArgs (H : AHeap) (o x : AVal) (svs : List AVal) (rows : List (List (List UInt8))) : Prop where
  v : View H x 1 rows.length svs
  hl : rows.length ≤ 1048576
  each : ∀ i, i < rows.length → NArgs H (svs.getD i .undef) (rows.getD i [])
  fx : ∀ k, slId x = some k → Untouched H o k
  fs : ∀ i k, i < rows.length → 0 < (rows.getD i []).length → slId (svs.getD i .undef) = some k → Untouched H o k
def S_chain_Along : Abs.Spec := fun args H r H' => ∃ (o x : AVal) (a : List UInt8) (svs : List AVal) (rows : List (List (List UInt8))), args = [o, .agg (a.map ofByte), x] ∧ a.length = 32 ∧ RArgs H o x svs rows ∧
  r = (match alongR a rows with | some b => .tup [.agg (b.map ofByte), .int .i64 0] | none => .tup [zero32, .int .i64 6]) ∧ Osums H o (alongT a rows) H'
def S_cellaretlaw14_awake : Abs.Spec := fun args H r H' => args = [] ∧ r = .bool true ∧ H' = H
def S_cellaretlaw14_next : Abs.Spec := fun args H r H' => ∃ (x : AVal) (a : List UInt8) (l : List (List UInt8)), args = [.agg (a.map ofByte), x] ∧ a.length = 32 ∧ NArgs H x l ∧ H' = H ∧
  r = if good l then .tup [.agg ((sum (nextT a l)).map ofByte), .int .i64 0] else .tup [zero32, .int .i64 6]
def S_cellaretlaw14_ChainSums : Abs.Spec := fun args H r H' => ∃ (s k : List UInt8) (d a : Int), args = [.agg [.str s, .int .i64 d, .int .i64 a, .str k]] ∧ r = .bool true ∧ H' = H
def S_cellaretlaw14_ChainNexts : Abs.Spec := fun args H r H' => ∃ (a : List UInt8) (x y : AVal) (l m : List (List UInt8)), args = [.agg (a.map ofByte), x, y] ∧ a.length = 32 ∧ NArgs H x l ∧ NArgs H y m ∧ r = .bool true ∧ H' = H
end Go.Sh

/- What Go functions come to over abstract values, printed by a program (wtext.py). -/
namespace Go.Sh
open Go Go.Abs


def chain_sum.w (x0 : AVal) (x1 : AVal) (H : AHeap) (K : AVal → AHeap → Prop) : Prop :=
  hb (aAlloc H (List.replicate 32 (.int .u8 0))) fun v1 H2 =>
  vb (aEql false .ptr H2 x0 .nilp) fun v3 =>
  isB v3 fun b4 => cond b4
    (cb (S_sha_Sum [x1] H2) fun v5 H6 =>
    sb (aStore H6 32 v1 v5) fun H7 =>
    fin .ret [.c true 32 (v1)] H7 K)
    (cb (S_oracle_Oracle_Sum [x0, x1] H2) fun v8 H9 =>
    sb (aStore H9 32 v1 v8) fun H10 =>
    fin .ret [.c true 32 (v1)] H10 K)

def chain_Start_1.w (x0 : AVal) (H : AHeap) (K : AVal → AHeap → Prop) : Prop :=
  vb (aBin .eql x0 (.int .i64 0)) fun v1 =>
  isB v1 fun b2 => cond b2
    (fin .ret [.v (.bool true)] H K)
    (vb (aBin .eql x0 (.int .i64 1)) fun v3 =>
      fin .ret [.v (v3)] H K)

def chain_Start.w (x0 : AVal) (x1 : AVal) (x2 : AVal) (x3 : AVal) (H : AHeap) (K : AVal → AHeap → Prop) : Prop :=
  hb (aAlloc H (List.replicate 32 (.int .u8 0))) fun v1 H2 =>
  cb (S_chain_Start_1 [x2] H2) fun v3 H4 =>
  vb (aUn .not v3) fun v5 =>
  isB v5 fun b6 => cond b6
    (vb (aBuild (List.replicate 32 (.int .u8 0)) (fun k => some (k * 1, 1)) []) fun v7 =>
          sb (aStore H4 32 v1 v7) fun H8 =>
          fin .ret [.c true 32 (v1), .v (.int .i64 2)] H8 K)
    (cb (S_chain_Start_1 [x3] H4) fun v9 H10 =>
        vb (aUn .not v9) fun v11 =>
          isB v11 fun b12 => cond b12
            (vb (aBuild (List.replicate 32 (.int .u8 0)) (fun k => some (k * 1, 1)) []) fun v13 =>
            sb (aStore H10 32 v1 v13) fun H14 =>
            fin .ret [.c true 32 (v1), .v (.int .i64 2)] H14 K)
            (vb (lenSt x1) fun v15 =>
            vb (aBin .neq v15 (.int .i64 64)) fun v16 =>
            isB v16 fun b17 => cond b17
              (vb (aBuild (List.replicate 32 (.int .u8 0)) (fun k => some (k * 1, 1)) []) fun v18 =>
              sb (aStore H10 32 v1 v18) fun H19 =>
              fin .ret [.c true 32 (v1), .v (.int .i64 6)] H19 K)
              (vb (aInt2 .u8 x2) fun v20 =>
              vb (aInt2 .u8 x3) fun v21 =>
              hb (aBuildSlice H10 1 [.int .u8 0] 2 [(0, v20), (1, v21)]) fun v22 H23 =>
              vb (aBytes2Str H23 v22) fun v24 =>
              vb (aBin .add (.str [115, 116, 97, 114, 116]) v24) fun v25 =>
              vb (aBin .add v25 x1) fun v26 =>
              cb (S_chain_sum [x0, v26] H23) fun v27 H28 =>
              sb (aStore H28 32 v1 v27) fun H29 =>
              fin .ret [.c true 32 (v1), .v (.int .i64 0)] H29 K)))

def chain_Check.w (x0 : AVal) (x1 : AVal) (H : AHeap) (K : AVal → AHeap → Prop) : Prop :=
  vb (lenSt x1) fun v1 =>
  vb (aBin .neq v1 (.int .i64 32)) fun v2 =>
  isB v2 fun b3 => cond b3
    (fin .ret [.v (.str []), .v (.int .i64 2)] H K)
    (vb (aBin .add (.str [107, 101, 121]) x1) fun v4 =>
    cb (S_chain_sum [x0, v4] H) fun v5 H6 =>
    hb (aAlloc H6 (List.replicate 32 (.int .u8 0))) fun v7 H8 =>
    sb (aStore H8 32 v7 v5) fun H9 =>
    vb (aSliceArr 32 1 v7 none none none) fun v10 =>
    vb (aBytes2Str H9 v10) fun v11 =>
    fin .ret [.v (v11), .v (.int .i64 0)] H9 K)

def chain_Next_1.w (x0 : AVal) (x1 : AVal) (H : AHeap) (K : AVal → AHeap → Prop) : Prop :=
  vb (aLoad H false 1 x1) fun v1 =>
  hb (aAppend H 1 1 v1 x0) fun v2 H3 =>
  sb (aStore H3 1 x1 v2) fun H4 =>
  vb (lenSt x0) fun v5 =>
  vb (aBin .eql v5 (.int .i64 64)) fun v6 =>
  fin .ret [.v (v6)] H4 K

def chain_Next.L6.b (v28 : AVal) (x2 : AVal) (v25 : AVal) (v3 : AVal) (x28_6 : AVal) (H29 : AHeap) (Kn30 : List AVal → AHeap → Prop) (Ke31 : AExit → List AVal → AHeap → Prop) : Prop :=
  vb (aBin .lss x28_6 v28) fun v32 =>
  isB v32 fun b33 => cond b33
    (vb (aIndexAddr 1 x2 x28_6) fun v34 =>
    vb (aLoad H29 false 1 v34) fun v35 =>
    cb (S_chain_Next_1 [v35, v25] H29) fun v36 H37 =>
    vb (aUn .not v36) fun v38 =>
    isB v38 fun b39 => cond b39
      (vb (aBuild (List.replicate 32 (.int .u8 0)) (fun k => some (k * 1, 1)) []) fun v40 =>
      sb (aStore H37 32 v3 v40) fun H41 =>
      Ke31 .ret [.int .i64 6] H41)
      (vb (aBin .add x28_6 (.int .i64 1)) fun v42 =>
      Kn30 [v42] H37))
    (Ke31 (.exit 0) [.undef] H29)

def chain_Next.L6 (v28 : AVal) (x2 : AVal) (v25 : AVal) (v3 : AVal) : Body := fun vs H Kn Ke => chain_Next.L6.b v28 x2 v25 v3 (vs.getD 0 .undef) H Kn Ke

def chain_Next.w (x0 : AVal) (x1 : AVal) (x2 : AVal) (H : AHeap) (K : AVal → AHeap → Prop) : Prop :=
  hb (aBox H x1) fun v1 H2 =>
  hb (aAlloc H2 (List.replicate 32 (.int .u8 0))) fun v3 H4 =>
  JoinP (fun Kj5 => vb (lenSl x2) fun v6 =>
    vb (aBin .eql v6 (.int .i64 0)) fun v7 =>
    isB v7 fun b8 => cond b8
      (vb (aBuild (List.replicate 32 (.int .u8 0)) (fun k => some (k * 1, 1)) []) fun v9 =>
          sb (aStore H4 32 v3 v9) fun H10 =>
          Kj5 .ret [.int .i64 6] H10)
      (vb (lenSl x2) fun v11 =>
        vb (aBin .gtr v11 (.int .i64 80)) fun v12 =>
          isB v12 fun b13 => cond b13
            (vb (aBuild (List.replicate 32 (.int .u8 0)) (fun k => some (k * 1, 1)) []) fun v14 =>
            sb (aStore H4 32 v3 v14) fun H15 =>
            Kj5 .ret [.int .i64 6] H15)
            (Kj5 .normal [.int .i64 0] H4)))
  (fun e16 vs17 H18 =>
    onE e16 .normal
      (hb (aBuildSlice H18 1 [.int .u8 0] 4 [(0, .int .u8 110), (1, .int .u8 101), (2, .int .u8 120), (3, .int .u8 116)]) fun v19 H20 =>
      vb (aMark H20 v19) fun v21 =>
      vb (aSliceArr 32 1 v1 none none none) fun v22 =>
      hb (aAppendS H20 1 1 v21 v22) fun v23 H24 =>
      hb (aAlloc H24 [.nils]) fun v25 H26 =>
      sb (aStore H26 1 v25 v23) fun H27 =>
      vb (lenSl x2) fun v28 =>
      LoopP (chain_Next.L6 v28 x2 v25 v3) [.int .i64 0] H27 fun e43 vs44 H45 =>
        onE e43 (.exit 0)
          (vb (aLoad H45 false 1 v25) fun v46 =>
          vb (aBytes2Str H45 v46) fun v47 =>
          cb (S_chain_sum [x0, v47] H45) fun v48 H49 =>
          sb (aStore H49 32 v3 v48) fun H50 =>
          fin .ret [.c true 32 (v3), .v (.int .i64 0)] H50 K)
        (onE e43 .ret
          (fin .ret [.c true 32 (v3), .v (vs44.getD 0 .undef)] H45 K)
        (False)))
    (onE e16 .ret
      (fin .ret [.c true 32 (v3), .v (vs17.getD 0 .undef)] H18 K)
    (False)))

def chain_Along.L2.b (v5 : AVal) (x2 : AVal) (v1 : AVal) (x0 : AVal) (v3 : AVal) (x14_2 : AVal) (H6 : AHeap) (Kn7 : List AVal → AHeap → Prop) (Ke8 : AExit → List AVal → AHeap → Prop) : Prop :=
  vb (aBin .lss x14_2 v5) fun v9 =>
  isB v9 fun b10 => cond b10
    (vb (aIndexAddr 1 x2 x14_2) fun v11 =>
    vb (aLoad H6 false 1 v11) fun v12 =>
    vb (aLoad H6 true 32 v1) fun v13 =>
    cb (S_chain_Next [x0, v13, v12] H6) fun v14 H15 =>
    vb (aExtract v14 0) fun v16 =>
    vb (aExtract v14 1) fun v17 =>
    hb (aAlloc H15 (List.replicate 32 (.int .u8 0))) fun v18 H19 =>
    sb (aStore H19 32 v18 v16) fun H20 =>
    vb (aBin .neq v17 (.int .i64 0)) fun v21 =>
    isB v21 fun b22 => cond b22
      (vb (aBuild (List.replicate 32 (.int .u8 0)) (fun k => some (k * 1, 1)) []) fun v23 =>
      sb (aStore H20 32 v3 v23) fun H24 =>
      Ke8 .ret [v17] H24)
      (vb (aLoad H20 true 32 v18) fun v25 =>
      sb (aStore H20 32 v1 v25) fun H26 =>
      vb (aBin .add x14_2 (.int .i64 1)) fun v27 =>
      Kn7 [v27] H26))
    (Ke8 (.exit 0) [.undef] H6)

def chain_Along.L2 (v5 : AVal) (x2 : AVal) (v1 : AVal) (x0 : AVal) (v3 : AVal) : Body := fun vs H Kn Ke => chain_Along.L2.b v5 x2 v1 x0 v3 (vs.getD 0 .undef) H Kn Ke

def chain_Along.w (x0 : AVal) (x1 : AVal) (x2 : AVal) (H : AHeap) (K : AVal → AHeap → Prop) : Prop :=
  hb (aBox H x1) fun v1 H2 =>
  hb (aAlloc H2 (List.replicate 32 (.int .u8 0))) fun v3 H4 =>
  vb (lenSl x2) fun v5 =>
  LoopP (chain_Along.L2 v5 x2 v1 x0 v3) [.int .i64 0] H4 fun e28 vs29 H30 =>
    onE e28 (.exit 0)
      (vb (aLoad H30 true 32 v1) fun v31 =>
      sb (aStore H30 32 v3 v31) fun H32 =>
      fin .ret [.c true 32 (v3), .v (.int .i64 0)] H32 K)
    (onE e28 .ret
      (fin .ret [.c true 32 (v3), .v (vs29.getD 0 .undef)] H30 K)
    (False))

def cellaretlaw14_awake.w (H : AHeap) (K : AVal → AHeap → Prop) : Prop :=
  cb (S_oracle_New [] H) fun v1 H2 =>
  cb (S_cellaretref01_Full [.str [115], .int .i64 64] H2) fun v3 H4 =>
  cb (S_chain_Start [v1, v3, .int .i64 1, .int .i64 0] H4) fun v5 H6 =>
  vb (aExtract v5 0) fun v7 =>
  vb (aExtract v5 1) fun v8 =>
  hb (aAlloc H6 (List.replicate 32 (.int .u8 0))) fun v9 H10 =>
  sb (aStore H10 32 v9 v7) fun H11 =>
  vb (aLoad H11 true 32 v9) fun v12 =>
  hb (aBuildSlice H11 1 [.str []] 1 [(0, v3)]) fun v13 H14 =>
  cb (S_chain_Next [v1, v12, v13] H14) fun v15 H16 =>
  vb (aExtract v15 0) fun v17 =>
  vb (aExtract v15 1) fun v18 =>
  hb (aAlloc H16 (List.replicate 32 (.int .u8 0))) fun v19 H20 =>
  sb (aStore H20 32 v19 v17) fun H21 =>
  vb (aLoad H21 true 32 v9) fun v22 =>
  hb (aBuildSlice H21 1 [.str []] 1 [(0, v3)]) fun v23 H24 =>
  hb (aBuildSlice H24 1 [.nils] 1 [(0, v23)]) fun v25 H26 =>
  cb (S_chain_Along [v1, v22, v25] H26) fun v27 H28 =>
  vb (aExtract v27 0) fun v29 =>
  vb (aExtract v27 1) fun v30 =>
  hb (aAlloc H28 (List.replicate 32 (.int .u8 0))) fun v31 H32 =>
  sb (aStore H32 32 v31 v29) fun H33 =>
  vb (aBin .eql v8 (.int .i64 0)) fun v34 =>
  isB v34 fun b35 => cond b35
    (vb (aBin .eql v18 (.int .i64 0)) fun v36 =>
      isB v36 fun b37 => cond b37
        (vb (aBin .eql v30 (.int .i64 0)) fun v38 =>
          isB v38 fun b39 => cond b39
            (vb (aLoad H33 true 32 v9) fun v40 =>
            vb (aBin .add (.str [115, 116, 97, 114, 116, 1, 0]) v3) fun v41 =>
                cb (S_sha_Sum [v41] H33) fun v42 H43 =>
                  vb (aEql false (.agg (List.replicate 32 .int)) H43 v40 v42) fun v44 =>
                    isB v44 fun b45 => cond b45
                      (vb (aLoad H43 true 32 v19) fun v46 =>
                      vb (aSliceArr 32 1 v9 none none none) fun v47 =>
                        vb (aBytes2Str H43 v47) fun v48 =>
                          vb (aBin .add (.str [110, 101, 120, 116]) v48) fun v49 =>
                            vb (aBin .add v49 v3) fun v50 =>
                                cb (S_sha_Sum [v50] H43) fun v51 H52 =>
                                  vb (aEql false (.agg (List.replicate 32 .int)) H52 v46 v51) fun v53 =>
                                    isB v53 fun b54 => cond b54
                                      (vb (aLoad H52 true 32 v31) fun v55 =>
                                      vb (aLoad H52 true 32 v19) fun v56 =>
                                        vb (aEql false (.agg (List.replicate 32 .int)) H52 v55 v56) fun v57 =>
                                          isB v57 fun b58 => cond b58
                                            (cb (S_oracle_Oracle_Len [v1] H52) fun v59 H60 =>
                                              vb (aBin .eql v59 (.int .i64 2)) fun v61 =>
                                                fin .ret [.v (v61)] H60 K)
                                            (fin .ret [.v (.bool false)] H52 K))
                                      (fin .ret [.v (.bool false)] H52 K))
                      (fin .ret [.v (.bool false)] H43 K))
            (fin .ret [.v (.bool false)] H33 K))
        (fin .ret [.v (.bool false)] H33 K))
    (fin .ret [.v (.bool false)] H33 K)

def cellaretlaw14_next.L5.b (x1 : AVal) (v3 : AVal) (x6_5 : AVal) (x7_5 : AVal) (H22 : AHeap) (Kn23 : List AVal → AHeap → Prop) (Ke24 : AExit → List AVal → AHeap → Prop) : Prop :=
  vb (lenSl x1) fun v25 =>
  vb (aBin .lss x7_5 v25) fun v26 =>
  isB v26 fun b27 => cond b27
    (vb (aIndexAddr 1 x1 x7_5) fun v28 =>
    vb (aLoad H22 false 1 v28) fun v29 =>
    vb (lenSt v29) fun v30 =>
    vb (aBin .neq v30 (.int .i64 64)) fun v31 =>
    isB v31 fun b32 => cond b32
      (vb (aBuild (List.replicate 32 (.int .u8 0)) (fun k => some (k * 1, 1)) []) fun v33 =>
      sb (aStore H22 32 v3 v33) fun H34 =>
      Ke24 .ret [.int .i64 6, x6_5] H34)
      (vb (aIndexAddr 1 x1 x7_5) fun v35 =>
      vb (aLoad H22 false 1 v35) fun v36 =>
      vb (aBin .add x6_5 v36) fun v37 =>
      vb (aBin .add x7_5 (.int .i64 1)) fun v38 =>
      Kn23 [v37, v38] H22))
    (Ke24 (.exit 0) [.undef, x6_5] H22)

def cellaretlaw14_next.L5 (x1 : AVal) (v3 : AVal) : Body := fun vs H Kn Ke => cellaretlaw14_next.L5.b x1 v3 (vs.getD 0 .undef) (vs.getD 1 .undef) H Kn Ke

def cellaretlaw14_next.w (x0 : AVal) (x1 : AVal) (H : AHeap) (K : AVal → AHeap → Prop) : Prop :=
  hb (aBox H x0) fun v1 H2 =>
  hb (aAlloc H2 (List.replicate 32 (.int .u8 0))) fun v3 H4 =>
  JoinP (fun Kj5 => vb (lenSl x1) fun v6 =>
    vb (aBin .eql v6 (.int .i64 0)) fun v7 =>
    isB v7 fun b8 => cond b8
      (vb (aBuild (List.replicate 32 (.int .u8 0)) (fun k => some (k * 1, 1)) []) fun v9 =>
          sb (aStore H4 32 v3 v9) fun H10 =>
          Kj5 .ret [.int .i64 6] H10)
      (vb (lenSl x1) fun v11 =>
        vb (aBin .gtr v11 (.int .i64 80)) fun v12 =>
          isB v12 fun b13 => cond b13
            (vb (aBuild (List.replicate 32 (.int .u8 0)) (fun k => some (k * 1, 1)) []) fun v14 =>
            sb (aStore H4 32 v3 v14) fun H15 =>
            Kj5 .ret [.int .i64 6] H15)
            (Kj5 .normal [.int .i64 0] H4)))
  (fun e16 vs17 H18 =>
    onE e16 .normal
      (vb (aSliceArr 32 1 v1 none none none) fun v19 =>
      vb (aBytes2Str H18 v19) fun v20 =>
      vb (aBin .add (.str [110, 101, 120, 116]) v20) fun v21 =>
      LoopP (cellaretlaw14_next.L5 x1 v3) [v21, .int .i64 0] H18 fun e39 vs40 H41 =>
        onE e39 (.exit 0)
          (cb (S_sha_Sum [vs40.getD 1 .undef] H41) fun v42 H43 =>
          sb (aStore H43 32 v3 v42) fun H44 =>
          fin .ret [.c true 32 (v3), .v (.int .i64 0)] H44 K)
        (onE e39 .ret
          (fin .ret [.c true 32 (v3), .v (vs40.getD 0 .undef)] H41 K)
        (False)))
    (onE e16 .ret
      (fin .ret [.c true 32 (v3), .v (vs17.getD 0 .undef)] H18 K)
    (False)))

def cellaretlaw14_ChainSums.w (x0 : AVal) (H : AHeap) (K : AVal → AHeap → Prop) : Prop :=
  hb (aBox H x0) fun v1 H2 =>
  vb (aFieldAddr 0 v1) fun v3 =>
  vb (aLoad H2 false 1 v3) fun v4 =>
  vb (aFieldAddr 1 v1) fun v5 =>
  vb (aLoad H2 false 1 v5) fun v6 =>
  vb (aFieldAddr 2 v1) fun v7 =>
  vb (aLoad H2 false 1 v7) fun v8 =>
  vb (aFieldAddr 3 v1) fun v9 =>
  vb (aLoad H2 false 1 v9) fun v10 =>
  JoinP (fun Kj11 => vb (lenSt v4) fun v12 =>
    vb (aBin .gtr v12 (.int .i64 1000)) fun v13 =>
    isB v13 fun b14 => cond b14
      (cb (S_cellaretlaw14_awake [] H2) fun v15 H16 =>
          Kj11 .ret [v15] H16)
      (vb (lenSt v10) fun v17 =>
        vb (aBin .gtr v17 (.int .i64 1000)) fun v18 =>
          isB v18 fun b19 => cond b19
            (cb (S_cellaretlaw14_awake [] H2) fun v20 H21 =>
            Kj11 .ret [v20] H21)
            (Kj11 .normal [.bool false] H2)))
  (fun e22 vs23 H24 =>
    onE e22 .normal
      (cb (S_oracle_New [] H24) fun v25 H26 =>
      cb (S_chain_Start [v25, v4, v6, v8] H26) fun v27 H28 =>
      vb (aExtract v27 0) fun v29 =>
      vb (aExtract v27 1) fun v30 =>
      hb (aAlloc H28 (List.replicate 32 (.int .u8 0))) fun v31 H32 =>
      sb (aStore H32 32 v31 v29) fun H33 =>
      cb (S_chain_Check [v25, v10] H33) fun v34 H35 =>
      vb (aExtract v34 0) fun v36 =>
      vb (aExtract v34 1) fun v37 =>
      JoinP (fun Kj38 => vb (aBin .eql v6 (.int .i64 0)) fun v39 =>
        isB v39 fun b40 => cond b40
          (vb (aBin .eql v8 (.int .i64 0)) fun v41 =>
                isB v41 fun b42 => cond b42
                    (Kj38 .normal [.bool true] H35)
                    (vb (aBin .eql v8 (.int .i64 1)) fun v43 =>
                      Kj38 .normal [v43] H35))
          (vb (aBin .eql v6 (.int .i64 1)) fun v44 =>
            isB v44 fun b45 => cond b45
              (vb (aBin .eql v8 (.int .i64 0)) fun v46 =>
                isB v46 fun b47 => cond b47
                    (Kj38 .normal [.bool true] H35)
                    (vb (aBin .eql v8 (.int .i64 1)) fun v48 =>
                      Kj38 .normal [v48] H35))
              (Kj38 .normal [.bool false] H35)))
      (fun e49 vs50 H51 =>
        onE e49 .normal
          (vb (aUn .not (vs50.getD 0 .undef)) fun v52 =>
          isB v52 fun b53 => cond b53
            (vb (aLoad H51 true 32 v31) fun v54 =>
            vb (aBuild (List.replicate 32 (.int .u8 0)) (fun k => some (k * 1, 1)) []) fun v55 =>
            vb (aEql true (.agg (List.replicate 32 .int)) H51 v54 v55) fun v56 =>
            isB v56 fun b57 => cond b57
              (fin .ret [.v (.bool false)] H51 K)
              (vb (aBin .neq v30 (.int .i64 2)) fun v58 =>
                isB v58 fun b59 => cond b59
                  (fin .ret [.v (.bool false)] H51 K)
                  (vb (lenSt v10) fun v60 =>
                  vb (aBin .neq v60 (.int .i64 32)) fun v61 =>
                  isB v61 fun b62 => cond b62
                    (cb (S_cellaretlaw14_awake [] H51) fun v63 H64 =>
                    isB v63 fun b65 => cond b65
                      (vb (aBin .eql v36 (.str [])) fun v66 =>
                        isB v66 fun b67 => cond b67
                          (vb (aBin .eql v37 (.int .i64 2)) fun v68 =>
                            fin .ret [.v (v68)] H64 K)
                          (fin .ret [.v (.bool false)] H64 K))
                      (fin .ret [.v (.bool false)] H64 K))
                    (vb (aBin .add (.str [107, 101, 121]) v10) fun v69 =>
                    cb (S_sha_Sum [v69] H51) fun v70 H71 =>
                    hb (aAlloc H71 (List.replicate 32 (.int .u8 0))) fun v72 H73 =>
                    sb (aStore H73 32 v72 v70) fun H74 =>
                    cb (S_chain_Check [.nilp, v10] H74) fun v75 H76 =>
                    vb (aExtract v75 0) fun v77 =>
                    vb (aExtract v75 1) fun v78 =>
                    cb (S_cellaretlaw14_awake [] H76) fun v79 H80 =>
                    isB v79 fun b81 => cond b81
                      (vb (aBin .eql v37 (.int .i64 0)) fun v82 =>
                        isB v82 fun b83 => cond b83
                          (vb (aSliceArr 32 1 v72 none none none) fun v84 =>
                            vb (aBytes2Str H80 v84) fun v85 =>
                              vb (aBin .eql v36 v85) fun v86 =>
                                isB v86 fun b87 => cond b87
                                  (vb (aBin .eql v77 v36) fun v88 =>
                                      isB v88 fun b89 => cond b89
                                        (vb (aBin .eql v78 (.int .i64 0)) fun v90 =>
                                          fin .ret [.v (v90)] H80 K)
                                        (fin .ret [.v (.bool false)] H80 K))
                                  (fin .ret [.v (.bool false)] H80 K))
                          (fin .ret [.v (.bool false)] H80 K))
                      (fin .ret [.v (.bool false)] H80 K)))))
            (vb (lenSt v4) fun v91 =>
            vb (aBin .neq v91 (.int .i64 64)) fun v92 =>
            isB v92 fun b93 => cond b93
              (vb (aLoad H51 true 32 v31) fun v94 =>
              vb (aBuild (List.replicate 32 (.int .u8 0)) (fun k => some (k * 1, 1)) []) fun v95 =>
              vb (aEql true (.agg (List.replicate 32 .int)) H51 v94 v95) fun v96 =>
              isB v96 fun b97 => cond b97
                (fin .ret [.v (.bool false)] H51 K)
                (vb (aBin .neq v30 (.int .i64 6)) fun v98 =>
                  isB v98 fun b99 => cond b99
                    (fin .ret [.v (.bool false)] H51 K)
                    (vb (lenSt v10) fun v100 =>
                    vb (aBin .neq v100 (.int .i64 32)) fun v101 =>
                    isB v101 fun b102 => cond b102
                      (cb (S_cellaretlaw14_awake [] H51) fun v103 H104 =>
                      isB v103 fun b105 => cond b105
                        (vb (aBin .eql v36 (.str [])) fun v106 =>
                          isB v106 fun b107 => cond b107
                            (vb (aBin .eql v37 (.int .i64 2)) fun v108 =>
                              fin .ret [.v (v108)] H104 K)
                            (fin .ret [.v (.bool false)] H104 K))
                        (fin .ret [.v (.bool false)] H104 K))
                      (vb (aBin .add (.str [107, 101, 121]) v10) fun v109 =>
                      cb (S_sha_Sum [v109] H51) fun v110 H111 =>
                      hb (aAlloc H111 (List.replicate 32 (.int .u8 0))) fun v112 H113 =>
                      sb (aStore H113 32 v112 v110) fun H114 =>
                      cb (S_chain_Check [.nilp, v10] H114) fun v115 H116 =>
                      vb (aExtract v115 0) fun v117 =>
                      vb (aExtract v115 1) fun v118 =>
                      cb (S_cellaretlaw14_awake [] H116) fun v119 H120 =>
                      isB v119 fun b121 => cond b121
                        (vb (aBin .eql v37 (.int .i64 0)) fun v122 =>
                          isB v122 fun b123 => cond b123
                            (vb (aSliceArr 32 1 v112 none none none) fun v124 =>
                              vb (aBytes2Str H120 v124) fun v125 =>
                                vb (aBin .eql v36 v125) fun v126 =>
                                  isB v126 fun b127 => cond b127
                                    (vb (aBin .eql v117 v36) fun v128 =>
                                        isB v128 fun b129 => cond b129
                                          (vb (aBin .eql v118 (.int .i64 0)) fun v130 =>
                                            fin .ret [.v (v130)] H120 K)
                                          (fin .ret [.v (.bool false)] H120 K))
                                    (fin .ret [.v (.bool false)] H120 K))
                            (fin .ret [.v (.bool false)] H120 K))
                        (fin .ret [.v (.bool false)] H120 K)))))
              (vb (aBin .neq v30 (.int .i64 0)) fun v131 =>
              isB v131 fun b132 => cond b132
                (fin .ret [.v (.bool false)] H51 K)
                (vb (aLoad H51 true 32 v31) fun v133 =>
                vb (aInt2 .u8 v6) fun v134 =>
                    vb (aInt2 .u8 v8) fun v135 =>
                        hb (aBuildSlice H51 1 [.int .u8 0] 2 [(0, v134), (1, v135)]) fun v136 H137 =>
                          vb (aBytes2Str H137 v136) fun v138 =>
                            vb (aBin .add (.str [115, 116, 97, 114, 116]) v138) fun v139 =>
                              vb (aBin .add v139 v4) fun v140 =>
                                  cb (S_sha_Sum [v140] H137) fun v141 H142 =>
                                    vb (aEql true (.agg (List.replicate 32 .int)) H142 v133 v141) fun v143 =>
                                      isB v143 fun b144 => cond b144
                                        (fin .ret [.v (.bool false)] H142 K)
                                        (vb (lenSt v10) fun v145 =>
                                        vb (aBin .neq v145 (.int .i64 32)) fun v146 =>
                                        isB v146 fun b147 => cond b147
                                          (cb (S_cellaretlaw14_awake [] H142) fun v148 H149 =>
                                          isB v148 fun b150 => cond b150
                                            (vb (aBin .eql v36 (.str [])) fun v151 =>
                                              isB v151 fun b152 => cond b152
                                                (vb (aBin .eql v37 (.int .i64 2)) fun v153 =>
                                                  fin .ret [.v (v153)] H149 K)
                                                (fin .ret [.v (.bool false)] H149 K))
                                            (fin .ret [.v (.bool false)] H149 K))
                                          (vb (aBin .add (.str [107, 101, 121]) v10) fun v154 =>
                                          cb (S_sha_Sum [v154] H142) fun v155 H156 =>
                                          hb (aAlloc H156 (List.replicate 32 (.int .u8 0))) fun v157 H158 =>
                                          sb (aStore H158 32 v157 v155) fun H159 =>
                                          cb (S_chain_Check [.nilp, v10] H159) fun v160 H161 =>
                                          vb (aExtract v160 0) fun v162 =>
                                          vb (aExtract v160 1) fun v163 =>
                                          cb (S_cellaretlaw14_awake [] H161) fun v164 H165 =>
                                          isB v164 fun b166 => cond b166
                                            (vb (aBin .eql v37 (.int .i64 0)) fun v167 =>
                                              isB v167 fun b168 => cond b168
                                                (vb (aSliceArr 32 1 v157 none none none) fun v169 =>
                                                  vb (aBytes2Str H165 v169) fun v170 =>
                                                    vb (aBin .eql v36 v170) fun v171 =>
                                                      isB v171 fun b172 => cond b172
                                                        (vb (aBin .eql v162 v36) fun v173 =>
                                                            isB v173 fun b174 => cond b174
                                                              (vb (aBin .eql v163 (.int .i64 0)) fun v175 =>
                                                                fin .ret [.v (v175)] H165 K)
                                                              (fin .ret [.v (.bool false)] H165 K))
                                                        (fin .ret [.v (.bool false)] H165 K))
                                                (fin .ret [.v (.bool false)] H165 K))
                                            (fin .ret [.v (.bool false)] H165 K)))))))
        (False)))
    (onE e22 .ret
      (fin .ret [.v (vs23.getD 0 .undef)] H24 K)
    (False)))

def cellaretlaw14_ChainNexts.w (x0 : AVal) (x1 : AVal) (x2 : AVal) (H : AHeap) (K : AVal → AHeap → Prop) : Prop :=
  hb (aBox H x0) fun v1 H2 =>
  JoinP (fun Kj3 => vb (lenSl x1) fun v4 =>
    vb (aBin .gtr v4 (.int .i64 100)) fun v5 =>
    isB v5 fun b6 => cond b6
      (cb (S_cellaretlaw14_awake [] H2) fun v7 H8 =>
          Kj3 .ret [v7] H8)
      (vb (lenSl x2) fun v9 =>
        vb (aBin .gtr v9 (.int .i64 100)) fun v10 =>
          isB v10 fun b11 => cond b11
            (cb (S_cellaretlaw14_awake [] H2) fun v12 H13 =>
            Kj3 .ret [v12] H13)
            (Kj3 .normal [.bool false] H2)))
  (fun e14 vs15 H16 =>
    onE e14 .normal
      (JoinP (fun Kj17 => (cb (S_oracle_New [] H16) fun v18 H19 =>
          vb (aLoad H19 true 32 v1) fun v20 =>
          cb (S_chain_Next [v18, v20, x1] H19) fun v21 H22 =>
          vb (aExtract v21 0) fun v23 =>
          vb (aExtract v21 1) fun v24 =>
          hb (aAlloc H22 (List.replicate 32 (.int .u8 0))) fun v25 H26 =>
          sb (aStore H26 32 v25 v23) fun H27 =>
          Kj17 .normal [v25, v24] H27) ∧
        (cb (S_oracle_New [] H16) fun v28 H29 =>
          vb (aLoad H29 true 32 v1) fun v30 =>
          hb (aAlloc H29 (List.replicate 32 (.int .u8 0))) fun v31 H32 =>
          cb (S_chain_Next [v28, v30, x1] H32) fun v33 H34 =>
          vb (aExtract v33 0) fun v35 =>
          vb (aExtract v33 1) fun v36 =>
          sb (aStore H34 32 v31 v35) fun H37 =>
          Kj17 .normal [v31, v36] H37))
      (fun e38 vs39 H40 =>
        onE e38 .normal
          (vb (aLoad H40 true 32 v1) fun v41 =>
          hb (aBuildSlice H40 1 [.nils] 2 [(0, x1), (1, x2)]) fun v42 H43 =>
          cb (S_chain_Along [.nilp, v41, v42] H43) fun v44 H45 =>
          vb (aExtract v44 0) fun v46 =>
          vb (aExtract v44 1) fun v47 =>
          hb (aAlloc H45 (List.replicate 32 (.int .u8 0))) fun v48 H49 =>
          sb (aStore H49 32 v48 v46) fun H50 =>
          vb (aLoad H50 true 32 v1) fun v51 =>
          cb (S_chain_Along [.nilp, v51, .nils] H50) fun v52 H53 =>
          vb (aExtract v52 0) fun v54 =>
          vb (aExtract v52 1) fun v55 =>
          hb (aAlloc H53 (List.replicate 32 (.int .u8 0))) fun v56 H57 =>
          sb (aStore H57 32 v56 v54) fun H58 =>
          vb (aLoad H58 true 32 v1) fun v59 =>
          cb (S_cellaretlaw14_next [v59, x1] H58) fun v60 H61 =>
          vb (aExtract v60 0) fun v62 =>
          vb (aExtract v60 1) fun v63 =>
          hb (aAlloc H61 (List.replicate 32 (.int .u8 0))) fun v64 H65 =>
          sb (aStore H65 32 v64 v62) fun H66 =>
          JoinP (fun Kj67 => vb (aLoad H66 true 32 (vs39.getD 0 .undef)) fun v68 =>
            vb (aLoad H66 true 32 v64) fun v69 =>
            vb (aEql true (.agg (List.replicate 32 .int)) H66 v68 v69) fun v70 =>
            isB v70 fun b71 => cond b71
              (Kj67 .ret [.bool false] H66)
              (vb (aBin .neq (vs39.getD 1 .undef) v63) fun v72 =>
                  isB v72 fun b73 => cond b73
                    (Kj67 .ret [.bool false] H66)
                    (vb (aLoad H66 true 32 v56) fun v74 =>
                    vb (aLoad H66 true 32 v1) fun v75 =>
                      vb (aEql true (.agg (List.replicate 32 .int)) H66 v74 v75) fun v76 =>
                        isB v76 fun b77 => cond b77
                          (Kj67 .ret [.bool false] H66)
                          (vb (aBin .neq v55 (.int .i64 0)) fun v78 =>
                            isB v78 fun b79 => cond b79
                              (Kj67 .ret [.bool false] H66)
                              (Kj67 .normal [vs15.getD 0 .undef] H66)))))
          (fun e80 vs81 H82 =>
            onE e80 .normal
              (JoinP (fun Kj83 => vb (aBin .eql v63 (.int .i64 0)) fun v84 =>
                isB v84 fun b85 => cond b85
                  (vb (aLoad H82 true 32 v64) fun v86 =>
                  cb (S_cellaretlaw14_next [v86, x2] H82) fun v87 H88 =>
                  vb (aExtract v87 0) fun v89 =>
                  vb (aExtract v87 1) fun v90 =>
                  sb (aStore H88 32 v64 v89) fun H91 =>
                  Kj83 .normal [v90] H91)
                  (Kj83 .normal [v63] H82))
              (fun e92 vs93 H94 =>
                onE e92 .normal
                  (vb (aBin .neq (vs93.getD 0 .undef) (.int .i64 0)) fun v95 =>
                  isB v95 fun b96 => cond b96
                    (cb (S_cellaretlaw14_awake [] H94) fun v97 H98 =>
                    isB v97 fun b99 => cond b99
                      (vb (aLoad H98 true 32 v48) fun v100 =>
                      vb (aBuild (List.replicate 32 (.int .u8 0)) (fun k => some (k * 1, 1)) []) fun v101 =>
                        vb (aEql false (.agg (List.replicate 32 .int)) H98 v100 v101) fun v102 =>
                          isB v102 fun b103 => cond b103
                            (vb (aBin .eql v47 (vs93.getD 0 .undef)) fun v104 =>
                                fin .ret [.v (v104)] H98 K)
                            (fin .ret [.v (.bool false)] H98 K))
                      (fin .ret [.v (.bool false)] H98 K))
                    (cb (S_cellaretlaw14_awake [] H94) fun v105 H106 =>
                    isB v105 fun b107 => cond b107
                      (vb (aLoad H106 true 32 v48) fun v108 =>
                      vb (aLoad H106 true 32 v64) fun v109 =>
                        vb (aEql false (.agg (List.replicate 32 .int)) H106 v108 v109) fun v110 =>
                          isB v110 fun b111 => cond b111
                            (vb (aBin .eql v47 (.int .i64 0)) fun v112 =>
                              fin .ret [.v (v112)] H106 K)
                            (fin .ret [.v (.bool false)] H106 K))
                      (fin .ret [.v (.bool false)] H106 K)))
                (False)))
            (onE e80 .ret
              (fin .ret [.v (vs81.getD 0 .undef)] H82 K)
            (False))))
        (False)))
    (onE e14 .ret
      (fin .ret [.v (vs15.getD 0 .undef)] H16 K)
    (False)))

end Go.Sh

/- Anchors: the functions come to what is told. -/
namespace Go.Sh
open Go Go.Abs


theorem chain_sum.ok (args : List AVal) (H : AHeap) (r : AVal) (H' : AHeap) (h : S_chain_sum args H r H') : ∃ x0 x1, args = [x0, x1] ∧ chain_sum.w x0 x1 H fun r1 H1 => Weak H r1 H1 r H' := node_sum.ok args H r H' h

theorem chain_Start_1.ok (args : List AVal) (H : AHeap) (r : AVal) (H' : AHeap) (h : S_chain_Start_1 args H r H') : ∃ x0, args = [x0] ∧ chain_Start_1.w x0 H fun r1 H1 => Weak H r1 H1 r H' := by
  obtain ⟨n, rfl, rfl, rfl⟩ := h
  refine ⟨_, rfl, ?_⟩
  unfold chain_Start_1.w
  by_cases h1 : n = 0
  · repeat with_reducible first
    | (refine isB_ct ?_ ?_; (· first | omega | rfl | assumption | trivial))
    | refine vb_i (eql64 _ _ _) ?_
    rw [decide_eq_true (Or.inl h1)]
    exact fin_ret (vs := [.bool true]) (rvs_v (rvs_nil _)) (Weak.plain rfl (List.prefix_refl _))
  · repeat with_reducible first
    | (refine isB_cf ?_ ?_; (· first | omega | assumption))
    | refine vb_i (eql64 _ _ _) ?_
    refine fin_ret (vs := [.bool (decide (n = 1))]) (rvs_v (rvs_nil _)) ?_
    have e : decide (n = 0 ∨ n = 1) = decide (n = 1) := decide_eq_decide.2 (by omega)
    rw [e]
    exact Weak.plain rfl (List.prefix_refl _)

/-- The end of what gives a sum and an error: no sum. -/
theorem end_zero {H' B : AHeap} {n : Int} (p : H' <+: B) :
    vb (aBuild (List.replicate 32 (.int .u8 0)) (fun k => some (k * 1, 1)) []) fun v5 =>
      sb (aStore (B ++ [AObj.cells 0 .exact (List.replicate 32 (.int .u8 0))]) 32 (.ptr ⟨B.length, 0, 0⟩) v5) fun H6 => fin .ret [.c true 32 (.ptr ⟨B.length, 0, 0⟩), .v (.int .i64 n)] H6 fun r1 H1 => Weak H' r1 H1 (.tup [zero32, .int .i64 n]) H' := by
  refine vb_i zero32_build ?_
  unfold zero32
  with_reducible refine sb_i (store_new List.length_replicate List.length_replicate (cells_rep _ _ _)) ?_
  refine fin_ret (vs := [.agg (List.replicate 32 (.int .u8 0)), .int .i64 n]) (rvs_c (load_new List.length_replicate) (rvs_v (rvs_nil _))) ?_
  exact Weak.any (ren_pair (agg_plain zero32_plain) (ren_p rfl)) (p.trans (pre_app _ _))

theorem byte_int {n : Int} (h : n = 0 ∨ n = 1) : aInt2 .u8 (.int .i64 n) = some (ofByte (UInt8.ofNat n.toNat)) := byte_of_int .i64 (by omega)
theorem two_bytes (H : AHeap) (a b : UInt8) : aBuildSlice H 1 [.int .u8 0] 2 [(0, ofByte a), (1, ofByte b)] = some (.slice ⟨H.length, 0, 0⟩ 2 (.ex 2), H ++ [.cells 0 .exact ([a, b].map ofByte)]) := rfl

theorem chain_Start.ok (args : List AVal) (H : AHeap) (r : AVal) (H' : AHeap) (h : S_chain_Start args H r H') : ∃ x0 x1 x2 x3, args = [x0, x1, x2, x3] ∧ chain_Start.w x0 x1 x2 x3 H fun r1 H1 => Weak H r1 H1 r H' := by
  obtain ⟨o, s, d, a, rfl, h⟩ := h
  refine ⟨_, _, _, _, rfl, ?_⟩
  unfold chain_Start.w
  refine hb_i (e_alloc _ _) (cb_i _ _ ⟨d, rfl, rfl, rfl⟩ ?_)
  by_cases h1 : d = 0 ∨ d = 1
  · repeat with_reducible first
    | (refine isB_cf ?_ ?_; (· first | omega | assumption))
    | refine vb_i e_notd ?_
    refine cb_i _ _ ⟨a, rfl, rfl, rfl⟩ ?_
    by_cases h2 : a = 0 ∨ a = 1
    · repeat with_reducible first
      | (refine isB_cf ?_ ?_; (· first | omega | assumption))
      | refine vb_i (neq64 _ _ _) ?_
      | refine vb_i (e_lenSt _) ?_
      | refine vb_i e_notd ?_
      by_cases h3 : s.length = 64
      · have he : startE d a s = 0 := by unfold startE; rw [if_neg (by omega), if_neg (by omega)]
        rcases h with ⟨h0, _⟩ | ⟨_, rfl, h⟩
        · exact absurd he h0
        have hT : (startT d a s).length = 71 := by simp [startT, h3]
        obtain ⟨C2, hO, hL, hl, hW⟩ := sums_call h (by simp; omega) [.cells 0 .exact (List.replicate 32 (.int .u8 0)), .cells 0 .exact ([UInt8.ofNat d.toNat, UInt8.ofNat a.toNat].map ofByte)]
        have hL0 := hL 0 (by simp)
        simp only [Nat.add_zero, List.getElem?_cons_zero] at hL0
        simp only [List.length_cons, List.length_nil, Nat.zero_add] at hl hW
        repeat with_reducible first
        | refine vb_i (byte_int (by omega)) ?_
        | (refine isB_cf ?_ ?_; (· first | omega | assumption))
        refine hb_i (two_bytes _ _ _) ?_
        refine vb_i (arr_str (app_get0 _ _) rfl) ?_
        repeat with_reducible (refine vb_i (adds ?_) ?_; (· first | omega | (simp only [List.length_cons, List.length_nil, List.length_append]; omega)))
        have hsl := sum_len (startT d a s)
        have hO' : Osums ((H ++ [AObj.cells 0 .exact (List.replicate 32 (.int .u8 0))]) ++ [AObj.cells 0 .exact ([UInt8.ofNat d.toNat, UInt8.ofNat a.toNat].map ofByte)]) o [startT d a s] C2 := by rw [List.append_assoc]; exact hO
        refine cb_i _ _ ⟨o, startT d a s, rfl, by omega, rfl, hO'⟩ ?_
        refine sb_i (store32 hL0 List.length_replicate (by rw [List.length_map]; exact hsl) (cells_byte _)) ?_
        refine fin_ret (vs := [.agg ((sum (startT d a s)).map ofByte), .int .i64 0]) (rvs_c (e_loadAll (by rw [List.getElem?_set_self (by omega)]) (by simp [hsl])) (rvs_v (rvs_nil _))) ?_
        exact hW _ _ _ (by simp; omega) (fun j _ hj => List.getElem?_set_ne (by omega)) (ren_pair (agg_plain (bytes_plain _)) (ren_p rfl))
      · have he : startE d a s = 6 := by unfold startE; rw [if_neg (by omega), if_pos h3]
        rcases h with ⟨_, rfl, rfl⟩ | ⟨h0, _⟩
        · rw [he]
          repeat with_reducible (refine isB_ct ?_ ?_; (· first | omega | rfl | assumption | trivial))
          exact end_zero (List.prefix_refl _)
        · omega
    · have he : startE d a s = 2 := by unfold startE; rw [if_pos (.inr h2)]
      rcases h with ⟨_, rfl, rfl⟩ | ⟨h0, _⟩
      · rw [he]
        repeat with_reducible first
        | (refine isB_ct ?_ ?_; (· first | omega | rfl | assumption | trivial))
        | refine vb_i e_notd ?_
        exact end_zero (List.prefix_refl _)
      · omega
  · have he : startE d a s = 2 := by unfold startE; rw [if_pos (.inl h1)]
    rcases h with ⟨_, rfl, rfl⟩ | ⟨h0, _⟩
    · rw [he]
      repeat with_reducible first
      | (refine isB_ct ?_ ?_; (· first | omega | rfl | assumption | trivial))
      | refine vb_i e_notd ?_
      exact end_zero (List.prefix_refl _)
    · omega

theorem chain_Check.ok (args : List AVal) (H : AHeap) (r : AVal) (H' : AHeap) (h : S_chain_Check args H r H') : ∃ x0 x1, args = [x0, x1] ∧ chain_Check.w x0 x1 H fun r1 H1 => Weak H r1 H1 r H' := by
  obtain ⟨o, k, rfl, h⟩ := h
  refine ⟨_, _, rfl, ?_⟩
  unfold chain_Check.w
  rcases h with ⟨h1, rfl, rfl⟩ | ⟨h1, rfl, h⟩
  · repeat with_reducible first
    | (refine isB_ct ?_ ?_; (· first | omega | rfl | assumption | trivial))
    | refine vb_i (neq64 _ _ _) ?_
    | refine vb_i (e_lenSt _) ?_
    exact fin_ret (vs := [.str [], .int .i64 2]) (rvs_v (rvs_v (rvs_nil _))) (Weak.refl (ren_pair (ren_p rfl) (ren_p rfl)))
  · repeat with_reducible first
    | (refine isB_cf ?_ ?_; (· first | omega | assumption))
    | refine vb_i (neq64 _ _ _) ?_
    | refine vb_i (e_lenSt _) ?_
    | (refine vb_i (adds ?_) ?_; (· first | omega | (simp only [List.length_cons, List.length_nil, List.length_append]; omega)))
    have hsl := sum_len (keyT k)
    have hT : (keyT k).length = 35 := by simp [keyT, h1]
    obtain ⟨C2, hO, hL, hl, hW⟩ := sums_call h (by simp; omega) []
    rw [List.append_nil] at hO
    simp only [List.length_nil, Nat.add_zero] at hl hW
    refine cb_i _ _ ⟨o, keyT k, rfl, by omega, rfl, hO⟩ ?_
    repeat with_reducible refine hb_i (e_alloc _ _) ?_
    with_reducible refine sb_i (store_new List.length_replicate (by rw [List.length_map]; exact hsl) (cells_byte _)) ?_
    with_reducible refine vb_i (sliceArr_all _ _ _ _) ?_
    refine vb_i (arr_str (app_get0 _ _) hsl) ?_
    refine fin_ret (vs := [.str (sum (keyT k)), .int .i64 0]) (rvs_v (rvs_v (rvs_nil _))) ?_
    exact hW _ _ _ (by simp; omega) (fun j hj _ => List.getElem?_append_left hj) (ren_pair (ren_p rfl) (ren_p rfl))
end Go.Sh

/- The next anchor. -/
namespace Go.Sh
open Go Go.Abs

theorem chain_Next_1.ok (args : List AVal) (H : AHeap) (r : AVal) (H' : AHeap) (h : S_chain_Next_1 args H r H') : ∃ x0 x1, args = [x0, x1] ∧ chain_Next_1.w x0 x1 H fun r1 H1 => r1 = r ∧ H1 = H' := by
  obtain ⟨s, j, sv, sv', H1, rfl, h1, h2, h3, h4, h5, rfl, rfl⟩ := h
  refine ⟨_, _, rfl, ?_⟩
  unfold chain_Next_1.w
  refine vb_i (e_load1 h1 (by simp)) ?_
  refine hb_i h2 ?_
  refine sb_i (e_store1 h3 (by decide) h4 (by simp) h5) ?_
  repeat with_reducible first
  | refine isB_T ?_
  | refine isB_F ?_
  | (refine isB_ct ?_ ?_; (· first | omega | rfl | assumption | trivial))
  | (refine isB_cf ?_ ?_; (· first | omega | assumption))
  | refine onE_i ?_
  | (refine onE_s ?_ ?_; (· decide))
  | refine vb_i e_ext0 ?_
  | refine vb_i e_ext1 ?_
  | refine vb_i e_ext2 ?_
  | refine vb_i (lss64 _ _ _) ?_
  | refine vb_i (leq64 _ _ _) ?_
  | refine vb_i (gtr64 _ _ _) ?_
  | refine vb_i (geq64 _ _ _) ?_
  | refine vb_i (eql64 _ _ _) ?_
  | refine vb_i (neq64 _ _ _) ?_
  | refine vb_i (eqls _ _) ?_
  | refine vb_i (neqs _ _) ?_
  | (refine vb_i (add64 ?_ ?_) ?_; (· omega); (· omega))
  | (refine vb_i (sub64 ?_ ?_) ?_; (· omega); (· omega))
  | (refine vb_i (mul64 ?_ ?_) ?_; (· omega); (· omega))
  | (refine vb_i (quo64 ?_ ?_ ?_) ?_; (· omega); (· omega); (· omega))
  | (refine vb_i (rem64 ?_ ?_) ?_; (· omega); (· omega))
  | refine vb_i (e_lenSt _) ?_
  | refine vb_i (e_lenSl _ _ _) ?_
  | refine vb_i e_lenNil ?_
  | refine vb_i (lenSl_view (by assumption)) ?_
  | refine vb_i (e_ptrNil _ _) ?_
  | refine vb_i (e_ptrNilN _ _) ?_
  | refine vb_i (e_nilNil _) ?_
  | refine vb_i (e_nilNilN _) ?_
  | refine vb_i (e_pickT _ _) ?_
  | refine vb_i (e_pickF _ _) ?_
  | refine vb_i e_notd ?_
  | refine vb_i e_boolNe ?_
  | refine vb_i e_boolEq ?_
  | refine vb_i (e_not _) ?_
  | refine vb_i (e_nilCheck _) ?_
  | refine vb_i (e_fieldAddr _ _) ?_
  | refine hb_i (e_alloc _ _) ?_
  | (refine vb_i (adds ?_) ?_; (· first | omega | (simp only [List.length_cons, List.length_nil, List.length_append]; omega)))
  exact fin_ret (vs := [.bool (decide ((s.length : Int) = 64))]) (rvs_v (rvs_nil _)) ⟨by simp only [tup1]; congr 1; apply decide_eq_decide.2; omega, rfl⟩

theorem four_bytes (H : AHeap) : aBuildSlice H 1 [.int .u8 0] 4 [(0, .int .u8 110), (1, .int .u8 101), (2, .int .u8 120), (3, .int .u8 116)] = some (.slice ⟨H.length, 0, 0⟩ 4 (.ex 4), H ++ [.cells 0 .exact (([110, 101, 120, 116] : List UInt8).map ofByte)]) := rfl
theorem mark_new (H : AHeap) (n : Nat) (cs : List AVal) : aMark (H ++ [AObj.cells 0 .exact cs]) (.slice ⟨H.length, 0, 0⟩ n (.ex n)) = some (.slice ⟨H.length, 0, 0⟩ n (.ex n)) := by
  simp [aMark]
theorem slice_cell {B : AHeap} {sv : AVal} {es n : Nat} {cs : List AVal} (h : Own B sv es n cs) : sv.cells = [sv] ∧ sv.isCell = true := by
  rcases h.2 with ⟨rfl, _⟩ | ⟨i, v, rfl, _⟩ | ⟨i, v, rfl, _⟩ <;> exact ⟨rfl, rfl⟩
theorem str_append {B : AHeap} {sv : AVal} {n : Nat} {cs : List AVal} {s : List UInt8} (h : Own B sv 1 n cs) (h1 : n + s.length ≤ room) :
    ∃ sv' B', aAppend B 1 1 sv (.str s) = some (sv', B') ∧ Own B' sv' 1 (n + s.length) (cs ++ s.map ofByte) ∧ Keeps B sv B' ∧ (slId sv' = slId sv ∨ slId sv' = some B.length) := by
  obtain ⟨sv', B', a1, a2, a3, a4⟩ := append_to (xs := s.map ofByte) (bytes := 1) (m := s.length) h (by decide) (by simp) (cells_byte s) (by omega) h1
  refine ⟨sv', B', ?_, a2, a3, a4⟩
  rw [aAppend]
  simp only [srcLen, srcCells, List.take_length, a1]

theorem flat_take {l : List (List UInt8)} {i : Nat} (hi : i < l.length) : (l.take (i + 1)).flatten = (l.take i).flatten ++ l.getD i [] := by
  rw [List.take_add_one, List.flatten_append, List.getElem?_eq_getElem hi]
  simp [List.getD_eq_getElem?_getD, List.getElem?_eq_getElem hi]
theorem flat_len {l : List (List UInt8)} (h : ∀ s ∈ l, s.length = 64) : l.flatten.length = 64 * l.length := by
  induction l with
  | nil => rfl
  | cons x l ih =>
    simp only [List.flatten_cons, List.length_append, List.length_cons]
    rw [ih fun s hs => h s (List.mem_cons_of_mem _ hs), h x List.mem_cons_self]; omega
theorem getD_mem {l : List (List UInt8)} {i : Nat} (hi : i < l.length) : l.getD i [] ∈ l := by
  rw [List.getD_eq_getElem?_getD, List.getElem?_eq_getElem hi]; exact List.getElem_mem hi

theorem chain_Next.ok (args : List AVal) (H : AHeap) (r : AVal) (H' : AHeap) (h : S_chain_Next args H r H') : ∃ x0 x1 x2, args = [x0, x1, x2] ∧ chain_Next.w x0 x1 x2 H fun r1 H1 => Weak H r1 H1 r H' := by
  obtain ⟨o, x, a, l, rfl, ha, hN, h⟩ := h
  refine ⟨_, _, _, rfl, ?_⟩
  unfold chain_Next.w
  have hl := hN.hl
  have hw := hN.v
  have hcl : (AVal.agg (a.map ofByte)).cells = a.map ofByte := rfl
  refine hb_i (e_box rfl) ?_
  rw [hcl]
  refine hb_i (e_alloc _ _) ?_
  have e0 : (H ++ [AObj.cells 0 .exact (a.map ofByte)]) ++ [AObj.cells 0 .exact (List.replicate 32 (.int .u8 0))] = H ++ [AObj.cells 0 .exact (a.map ofByte), AObj.cells 0 .exact (List.replicate 32 (.int .u8 0))] := by rw [List.append_assoc]; rfl
  have p0 : H <+: (H ++ [AObj.cells 0 .exact (a.map ofByte)]) ++ [AObj.cells 0 .exact (List.replicate 32 (.int .u8 0))] := (pre_app _ _).trans (pre_app _ _)
  have badz : ¬ good l → vb (aBuild (List.replicate 32 (.int .u8 0)) (fun k => some (k * 1, 1)) []) (fun v9 => sb (aStore ((H ++ [AObj.cells 0 .exact (a.map ofByte)]) ++ [AObj.cells 0 .exact (List.replicate 32 (.int .u8 0))]) 32 (.ptr ⟨(H ++ [AObj.cells 0 .exact (a.map ofByte)]).length, 0, 0⟩) v9) fun H10 => H10 = (H ++ [AObj.cells 0 .exact (a.map ofByte)]) ++ [AObj.cells 0 .exact (List.replicate 32 (.int .u8 0))]) := by
    intro _
    refine vb_i zero32_build ?_
    unfold zero32
    with_reducible refine sb_i (store_new List.length_replicate List.length_replicate (cells_rep _ _ _)) ?_
    rfl
  refine JoinP.mk (fun e vs B => B = (H ++ [AObj.cells 0 .exact (a.map ofByte)]) ++ [AObj.cells 0 .exact (List.replicate 32 (.int .u8 0))] ∧ ((e = .ret ∧ vs = [.int .i64 6] ∧ ¬ good l) ∨ (e = .normal ∧ l.length ≠ 0 ∧ l.length ≤ 80))) ?_ ?_
  · refine vb_lenN hw ?_
    repeat with_reducible first
    | refine isB_T ?_
    | refine isB_F ?_
    | (refine isB_ct ?_ ?_; (· first | omega | rfl | assumption | trivial))
    | (refine isB_cf ?_ ?_; (· first | omega | assumption))
    | refine onE_i ?_
    | (refine onE_s ?_ ?_; (· decide))
    | refine vb_i e_ext0 ?_
    | refine vb_i e_ext1 ?_
    | refine vb_i e_ext2 ?_
    | refine vb_i (lss64 _ _ _) ?_
    | refine vb_i (leq64 _ _ _) ?_
    | refine vb_i (gtr64 _ _ _) ?_
    | refine vb_i (geq64 _ _ _) ?_
    | refine vb_i (eql64 _ _ _) ?_
    | refine vb_i (neq64 _ _ _) ?_
    | refine vb_i (eqls _ _) ?_
    | refine vb_i (neqs _ _) ?_
    | (refine vb_i (add64 ?_ ?_) ?_; (· omega); (· omega))
    | (refine vb_i (sub64 ?_ ?_) ?_; (· omega); (· omega))
    | (refine vb_i (mul64 ?_ ?_) ?_; (· omega); (· omega))
    | (refine vb_i (quo64 ?_ ?_ ?_) ?_; (· omega); (· omega); (· omega))
    | (refine vb_i (rem64 ?_ ?_) ?_; (· omega); (· omega))
    | refine vb_i (e_lenSt _) ?_
    | refine vb_i (e_lenSl _ _ _) ?_
    | refine vb_i e_lenNil ?_
    | refine vb_i (lenSl_view (by assumption)) ?_
    | refine vb_i (e_ptrNil _ _) ?_
    | refine vb_i (e_ptrNilN _ _) ?_
    | refine vb_i (e_nilNil _) ?_
    | refine vb_i (e_nilNilN _) ?_
    | refine vb_i (e_pickT _ _) ?_
    | refine vb_i (e_pickF _ _) ?_
    | refine vb_i e_notd ?_
    | refine vb_i e_boolNe ?_
    | refine vb_i e_boolEq ?_
    | refine vb_i (e_not _) ?_
    | refine vb_i (e_nilCheck _) ?_
    | refine vb_i (e_fieldAddr _ _) ?_
    | refine hb_i (e_alloc _ _) ?_
    | (refine vb_i (adds ?_) ?_; (· first | omega | (simp only [List.length_cons, List.length_nil, List.length_append]; omega)))
    refine isB_c (fun h1 => ?_) (fun h1 => ?_)
    · refine vb_i zero32_build ?_
      unfold zero32
      with_reducible refine sb_i (store_new List.length_replicate List.length_replicate (cells_rep _ _ _)) ?_
      exact ⟨rfl, .inl ⟨rfl, rfl, fun hg => hg.1 (by omega)⟩⟩
    · refine vb_lenN hw ?_
      repeat with_reducible first
      | refine isB_T ?_
      | refine isB_F ?_
      | (refine isB_ct ?_ ?_; (· first | omega | rfl | assumption | trivial))
      | (refine isB_cf ?_ ?_; (· first | omega | assumption))
      | refine onE_i ?_
      | (refine onE_s ?_ ?_; (· decide))
      | refine vb_i e_ext0 ?_
      | refine vb_i e_ext1 ?_
      | refine vb_i e_ext2 ?_
      | refine vb_i (lss64 _ _ _) ?_
      | refine vb_i (leq64 _ _ _) ?_
      | refine vb_i (gtr64 _ _ _) ?_
      | refine vb_i (geq64 _ _ _) ?_
      | refine vb_i (eql64 _ _ _) ?_
      | refine vb_i (neq64 _ _ _) ?_
      | refine vb_i (eqls _ _) ?_
      | refine vb_i (neqs _ _) ?_
      | (refine vb_i (add64 ?_ ?_) ?_; (· omega); (· omega))
      | (refine vb_i (sub64 ?_ ?_) ?_; (· omega); (· omega))
      | (refine vb_i (mul64 ?_ ?_) ?_; (· omega); (· omega))
      | (refine vb_i (quo64 ?_ ?_ ?_) ?_; (· omega); (· omega); (· omega))
      | (refine vb_i (rem64 ?_ ?_) ?_; (· omega); (· omega))
      | refine vb_i (e_lenSt _) ?_
      | refine vb_i (e_lenSl _ _ _) ?_
      | refine vb_i e_lenNil ?_
      | refine vb_i (lenSl_view (by assumption)) ?_
      | refine vb_i (e_ptrNil _ _) ?_
      | refine vb_i (e_ptrNilN _ _) ?_
      | refine vb_i (e_nilNil _) ?_
      | refine vb_i (e_nilNilN _) ?_
      | refine vb_i (e_pickT _ _) ?_
      | refine vb_i (e_pickF _ _) ?_
      | refine vb_i e_notd ?_
      | refine vb_i e_boolNe ?_
      | refine vb_i e_boolEq ?_
      | refine vb_i (e_not _) ?_
      | refine vb_i (e_nilCheck _) ?_
      | refine vb_i (e_fieldAddr _ _) ?_
      | refine hb_i (e_alloc _ _) ?_
      | (refine vb_i (adds ?_) ?_; (· first | omega | (simp only [List.length_cons, List.length_nil, List.length_append]; omega)))
      refine isB_c (fun h2 => ?_) (fun h2 => ?_)
      · refine vb_i zero32_build ?_
        unfold zero32
        with_reducible refine sb_i (store_new List.length_replicate List.length_replicate (cells_rep _ _ _)) ?_
        exact ⟨rfl, .inl ⟨rfl, rfl, fun hg => by have := hg.2.1; omega⟩⟩
      · exact ⟨rfl, .inr ⟨rfl, by omega, by omega⟩⟩
  · rintro _ vs B ⟨rfl, ⟨rfl, rfl, hb⟩ | ⟨rfl, hl0, hl80⟩⟩
    · repeat with_reducible first
      | refine isB_T ?_
      | refine isB_F ?_
      | (refine isB_ct ?_ ?_; (· first | omega | rfl | assumption | trivial))
      | (refine isB_cf ?_ ?_; (· first | omega | assumption))
      | refine onE_i ?_
      | (refine onE_s ?_ ?_; (· decide))
      | refine vb_i e_ext0 ?_
      | refine vb_i e_ext1 ?_
      | refine vb_i e_ext2 ?_
      | refine vb_i (lss64 _ _ _) ?_
      | refine vb_i (leq64 _ _ _) ?_
      | refine vb_i (gtr64 _ _ _) ?_
      | refine vb_i (geq64 _ _ _) ?_
      | refine vb_i (eql64 _ _ _) ?_
      | refine vb_i (neq64 _ _ _) ?_
      | refine vb_i (eqls _ _) ?_
      | refine vb_i (neqs _ _) ?_
      | (refine vb_i (add64 ?_ ?_) ?_; (· omega); (· omega))
      | (refine vb_i (sub64 ?_ ?_) ?_; (· omega); (· omega))
      | (refine vb_i (mul64 ?_ ?_) ?_; (· omega); (· omega))
      | (refine vb_i (quo64 ?_ ?_ ?_) ?_; (· omega); (· omega); (· omega))
      | (refine vb_i (rem64 ?_ ?_) ?_; (· omega); (· omega))
      | refine vb_i (e_lenSt _) ?_
      | refine vb_i (e_lenSl _ _ _) ?_
      | refine vb_i e_lenNil ?_
      | refine vb_i (lenSl_view (by assumption)) ?_
      | refine vb_i (e_ptrNil _ _) ?_
      | refine vb_i (e_ptrNilN _ _) ?_
      | refine vb_i (e_nilNil _) ?_
      | refine vb_i (e_nilNilN _) ?_
      | refine vb_i (e_pickT _ _) ?_
      | refine vb_i (e_pickF _ _) ?_
      | refine vb_i e_notd ?_
      | refine vb_i e_boolNe ?_
      | refine vb_i e_boolEq ?_
      | refine vb_i (e_not _) ?_
      | refine vb_i (e_nilCheck _) ?_
      | refine vb_i (e_fieldAddr _ _) ?_
      | refine hb_i (e_alloc _ _) ?_
      | (refine vb_i (adds ?_) ?_; (· first | omega | (simp only [List.length_cons, List.length_nil, List.length_append]; omega)))
      simp only [evB]
      rcases h with ⟨_, rfl, rfl⟩ | ⟨hg, _⟩
      · refine fin_ret (vs := [.agg (List.replicate 32 (.int .u8 0)), .int .i64 6]) (rvs_c (load_new List.length_replicate) (rvs_v (rvs_nil _))) ?_
        exact Weak.any (ren_pair (agg_plain zero32_plain) (ren_p rfl)) p0
      · exact absurd hg hb
    · have hv := hw.at (show 0 < l.length by omega)
      repeat with_reducible first
      | refine isB_T ?_
      | refine isB_F ?_
      | (refine isB_ct ?_ ?_; (· first | omega | rfl | assumption | trivial))
      | (refine isB_cf ?_ ?_; (· first | omega | assumption))
      | refine onE_i ?_
      | (refine onE_s ?_ ?_; (· decide))
      | refine vb_i e_ext0 ?_
      | refine vb_i e_ext1 ?_
      | refine vb_i e_ext2 ?_
      | refine vb_i (lss64 _ _ _) ?_
      | refine vb_i (leq64 _ _ _) ?_
      | refine vb_i (gtr64 _ _ _) ?_
      | refine vb_i (geq64 _ _ _) ?_
      | refine vb_i (eql64 _ _ _) ?_
      | refine vb_i (neq64 _ _ _) ?_
      | refine vb_i (eqls _ _) ?_
      | refine vb_i (neqs _ _) ?_
      | (refine vb_i (add64 ?_ ?_) ?_; (· omega); (· omega))
      | (refine vb_i (sub64 ?_ ?_) ?_; (· omega); (· omega))
      | (refine vb_i (mul64 ?_ ?_) ?_; (· omega); (· omega))
      | (refine vb_i (quo64 ?_ ?_ ?_) ?_; (· omega); (· omega); (· omega))
      | (refine vb_i (rem64 ?_ ?_) ?_; (· omega); (· omega))
      | refine vb_i (e_lenSt _) ?_
      | refine vb_i (e_lenSl _ _ _) ?_
      | refine vb_i e_lenNil ?_
      | refine vb_i (lenSl_view (by assumption)) ?_
      | refine vb_i (e_ptrNil _ _) ?_
      | refine vb_i (e_ptrNilN _ _) ?_
      | refine vb_i (e_nilNil _) ?_
      | refine vb_i (e_nilNilN _) ?_
      | refine vb_i (e_pickT _ _) ?_
      | refine vb_i (e_pickF _ _) ?_
      | refine vb_i e_notd ?_
      | refine vb_i e_boolNe ?_
      | refine vb_i e_boolEq ?_
      | refine vb_i (e_not _) ?_
      | refine vb_i (e_nilCheck _) ?_
      | refine vb_i (e_fieldAddr _ _) ?_
      | refine hb_i (e_alloc _ _) ?_
      | (refine vb_i (adds ?_) ?_; (· first | omega | (simp only [List.length_cons, List.length_nil, List.length_append]; omega)))
      refine hb_i (four_bytes _) ?_
      refine vb_i (mark_new _ _ _) ?_
      refine vb_i (sliceArr_all _ _ _ _) ?_
      have hB0 : ((H ++ [AObj.cells 0 .exact (a.map ofByte)]) ++ [AObj.cells 0 .exact (List.replicate 32 (.int .u8 0))]).length = H.length + 2 := by simp
      generalize hBe : (H ++ [AObj.cells 0 .exact (a.map ofByte)]) ++ [AObj.cells 0 .exact (List.replicate 32 (.int .u8 0))] = B0 at *
      have g0 : B0[H.length]? = some (.cells 0 .exact (a.map ofByte)) := by rw [e0, app_get0]; rfl
      have g1 : B0[H.length + 1]? = some (.cells 0 .exact (List.replicate 32 (.int .u8 0))) := by rw [e0, app_get]; rfl
      have hHl : (H ++ [AObj.cells 0 .exact (a.map ofByte)]).length = H.length + 1 := by simp
      rw [hHl]
      have ow : Own (B0 ++ [AObj.cells 0 .exact (([110, 101, 120, 116] : List UInt8).map ofByte)]) (.slice ⟨B0.length, 0, 0⟩ 4 (.ex 4)) 1 4 (([110, 101, 120, 116] : List UInt8).map ofByte) := ⟨rfl, .inr (.inl ⟨B0.length, 0, rfl, app_get0 _ _⟩)⟩
      have pB : B0 <+: B0 ++ [AObj.cells 0 .exact (([110, 101, 120, 116] : List UInt8).map ofByte)] := pre_app _ _
      have vwa : View (B0 ++ [AObj.cells 0 .exact (([110, 101, 120, 116] : List UInt8).map ofByte)]) (.slice ⟨H.length, 0, 0⟩ 32 (.ex 32)) 1 32 (a.map ofByte) := view_ex (by rw [pre_get pB (by omega)]; exact g0) (by simp [ha])
      refine append_view ow (by decide) vwa (cells_byte a) (by simp only [room]; omega) (by simp only [room]; omega) fun sv B1 ow1 kp hid => ?_
      have hid1 : ∀ k, slId sv = some k → H.length + 2 ≤ k := fun k hk => by
        rcases hid with e | e
        · rw [e] at hk; simp only [slId, Option.some.injEq] at hk; omega
        · rw [e] at hk; cases hk; simp; omega
      have kp1 : ∀ k, k < H.length + 2 → B1[k]? = B0[k]? := fun k hk => by
        rw [kp.get k (by simp; omega) (by simp only [slId]; intro e; cases e; omega), pre_get pB (by omega)]
      have hB1l : H.length + 2 ≤ B1.length := by have := kp.len; simp at this; omega
      refine hb_i (e_alloc _ _) ?_
      have sc := slice_cell ow1
      refine sb_i (H := B1 ++ [AObj.cells 0 .exact [sv]]) ?_ ?_
      · rw [e_store1 (v := 0) (kd := .exact) (cs := [.nils]) (app_get0 _ _) (by decide) sc.1 (by simp) sc.2, app_set0]; rfl
      repeat with_reducible first
      | refine isB_T ?_
      | refine isB_F ?_
      | (refine isB_ct ?_ ?_; (· first | omega | rfl | assumption | trivial))
      | (refine isB_cf ?_ ?_; (· first | omega | assumption))
      | refine onE_i ?_
      | (refine onE_s ?_ ?_; (· decide))
      | refine vb_i e_ext0 ?_
      | refine vb_i e_ext1 ?_
      | refine vb_i e_ext2 ?_
      | refine vb_i (lss64 _ _ _) ?_
      | refine vb_i (leq64 _ _ _) ?_
      | refine vb_i (gtr64 _ _ _) ?_
      | refine vb_i (geq64 _ _ _) ?_
      | refine vb_i (eql64 _ _ _) ?_
      | refine vb_i (neq64 _ _ _) ?_
      | refine vb_i (eqls _ _) ?_
      | refine vb_i (neqs _ _) ?_
      | (refine vb_i (add64 ?_ ?_) ?_; (· omega); (· omega))
      | (refine vb_i (sub64 ?_ ?_) ?_; (· omega); (· omega))
      | (refine vb_i (mul64 ?_ ?_) ?_; (· omega); (· omega))
      | (refine vb_i (quo64 ?_ ?_ ?_) ?_; (· omega); (· omega); (· omega))
      | (refine vb_i (rem64 ?_ ?_) ?_; (· omega); (· omega))
      | refine vb_i (e_lenSt _) ?_
      | refine vb_i (e_lenSl _ _ _) ?_
      | refine vb_i e_lenNil ?_
      | refine vb_i (lenSl_view (by assumption)) ?_
      | refine vb_i (e_ptrNil _ _) ?_
      | refine vb_i (e_ptrNilN _ _) ?_
      | refine vb_i (e_nilNil _) ?_
      | refine vb_i (e_nilNilN _) ?_
      | refine vb_i (e_pickT _ _) ?_
      | refine vb_i (e_pickF _ _) ?_
      | refine vb_i e_notd ?_
      | refine vb_i e_boolNe ?_
      | refine vb_i e_boolEq ?_
      | refine vb_i (e_not _) ?_
      | refine vb_i (e_nilCheck _) ?_
      | refine vb_i (e_fieldAddr _ _) ?_
      | refine hb_i (e_alloc _ _) ?_
      | (refine vb_i (adds ?_) ?_; (· first | omega | (simp only [List.length_cons, List.length_nil, List.length_append]; omega)))
      clear badz
      refine LoopP.ruleG (α := Nat) (fun i => [.int .i64 i])
        (fun i C => i ≤ l.length ∧ H.length + 2 ≤ C.length ∧ (∀ k, k < H.length + 2 → C[k]? = B0[k]?) ∧ (∀ k, k < i → (l.getD k []).length = 64) ∧ ∃ sv, C[B1.length]? = some (.cells 0 .exact [sv]) ∧ slId sv ≠ some B1.length ∧ (∀ k, slId sv = some k → H.length + 2 ≤ k) ∧
          Own C sv 1 (36 + 64 * i) ((([110, 101, 120, 116] ++ a) ++ (l.take i).flatten).map ofByte)) (fun i => l.length - i) 0 rfl ⟨Nat.zero_le _, by simp; omega, fun k hk => by rw [List.getElem?_append_left (by omega)]; exact kp1 k hk, fun k hk => by omega, sv, by simp, ?_, hid1, ?_⟩ ?_
      · intro e; have := ow1.lt e; omega
      · have := ow1.pre (pre_app B1 [AObj.cells 0 .exact [sv]])
        simp only [List.take_zero, List.flatten_nil, List.append_nil, Nat.mul_zero, Nat.add_zero]
        rw [List.map_append]
        exact this
      · rintro i C Kn ⟨hi, hCl, hCk, h64, sw, hC1, hC2, hC3, hC4⟩ hn
        have pC : H <+: C := pre_of_get (by omega) fun k hk => by
          rw [hCk k (by omega), e0, List.getElem?_append_left hk]
        have gC1 : C[H.length + 1]? = some (.cells 0 .exact (List.replicate 32 (.int .u8 0))) := by rw [hCk _ (by omega)]; exact g1
        unfold chain_Next.L6 chain_Next.L6.b
        simp only [evB]
        by_cases hil : i < l.length
        · obtain ⟨q, q1, q2⟩ := strs_at hv hil pC
          have hsm := getD_mem hil
          have hsl := hN.hs _ hsm
          repeat with_reducible first
          | refine isB_T ?_
          | refine isB_F ?_
          | (refine isB_ct ?_ ?_; (· first | omega | rfl | assumption | trivial))
          | (refine isB_cf ?_ ?_; (· first | omega | assumption))
          | refine onE_i ?_
          | (refine onE_s ?_ ?_; (· decide))
          | refine vb_i e_ext0 ?_
          | refine vb_i e_ext1 ?_
          | refine vb_i e_ext2 ?_
          | refine vb_i (lss64 _ _ _) ?_
          | refine vb_i (leq64 _ _ _) ?_
          | refine vb_i (gtr64 _ _ _) ?_
          | refine vb_i (geq64 _ _ _) ?_
          | refine vb_i (eql64 _ _ _) ?_
          | refine vb_i (neq64 _ _ _) ?_
          | refine vb_i (eqls _ _) ?_
          | refine vb_i (neqs _ _) ?_
          | (refine vb_i (add64 ?_ ?_) ?_; (· omega); (· omega))
          | (refine vb_i (sub64 ?_ ?_) ?_; (· omega); (· omega))
          | (refine vb_i (mul64 ?_ ?_) ?_; (· omega); (· omega))
          | (refine vb_i (quo64 ?_ ?_ ?_) ?_; (· omega); (· omega); (· omega))
          | (refine vb_i (rem64 ?_ ?_) ?_; (· omega); (· omega))
          | refine vb_i (e_lenSt _) ?_
          | refine vb_i (e_lenSl _ _ _) ?_
          | refine vb_i e_lenNil ?_
          | refine vb_i (lenSl_view (by assumption)) ?_
          | refine vb_i (e_ptrNil _ _) ?_
          | refine vb_i (e_ptrNilN _ _) ?_
          | refine vb_i (e_nilNil _) ?_
          | refine vb_i (e_nilNilN _) ?_
          | refine vb_i (e_pickT _ _) ?_
          | refine vb_i (e_pickF _ _) ?_
          | refine vb_i e_notd ?_
          | refine vb_i e_boolNe ?_
          | refine vb_i e_boolEq ?_
          | refine vb_i (e_not _) ?_
          | refine vb_i (e_nilCheck _) ?_
          | refine vb_i (e_fieldAddr _ _) ?_
          | refine hb_i (e_alloc _ _) ?_
          | (refine vb_i (adds ?_) ?_; (· first | omega | (simp only [List.length_cons, List.length_nil, List.length_append]; omega)))
          refine vb_i q1 (vb_i q2 ?_)
          obtain ⟨sv', D, a1, a2, a3, a4⟩ := str_append (s := l.getD i []) hC4 (by simp only [room]; omega)
          have sc' := slice_cell a2
          have hCB := lt_of_some hC1
          have hD1 : D[B1.length]? = some (.cells 0 .exact [sw]) := by rw [a3.get _ hCB hC2]; exact hC1
          refine cb_i _ _ ⟨_, _, sw, sv', D, rfl, hC1, a1, hD1, sc'.1, sc'.2, rfl, rfl⟩ ?_
          have hDl := a3.len
          have hDk : ∀ k, k < H.length + 2 → (D.set B1.length (.cells 0 .exact [sv']))[k]? = B0[k]? := fun k hk => by
            rw [List.getElem?_set_ne (by omega), a3.get k (by omega) (fun e => by have := hC3 k e; omega)]
            exact hCk k hk
          by_cases hs : (l.getD i []).length = 64
          · repeat with_reducible first
            | refine isB_T ?_
            | refine isB_F ?_
            | (refine isB_ct ?_ ?_; (· first | omega | rfl | assumption | trivial))
            | (refine isB_cf ?_ ?_; (· first | omega | assumption))
            | refine onE_i ?_
            | (refine onE_s ?_ ?_; (· decide))
            | refine vb_i e_ext0 ?_
            | refine vb_i e_ext1 ?_
            | refine vb_i e_ext2 ?_
            | refine vb_i (lss64 _ _ _) ?_
            | refine vb_i (leq64 _ _ _) ?_
            | refine vb_i (gtr64 _ _ _) ?_
            | refine vb_i (geq64 _ _ _) ?_
            | refine vb_i (eql64 _ _ _) ?_
            | refine vb_i (neq64 _ _ _) ?_
            | refine vb_i (eqls _ _) ?_
            | refine vb_i (neqs _ _) ?_
            | (refine vb_i (add64 ?_ ?_) ?_; (· omega); (· omega))
            | (refine vb_i (sub64 ?_ ?_) ?_; (· omega); (· omega))
            | (refine vb_i (mul64 ?_ ?_) ?_; (· omega); (· omega))
            | (refine vb_i (quo64 ?_ ?_ ?_) ?_; (· omega); (· omega); (· omega))
            | (refine vb_i (rem64 ?_ ?_) ?_; (· omega); (· omega))
            | refine vb_i (e_lenSt _) ?_
            | refine vb_i (e_lenSl _ _ _) ?_
            | refine vb_i e_lenNil ?_
            | refine vb_i (lenSl_view (by assumption)) ?_
            | refine vb_i (e_ptrNil _ _) ?_
            | refine vb_i (e_ptrNilN _ _) ?_
            | refine vb_i (e_nilNil _) ?_
            | refine vb_i (e_nilNilN _) ?_
            | refine vb_i (e_pickT _ _) ?_
            | refine vb_i (e_pickF _ _) ?_
            | refine vb_i e_notd ?_
            | refine vb_i e_boolNe ?_
            | refine vb_i e_boolEq ?_
            | refine vb_i (e_not _) ?_
            | refine vb_i (e_nilCheck _) ?_
            | refine vb_i (e_fieldAddr _ _) ?_
            | refine hb_i (e_alloc _ _) ?_
            | (refine vb_i (adds ?_) ?_; (· first | omega | (simp only [List.length_cons, List.length_nil, List.length_append]; omega)))
            refine hn (i + 1) _ ⟨by omega, by simp; omega, hDk, fun k hk => ?_, sv', by rw [List.getElem?_set_self (by omega)], ?_, ?_, ?_⟩ (by omega)
            · by_cases e : k = i
              · subst e; exact hs
              · exact h64 k (by omega)
            · rcases a4 with e | e
              · rw [e]; exact hC2
              · rw [e]; simp only [ne_eq, Option.some.injEq]; omega
            · intro k hk
              rcases a4 with e | e
              · exact hC3 k (by rw [← e]; exact hk)
              · rw [e] at hk; cases hk; omega
            · have hne : slId sv' ≠ some B1.length := by
                rcases a4 with e | e
                · rw [e]; exact hC2
                · rw [e]; simp only [ne_eq, Option.some.injEq]; omega
              rw [hs] at a2
              have := a2.set hne (.cells 0 .exact [sv'])
              rw [flat_take hil, ← List.append_assoc, List.map_append]
              have e36 : 36 + 64 * (i + 1) = 36 + 64 * i + 64 := by omega
              rw [e36]
              exact this
          · have hng : ¬ good l := fun hg => hs (hg.2.2 _ hsm)
            repeat with_reducible first
            | refine isB_T ?_
            | refine isB_F ?_
            | (refine isB_ct ?_ ?_; (· first | omega | rfl | assumption | trivial))
            | (refine isB_cf ?_ ?_; (· first | omega | assumption))
            | refine onE_i ?_
            | (refine onE_s ?_ ?_; (· decide))
            | refine vb_i e_ext0 ?_
            | refine vb_i e_ext1 ?_
            | refine vb_i e_ext2 ?_
            | refine vb_i (lss64 _ _ _) ?_
            | refine vb_i (leq64 _ _ _) ?_
            | refine vb_i (gtr64 _ _ _) ?_
            | refine vb_i (geq64 _ _ _) ?_
            | refine vb_i (eql64 _ _ _) ?_
            | refine vb_i (neq64 _ _ _) ?_
            | refine vb_i (eqls _ _) ?_
            | refine vb_i (neqs _ _) ?_
            | (refine vb_i (add64 ?_ ?_) ?_; (· omega); (· omega))
            | (refine vb_i (sub64 ?_ ?_) ?_; (· omega); (· omega))
            | (refine vb_i (mul64 ?_ ?_) ?_; (· omega); (· omega))
            | (refine vb_i (quo64 ?_ ?_ ?_) ?_; (· omega); (· omega); (· omega))
            | (refine vb_i (rem64 ?_ ?_) ?_; (· omega); (· omega))
            | refine vb_i (e_lenSt _) ?_
            | refine vb_i (e_lenSl _ _ _) ?_
            | refine vb_i e_lenNil ?_
            | refine vb_i (lenSl_view (by assumption)) ?_
            | refine vb_i (e_ptrNil _ _) ?_
            | refine vb_i (e_ptrNilN _ _) ?_
            | refine vb_i (e_nilNil _) ?_
            | refine vb_i (e_nilNilN _) ?_
            | refine vb_i (e_pickT _ _) ?_
            | refine vb_i (e_pickF _ _) ?_
            | refine vb_i e_notd ?_
            | refine vb_i e_boolNe ?_
            | refine vb_i e_boolEq ?_
            | refine vb_i (e_not _) ?_
            | refine vb_i (e_nilCheck _) ?_
            | refine vb_i (e_fieldAddr _ _) ?_
            | refine hb_i (e_alloc _ _) ?_
            | (refine vb_i (adds ?_) ?_; (· first | omega | (simp only [List.length_cons, List.length_nil, List.length_append]; omega)))
            refine vb_i zero32_build ?_
            unfold zero32
            have gD : (D.set B1.length (.cells 0 .exact [sv']))[H.length + 1]? = some (.cells 0 .exact (List.replicate 32 (.int .u8 0))) := by rw [hDk _ (by omega)]; exact g1
            refine sb_i (store32 gD List.length_replicate List.length_replicate (cells_rep _ _ _)) ?_
            repeat with_reducible first
            | refine isB_T ?_
            | refine isB_F ?_
            | (refine isB_ct ?_ ?_; (· first | omega | rfl | assumption | trivial))
            | (refine isB_cf ?_ ?_; (· first | omega | assumption))
            | refine onE_i ?_
            | (refine onE_s ?_ ?_; (· decide))
            | refine vb_i e_ext0 ?_
            | refine vb_i e_ext1 ?_
            | refine vb_i e_ext2 ?_
            | refine vb_i (lss64 _ _ _) ?_
            | refine vb_i (leq64 _ _ _) ?_
            | refine vb_i (gtr64 _ _ _) ?_
            | refine vb_i (geq64 _ _ _) ?_
            | refine vb_i (eql64 _ _ _) ?_
            | refine vb_i (neq64 _ _ _) ?_
            | refine vb_i (eqls _ _) ?_
            | refine vb_i (neqs _ _) ?_
            | (refine vb_i (add64 ?_ ?_) ?_; (· omega); (· omega))
            | (refine vb_i (sub64 ?_ ?_) ?_; (· omega); (· omega))
            | (refine vb_i (mul64 ?_ ?_) ?_; (· omega); (· omega))
            | (refine vb_i (quo64 ?_ ?_ ?_) ?_; (· omega); (· omega); (· omega))
            | (refine vb_i (rem64 ?_ ?_) ?_; (· omega); (· omega))
            | refine vb_i (e_lenSt _) ?_
            | refine vb_i (e_lenSl _ _ _) ?_
            | refine vb_i e_lenNil ?_
            | refine vb_i (lenSl_view (by assumption)) ?_
            | refine vb_i (e_ptrNil _ _) ?_
            | refine vb_i (e_ptrNilN _ _) ?_
            | refine vb_i (e_nilNil _) ?_
            | refine vb_i (e_nilNilN _) ?_
            | refine vb_i (e_pickT _ _) ?_
            | refine vb_i (e_pickF _ _) ?_
            | refine vb_i e_notd ?_
            | refine vb_i e_boolNe ?_
            | refine vb_i e_boolEq ?_
            | refine vb_i (e_not _) ?_
            | refine vb_i (e_nilCheck _) ?_
            | refine vb_i (e_fieldAddr _ _) ?_
            | refine hb_i (e_alloc _ _) ?_
            | (refine vb_i (adds ?_) ?_; (· first | omega | (simp only [List.length_cons, List.length_nil, List.length_append]; omega)))
            try simp only [evB]
            rcases h with ⟨_, rfl, rfl⟩ | ⟨hg, _⟩
            · refine fin_ret (vs := [.agg (List.replicate 32 (.int .u8 0)), .int .i64 6]) (rvs_c (e_loadAll (by rw [List.getElem?_set_self (by simp; omega)]) List.length_replicate) (rvs_v (rvs_nil _))) ?_
              refine Weak.any (ren_pair (agg_plain zero32_plain) (ren_p rfl)) (pre_of_get (by simp; omega) fun k hk => ?_)
              rw [List.getElem?_set_ne (by omega), hDk k (by omega), e0, List.getElem?_append_left hk]
            · exact absurd hg hng
        · have hie : i = l.length := by omega
          subst hie
          have hgood : good l := ⟨hl0, hl80, fun s hs => by
            obtain ⟨k, hk, rfl⟩ := List.getElem_of_mem hs
            have := h64 k hk
            rwa [List.getD_eq_getElem?_getD, List.getElem?_eq_getElem hk] at this⟩
          rcases h with ⟨hg, _⟩ | ⟨_, rfl, h⟩
          · exact absurd hgood hg
          rw [List.take_length] at hC4
          have htl : (nextT a l).length ≤ 1099511627776 := by
            have := hC4.1
            simp only [List.length_map] at this
            simp only [nextT]; omega
          obtain ⟨L, rfl⟩ := pC
          have hLl : 2 ≤ L.length := by simp at hCl; omega
          obtain ⟨C2, hO, hL, hl2, hW⟩ := sums_call h (by simpa using htl) L
          have hL1 := hL 1 (by omega)
          rw [app_get] at gC1
          rw [gC1] at hL1
          have hsl := sum_len (nextT a l)
          repeat with_reducible first
          | refine isB_T ?_
          | refine isB_F ?_
          | (refine isB_ct ?_ ?_; (· first | omega | rfl | assumption | trivial))
          | (refine isB_cf ?_ ?_; (· first | omega | assumption))
          | refine onE_i ?_
          | (refine onE_s ?_ ?_; (· decide))
          | refine vb_i e_ext0 ?_
          | refine vb_i e_ext1 ?_
          | refine vb_i e_ext2 ?_
          | refine vb_i (lss64 _ _ _) ?_
          | refine vb_i (leq64 _ _ _) ?_
          | refine vb_i (gtr64 _ _ _) ?_
          | refine vb_i (geq64 _ _ _) ?_
          | refine vb_i (eql64 _ _ _) ?_
          | refine vb_i (neq64 _ _ _) ?_
          | refine vb_i (eqls _ _) ?_
          | refine vb_i (neqs _ _) ?_
          | (refine vb_i (add64 ?_ ?_) ?_; (· omega); (· omega))
          | (refine vb_i (sub64 ?_ ?_) ?_; (· omega); (· omega))
          | (refine vb_i (mul64 ?_ ?_) ?_; (· omega); (· omega))
          | (refine vb_i (quo64 ?_ ?_ ?_) ?_; (· omega); (· omega); (· omega))
          | (refine vb_i (rem64 ?_ ?_) ?_; (· omega); (· omega))
          | refine vb_i (e_lenSt _) ?_
          | refine vb_i (e_lenSl _ _ _) ?_
          | refine vb_i e_lenNil ?_
          | refine vb_i (lenSl_view (by assumption)) ?_
          | refine vb_i (e_ptrNil _ _) ?_
          | refine vb_i (e_ptrNilN _ _) ?_
          | refine vb_i (e_nilNil _) ?_
          | refine vb_i (e_nilNilN _) ?_
          | refine vb_i (e_pickT _ _) ?_
          | refine vb_i (e_pickF _ _) ?_
          | refine vb_i e_notd ?_
          | refine vb_i e_boolNe ?_
          | refine vb_i e_boolEq ?_
          | refine vb_i (e_not _) ?_
          | refine vb_i (e_nilCheck _) ?_
          | refine vb_i (e_fieldAddr _ _) ?_
          | refine hb_i (e_alloc _ _) ?_
          | (refine vb_i (adds ?_) ?_; (· first | omega | (simp only [List.length_cons, List.length_nil, List.length_append]; omega)))
          refine vb_i (e_load1 hC1 (by simp)) ?_
          refine vb_i (bytes_str hC4.view) ?_
          refine cb_i _ _ ⟨o, nextT a l, rfl, htl, rfl, hO⟩ ?_
          refine sb_i (store32 hL1 List.length_replicate (by rw [List.length_map]; exact hsl) (cells_byte _)) ?_
          refine fin_ret (vs := [.agg ((sum (nextT a l)).map ofByte), .int .i64 0]) (rvs_c (e_loadAll (by rw [List.getElem?_set_self (by omega)]) (by simp [hsl])) (rvs_v (rvs_nil _))) ?_
          exact hW _ _ _ (by simp; omega) (fun j _ hj => List.getElem?_set_ne (by omega)) (ren_pair (agg_plain (bytes_plain _)) (ren_p rfl))
end Go.Sh

/- Along rows. -/
namespace Go.Sh
open Go Go.Abs

/-- A function that lets an oracle sum, on its way: 'done' has been summed; the places 'own' are its own. -/
def Run (H : AHeap) (o : AVal) (ss : List (List UInt8)) (H' : AHeap) (C : AHeap) (own : Nat → Prop) (done : List (List UInt8)) : Prop :=
  (∀ k, own k → H.length ≤ k ∧ k < C.length) ∧
  ((o = .nilp ∧ H' = H ∧ H <+: C) ∨ ∃ i v m mv lv T mv' lv', o = .ptr ⟨i, v, 0⟩ ∧ T.length + ss.length ≤ 1073741824 ∧ H' = oset H i v m mv lv T (keepTs T ss) ∧ OInv H i v m mv lv T C mv' lv' (keepTs T done) ∧ (∀ k, own k → slId lv' ≠ some k))

section
variable {H : AHeap} {o : AVal} {ss : List (List UInt8)} {H' C : AHeap} {own : Nat → Prop} {done : List (List UInt8)}

theorem Run.start (h : Osums H o ss H') : Run H o ss H' H (fun _ => False) [] := by
  refine ⟨fun k h => h.elim, ?_⟩
  rcases h with ⟨h1, h2⟩ | ⟨i, v, m, mv, lv, T, h1, h2, h3, h4⟩
  · exact .inl ⟨h1, h2, List.prefix_refl _⟩
  · exact .inr ⟨i, v, m, mv, lv, T, mv, lv, h1, h3, h4, OInv.refl h2, fun k h => h.elim⟩
theorem Run.len (h : Run H o ss H' C own done) : H.length ≤ C.length := by
  rcases h.2 with ⟨_, _, p⟩ | ⟨_, _, _, _, _, _, _, _, _, _, _, h, _⟩
  · exact p.length_le
  · exact h.len
theorem Run.push (h : Run H o ss H' C own done) (L : AHeap) : Run H o ss H' (C ++ L) (fun k => own k ∨ (C.length ≤ k ∧ k < C.length + L.length)) done := by
  have hl := h.len
  refine ⟨fun k hk => ?_, ?_⟩
  · rcases hk with hk | hk
    · have := h.1 k hk; simp; omega
    · simp; omega
  · rcases h.2 with ⟨h1, h2, p⟩ | ⟨i, v, m, mv, lv, T, mv', lv', h1, h2, h3, h4, h5⟩
    · exact .inl ⟨h1, h2, p.trans (pre_app _ _)⟩
    · refine .inr ⟨i, v, m, mv, lv, T, mv', lv', h1, h2, h3, h4.pre (pre_app _ _), fun k hk e => ?_⟩
      rcases hk with hk | hk
      · exact h5 k hk e
      · have := h4.rep.slt e; omega
theorem Run.set (h : Run H o ss H' C own done) {a : Nat} (ha : own a) (ob : AObj) : Run H o ss H' (C.set a ob) own done := by
  have h1a := h.1 a ha
  refine ⟨fun k hk => by rw [List.length_set]; exact h.1 k hk, ?_⟩
  rcases h.2 with ⟨h1, h2, p⟩ | ⟨i, v, m, mv, lv, T, mv', lv', h1, h2, h3, h4, h5⟩
  · exact .inl ⟨h1, h2, pre_set p h1a.1 _⟩
  · exact .inr ⟨i, v, m, mv, lv, T, mv', lv', h1, h2, h3, h4.set h1a.1 (h5 a ha) ob, h5⟩
theorem Run.weaken {own' : Nat → Prop} (h : Run H o ss H' C own done) (hw : ∀ k, own' k → own k) : Run H o ss H' C own' done := by
  refine ⟨fun k hk => h.1 k (hw k hk), ?_⟩
  rcases h.2 with h1 | ⟨i, v, m, mv, lv, T, mv', lv', h1, h2, h3, h4, h5⟩
  · exact .inl h1
  · exact .inr ⟨i, v, m, mv, lv, T, mv', lv', h1, h2, h3, h4, fun k hk => h5 k (hw k hk)⟩
theorem Run.call (h : Run H o ss H' C own done) {ts : List (List UInt8)} (hl : done.length + ts.length ≤ ss.length) (hs : ∀ s ∈ ts, s.length ≤ 1099511627776) :
    ∃ C2, Osums C o ts C2 ∧ Run H o ss H' C2 own (done ++ ts) ∧ C.length ≤ C2.length ∧ ∀ k, own k → C2[k]? = C[k]? := by
  rcases h.2 with ⟨h1, h2, p⟩ | ⟨i, v, m, mv, lv, T, mv', lv', rfl, h2, h3, h4, h5⟩
  · exact ⟨C, .inl ⟨h1, rfl⟩, ⟨h.1, .inl ⟨h1, h2, p⟩⟩, Nat.le_refl _, fun _ _ => rfl⟩
  · have hk := keepTs_len done T
    obtain ⟨C2, mv2, lv2, hO, hI, hl2, hf⟩ := h4.sums (ss := ts) (by omega) hs
    refine ⟨C2, hO, ⟨fun k hk => ⟨(h.1 k hk).1, Nat.lt_of_lt_of_le (h.1 k hk).2 hl2⟩, .inr ⟨i, v, m, mv, lv, T, mv2, lv2, rfl, h2, h3, ?_, fun k hk => (hf k (h.1 k hk).2 (h.1 k hk).1 (h5 k hk)).2⟩⟩, hl2, fun k hk => (hf k (h.1 k hk).2 (h.1 k hk).1 (h5 k hk)).1⟩
    rw [keepTs_app]; exact hI
theorem Run.fin (h : Run H o ss H' C own ss) {r r1 : AVal} (hr : ∀ ρ σ n, Ren ρ σ n r r1) : Weak H r1 C r H' := by
  rcases h.2 with ⟨h1, rfl, p⟩ | ⟨i, v, m, mv, lv, T, mv', lv', rfl, h2, rfl, h4, h5⟩
  · exact Weak.cells (hr _ _ _) p
  · exact h4.weak fun ρ σ n _ _ => hr ρ σ n
/-- What is not touched. -/
theorem Run.keep (h : Run H o ss H' C own done) {k : Nat} (hk : k < H.length) (hu : Untouched H o k) : C[k]? = H[k]? := by
  rcases h.2 with ⟨h1, rfl, p⟩ | ⟨i, v, m, mv, lv, T, mv', lv', rfl, h2, h3, h4, h5⟩
  · exact pre_get p hk
  · obtain ⟨u1, u2, u3⟩ := hu i v m lv rfl h4.src.cell
    exact h4.keep k hk u1 u2 u3
end

theorem View.at {B C : AHeap} {x : AVal} {es n : Nat} {cs : List AVal} (h : View B x es n cs) (hk : ∀ k, slId x = some k → k < B.length → C[k]? = B[k]?) : View C x es n cs := by
  refine ⟨h.1, ?_⟩
  rcases h.2 with h1 | ⟨i, v, off, c, kd, cs', rfl, h2, h3⟩
  · exact .inl h1
  · exact .inr ⟨i, v, off, c, kd, cs', rfl, by rw [hk i rfl (lt_of_some h2)]; exact h2, h3⟩

theorem alongR_len : ∀ {rows : List (List (List UInt8))} {a b : List UInt8}, a.length = 32 → alongR a rows = some b → b.length = 32
  | [], a, b, ha, h => by simp only [alongR, Option.some.injEq] at h; subst h; exact ha
  | l :: rows, a, b, ha, h => by
    simp only [alongR] at h
    split at h
    · exact alongR_len (sum_len _) h
    · cases h

theorem good_short {a : List UInt8} {l : List (List UInt8)} (ha : a.length = 32) (h : good l) : (nextT a l).length ≤ 1099511627776 := by
  have := flat_len h.2.2
  have := h.2.1
  simp only [nextT, List.length_append, List.length_cons, List.length_nil]
  omega

theorem chain_Along.ok (args : List AVal) (H : AHeap) (r : AVal) (H' : AHeap) (h : S_chain_Along args H r H') : ∃ x0 x1 x2, args = [x0, x1, x2] ∧ chain_Along.w x0 x1 x2 H fun r1 H1 => Weak H r1 H1 r H' := by
  obtain ⟨o, x, a, svs, rows, rfl, ha, hR, hr, h⟩ := h
  refine ⟨_, _, _, rfl, ?_⟩
  unfold chain_Along.w
  have hl := hR.hl
  have hv := hR.v
  have hcl : (AVal.agg (a.map ofByte)).cells = a.map ofByte := rfl
  refine hb_i (e_box rfl) ?_
  rw [hcl]
  refine hb_i (e_alloc _ _) ?_
  have e0 : (H ++ [AObj.cells 0 .exact (a.map ofByte)]) ++ [AObj.cells 0 .exact (List.replicate 32 (.int .u8 0))] = H ++ [AObj.cells 0 .exact (a.map ofByte), AObj.cells 0 .exact (List.replicate 32 (.int .u8 0))] := by rw [List.append_assoc]; rfl
  have hHl : (H ++ [AObj.cells 0 .exact (a.map ofByte)]).length = H.length + 1 := by simp
  rw [hHl, e0]
  repeat with_reducible first
  | refine isB_T ?_
  | refine isB_F ?_
  | (refine isB_ct ?_ ?_; (· first | omega | rfl | assumption | trivial))
  | (refine isB_cf ?_ ?_; (· first | omega | assumption))
  | refine onE_i ?_
  | (refine onE_s ?_ ?_; (· decide))
  | refine vb_i e_ext0 ?_
  | refine vb_i e_ext1 ?_
  | refine vb_i e_ext2 ?_
  | refine vb_i (lss64 _ _ _) ?_
  | refine vb_i (leq64 _ _ _) ?_
  | refine vb_i (gtr64 _ _ _) ?_
  | refine vb_i (geq64 _ _ _) ?_
  | refine vb_i (eql64 _ _ _) ?_
  | refine vb_i (neq64 _ _ _) ?_
  | refine vb_i (eqls _ _) ?_
  | refine vb_i (neqs _ _) ?_
  | (refine vb_i (add64 ?_ ?_) ?_; (· omega); (· omega))
  | (refine vb_i (sub64 ?_ ?_) ?_; (· omega); (· omega))
  | (refine vb_i (mul64 ?_ ?_) ?_; (· omega); (· omega))
  | (refine vb_i (quo64 ?_ ?_ ?_) ?_; (· omega); (· omega); (· omega))
  | (refine vb_i (rem64 ?_ ?_) ?_; (· omega); (· omega))
  | refine vb_i (e_lenSt _) ?_
  | refine vb_i (e_lenSl _ _ _) ?_
  | refine vb_i e_lenNil ?_
  | refine vb_i (lenSl_view (by assumption)) ?_
  | refine vb_i (e_ptrNil _ _) ?_
  | refine vb_i (e_ptrNilN _ _) ?_
  | refine vb_i (e_nilNil _) ?_
  | refine vb_i (e_nilNilN _) ?_
  | refine vb_i (e_pickT _ _) ?_
  | refine vb_i (e_pickF _ _) ?_
  | refine vb_i e_notd ?_
  | refine vb_i e_boolNe ?_
  | refine vb_i e_boolEq ?_
  | refine vb_i (e_not _) ?_
  | refine vb_i (e_nilCheck _) ?_
  | refine vb_i (e_fieldAddr _ _) ?_
  | refine hb_i (e_alloc _ _) ?_
  | (refine vb_i (adds ?_) ?_; (· first | omega | (simp only [List.length_cons, List.length_nil, List.length_append]; omega)))
  have hrun := Run.push (Run.start h) [AObj.cells 0 .exact (a.map ofByte), AObj.cells 0 .exact (List.replicate 32 (.int .u8 0))]
  refine LoopP.ruleG (α := Nat × List UInt8) (fun i => [.int .i64 i.1])
    (fun i C => i.1 ≤ rows.length ∧ i.2.length = 32 ∧ alongR a rows = alongR i.2 (rows.drop i.1) ∧ (∃ done, alongT a rows = done ++ alongT i.2 (rows.drop i.1) ∧ Run H o (alongT a rows) H' C (fun k => k = H.length ∨ k = H.length + 1) done) ∧
      C[H.length]? = some (.cells 0 .exact (i.2.map ofByte)) ∧ C[H.length + 1]? = some (.cells 0 .exact (List.replicate 32 (.int .u8 0)))) (fun i => rows.length - i.1) (0, a) rfl
    ⟨Nat.zero_le _, ha, rfl, ⟨[], rfl, Run.weaken hrun fun k hk => .inr (by simp; omega)⟩, by rw [app_get0]; rfl, by rw [app_get]; rfl⟩ ?_
  rintro ⟨i, b⟩ C Kn ⟨hi, hb, hAR, ⟨done, hAT, hrun⟩, g0, g1⟩ hn
  simp only at hi hb hAR hAT g0
  unfold chain_Along.L2 chain_Along.L2.b
  simp only [evB]
  by_cases hil : i < rows.length
  · have hvC : View C x 1 rows.length svs := View.at hv fun k hk hkl => Run.keep hrun hkl (hR.fx k hk)
    have hNi := hR.each i hil
    have hNC : NArgs C (svs.getD i .undef) (rows.getD i []) := ⟨by
      have hNv := hNi.v
      rcases Nat.eq_zero_or_pos (rows.getD i []).length with h0 | h0
      · rw [h0] at hNv ⊢; exact hNv.zero
      · exact .inl (View.at (hNv.at h0) fun k hk hkl => Run.keep hrun hkl (hR.fs i k hil h0 hk)), hNi.hl, hNi.hs⟩
    obtain ⟨q, q1, q2⟩ := hvC.at1 (k := (i : Int)) (kd := .i64) (by omega) (by omega) (List.prefix_refl _)
    rw [Int.toNat_natCast] at q2
    have hdr : rows.drop i = rows.getD i [] :: rows.drop (i + 1) := by
      rw [List.drop_eq_getElem_cons hil]; rw [List.getD_eq_getElem?_getD, List.getElem?_eq_getElem hil]; rfl
    rw [hdr] at hAR hAT
    repeat with_reducible first
    | refine isB_T ?_
    | refine isB_F ?_
    | (refine isB_ct ?_ ?_; (· first | omega | rfl | assumption | trivial))
    | (refine isB_cf ?_ ?_; (· first | omega | assumption))
    | refine onE_i ?_
    | (refine onE_s ?_ ?_; (· decide))
    | refine vb_i e_ext0 ?_
    | refine vb_i e_ext1 ?_
    | refine vb_i e_ext2 ?_
    | refine vb_i (lss64 _ _ _) ?_
    | refine vb_i (leq64 _ _ _) ?_
    | refine vb_i (gtr64 _ _ _) ?_
    | refine vb_i (geq64 _ _ _) ?_
    | refine vb_i (eql64 _ _ _) ?_
    | refine vb_i (neq64 _ _ _) ?_
    | refine vb_i (eqls _ _) ?_
    | refine vb_i (neqs _ _) ?_
    | (refine vb_i (add64 ?_ ?_) ?_; (· omega); (· omega))
    | (refine vb_i (sub64 ?_ ?_) ?_; (· omega); (· omega))
    | (refine vb_i (mul64 ?_ ?_) ?_; (· omega); (· omega))
    | (refine vb_i (quo64 ?_ ?_ ?_) ?_; (· omega); (· omega); (· omega))
    | (refine vb_i (rem64 ?_ ?_) ?_; (· omega); (· omega))
    | refine vb_i (e_lenSt _) ?_
    | refine vb_i (e_lenSl _ _ _) ?_
    | refine vb_i e_lenNil ?_
    | refine vb_i (lenSl_view (by assumption)) ?_
    | refine vb_i (e_ptrNil _ _) ?_
    | refine vb_i (e_ptrNilN _ _) ?_
    | refine vb_i (e_nilNil _) ?_
    | refine vb_i (e_nilNilN _) ?_
    | refine vb_i (e_pickT _ _) ?_
    | refine vb_i (e_pickF _ _) ?_
    | refine vb_i e_notd ?_
    | refine vb_i e_boolNe ?_
    | refine vb_i e_boolEq ?_
    | refine vb_i (e_not _) ?_
    | refine vb_i (e_nilCheck _) ?_
    | refine vb_i (e_fieldAddr _ _) ?_
    | refine hb_i (e_alloc _ _) ?_
    | (refine vb_i (adds ?_) ?_; (· first | omega | (simp only [List.length_cons, List.length_nil, List.length_append]; omega)))
    refine vb_i q1 (vb_i q2 ?_)
    refine vb_i (e_loadAll g0 (by simp [hb])) ?_
    by_cases hg : good (rows.getD i [])
    · simp only [alongR, alongT, if_pos hg] at hAR hAT
      have hsl := sum_len (nextT b (rows.getD i []))
      obtain ⟨C2, hO, hrun2, hl2, hk2⟩ := Run.call hrun (ts := [nextT b (rows.getD i [])]) (by rw [hAT]; simp) (by simpa using good_short hb hg)
      refine cb_i _ _ ⟨o, _, b, _, rfl, hb, hNC, .inr ⟨hg, rfl, hO⟩⟩ ?_
      repeat with_reducible first
      | refine isB_T ?_
      | refine isB_F ?_
      | (refine isB_ct ?_ ?_; (· first | omega | rfl | assumption | trivial))
      | (refine isB_cf ?_ ?_; (· first | omega | assumption))
      | refine onE_i ?_
      | (refine onE_s ?_ ?_; (· decide))
      | refine vb_i e_ext0 ?_
      | refine vb_i e_ext1 ?_
      | refine vb_i e_ext2 ?_
      | refine vb_i (lss64 _ _ _) ?_
      | refine vb_i (leq64 _ _ _) ?_
      | refine vb_i (gtr64 _ _ _) ?_
      | refine vb_i (geq64 _ _ _) ?_
      | refine vb_i (eql64 _ _ _) ?_
      | refine vb_i (neq64 _ _ _) ?_
      | refine vb_i (eqls _ _) ?_
      | refine vb_i (neqs _ _) ?_
      | (refine vb_i (add64 ?_ ?_) ?_; (· omega); (· omega))
      | (refine vb_i (sub64 ?_ ?_) ?_; (· omega); (· omega))
      | (refine vb_i (mul64 ?_ ?_) ?_; (· omega); (· omega))
      | (refine vb_i (quo64 ?_ ?_ ?_) ?_; (· omega); (· omega); (· omega))
      | (refine vb_i (rem64 ?_ ?_) ?_; (· omega); (· omega))
      | refine vb_i (e_lenSt _) ?_
      | refine vb_i (e_lenSl _ _ _) ?_
      | refine vb_i e_lenNil ?_
      | refine vb_i (lenSl_view (by assumption)) ?_
      | refine vb_i (e_ptrNil _ _) ?_
      | refine vb_i (e_ptrNilN _ _) ?_
      | refine vb_i (e_nilNil _) ?_
      | refine vb_i (e_nilNilN _) ?_
      | refine vb_i (e_pickT _ _) ?_
      | refine vb_i (e_pickF _ _) ?_
      | refine vb_i e_notd ?_
      | refine vb_i e_boolNe ?_
      | refine vb_i e_boolEq ?_
      | refine vb_i (e_not _) ?_
      | refine vb_i (e_nilCheck _) ?_
      | refine vb_i (e_fieldAddr _ _) ?_
      | refine hb_i (e_alloc _ _) ?_
      | (refine vb_i (adds ?_) ?_; (· first | omega | (simp only [List.length_cons, List.length_nil, List.length_append]; omega)))
      with_reducible refine sb_i (store_new List.length_replicate (by rw [List.length_map]; exact hsl) (cells_byte _)) ?_
      repeat with_reducible first
      | refine isB_T ?_
      | refine isB_F ?_
      | (refine isB_ct ?_ ?_; (· first | omega | rfl | assumption | trivial))
      | (refine isB_cf ?_ ?_; (· first | omega | assumption))
      | refine onE_i ?_
      | (refine onE_s ?_ ?_; (· decide))
      | refine vb_i e_ext0 ?_
      | refine vb_i e_ext1 ?_
      | refine vb_i e_ext2 ?_
      | refine vb_i (lss64 _ _ _) ?_
      | refine vb_i (leq64 _ _ _) ?_
      | refine vb_i (gtr64 _ _ _) ?_
      | refine vb_i (geq64 _ _ _) ?_
      | refine vb_i (eql64 _ _ _) ?_
      | refine vb_i (neq64 _ _ _) ?_
      | refine vb_i (eqls _ _) ?_
      | refine vb_i (neqs _ _) ?_
      | (refine vb_i (add64 ?_ ?_) ?_; (· omega); (· omega))
      | (refine vb_i (sub64 ?_ ?_) ?_; (· omega); (· omega))
      | (refine vb_i (mul64 ?_ ?_) ?_; (· omega); (· omega))
      | (refine vb_i (quo64 ?_ ?_ ?_) ?_; (· omega); (· omega); (· omega))
      | (refine vb_i (rem64 ?_ ?_) ?_; (· omega); (· omega))
      | refine vb_i (e_lenSt _) ?_
      | refine vb_i (e_lenSl _ _ _) ?_
      | refine vb_i e_lenNil ?_
      | refine vb_i (lenSl_view (by assumption)) ?_
      | refine vb_i (e_ptrNil _ _) ?_
      | refine vb_i (e_ptrNilN _ _) ?_
      | refine vb_i (e_nilNil _) ?_
      | refine vb_i (e_nilNilN _) ?_
      | refine vb_i (e_pickT _ _) ?_
      | refine vb_i (e_pickF _ _) ?_
      | refine vb_i e_notd ?_
      | refine vb_i e_boolNe ?_
      | refine vb_i e_boolEq ?_
      | refine vb_i (e_not _) ?_
      | refine vb_i (e_nilCheck _) ?_
      | refine vb_i (e_fieldAddr _ _) ?_
      | refine hb_i (e_alloc _ _) ?_
      | (refine vb_i (adds ?_) ?_; (· first | omega | (simp only [List.length_cons, List.length_nil, List.length_append]; omega)))
      with_reducible refine vb_i (load_new (by rw [List.length_map]; exact hsl)) ?_
      have g02 : (C2 ++ [AObj.cells 0 .exact ((sum (nextT b (rows.getD i []))).map ofByte)])[H.length]? = some (.cells 0 .exact (b.map ofByte)) := by
        rw [List.getElem?_append_left (by have := lt_of_some g0; omega), hk2 _ (.inl rfl)]; exact g0
      refine sb_i (store32 g02 (by simp [hb]) (by rw [List.length_map]; exact hsl) (cells_byte _)) ?_
      repeat with_reducible first
      | refine isB_T ?_
      | refine isB_F ?_
      | (refine isB_ct ?_ ?_; (· first | omega | rfl | assumption | trivial))
      | (refine isB_cf ?_ ?_; (· first | omega | assumption))
      | refine onE_i ?_
      | (refine onE_s ?_ ?_; (· decide))
      | refine vb_i e_ext0 ?_
      | refine vb_i e_ext1 ?_
      | refine vb_i e_ext2 ?_
      | refine vb_i (lss64 _ _ _) ?_
      | refine vb_i (leq64 _ _ _) ?_
      | refine vb_i (gtr64 _ _ _) ?_
      | refine vb_i (geq64 _ _ _) ?_
      | refine vb_i (eql64 _ _ _) ?_
      | refine vb_i (neq64 _ _ _) ?_
      | refine vb_i (eqls _ _) ?_
      | refine vb_i (neqs _ _) ?_
      | (refine vb_i (add64 ?_ ?_) ?_; (· omega); (· omega))
      | (refine vb_i (sub64 ?_ ?_) ?_; (· omega); (· omega))
      | (refine vb_i (mul64 ?_ ?_) ?_; (· omega); (· omega))
      | (refine vb_i (quo64 ?_ ?_ ?_) ?_; (· omega); (· omega); (· omega))
      | (refine vb_i (rem64 ?_ ?_) ?_; (· omega); (· omega))
      | refine vb_i (e_lenSt _) ?_
      | refine vb_i (e_lenSl _ _ _) ?_
      | refine vb_i e_lenNil ?_
      | refine vb_i (lenSl_view (by assumption)) ?_
      | refine vb_i (e_ptrNil _ _) ?_
      | refine vb_i (e_ptrNilN _ _) ?_
      | refine vb_i (e_nilNil _) ?_
      | refine vb_i (e_nilNilN _) ?_
      | refine vb_i (e_pickT _ _) ?_
      | refine vb_i (e_pickF _ _) ?_
      | refine vb_i e_notd ?_
      | refine vb_i e_boolNe ?_
      | refine vb_i e_boolEq ?_
      | refine vb_i (e_not _) ?_
      | refine vb_i (e_nilCheck _) ?_
      | refine vb_i (e_fieldAddr _ _) ?_
      | refine hb_i (e_alloc _ _) ?_
      | (refine vb_i (adds ?_) ?_; (· first | omega | (simp only [List.length_cons, List.length_nil, List.length_append]; omega)))
      have hC0 := lt_of_some g0
      have hC1 := lt_of_some g1
      refine hn (i + 1, sum (nextT b (rows.getD i []))) _ ⟨by simp only; omega, hsl, hAR, ⟨done ++ [nextT b (rows.getD i [])], by rw [hAT]; simp, ?_⟩, by rw [List.getElem?_set_self (by simp; omega)], ?_⟩ (by simp only; omega)
      · refine Run.set ?_ (.inl rfl) _
        exact Run.weaken (Run.push hrun2 _) fun k hk => .inl hk
      · rw [List.getElem?_set_ne (by omega), List.getElem?_append_left (by omega), hk2 _ (.inr rfl)]; exact g1
    · simp only [alongR, alongT, if_neg hg, List.append_nil] at hAR hAT
      refine cb_i _ _ ⟨o, _, b, _, rfl, hb, hNC, .inl ⟨hg, rfl, rfl⟩⟩ ?_
      repeat with_reducible first
      | refine isB_T ?_
      | refine isB_F ?_
      | (refine isB_ct ?_ ?_; (· first | omega | rfl | assumption | trivial))
      | (refine isB_cf ?_ ?_; (· first | omega | assumption))
      | refine onE_i ?_
      | (refine onE_s ?_ ?_; (· decide))
      | refine vb_i e_ext0 ?_
      | refine vb_i e_ext1 ?_
      | refine vb_i e_ext2 ?_
      | refine vb_i (lss64 _ _ _) ?_
      | refine vb_i (leq64 _ _ _) ?_
      | refine vb_i (gtr64 _ _ _) ?_
      | refine vb_i (geq64 _ _ _) ?_
      | refine vb_i (eql64 _ _ _) ?_
      | refine vb_i (neq64 _ _ _) ?_
      | refine vb_i (eqls _ _) ?_
      | refine vb_i (neqs _ _) ?_
      | (refine vb_i (add64 ?_ ?_) ?_; (· omega); (· omega))
      | (refine vb_i (sub64 ?_ ?_) ?_; (· omega); (· omega))
      | (refine vb_i (mul64 ?_ ?_) ?_; (· omega); (· omega))
      | (refine vb_i (quo64 ?_ ?_ ?_) ?_; (· omega); (· omega); (· omega))
      | (refine vb_i (rem64 ?_ ?_) ?_; (· omega); (· omega))
      | refine vb_i (e_lenSt _) ?_
      | refine vb_i (e_lenSl _ _ _) ?_
      | refine vb_i e_lenNil ?_
      | refine vb_i (lenSl_view (by assumption)) ?_
      | refine vb_i (e_ptrNil _ _) ?_
      | refine vb_i (e_ptrNilN _ _) ?_
      | refine vb_i (e_nilNil _) ?_
      | refine vb_i (e_nilNilN _) ?_
      | refine vb_i (e_pickT _ _) ?_
      | refine vb_i (e_pickF _ _) ?_
      | refine vb_i e_notd ?_
      | refine vb_i e_boolNe ?_
      | refine vb_i e_boolEq ?_
      | refine vb_i (e_not _) ?_
      | refine vb_i (e_nilCheck _) ?_
      | refine vb_i (e_fieldAddr _ _) ?_
      | refine hb_i (e_alloc _ _) ?_
      | (refine vb_i (adds ?_) ?_; (· first | omega | (simp only [List.length_cons, List.length_nil, List.length_append]; omega)))
      unfold zero32
      with_reducible refine sb_i (store_new List.length_replicate List.length_replicate (cells_rep _ _ _)) ?_
      repeat with_reducible first
      | refine isB_T ?_
      | refine isB_F ?_
      | (refine isB_ct ?_ ?_; (· first | omega | rfl | assumption | trivial))
      | (refine isB_cf ?_ ?_; (· first | omega | assumption))
      | refine onE_i ?_
      | (refine onE_s ?_ ?_; (· decide))
      | refine vb_i e_ext0 ?_
      | refine vb_i e_ext1 ?_
      | refine vb_i e_ext2 ?_
      | refine vb_i (lss64 _ _ _) ?_
      | refine vb_i (leq64 _ _ _) ?_
      | refine vb_i (gtr64 _ _ _) ?_
      | refine vb_i (geq64 _ _ _) ?_
      | refine vb_i (eql64 _ _ _) ?_
      | refine vb_i (neq64 _ _ _) ?_
      | refine vb_i (eqls _ _) ?_
      | refine vb_i (neqs _ _) ?_
      | (refine vb_i (add64 ?_ ?_) ?_; (· omega); (· omega))
      | (refine vb_i (sub64 ?_ ?_) ?_; (· omega); (· omega))
      | (refine vb_i (mul64 ?_ ?_) ?_; (· omega); (· omega))
      | (refine vb_i (quo64 ?_ ?_ ?_) ?_; (· omega); (· omega); (· omega))
      | (refine vb_i (rem64 ?_ ?_) ?_; (· omega); (· omega))
      | refine vb_i (e_lenSt _) ?_
      | refine vb_i (e_lenSl _ _ _) ?_
      | refine vb_i e_lenNil ?_
      | refine vb_i (lenSl_view (by assumption)) ?_
      | refine vb_i (e_ptrNil _ _) ?_
      | refine vb_i (e_ptrNilN _ _) ?_
      | refine vb_i (e_nilNil _) ?_
      | refine vb_i (e_nilNilN _) ?_
      | refine vb_i (e_pickT _ _) ?_
      | refine vb_i (e_pickF _ _) ?_
      | refine vb_i e_notd ?_
      | refine vb_i e_boolNe ?_
      | refine vb_i e_boolEq ?_
      | refine vb_i (e_not _) ?_
      | refine vb_i (e_nilCheck _) ?_
      | refine vb_i (e_fieldAddr _ _) ?_
      | refine hb_i (e_alloc _ _) ?_
      | (refine vb_i (adds ?_) ?_; (· first | omega | (simp only [List.length_cons, List.length_nil, List.length_append]; omega)))
      refine vb_i zero32_build ?_
      unfold zero32
      have hC1 := lt_of_some g1
      have g12 : (C ++ [AObj.cells 0 .exact (List.replicate 32 (.int .u8 0))])[H.length + 1]? = some (.cells 0 .exact (List.replicate 32 (.int .u8 0))) := by
        rw [List.getElem?_append_left hC1]; exact g1
      refine sb_i (store32 g12 List.length_replicate List.length_replicate (cells_rep _ _ _)) ?_
      repeat with_reducible first
      | refine isB_T ?_
      | refine isB_F ?_
      | (refine isB_ct ?_ ?_; (· first | omega | rfl | assumption | trivial))
      | (refine isB_cf ?_ ?_; (· first | omega | assumption))
      | refine onE_i ?_
      | (refine onE_s ?_ ?_; (· decide))
      | refine vb_i e_ext0 ?_
      | refine vb_i e_ext1 ?_
      | refine vb_i e_ext2 ?_
      | refine vb_i (lss64 _ _ _) ?_
      | refine vb_i (leq64 _ _ _) ?_
      | refine vb_i (gtr64 _ _ _) ?_
      | refine vb_i (geq64 _ _ _) ?_
      | refine vb_i (eql64 _ _ _) ?_
      | refine vb_i (neq64 _ _ _) ?_
      | refine vb_i (eqls _ _) ?_
      | refine vb_i (neqs _ _) ?_
      | (refine vb_i (add64 ?_ ?_) ?_; (· omega); (· omega))
      | (refine vb_i (sub64 ?_ ?_) ?_; (· omega); (· omega))
      | (refine vb_i (mul64 ?_ ?_) ?_; (· omega); (· omega))
      | (refine vb_i (quo64 ?_ ?_ ?_) ?_; (· omega); (· omega); (· omega))
      | (refine vb_i (rem64 ?_ ?_) ?_; (· omega); (· omega))
      | refine vb_i (e_lenSt _) ?_
      | refine vb_i (e_lenSl _ _ _) ?_
      | refine vb_i e_lenNil ?_
      | refine vb_i (lenSl_view (by assumption)) ?_
      | refine vb_i (e_ptrNil _ _) ?_
      | refine vb_i (e_ptrNilN _ _) ?_
      | refine vb_i (e_nilNil _) ?_
      | refine vb_i (e_nilNilN _) ?_
      | refine vb_i (e_pickT _ _) ?_
      | refine vb_i (e_pickF _ _) ?_
      | refine vb_i e_notd ?_
      | refine vb_i e_boolNe ?_
      | refine vb_i e_boolEq ?_
      | refine vb_i (e_not _) ?_
      | refine vb_i (e_nilCheck _) ?_
      | refine vb_i (e_fieldAddr _ _) ?_
      | refine hb_i (e_alloc _ _) ?_
      | (refine vb_i (adds ?_) ?_; (· first | omega | (simp only [List.length_cons, List.length_nil, List.length_append]; omega)))
      try simp only [evB]
      rw [hAR] at hr
      subst hr
      refine fin_ret (vs := [.agg (List.replicate 32 (.int .u8 0)), .int .i64 6]) (rvs_c (e_loadAll (by rw [List.getElem?_set_self (by simp; omega)]) List.length_replicate) (rvs_v (rvs_nil _))) ?_
      rw [hAT] at hrun
      have := Run.set (Run.weaken (own' := fun k => k = H.length ∨ k = H.length + 1) (Run.push hrun [AObj.cells 0 .exact (List.replicate 32 (.int .u8 0))]) fun k hk => .inl hk) (.inr rfl) (.cells 0 .exact (List.replicate 32 (.int .u8 0)))
      exact Run.fin this (ren_pair (agg_plain zero32_plain) (ren_p rfl))
  · have hie : i = rows.length := by omega
    subst hie
    rw [List.drop_length] at hAR hAT
    simp only [alongR, alongT, List.append_nil] at hAR hAT
    repeat with_reducible first
    | refine isB_T ?_
    | refine isB_F ?_
    | (refine isB_ct ?_ ?_; (· first | omega | rfl | assumption | trivial))
    | (refine isB_cf ?_ ?_; (· first | omega | assumption))
    | refine onE_i ?_
    | (refine onE_s ?_ ?_; (· decide))
    | refine vb_i e_ext0 ?_
    | refine vb_i e_ext1 ?_
    | refine vb_i e_ext2 ?_
    | refine vb_i (lss64 _ _ _) ?_
    | refine vb_i (leq64 _ _ _) ?_
    | refine vb_i (gtr64 _ _ _) ?_
    | refine vb_i (geq64 _ _ _) ?_
    | refine vb_i (eql64 _ _ _) ?_
    | refine vb_i (neq64 _ _ _) ?_
    | refine vb_i (eqls _ _) ?_
    | refine vb_i (neqs _ _) ?_
    | (refine vb_i (add64 ?_ ?_) ?_; (· omega); (· omega))
    | (refine vb_i (sub64 ?_ ?_) ?_; (· omega); (· omega))
    | (refine vb_i (mul64 ?_ ?_) ?_; (· omega); (· omega))
    | (refine vb_i (quo64 ?_ ?_ ?_) ?_; (· omega); (· omega); (· omega))
    | (refine vb_i (rem64 ?_ ?_) ?_; (· omega); (· omega))
    | refine vb_i (e_lenSt _) ?_
    | refine vb_i (e_lenSl _ _ _) ?_
    | refine vb_i e_lenNil ?_
    | refine vb_i (lenSl_view (by assumption)) ?_
    | refine vb_i (e_ptrNil _ _) ?_
    | refine vb_i (e_ptrNilN _ _) ?_
    | refine vb_i (e_nilNil _) ?_
    | refine vb_i (e_nilNilN _) ?_
    | refine vb_i (e_pickT _ _) ?_
    | refine vb_i (e_pickF _ _) ?_
    | refine vb_i e_notd ?_
    | refine vb_i e_boolNe ?_
    | refine vb_i e_boolEq ?_
    | refine vb_i (e_not _) ?_
    | refine vb_i (e_nilCheck _) ?_
    | refine vb_i (e_fieldAddr _ _) ?_
    | refine hb_i (e_alloc _ _) ?_
    | (refine vb_i (adds ?_) ?_; (· first | omega | (simp only [List.length_cons, List.length_nil, List.length_append]; omega)))
    refine vb_i (e_loadAll g0 (by simp [hb])) ?_
    refine sb_i (store32 g1 List.length_replicate (by simp [hb]) (cells_byte _)) ?_
    rw [hAR] at hr
    subst hr
    refine fin_ret (vs := [.agg (b.map ofByte), .int .i64 0]) (rvs_c (e_loadAll (by rw [List.getElem?_set_self (by have := lt_of_some g1; omega)]) (by simp [hb])) (rvs_v (rvs_nil _))) ?_
    rw [hAT] at hrun
    exact Run.fin (Run.set hrun (.inr rfl) _) (ren_pair (agg_plain (bytes_plain _)) (ren_p rfl))
end Go.Sh

/- The laws of chains. -/
namespace Go.Sh
open Go Go.Abs

theorem zero32_zs : zero32 = .agg ((zs 32).map ofByte) := by simp [zero32, zs, ofByte]
theorem zs32_len : (zs 32).length = 32 := zs_len 32
theorem build_zs : aBuild (List.replicate 32 (.int .u8 0)) (fun k => some (k * 1, 1)) [] = some (.agg ((zs 32).map ofByte)) := by rw [← zero32_zs]; exact zero32_build

/-- What an oracle newly made comes to, while others work. -/
def RunN (A C : AHeap) (own : Nat → Prop) (T : List (List UInt8)) : Prop :=
  (∀ k, own k → A.length + 2 ≤ k ∧ k < C.length) ∧ ∃ mv lv, OInv (newO A) (A.length + 1) 0 A.length 0 .nils [] C mv lv T ∧ ∀ k, own k → slId lv ≠ some k
section
variable {A C : AHeap} {own : Nat → Prop} {T : List (List UInt8)}
theorem newO_len (A : AHeap) : (newO A).length = A.length + 2 := by simp [newO]
theorem RunN.start (A : AHeap) : RunN A (newO A) (fun _ => False) [] := ⟨fun _ h => h.elim, 0, .nils, OInv.refl (ORep.new A), fun _ h => h.elim⟩
theorem RunN.len (h : RunN A C own T) : A.length + 2 ≤ C.length := by
  obtain ⟨_, _, _, h1, _⟩ := h
  have := h1.len; rw [newO_len] at this; exact this
theorem RunN.push (h : RunN A C own T) (ob : AObj) : RunN A (C ++ [ob]) (fun k => own k ∨ k = C.length) T := by
  have hl := h.len
  obtain ⟨h0, mv, lv, h1, h2⟩ := h
  refine ⟨fun k hk => ?_, mv, lv, h1.pre (pre_app _ _), fun k hk e => ?_⟩
  · rcases hk with hk | hk
    · have := h0 k hk; simp; omega
    · simp; omega
  · rcases hk with hk | hk
    · exact h2 k hk e
    · have := h1.rep.slt e; omega
theorem RunN.pre (h : RunN A C own T) : A <+: C := by
  have hl := h.len
  obtain ⟨h0, mv, lv, h1, h2⟩ := h
  exact pre_of_get (by omega) fun k hk => by
    rw [h1.keep k (by rw [newO_len]; omega) (by omega) (by omega) (by simp [slId])]
    exact pre_get (pre_app _ _) hk
theorem RunN.call (h : RunN A C own T) {ss : List (List UInt8)} (hl : T.length + ss.length ≤ 1073741824) (hs : ∀ s ∈ ss, s.length ≤ 1099511627776) :
    ∃ C2, Osums C (.ptr ⟨A.length + 1, 0, 0⟩) ss C2 ∧ RunN A C2 own (keepTs T ss) ∧ C.length ≤ C2.length ∧ ∀ k, own k → C2[k]? = C[k]? := by
  obtain ⟨h0, mv, lv, h1, h2⟩ := h
  obtain ⟨C2, mv2, lv2, hO, hI, hl2, hf⟩ := h1.sums hl hs
  exact ⟨C2, hO, ⟨fun k hk => ⟨(h0 k hk).1, Nat.lt_of_lt_of_le (h0 k hk).2 hl2⟩, mv2, lv2, hI, fun k hk => (hf k (h0 k hk).2 (by rw [newO_len]; exact (h0 k hk).1) (h2 k hk)).2⟩, hl2,
    fun k hk => (hf k (h0 k hk).2 (by rw [newO_len]; exact (h0 k hk).1) (h2 k hk)).1⟩
theorem RunN.rep (h : RunN A C own T) : ∃ mv lv, ORep C (A.length + 1) 0 A.length mv lv T := by
  obtain ⟨_, mv, lv, h1, _⟩ := h
  exact ⟨mv, lv, h1.rep⟩
end


theorem cellaretlaw14_next.ok (args : List AVal) (H : AHeap) (r : AVal) (H' : AHeap) (h : S_cellaretlaw14_next args H r H') : ∃ x0 x1, args = [x0, x1] ∧ cellaretlaw14_next.w x0 x1 H fun r1 H1 => Weak H r1 H1 r H' := by
  obtain ⟨x, a, l, rfl, ha, hN, rfl, h⟩ := h
  refine ⟨_, _, rfl, ?_⟩
  unfold cellaretlaw14_next.w
  have hl := hN.hl
  have hw := hN.v
  have hcl : (AVal.agg (a.map ofByte)).cells = a.map ofByte := rfl
  refine hb_i (e_box rfl) ?_
  rw [hcl]
  refine hb_i (e_alloc _ _) ?_
  have pA : H' <+: H' ++ [AObj.cells 0 .exact (a.map ofByte)] := pre_app _ _
  have gA : (H' ++ [AObj.cells 0 .exact (a.map ofByte)])[H'.length]? = some (.cells 0 .exact (a.map ofByte)) := by rw [app_get0]; rfl
  generalize H' ++ [AObj.cells 0 .exact (a.map ofByte)] = A at *
  have p0 : H' <+: A ++ [AObj.cells 0 .exact (List.replicate 32 (.int .u8 0))] := pA.trans (pre_app _ _)
  have g0 : (A ++ [AObj.cells 0 .exact (List.replicate 32 (.int .u8 0))])[H'.length]? = some (.cells 0 .exact (a.map ofByte)) := by
    rw [pre_get (pre_app _ _) (lt_of_some gA)]; exact gA
  refine JoinP.mk (fun e vs B => B = A ++ [AObj.cells 0 .exact (List.replicate 32 (.int .u8 0))] ∧ ((e = .ret ∧ vs = [.int .i64 6] ∧ ¬ good l) ∨ (e = .normal ∧ l.length ≠ 0 ∧ l.length ≤ 80))) ?_ ?_
  · refine vb_lenN hw ?_
    repeat with_reducible first
    | refine isB_T ?_
    | refine isB_F ?_
    | (refine isB_ct ?_ ?_; (· first | omega | rfl | assumption | trivial))
    | (refine isB_cf ?_ ?_; (· first | omega | assumption))
    | refine onE_i ?_
    | (refine onE_s ?_ ?_; (· decide))
    | refine vb_i e_ext0 ?_
    | refine vb_i e_ext1 ?_
    | refine vb_i e_ext2 ?_
    | refine vb_i (lss64 _ _ _) ?_
    | refine vb_i (leq64 _ _ _) ?_
    | refine vb_i (gtr64 _ _ _) ?_
    | refine vb_i (geq64 _ _ _) ?_
    | refine vb_i (eql64 _ _ _) ?_
    | refine vb_i (neq64 _ _ _) ?_
    | refine vb_i (eqls _ _) ?_
    | refine vb_i (neqs _ _) ?_
    | (refine vb_i (add64 ?_ ?_) ?_; (· omega); (· omega))
    | (refine vb_i (sub64 ?_ ?_) ?_; (· omega); (· omega))
    | (refine vb_i (mul64 ?_ ?_) ?_; (· omega); (· omega))
    | (refine vb_i (quo64 ?_ ?_ ?_) ?_; (· omega); (· omega); (· omega))
    | (refine vb_i (rem64 ?_ ?_) ?_; (· omega); (· omega))
    | refine vb_i (e_lenSt _) ?_
    | refine vb_i (e_lenSl _ _ _) ?_
    | refine vb_i e_lenNil ?_
    | refine vb_i (lenSl_view (by assumption)) ?_
    | refine vb_i (e_ptrNil _ _) ?_
    | refine vb_i (e_ptrNilN _ _) ?_
    | refine vb_i (e_nilNil _) ?_
    | refine vb_i (e_nilNilN _) ?_
    | refine vb_i (e_pickT _ _) ?_
    | refine vb_i (e_pickF _ _) ?_
    | refine vb_i e_notd ?_
    | refine vb_i e_boolNe ?_
    | refine vb_i e_boolEq ?_
    | refine vb_i (e_not _) ?_
    | refine vb_i (e_nilCheck _) ?_
    | refine vb_i (e_fieldAddr _ _) ?_
    | refine hb_i (e_alloc _ _) ?_
    | (refine vb_i (adds ?_) ?_; (· first | omega | (simp only [List.length_cons, List.length_nil, List.length_append]; omega)))
    refine isB_c (fun h1 => ?_) (fun h1 => ?_)
    · refine vb_i zero32_build ?_
      unfold zero32
      with_reducible refine sb_i (store_new List.length_replicate List.length_replicate (cells_rep _ _ _)) ?_
      exact ⟨rfl, .inl ⟨rfl, rfl, fun hg => hg.1 (by omega)⟩⟩
    · refine vb_lenN hw ?_
      repeat with_reducible first
      | refine isB_T ?_
      | refine isB_F ?_
      | (refine isB_ct ?_ ?_; (· first | omega | rfl | assumption | trivial))
      | (refine isB_cf ?_ ?_; (· first | omega | assumption))
      | refine onE_i ?_
      | (refine onE_s ?_ ?_; (· decide))
      | refine vb_i e_ext0 ?_
      | refine vb_i e_ext1 ?_
      | refine vb_i e_ext2 ?_
      | refine vb_i (lss64 _ _ _) ?_
      | refine vb_i (leq64 _ _ _) ?_
      | refine vb_i (gtr64 _ _ _) ?_
      | refine vb_i (geq64 _ _ _) ?_
      | refine vb_i (eql64 _ _ _) ?_
      | refine vb_i (neq64 _ _ _) ?_
      | refine vb_i (eqls _ _) ?_
      | refine vb_i (neqs _ _) ?_
      | (refine vb_i (add64 ?_ ?_) ?_; (· omega); (· omega))
      | (refine vb_i (sub64 ?_ ?_) ?_; (· omega); (· omega))
      | (refine vb_i (mul64 ?_ ?_) ?_; (· omega); (· omega))
      | (refine vb_i (quo64 ?_ ?_ ?_) ?_; (· omega); (· omega); (· omega))
      | (refine vb_i (rem64 ?_ ?_) ?_; (· omega); (· omega))
      | refine vb_i (e_lenSt _) ?_
      | refine vb_i (e_lenSl _ _ _) ?_
      | refine vb_i e_lenNil ?_
      | refine vb_i (lenSl_view (by assumption)) ?_
      | refine vb_i (e_ptrNil _ _) ?_
      | refine vb_i (e_ptrNilN _ _) ?_
      | refine vb_i (e_nilNil _) ?_
      | refine vb_i (e_nilNilN _) ?_
      | refine vb_i (e_pickT _ _) ?_
      | refine vb_i (e_pickF _ _) ?_
      | refine vb_i e_notd ?_
      | refine vb_i e_boolNe ?_
      | refine vb_i e_boolEq ?_
      | refine vb_i (e_not _) ?_
      | refine vb_i (e_nilCheck _) ?_
      | refine vb_i (e_fieldAddr _ _) ?_
      | refine hb_i (e_alloc _ _) ?_
      | (refine vb_i (adds ?_) ?_; (· first | omega | (simp only [List.length_cons, List.length_nil, List.length_append]; omega)))
      refine isB_c (fun h2 => ?_) (fun h2 => ?_)
      · refine vb_i zero32_build ?_
        unfold zero32
        with_reducible refine sb_i (store_new List.length_replicate List.length_replicate (cells_rep _ _ _)) ?_
        exact ⟨rfl, .inl ⟨rfl, rfl, fun hg => by have := hg.2.1; omega⟩⟩
      · exact ⟨rfl, .inr ⟨rfl, by omega, by omega⟩⟩
  · rintro _ vs B ⟨rfl, ⟨rfl, rfl, hb⟩ | ⟨rfl, hl0, hl80⟩⟩
    · repeat with_reducible first
      | refine isB_T ?_
      | refine isB_F ?_
      | (refine isB_ct ?_ ?_; (· first | omega | rfl | assumption | trivial))
      | (refine isB_cf ?_ ?_; (· first | omega | assumption))
      | refine onE_i ?_
      | (refine onE_s ?_ ?_; (· decide))
      | refine vb_i e_ext0 ?_
      | refine vb_i e_ext1 ?_
      | refine vb_i e_ext2 ?_
      | refine vb_i (lss64 _ _ _) ?_
      | refine vb_i (leq64 _ _ _) ?_
      | refine vb_i (gtr64 _ _ _) ?_
      | refine vb_i (geq64 _ _ _) ?_
      | refine vb_i (eql64 _ _ _) ?_
      | refine vb_i (neq64 _ _ _) ?_
      | refine vb_i (eqls _ _) ?_
      | refine vb_i (neqs _ _) ?_
      | (refine vb_i (add64 ?_ ?_) ?_; (· omega); (· omega))
      | (refine vb_i (sub64 ?_ ?_) ?_; (· omega); (· omega))
      | (refine vb_i (mul64 ?_ ?_) ?_; (· omega); (· omega))
      | (refine vb_i (quo64 ?_ ?_ ?_) ?_; (· omega); (· omega); (· omega))
      | (refine vb_i (rem64 ?_ ?_) ?_; (· omega); (· omega))
      | refine vb_i (e_lenSt _) ?_
      | refine vb_i (e_lenSl _ _ _) ?_
      | refine vb_i e_lenNil ?_
      | refine vb_i (lenSl_view (by assumption)) ?_
      | refine vb_i (e_ptrNil _ _) ?_
      | refine vb_i (e_ptrNilN _ _) ?_
      | refine vb_i (e_nilNil _) ?_
      | refine vb_i (e_nilNilN _) ?_
      | refine vb_i (e_pickT _ _) ?_
      | refine vb_i (e_pickF _ _) ?_
      | refine vb_i e_notd ?_
      | refine vb_i e_boolNe ?_
      | refine vb_i e_boolEq ?_
      | refine vb_i (e_not _) ?_
      | refine vb_i (e_nilCheck _) ?_
      | refine vb_i (e_fieldAddr _ _) ?_
      | refine hb_i (e_alloc _ _) ?_
      | (refine vb_i (adds ?_) ?_; (· first | omega | (simp only [List.length_cons, List.length_nil, List.length_append]; omega)))
      simp only [evB]
      rw [if_neg hb] at h
      subst h
      refine fin_ret (vs := [.agg (List.replicate 32 (.int .u8 0)), .int .i64 6]) (rvs_c (load_new List.length_replicate) (rvs_v (rvs_nil _))) ?_
      exact Weak.any (ren_pair (agg_plain zero32_plain) (ren_p rfl)) p0
    · have hv := hw.at (show 0 < l.length by omega)
      repeat with_reducible first
      | refine isB_T ?_
      | refine isB_F ?_
      | (refine isB_ct ?_ ?_; (· first | omega | rfl | assumption | trivial))
      | (refine isB_cf ?_ ?_; (· first | omega | assumption))
      | refine onE_i ?_
      | (refine onE_s ?_ ?_; (· decide))
      | refine vb_i e_ext0 ?_
      | refine vb_i e_ext1 ?_
      | refine vb_i e_ext2 ?_
      | refine vb_i (lss64 _ _ _) ?_
      | refine vb_i (leq64 _ _ _) ?_
      | refine vb_i (gtr64 _ _ _) ?_
      | refine vb_i (geq64 _ _ _) ?_
      | refine vb_i (eql64 _ _ _) ?_
      | refine vb_i (neq64 _ _ _) ?_
      | refine vb_i (eqls _ _) ?_
      | refine vb_i (neqs _ _) ?_
      | (refine vb_i (add64 ?_ ?_) ?_; (· omega); (· omega))
      | (refine vb_i (sub64 ?_ ?_) ?_; (· omega); (· omega))
      | (refine vb_i (mul64 ?_ ?_) ?_; (· omega); (· omega))
      | (refine vb_i (quo64 ?_ ?_ ?_) ?_; (· omega); (· omega); (· omega))
      | (refine vb_i (rem64 ?_ ?_) ?_; (· omega); (· omega))
      | refine vb_i (e_lenSt _) ?_
      | refine vb_i (e_lenSl _ _ _) ?_
      | refine vb_i e_lenNil ?_
      | refine vb_i (lenSl_view (by assumption)) ?_
      | refine vb_i (e_ptrNil _ _) ?_
      | refine vb_i (e_ptrNilN _ _) ?_
      | refine vb_i (e_nilNil _) ?_
      | refine vb_i (e_nilNilN _) ?_
      | refine vb_i (e_pickT _ _) ?_
      | refine vb_i (e_pickF _ _) ?_
      | refine vb_i e_notd ?_
      | refine vb_i e_boolNe ?_
      | refine vb_i e_boolEq ?_
      | refine vb_i (e_not _) ?_
      | refine vb_i (e_nilCheck _) ?_
      | refine vb_i (e_fieldAddr _ _) ?_
      | refine hb_i (e_alloc _ _) ?_
      | (refine vb_i (adds ?_) ?_; (· first | omega | (simp only [List.length_cons, List.length_nil, List.length_append]; omega)))
      refine vb_i (sliceArr_all _ _ _ _) ?_
      refine vb_i (arr_str g0 ha) ?_
      refine vb_i (adds (by simp [ha])) ?_
      refine LoopP.ruleG (α := Nat) (fun i => [.str (([110, 101, 120, 116] ++ a) ++ (l.take i).flatten), .int .i64 i])
        (fun i C => i ≤ l.length ∧ (∀ k, k < i → (l.getD k []).length = 64) ∧ C = A ++ [AObj.cells 0 .exact (List.replicate 32 (.int .u8 0))]) (fun i => l.length - i) 0 (by simp) ⟨Nat.zero_le _, fun k hk => by omega, rfl⟩ ?_
      rintro i C Kn ⟨hi, h64, rfl⟩ hn
      unfold cellaretlaw14_next.L5 cellaretlaw14_next.L5.b
      simp only [evB]
      by_cases hil : i < l.length
      · obtain ⟨q, q1, q2⟩ := strs_at hv hil p0
        have hsm := getD_mem hil
        have hsl := hN.hs _ hsm
        repeat with_reducible first
        | refine isB_T ?_
        | refine isB_F ?_
        | (refine isB_ct ?_ ?_; (· first | omega | rfl | assumption | trivial))
        | (refine isB_cf ?_ ?_; (· first | omega | assumption))
        | refine onE_i ?_
        | (refine onE_s ?_ ?_; (· decide))
        | refine vb_i e_ext0 ?_
        | refine vb_i e_ext1 ?_
        | refine vb_i e_ext2 ?_
        | refine vb_i (lss64 _ _ _) ?_
        | refine vb_i (leq64 _ _ _) ?_
        | refine vb_i (gtr64 _ _ _) ?_
        | refine vb_i (geq64 _ _ _) ?_
        | refine vb_i (eql64 _ _ _) ?_
        | refine vb_i (neq64 _ _ _) ?_
        | refine vb_i (eqls _ _) ?_
        | refine vb_i (neqs _ _) ?_
        | (refine vb_i (add64 ?_ ?_) ?_; (· omega); (· omega))
        | (refine vb_i (sub64 ?_ ?_) ?_; (· omega); (· omega))
        | (refine vb_i (mul64 ?_ ?_) ?_; (· omega); (· omega))
        | (refine vb_i (quo64 ?_ ?_ ?_) ?_; (· omega); (· omega); (· omega))
        | (refine vb_i (rem64 ?_ ?_) ?_; (· omega); (· omega))
        | refine vb_i (e_lenSt _) ?_
        | refine vb_i (e_lenSl _ _ _) ?_
        | refine vb_i e_lenNil ?_
        | refine vb_i (lenSl_view (by assumption)) ?_
        | refine vb_i (e_ptrNil _ _) ?_
        | refine vb_i (e_ptrNilN _ _) ?_
        | refine vb_i (e_nilNil _) ?_
        | refine vb_i (e_nilNilN _) ?_
        | refine vb_i (e_pickT _ _) ?_
        | refine vb_i (e_pickF _ _) ?_
        | refine vb_i e_notd ?_
        | refine vb_i e_boolNe ?_
        | refine vb_i e_boolEq ?_
        | refine vb_i (e_not _) ?_
        | refine vb_i (e_nilCheck _) ?_
        | refine vb_i (e_fieldAddr _ _) ?_
        | refine hb_i (e_alloc _ _) ?_
        | (refine vb_i (adds ?_) ?_; (· first | omega | (simp only [List.length_cons, List.length_nil, List.length_append]; omega)))
        refine vb_i q1 (vb_i q2 ?_)
        by_cases hs : (l.getD i []).length = 64
        · repeat with_reducible first
          | refine isB_T ?_
          | refine isB_F ?_
          | (refine isB_ct ?_ ?_; (· first | omega | rfl | assumption | trivial))
          | (refine isB_cf ?_ ?_; (· first | omega | assumption))
          | refine onE_i ?_
          | (refine onE_s ?_ ?_; (· decide))
          | refine vb_i e_ext0 ?_
          | refine vb_i e_ext1 ?_
          | refine vb_i e_ext2 ?_
          | refine vb_i (lss64 _ _ _) ?_
          | refine vb_i (leq64 _ _ _) ?_
          | refine vb_i (gtr64 _ _ _) ?_
          | refine vb_i (geq64 _ _ _) ?_
          | refine vb_i (eql64 _ _ _) ?_
          | refine vb_i (neq64 _ _ _) ?_
          | refine vb_i (eqls _ _) ?_
          | refine vb_i (neqs _ _) ?_
          | (refine vb_i (add64 ?_ ?_) ?_; (· omega); (· omega))
          | (refine vb_i (sub64 ?_ ?_) ?_; (· omega); (· omega))
          | (refine vb_i (mul64 ?_ ?_) ?_; (· omega); (· omega))
          | (refine vb_i (quo64 ?_ ?_ ?_) ?_; (· omega); (· omega); (· omega))
          | (refine vb_i (rem64 ?_ ?_) ?_; (· omega); (· omega))
          | refine vb_i (e_lenSt _) ?_
          | refine vb_i (e_lenSl _ _ _) ?_
          | refine vb_i e_lenNil ?_
          | refine vb_i (lenSl_view (by assumption)) ?_
          | refine vb_i (e_ptrNil _ _) ?_
          | refine vb_i (e_ptrNilN _ _) ?_
          | refine vb_i (e_nilNil _) ?_
          | refine vb_i (e_nilNilN _) ?_
          | refine vb_i (e_pickT _ _) ?_
          | refine vb_i (e_pickF _ _) ?_
          | refine vb_i e_notd ?_
          | refine vb_i e_boolNe ?_
          | refine vb_i e_boolEq ?_
          | refine vb_i (e_not _) ?_
          | refine vb_i (e_nilCheck _) ?_
          | refine vb_i (e_fieldAddr _ _) ?_
          | refine hb_i (e_alloc _ _) ?_
          | (refine vb_i (adds ?_) ?_; (· first | omega | (simp only [List.length_cons, List.length_nil, List.length_append]; omega)))
          refine vb_i q1 (vb_i q2 ?_)
          have hfl : (l.take i).flatten.length = 64 * i := by
            have := flat_len (l := l.take i) fun s hs => by
              obtain ⟨k, hk, rfl⟩ := List.getElem_of_mem hs
              have := h64 k (by simp at hk; omega)
              rw [List.getD_eq_getElem?_getD, List.getElem?_eq_getElem (by simp at hk; omega)] at this
              simpa using this
            rw [this, List.length_take]; omega
          refine vb_i (adds (by simp only [List.length_append, hfl, hs, ha, List.length_cons, List.length_nil]; omega)) ?_
          repeat with_reducible first
          | refine isB_T ?_
          | refine isB_F ?_
          | (refine isB_ct ?_ ?_; (· first | omega | rfl | assumption | trivial))
          | (refine isB_cf ?_ ?_; (· first | omega | assumption))
          | refine onE_i ?_
          | (refine onE_s ?_ ?_; (· decide))
          | refine vb_i e_ext0 ?_
          | refine vb_i e_ext1 ?_
          | refine vb_i e_ext2 ?_
          | refine vb_i (lss64 _ _ _) ?_
          | refine vb_i (leq64 _ _ _) ?_
          | refine vb_i (gtr64 _ _ _) ?_
          | refine vb_i (geq64 _ _ _) ?_
          | refine vb_i (eql64 _ _ _) ?_
          | refine vb_i (neq64 _ _ _) ?_
          | refine vb_i (eqls _ _) ?_
          | refine vb_i (neqs _ _) ?_
          | (refine vb_i (add64 ?_ ?_) ?_; (· omega); (· omega))
          | (refine vb_i (sub64 ?_ ?_) ?_; (· omega); (· omega))
          | (refine vb_i (mul64 ?_ ?_) ?_; (· omega); (· omega))
          | (refine vb_i (quo64 ?_ ?_ ?_) ?_; (· omega); (· omega); (· omega))
          | (refine vb_i (rem64 ?_ ?_) ?_; (· omega); (· omega))
          | refine vb_i (e_lenSt _) ?_
          | refine vb_i (e_lenSl _ _ _) ?_
          | refine vb_i e_lenNil ?_
          | refine vb_i (lenSl_view (by assumption)) ?_
          | refine vb_i (e_ptrNil _ _) ?_
          | refine vb_i (e_ptrNilN _ _) ?_
          | refine vb_i (e_nilNil _) ?_
          | refine vb_i (e_nilNilN _) ?_
          | refine vb_i (e_pickT _ _) ?_
          | refine vb_i (e_pickF _ _) ?_
          | refine vb_i e_notd ?_
          | refine vb_i e_boolNe ?_
          | refine vb_i e_boolEq ?_
          | refine vb_i (e_not _) ?_
          | refine vb_i (e_nilCheck _) ?_
          | refine vb_i (e_fieldAddr _ _) ?_
          | refine hb_i (e_alloc _ _) ?_
          | (refine vb_i (adds ?_) ?_; (· first | omega | (simp only [List.length_cons, List.length_nil, List.length_append]; omega)))
          rw [List.append_assoc, ← flat_take hil]
          refine hn (i + 1) _ ⟨by omega, fun k hk => ?_, rfl⟩ (by omega)
          by_cases e : k = i
          · subst e; exact hs
          · exact h64 k (by omega)
        · have hng : ¬ good l := fun hg => hs (hg.2.2 _ hsm)
          repeat with_reducible first
          | refine isB_T ?_
          | refine isB_F ?_
          | (refine isB_ct ?_ ?_; (· first | omega | rfl | assumption | trivial))
          | (refine isB_cf ?_ ?_; (· first | omega | assumption))
          | refine onE_i ?_
          | (refine onE_s ?_ ?_; (· decide))
          | refine vb_i e_ext0 ?_
          | refine vb_i e_ext1 ?_
          | refine vb_i e_ext2 ?_
          | refine vb_i (lss64 _ _ _) ?_
          | refine vb_i (leq64 _ _ _) ?_
          | refine vb_i (gtr64 _ _ _) ?_
          | refine vb_i (geq64 _ _ _) ?_
          | refine vb_i (eql64 _ _ _) ?_
          | refine vb_i (neq64 _ _ _) ?_
          | refine vb_i (eqls _ _) ?_
          | refine vb_i (neqs _ _) ?_
          | (refine vb_i (add64 ?_ ?_) ?_; (· omega); (· omega))
          | (refine vb_i (sub64 ?_ ?_) ?_; (· omega); (· omega))
          | (refine vb_i (mul64 ?_ ?_) ?_; (· omega); (· omega))
          | (refine vb_i (quo64 ?_ ?_ ?_) ?_; (· omega); (· omega); (· omega))
          | (refine vb_i (rem64 ?_ ?_) ?_; (· omega); (· omega))
          | refine vb_i (e_lenSt _) ?_
          | refine vb_i (e_lenSl _ _ _) ?_
          | refine vb_i e_lenNil ?_
          | refine vb_i (lenSl_view (by assumption)) ?_
          | refine vb_i (e_ptrNil _ _) ?_
          | refine vb_i (e_ptrNilN _ _) ?_
          | refine vb_i (e_nilNil _) ?_
          | refine vb_i (e_nilNilN _) ?_
          | refine vb_i (e_pickT _ _) ?_
          | refine vb_i (e_pickF _ _) ?_
          | refine vb_i e_notd ?_
          | refine vb_i e_boolNe ?_
          | refine vb_i e_boolEq ?_
          | refine vb_i (e_not _) ?_
          | refine vb_i (e_nilCheck _) ?_
          | refine vb_i (e_fieldAddr _ _) ?_
          | refine hb_i (e_alloc _ _) ?_
          | (refine vb_i (adds ?_) ?_; (· first | omega | (simp only [List.length_cons, List.length_nil, List.length_append]; omega)))
          refine vb_i zero32_build ?_
          unfold zero32
          with_reducible refine sb_i (store_new List.length_replicate List.length_replicate (cells_rep _ _ _)) ?_
          repeat with_reducible first
          | refine isB_T ?_
          | refine isB_F ?_
          | (refine isB_ct ?_ ?_; (· first | omega | rfl | assumption | trivial))
          | (refine isB_cf ?_ ?_; (· first | omega | assumption))
          | refine onE_i ?_
          | (refine onE_s ?_ ?_; (· decide))
          | refine vb_i e_ext0 ?_
          | refine vb_i e_ext1 ?_
          | refine vb_i e_ext2 ?_
          | refine vb_i (lss64 _ _ _) ?_
          | refine vb_i (leq64 _ _ _) ?_
          | refine vb_i (gtr64 _ _ _) ?_
          | refine vb_i (geq64 _ _ _) ?_
          | refine vb_i (eql64 _ _ _) ?_
          | refine vb_i (neq64 _ _ _) ?_
          | refine vb_i (eqls _ _) ?_
          | refine vb_i (neqs _ _) ?_
          | (refine vb_i (add64 ?_ ?_) ?_; (· omega); (· omega))
          | (refine vb_i (sub64 ?_ ?_) ?_; (· omega); (· omega))
          | (refine vb_i (mul64 ?_ ?_) ?_; (· omega); (· omega))
          | (refine vb_i (quo64 ?_ ?_ ?_) ?_; (· omega); (· omega); (· omega))
          | (refine vb_i (rem64 ?_ ?_) ?_; (· omega); (· omega))
          | refine vb_i (e_lenSt _) ?_
          | refine vb_i (e_lenSl _ _ _) ?_
          | refine vb_i e_lenNil ?_
          | refine vb_i (lenSl_view (by assumption)) ?_
          | refine vb_i (e_ptrNil _ _) ?_
          | refine vb_i (e_ptrNilN _ _) ?_
          | refine vb_i (e_nilNil _) ?_
          | refine vb_i (e_nilNilN _) ?_
          | refine vb_i (e_pickT _ _) ?_
          | refine vb_i (e_pickF _ _) ?_
          | refine vb_i e_notd ?_
          | refine vb_i e_boolNe ?_
          | refine vb_i e_boolEq ?_
          | refine vb_i (e_not _) ?_
          | refine vb_i (e_nilCheck _) ?_
          | refine vb_i (e_fieldAddr _ _) ?_
          | refine hb_i (e_alloc _ _) ?_
          | (refine vb_i (adds ?_) ?_; (· first | omega | (simp only [List.length_cons, List.length_nil, List.length_append]; omega)))
          try simp only [evB]
          rw [if_neg hng] at h
          subst h
          refine fin_ret (vs := [.agg (List.replicate 32 (.int .u8 0)), .int .i64 6]) (rvs_c (load_new List.length_replicate) (rvs_v (rvs_nil _))) ?_
          exact Weak.any (ren_pair (agg_plain zero32_plain) (ren_p rfl)) p0
      · have hie : i = l.length := by omega
        subst hie
        have hgood : good l := ⟨hl0, hl80, fun s hs => by
          obtain ⟨k, hk, rfl⟩ := List.getElem_of_mem hs
          have := h64 k hk
          rwa [List.getD_eq_getElem?_getD, List.getElem?_eq_getElem hk] at this⟩
        rw [if_pos hgood] at h
        subst h
        rw [List.take_length]
        have hfl := flat_len hgood.2.2
        repeat with_reducible first
        | refine isB_T ?_
        | refine isB_F ?_
        | (refine isB_ct ?_ ?_; (· first | omega | rfl | assumption | trivial))
        | (refine isB_cf ?_ ?_; (· first | omega | assumption))
        | refine onE_i ?_
        | (refine onE_s ?_ ?_; (· decide))
        | refine vb_i e_ext0 ?_
        | refine vb_i e_ext1 ?_
        | refine vb_i e_ext2 ?_
        | refine vb_i (lss64 _ _ _) ?_
        | refine vb_i (leq64 _ _ _) ?_
        | refine vb_i (gtr64 _ _ _) ?_
        | refine vb_i (geq64 _ _ _) ?_
        | refine vb_i (eql64 _ _ _) ?_
        | refine vb_i (neq64 _ _ _) ?_
        | refine vb_i (eqls _ _) ?_
        | refine vb_i (neqs _ _) ?_
        | (refine vb_i (add64 ?_ ?_) ?_; (· omega); (· omega))
        | (refine vb_i (sub64 ?_ ?_) ?_; (· omega); (· omega))
        | (refine vb_i (mul64 ?_ ?_) ?_; (· omega); (· omega))
        | (refine vb_i (quo64 ?_ ?_ ?_) ?_; (· omega); (· omega); (· omega))
        | (refine vb_i (rem64 ?_ ?_) ?_; (· omega); (· omega))
        | refine vb_i (e_lenSt _) ?_
        | refine vb_i (e_lenSl _ _ _) ?_
        | refine vb_i e_lenNil ?_
        | refine vb_i (lenSl_view (by assumption)) ?_
        | refine vb_i (e_ptrNil _ _) ?_
        | refine vb_i (e_ptrNilN _ _) ?_
        | refine vb_i (e_nilNil _) ?_
        | refine vb_i (e_nilNilN _) ?_
        | refine vb_i (e_pickT _ _) ?_
        | refine vb_i (e_pickF _ _) ?_
        | refine vb_i e_notd ?_
        | refine vb_i e_boolNe ?_
        | refine vb_i e_boolEq ?_
        | refine vb_i (e_not _) ?_
        | refine vb_i (e_nilCheck _) ?_
        | refine vb_i (e_fieldAddr _ _) ?_
        | refine hb_i (e_alloc _ _) ?_
        | (refine vb_i (adds ?_) ?_; (· first | omega | (simp only [List.length_cons, List.length_nil, List.length_append]; omega)))
        have hT : ([110, 101, 120, 116] ++ a) ++ l.flatten = nextT a l := rfl
        rw [hT]
        have htl : (nextT a l).length ≤ 1099511627776 := by rw [← hT]; simp only [List.length_append, hfl, ha, List.length_cons, List.length_nil]; omega
        refine cb_i _ _ ⟨nextT a l, rfl, htl, rfl, rfl⟩ ?_
        have hsl := sum_len (nextT a l)
        with_reducible refine sb_i (store_new List.length_replicate (by rw [List.length_map]; exact hsl) (cells_byte _)) ?_
        refine fin_ret (vs := [.agg ((sum (nextT a l)).map ofByte), .int .i64 0]) (rvs_c (load_new (by rw [List.length_map]; exact hsl)) (rvs_v (rvs_nil _))) ?_
        exact Weak.any (ren_pair (agg_plain (bytes_plain _)) (ren_p rfl)) (pA.trans (pre_app _ _))
end Go.Sh

/- The laws of chains, 2. -/
namespace Go.Sh
open Go Go.Abs

theorem RunN.untouched {A C : AHeap} {own : Nat → Prop} {T : List (List UInt8)} (h : RunN A C own T) {k : Nat} (hk : own k) : Untouched C (.ptr ⟨A.length + 1, 0, 0⟩) k := by
  obtain ⟨h0, mv, lv, h1, h2⟩ := h
  intro i v m lv' e hc
  cases e
  have := h1.rep.cell
  rw [this] at hc
  cases hc
  have := h0 k hk
  exact ⟨by omega, by omega, h2 k hk⟩
theorem one_str (H : AHeap) (s : List UInt8) : aBuildSlice H 1 [.str []] 1 [(0, .str s)] = some (.slice ⟨H.length, 0, 0⟩ 1 (.ex 1), H ++ [.cells 0 .exact (strs [s])]) := rfl
theorem one_slice (H : AHeap) (r : Ref) (n : Nat) (c : Cap) : aBuildSlice H 1 [.nils] 1 [(0, .slice r n c)] = some (.slice ⟨H.length, 0, 0⟩ 1 (.ex 1), H ++ [.cells 0 .exact [.slice r n c]]) := rfl
theorem start10 (s : List UInt8) : startT 1 0 s = [115, 116, 97, 114, 116, 1, 0] ++ s := rfl
theorem next1 (a s : List UInt8) : nextT a [s] = ([110, 101, 120, 116] ++ a) ++ s := by simp [nextT]

theorem cellaretlaw14_awake.ok (args : List AVal) (H : AHeap) (r : AVal) (H' : AHeap) (h : S_cellaretlaw14_awake args H r H') : args = [] ∧ cellaretlaw14_awake.w H fun r1 H1 => Weak H r1 H1 r H' := by
  obtain ⟨rfl, rfl, rfl⟩ := h
  refine ⟨rfl, ?_⟩
  unfold cellaretlaw14_awake.w
  refine cb_i _ _ ⟨rfl, rfl, rfl⟩ ?_
  refine cb_i _ _ ⟨[115], 64, rfl, by decide, rfl, rfl⟩ ?_
  have hsp : (full [115] 64).length = 64 := full_len (by decide)
  generalize full [115] 64 = sp at *
  have r0 := RunN.start H'
  have hl1 : (startT 1 0 sp).length = 71 := by rw [start10]; simp [hsp]
  obtain ⟨C1, hO1, r1, hle1, hk1⟩ := r0.call (ss := [startT 1 0 sp]) (by simp) (by simp; omega)
  have hg : good [sp] := ⟨by simp, by simp, by simpa using hsp⟩
  have hs1 := sum_len (startT 1 0 sp)
  refine cb_i _ _ ⟨_, sp, 1, 0, rfl, .inr ⟨by simp [startE, hsp], rfl, hO1⟩⟩ ?_
  generalize ha1 : sum (startT 1 0 sp) = a1 at *
  have hcl : ∀ b : List UInt8, (AVal.agg (b.map ofByte)).cells = b.map ofByte := fun _ => rfl
  have hl2 : (nextT a1 [sp]).length = 100 := by rw [next1]; simp [hsp, hs1]
  have hs2 := sum_len (nextT a1 [sp])
  repeat with_reducible first
  | refine isB_T ?_
  | refine isB_F ?_
  | (refine isB_ct ?_ ?_; (· first | omega | rfl | assumption | trivial))
  | (refine isB_cf ?_ ?_; (· first | omega | assumption))
  | refine onE_i ?_
  | (refine onE_s ?_ ?_; (· decide))
  | refine vb_i e_ext0 ?_
  | refine vb_i e_ext1 ?_
  | refine vb_i e_ext2 ?_
  | refine vb_i (lss64 _ _ _) ?_
  | refine vb_i (leq64 _ _ _) ?_
  | refine vb_i (gtr64 _ _ _) ?_
  | refine vb_i (geq64 _ _ _) ?_
  | refine vb_i (eql64 _ _ _) ?_
  | refine vb_i (neq64 _ _ _) ?_
  | refine vb_i (eqls _ _) ?_
  | refine vb_i (neqs _ _) ?_
  | (refine vb_i (add64 ?_ ?_) ?_; (· omega); (· omega))
  | (refine vb_i (sub64 ?_ ?_) ?_; (· omega); (· omega))
  | (refine vb_i (mul64 ?_ ?_) ?_; (· omega); (· omega))
  | (refine vb_i (quo64 ?_ ?_ ?_) ?_; (· omega); (· omega); (· omega))
  | (refine vb_i (rem64 ?_ ?_) ?_; (· omega); (· omega))
  | refine vb_i (e_lenSt _) ?_
  | refine vb_i (e_lenSl _ _ _) ?_
  | refine vb_i e_lenNil ?_
  | refine vb_i (lenSl_view (by assumption)) ?_
  | refine vb_i (e_ptrNil _ _) ?_
  | refine vb_i (e_ptrNilN _ _) ?_
  | refine vb_i (e_nilNil _) ?_
  | refine vb_i (e_nilNilN _) ?_
  | refine vb_i (e_pickT _ _) ?_
  | refine vb_i (e_pickF _ _) ?_
  | refine vb_i e_notd ?_
  | refine vb_i e_boolNe ?_
  | refine vb_i e_boolEq ?_
  | refine vb_i (e_not _) ?_
  | refine vb_i (e_nilCheck _) ?_
  | refine vb_i (e_fieldAddr _ _) ?_
  | refine hb_i (e_alloc _ _) ?_
  | (refine vb_i (adds ?_) ?_; (· first | omega | (simp only [List.length_cons, List.length_nil, List.length_append]; omega)))
  with_reducible refine sb_i (store_new List.length_replicate (by rw [List.length_map]; exact hs1) (cells_byte _)) ?_
  with_reducible refine vb_i (load_new (by rw [List.length_map]; exact hs1)) ?_
  refine hb_i (one_str _ _) ?_
  have r2 := (r1.push (.cells 0 .exact (a1.map ofByte))).push (.cells 0 .exact (strs [sp]))
  have q1 : ((C1 ++ [AObj.cells 0 .exact (a1.map ofByte)]) ++ [AObj.cells 0 .exact (strs [sp])])[C1.length]? = some (.cells 0 .exact (a1.map ofByte)) := by
    rw [pre_get (pre_app _ _) (by simp), app_get0]; rfl
  have o1 : ((False ∨ C1.length = C1.length) ∨ C1.length = (C1 ++ [AObj.cells 0 .exact (a1.map ofByte)]).length) := .inl (.inr rfl)
  obtain ⟨C2, hO2, r3, hle2, hk2⟩ := r2.call (ss := [nextT a1 [sp]]) (by have := keepTs_len [startT 1 0 sp] []; simp at this ⊢; omega) (by simp; omega)
  refine cb_i _ _ ⟨_, _, a1, [sp], rfl, hs1, ⟨.inl (view_ex (app_get0 _ _) rfl), by simp, by simp; omega⟩, .inr ⟨hg, rfl, hO2⟩⟩ ?_
  generalize hb1 : sum (nextT a1 [sp]) = b1 at *
  have q2 := (hk2 _ o1).trans q1
  repeat with_reducible first
  | refine isB_T ?_
  | refine isB_F ?_
  | (refine isB_ct ?_ ?_; (· first | omega | rfl | assumption | trivial))
  | (refine isB_cf ?_ ?_; (· first | omega | assumption))
  | refine onE_i ?_
  | (refine onE_s ?_ ?_; (· decide))
  | refine vb_i e_ext0 ?_
  | refine vb_i e_ext1 ?_
  | refine vb_i e_ext2 ?_
  | refine vb_i (lss64 _ _ _) ?_
  | refine vb_i (leq64 _ _ _) ?_
  | refine vb_i (gtr64 _ _ _) ?_
  | refine vb_i (geq64 _ _ _) ?_
  | refine vb_i (eql64 _ _ _) ?_
  | refine vb_i (neq64 _ _ _) ?_
  | refine vb_i (eqls _ _) ?_
  | refine vb_i (neqs _ _) ?_
  | (refine vb_i (add64 ?_ ?_) ?_; (· omega); (· omega))
  | (refine vb_i (sub64 ?_ ?_) ?_; (· omega); (· omega))
  | (refine vb_i (mul64 ?_ ?_) ?_; (· omega); (· omega))
  | (refine vb_i (quo64 ?_ ?_ ?_) ?_; (· omega); (· omega); (· omega))
  | (refine vb_i (rem64 ?_ ?_) ?_; (· omega); (· omega))
  | refine vb_i (e_lenSt _) ?_
  | refine vb_i (e_lenSl _ _ _) ?_
  | refine vb_i e_lenNil ?_
  | refine vb_i (lenSl_view (by assumption)) ?_
  | refine vb_i (e_ptrNil _ _) ?_
  | refine vb_i (e_ptrNilN _ _) ?_
  | refine vb_i (e_nilNil _) ?_
  | refine vb_i (e_nilNilN _) ?_
  | refine vb_i (e_pickT _ _) ?_
  | refine vb_i (e_pickF _ _) ?_
  | refine vb_i e_notd ?_
  | refine vb_i e_boolNe ?_
  | refine vb_i e_boolEq ?_
  | refine vb_i (e_not _) ?_
  | refine vb_i (e_nilCheck _) ?_
  | refine vb_i (e_fieldAddr _ _) ?_
  | refine hb_i (e_alloc _ _) ?_
  | (refine vb_i (adds ?_) ?_; (· first | omega | (simp only [List.length_cons, List.length_nil, List.length_append]; omega)))
  with_reducible refine sb_i (store_new List.length_replicate (by rw [List.length_map]; exact hs2) (cells_byte _)) ?_
  have q3 : (C2 ++ [AObj.cells 0 .exact (b1.map ofByte)])[C1.length]? = some (.cells 0 .exact (a1.map ofByte)) := by
    rw [pre_get (pre_app _ _) (lt_of_some q2)]; exact q2
  with_reducible refine vb_i (e_loadAll q3 (by rw [List.length_map]; exact hs1)) ?_
  refine hb_i (one_str _ _) ?_
  refine hb_i (one_slice _ _ _ _) ?_
  have r4 := ((r3.push (.cells 0 .exact (b1.map ofByte))).push (.cells 0 .exact (strs [sp]))).push (.cells 0 .exact [.slice ⟨(C2 ++ [AObj.cells 0 .exact (b1.map ofByte)]).length, 0, 0⟩ 1 (.ex 1)])
  have hv1 : View ((C2 ++ [AObj.cells 0 .exact (b1.map ofByte)]) ++ [AObj.cells 0 .exact (strs [sp])]) (.slice ⟨(C2 ++ [AObj.cells 0 .exact (b1.map ofByte)]).length, 0, 0⟩ 1 (.ex 1)) 1 1 (strs [sp]) := view_ex (app_get0 _ _) rfl
  have hv2 := hv1.pre (pre_app _ [AObj.cells 0 .exact [.slice ⟨(C2 ++ [AObj.cells 0 .exact (b1.map ofByte)]).length, 0, 0⟩ 1 (.ex 1)]])
  have hv3 : View (((C2 ++ [AObj.cells 0 .exact (b1.map ofByte)]) ++ [AObj.cells 0 .exact (strs [sp])]) ++ [AObj.cells 0 .exact [.slice ⟨(C2 ++ [AObj.cells 0 .exact (b1.map ofByte)]).length, 0, 0⟩ 1 (.ex 1)]]) (.slice ⟨((C2 ++ [AObj.cells 0 .exact (b1.map ofByte)]) ++ [AObj.cells 0 .exact (strs [sp])]).length, 0, 0⟩ 1 (.ex 1)) 1 1 [.slice ⟨(C2 ++ [AObj.cells 0 .exact (b1.map ofByte)]).length, 0, 0⟩ 1 (.ex 1)] := view_ex (app_get0 _ _) rfl
  have hT2 : (keepTs (keepTs [] [startT 1 0 sp]) [nextT a1 [sp]]).length ≤ 2 := by
    have := keepTs_len [startT 1 0 sp] []
    have := keepTs_len [nextT a1 [sp]] (keepTs [] [startT 1 0 sp])
    simp at *; omega
  obtain ⟨C3, hO3, r5, hle3, hk3⟩ := r4.call (ss := alongT a1 [[sp]]) (by simp only [alongT, if_pos hg, List.length_cons, List.length_nil]; omega) (by simp [alongT, hg]; omega)
  have q4 : (((C2 ++ [AObj.cells 0 .exact (b1.map ofByte)]) ++ [AObj.cells 0 .exact (strs [sp])]) ++ [AObj.cells 0 .exact [.slice ⟨(C2 ++ [AObj.cells 0 .exact (b1.map ofByte)]).length, 0, 0⟩ 1 (.ex 1)]])[C1.length]? = some (.cells 0 .exact (a1.map ofByte)) := by
    have := lt_of_some q3
    rw [pre_get (pre_app _ _) (by simp at *; omega), pre_get (pre_app _ _) this]; exact q3
  have q5 : (((C2 ++ [AObj.cells 0 .exact (b1.map ofByte)]) ++ [AObj.cells 0 .exact (strs [sp])]) ++ [AObj.cells 0 .exact [.slice ⟨(C2 ++ [AObj.cells 0 .exact (b1.map ofByte)]).length, 0, 0⟩ 1 (.ex 1)]])[C2.length]? = some (.cells 0 .exact (b1.map ofByte)) := by
    rw [pre_get (pre_app _ _) (by simp), pre_get (pre_app _ _) (by simp), app_get0]; rfl
  have hAR : alongR a1 [[sp]] = some b1 := by simp only [alongR, if_pos hg, hb1]
  refine cb_i _ _ ⟨_, _, a1, [_], [[sp]], rfl, hs1, ⟨hv3, by simp, ?_, ?_, ?_⟩, rfl, hO3⟩ ?_
  · intro i hi
    have : i = 0 := by simp at hi; omega
    subst this
    exact ⟨.inl hv2, by simp, by simp; omega⟩
  · intro k hk
    simp only [slId, Option.some.injEq] at hk
    exact r4.untouched (.inr hk.symm)
  · intro i k hi _ hk
    have : i = 0 := by simp at hi; omega
    subst this
    simp only [List.getD_cons_zero, slId, Option.some.injEq] at hk
    exact r4.untouched (.inl (.inr hk.symm))
  rw [hAR]
  have q6 := (hk3 _ (.inl (.inl (.inl o1)))).trans q4
  have q7 := (hk3 _ (.inl (.inl (.inr rfl)))).trans q5
  have hT : keepTs (keepTs (keepTs [] [startT 1 0 sp]) [nextT a1 [sp]]) (alongT a1 [[sp]]) = [startT 1 0 sp, nextT a1 [sp]] := by
    have hne : nextT a1 [sp] ≠ startT 1 0 sp := fun e => by rw [e] at hl2; omega
    simp [alongT, hg, keepTs, keepT, hne]
  rw [hT] at r5
  have r6 := r5.push (.cells 0 .exact (b1.map ofByte))
  obtain ⟨mv, lv, rep⟩ := r6.rep
  have p6 := r6.pre
  repeat with_reducible first
  | refine isB_T ?_
  | refine isB_F ?_
  | (refine isB_ct ?_ ?_; (· first | omega | rfl | assumption | trivial))
  | (refine isB_cf ?_ ?_; (· first | omega | assumption))
  | refine onE_i ?_
  | (refine onE_s ?_ ?_; (· decide))
  | refine vb_i e_ext0 ?_
  | refine vb_i e_ext1 ?_
  | refine vb_i e_ext2 ?_
  | refine vb_i (lss64 _ _ _) ?_
  | refine vb_i (leq64 _ _ _) ?_
  | refine vb_i (gtr64 _ _ _) ?_
  | refine vb_i (geq64 _ _ _) ?_
  | refine vb_i (eql64 _ _ _) ?_
  | refine vb_i (neq64 _ _ _) ?_
  | refine vb_i (eqls _ _) ?_
  | refine vb_i (neqs _ _) ?_
  | (refine vb_i (add64 ?_ ?_) ?_; (· omega); (· omega))
  | (refine vb_i (sub64 ?_ ?_) ?_; (· omega); (· omega))
  | (refine vb_i (mul64 ?_ ?_) ?_; (· omega); (· omega))
  | (refine vb_i (quo64 ?_ ?_ ?_) ?_; (· omega); (· omega); (· omega))
  | (refine vb_i (rem64 ?_ ?_) ?_; (· omega); (· omega))
  | refine vb_i (e_lenSt _) ?_
  | refine vb_i (e_lenSl _ _ _) ?_
  | refine vb_i e_lenNil ?_
  | refine vb_i (lenSl_view (by assumption)) ?_
  | refine vb_i (e_ptrNil _ _) ?_
  | refine vb_i (e_ptrNilN _ _) ?_
  | refine vb_i (e_nilNil _) ?_
  | refine vb_i (e_nilNilN _) ?_
  | refine vb_i (e_pickT _ _) ?_
  | refine vb_i (e_pickF _ _) ?_
  | refine vb_i e_notd ?_
  | refine vb_i e_boolNe ?_
  | refine vb_i e_boolEq ?_
  | refine vb_i (e_not _) ?_
  | refine vb_i (e_nilCheck _) ?_
  | refine vb_i (e_fieldAddr _ _) ?_
  | refine hb_i (e_alloc _ _) ?_
  | (refine vb_i (adds ?_) ?_; (· first | omega | (simp only [List.length_cons, List.length_nil, List.length_append]; omega)))
  with_reducible refine sb_i (store_new List.length_replicate (by rw [List.length_map]; exact hs2) (cells_byte _)) ?_
  have q8 : (C3 ++ [AObj.cells 0 .exact (b1.map ofByte)])[C1.length]? = some (.cells 0 .exact (a1.map ofByte)) := by
    rw [pre_get (pre_app _ _) (lt_of_some q6)]; exact q6
  have q9 : (C3 ++ [AObj.cells 0 .exact (b1.map ofByte)])[C2.length]? = some (.cells 0 .exact (b1.map ofByte)) := by
    rw [pre_get (pre_app _ _) (lt_of_some q7)]; exact q7
  repeat with_reducible first
  | refine isB_T ?_
  | refine isB_F ?_
  | (refine isB_ct ?_ ?_; (· first | omega | rfl | assumption | trivial))
  | (refine isB_cf ?_ ?_; (· first | omega | assumption))
  | refine onE_i ?_
  | (refine onE_s ?_ ?_; (· decide))
  | refine vb_i e_ext0 ?_
  | refine vb_i e_ext1 ?_
  | refine vb_i e_ext2 ?_
  | refine vb_i (lss64 _ _ _) ?_
  | refine vb_i (leq64 _ _ _) ?_
  | refine vb_i (gtr64 _ _ _) ?_
  | refine vb_i (geq64 _ _ _) ?_
  | refine vb_i (eql64 _ _ _) ?_
  | refine vb_i (neq64 _ _ _) ?_
  | refine vb_i (eqls _ _) ?_
  | refine vb_i (neqs _ _) ?_
  | (refine vb_i (add64 ?_ ?_) ?_; (· omega); (· omega))
  | (refine vb_i (sub64 ?_ ?_) ?_; (· omega); (· omega))
  | (refine vb_i (mul64 ?_ ?_) ?_; (· omega); (· omega))
  | (refine vb_i (quo64 ?_ ?_ ?_) ?_; (· omega); (· omega); (· omega))
  | (refine vb_i (rem64 ?_ ?_) ?_; (· omega); (· omega))
  | refine vb_i (e_lenSt _) ?_
  | refine vb_i (e_lenSl _ _ _) ?_
  | refine vb_i e_lenNil ?_
  | refine vb_i (lenSl_view (by assumption)) ?_
  | refine vb_i (e_ptrNil _ _) ?_
  | refine vb_i (e_ptrNilN _ _) ?_
  | refine vb_i (e_nilNil _) ?_
  | refine vb_i (e_nilNilN _) ?_
  | refine vb_i (e_pickT _ _) ?_
  | refine vb_i (e_pickF _ _) ?_
  | refine vb_i e_notd ?_
  | refine vb_i e_boolNe ?_
  | refine vb_i e_boolEq ?_
  | refine vb_i (e_not _) ?_
  | refine vb_i (e_nilCheck _) ?_
  | refine vb_i (e_fieldAddr _ _) ?_
  | refine hb_i (e_alloc _ _) ?_
  | (refine vb_i (adds ?_) ?_; (· first | omega | (simp only [List.length_cons, List.length_nil, List.length_append]; omega)))
  with_reducible refine vb_i (e_loadAll q8 (by rw [List.length_map]; exact hs1)) ?_
  repeat with_reducible first
  | refine isB_T ?_
  | refine isB_F ?_
  | (refine isB_ct ?_ ?_; (· first | omega | rfl | assumption | trivial))
  | (refine isB_cf ?_ ?_; (· first | omega | assumption))
  | refine onE_i ?_
  | (refine onE_s ?_ ?_; (· decide))
  | refine vb_i e_ext0 ?_
  | refine vb_i e_ext1 ?_
  | refine vb_i e_ext2 ?_
  | refine vb_i (lss64 _ _ _) ?_
  | refine vb_i (leq64 _ _ _) ?_
  | refine vb_i (gtr64 _ _ _) ?_
  | refine vb_i (geq64 _ _ _) ?_
  | refine vb_i (eql64 _ _ _) ?_
  | refine vb_i (neq64 _ _ _) ?_
  | refine vb_i (eqls _ _) ?_
  | refine vb_i (neqs _ _) ?_
  | (refine vb_i (add64 ?_ ?_) ?_; (· omega); (· omega))
  | (refine vb_i (sub64 ?_ ?_) ?_; (· omega); (· omega))
  | (refine vb_i (mul64 ?_ ?_) ?_; (· omega); (· omega))
  | (refine vb_i (quo64 ?_ ?_ ?_) ?_; (· omega); (· omega); (· omega))
  | (refine vb_i (rem64 ?_ ?_) ?_; (· omega); (· omega))
  | refine vb_i (e_lenSt _) ?_
  | refine vb_i (e_lenSl _ _ _) ?_
  | refine vb_i e_lenNil ?_
  | refine vb_i (lenSl_view (by assumption)) ?_
  | refine vb_i (e_ptrNil _ _) ?_
  | refine vb_i (e_ptrNilN _ _) ?_
  | refine vb_i (e_nilNil _) ?_
  | refine vb_i (e_nilNilN _) ?_
  | refine vb_i (e_pickT _ _) ?_
  | refine vb_i (e_pickF _ _) ?_
  | refine vb_i e_notd ?_
  | refine vb_i e_boolNe ?_
  | refine vb_i e_boolEq ?_
  | refine vb_i (e_not _) ?_
  | refine vb_i (e_nilCheck _) ?_
  | refine vb_i (e_fieldAddr _ _) ?_
  | refine hb_i (e_alloc _ _) ?_
  | (refine vb_i (adds ?_) ?_; (· first | omega | (simp only [List.length_cons, List.length_nil, List.length_append]; omega)))
  rw [← start10]
  refine cb_i _ _ ⟨_, rfl, by omega, rfl, rfl⟩ ?_
  rw [ha1]
  with_reducible refine vb_i (e_eqBytes hs1 hs1) ?_
  repeat with_reducible first
  | refine isB_T ?_
  | refine isB_F ?_
  | (refine isB_ct ?_ ?_; (· first | omega | rfl | assumption | trivial))
  | (refine isB_cf ?_ ?_; (· first | omega | assumption))
  | refine onE_i ?_
  | (refine onE_s ?_ ?_; (· decide))
  | refine vb_i e_ext0 ?_
  | refine vb_i e_ext1 ?_
  | refine vb_i e_ext2 ?_
  | refine vb_i (lss64 _ _ _) ?_
  | refine vb_i (leq64 _ _ _) ?_
  | refine vb_i (gtr64 _ _ _) ?_
  | refine vb_i (geq64 _ _ _) ?_
  | refine vb_i (eql64 _ _ _) ?_
  | refine vb_i (neq64 _ _ _) ?_
  | refine vb_i (eqls _ _) ?_
  | refine vb_i (neqs _ _) ?_
  | (refine vb_i (add64 ?_ ?_) ?_; (· omega); (· omega))
  | (refine vb_i (sub64 ?_ ?_) ?_; (· omega); (· omega))
  | (refine vb_i (mul64 ?_ ?_) ?_; (· omega); (· omega))
  | (refine vb_i (quo64 ?_ ?_ ?_) ?_; (· omega); (· omega); (· omega))
  | (refine vb_i (rem64 ?_ ?_) ?_; (· omega); (· omega))
  | refine vb_i (e_lenSt _) ?_
  | refine vb_i (e_lenSl _ _ _) ?_
  | refine vb_i e_lenNil ?_
  | refine vb_i (lenSl_view (by assumption)) ?_
  | refine vb_i (e_ptrNil _ _) ?_
  | refine vb_i (e_ptrNilN _ _) ?_
  | refine vb_i (e_nilNil _) ?_
  | refine vb_i (e_nilNilN _) ?_
  | refine vb_i (e_pickT _ _) ?_
  | refine vb_i (e_pickF _ _) ?_
  | refine vb_i e_notd ?_
  | refine vb_i e_boolNe ?_
  | refine vb_i e_boolEq ?_
  | refine vb_i (e_not _) ?_
  | refine vb_i (e_nilCheck _) ?_
  | refine vb_i (e_fieldAddr _ _) ?_
  | refine hb_i (e_alloc _ _) ?_
  | (refine vb_i (adds ?_) ?_; (· first | omega | (simp only [List.length_cons, List.length_nil, List.length_append]; omega)))
  with_reducible refine vb_i (e_loadAll q9 (by rw [List.length_map]; exact hs2)) ?_
  with_reducible refine vb_i (sliceArr_all _ _ _ _) ?_
  refine vb_i (arr_str q8 hs1) ?_
  repeat with_reducible first
  | refine isB_T ?_
  | refine isB_F ?_
  | (refine isB_ct ?_ ?_; (· first | omega | rfl | assumption | trivial))
  | (refine isB_cf ?_ ?_; (· first | omega | assumption))
  | refine onE_i ?_
  | (refine onE_s ?_ ?_; (· decide))
  | refine vb_i e_ext0 ?_
  | refine vb_i e_ext1 ?_
  | refine vb_i e_ext2 ?_
  | refine vb_i (lss64 _ _ _) ?_
  | refine vb_i (leq64 _ _ _) ?_
  | refine vb_i (gtr64 _ _ _) ?_
  | refine vb_i (geq64 _ _ _) ?_
  | refine vb_i (eql64 _ _ _) ?_
  | refine vb_i (neq64 _ _ _) ?_
  | refine vb_i (eqls _ _) ?_
  | refine vb_i (neqs _ _) ?_
  | (refine vb_i (add64 ?_ ?_) ?_; (· omega); (· omega))
  | (refine vb_i (sub64 ?_ ?_) ?_; (· omega); (· omega))
  | (refine vb_i (mul64 ?_ ?_) ?_; (· omega); (· omega))
  | (refine vb_i (quo64 ?_ ?_ ?_) ?_; (· omega); (· omega); (· omega))
  | (refine vb_i (rem64 ?_ ?_) ?_; (· omega); (· omega))
  | refine vb_i (e_lenSt _) ?_
  | refine vb_i (e_lenSl _ _ _) ?_
  | refine vb_i e_lenNil ?_
  | refine vb_i (lenSl_view (by assumption)) ?_
  | refine vb_i (e_ptrNil _ _) ?_
  | refine vb_i (e_ptrNilN _ _) ?_
  | refine vb_i (e_nilNil _) ?_
  | refine vb_i (e_nilNilN _) ?_
  | refine vb_i (e_pickT _ _) ?_
  | refine vb_i (e_pickF _ _) ?_
  | refine vb_i e_notd ?_
  | refine vb_i e_boolNe ?_
  | refine vb_i e_boolEq ?_
  | refine vb_i (e_not _) ?_
  | refine vb_i (e_nilCheck _) ?_
  | refine vb_i (e_fieldAddr _ _) ?_
  | refine hb_i (e_alloc _ _) ?_
  | (refine vb_i (adds ?_) ?_; (· first | omega | (simp only [List.length_cons, List.length_nil, List.length_append]; omega)))
  rw [← next1]
  refine cb_i _ _ ⟨_, rfl, by omega, rfl, rfl⟩ ?_
  rw [hb1]
  with_reducible refine vb_i (e_eqBytes hs2 hs2) ?_
  repeat with_reducible first
  | refine isB_T ?_
  | refine isB_F ?_
  | (refine isB_ct ?_ ?_; (· first | omega | rfl | assumption | trivial))
  | (refine isB_cf ?_ ?_; (· first | omega | assumption))
  | refine onE_i ?_
  | (refine onE_s ?_ ?_; (· decide))
  | refine vb_i e_ext0 ?_
  | refine vb_i e_ext1 ?_
  | refine vb_i e_ext2 ?_
  | refine vb_i (lss64 _ _ _) ?_
  | refine vb_i (leq64 _ _ _) ?_
  | refine vb_i (gtr64 _ _ _) ?_
  | refine vb_i (geq64 _ _ _) ?_
  | refine vb_i (eql64 _ _ _) ?_
  | refine vb_i (neq64 _ _ _) ?_
  | refine vb_i (eqls _ _) ?_
  | refine vb_i (neqs _ _) ?_
  | (refine vb_i (add64 ?_ ?_) ?_; (· omega); (· omega))
  | (refine vb_i (sub64 ?_ ?_) ?_; (· omega); (· omega))
  | (refine vb_i (mul64 ?_ ?_) ?_; (· omega); (· omega))
  | (refine vb_i (quo64 ?_ ?_ ?_) ?_; (· omega); (· omega); (· omega))
  | (refine vb_i (rem64 ?_ ?_) ?_; (· omega); (· omega))
  | refine vb_i (e_lenSt _) ?_
  | refine vb_i (e_lenSl _ _ _) ?_
  | refine vb_i e_lenNil ?_
  | refine vb_i (lenSl_view (by assumption)) ?_
  | refine vb_i (e_ptrNil _ _) ?_
  | refine vb_i (e_ptrNilN _ _) ?_
  | refine vb_i (e_nilNil _) ?_
  | refine vb_i (e_nilNilN _) ?_
  | refine vb_i (e_pickT _ _) ?_
  | refine vb_i (e_pickF _ _) ?_
  | refine vb_i e_notd ?_
  | refine vb_i e_boolNe ?_
  | refine vb_i e_boolEq ?_
  | refine vb_i (e_not _) ?_
  | refine vb_i (e_nilCheck _) ?_
  | refine vb_i (e_fieldAddr _ _) ?_
  | refine hb_i (e_alloc _ _) ?_
  | (refine vb_i (adds ?_) ?_; (· first | omega | (simp only [List.length_cons, List.length_nil, List.length_append]; omega)))
  with_reducible refine vb_i (load_new (by rw [List.length_map]; exact hs2)) ?_
  with_reducible refine vb_i (e_loadAll q9 (by rw [List.length_map]; exact hs2)) ?_
  with_reducible refine vb_i (e_eqBytes hs2 hs2) ?_
  repeat with_reducible first
  | refine isB_T ?_
  | refine isB_F ?_
  | (refine isB_ct ?_ ?_; (· first | omega | rfl | assumption | trivial))
  | (refine isB_cf ?_ ?_; (· first | omega | assumption))
  | refine onE_i ?_
  | (refine onE_s ?_ ?_; (· decide))
  | refine vb_i e_ext0 ?_
  | refine vb_i e_ext1 ?_
  | refine vb_i e_ext2 ?_
  | refine vb_i (lss64 _ _ _) ?_
  | refine vb_i (leq64 _ _ _) ?_
  | refine vb_i (gtr64 _ _ _) ?_
  | refine vb_i (geq64 _ _ _) ?_
  | refine vb_i (eql64 _ _ _) ?_
  | refine vb_i (neq64 _ _ _) ?_
  | refine vb_i (eqls _ _) ?_
  | refine vb_i (neqs _ _) ?_
  | (refine vb_i (add64 ?_ ?_) ?_; (· omega); (· omega))
  | (refine vb_i (sub64 ?_ ?_) ?_; (· omega); (· omega))
  | (refine vb_i (mul64 ?_ ?_) ?_; (· omega); (· omega))
  | (refine vb_i (quo64 ?_ ?_ ?_) ?_; (· omega); (· omega); (· omega))
  | (refine vb_i (rem64 ?_ ?_) ?_; (· omega); (· omega))
  | refine vb_i (e_lenSt _) ?_
  | refine vb_i (e_lenSl _ _ _) ?_
  | refine vb_i e_lenNil ?_
  | refine vb_i (lenSl_view (by assumption)) ?_
  | refine vb_i (e_ptrNil _ _) ?_
  | refine vb_i (e_ptrNilN _ _) ?_
  | refine vb_i (e_nilNil _) ?_
  | refine vb_i (e_nilNilN _) ?_
  | refine vb_i (e_pickT _ _) ?_
  | refine vb_i (e_pickF _ _) ?_
  | refine vb_i e_notd ?_
  | refine vb_i e_boolNe ?_
  | refine vb_i e_boolEq ?_
  | refine vb_i (e_not _) ?_
  | refine vb_i (e_nilCheck _) ?_
  | refine vb_i (e_fieldAddr _ _) ?_
  | refine hb_i (e_alloc _ _) ?_
  | (refine vb_i (adds ?_) ?_; (· first | omega | (simp only [List.length_cons, List.length_nil, List.length_append]; omega)))
  refine cb_i _ _ ⟨_, rfl, rfl, .inr ⟨_, _, _, _, _, _, rfl, rep, rfl⟩⟩ ?_
  simp only [List.length_cons, List.length_nil, Nat.zero_add]
  repeat with_reducible first
  | refine isB_T ?_
  | refine isB_F ?_
  | (refine isB_ct ?_ ?_; (· first | omega | rfl | assumption | trivial))
  | (refine isB_cf ?_ ?_; (· first | omega | assumption))
  | refine onE_i ?_
  | (refine onE_s ?_ ?_; (· decide))
  | refine vb_i e_ext0 ?_
  | refine vb_i e_ext1 ?_
  | refine vb_i e_ext2 ?_
  | refine vb_i (lss64 _ _ _) ?_
  | refine vb_i (leq64 _ _ _) ?_
  | refine vb_i (gtr64 _ _ _) ?_
  | refine vb_i (geq64 _ _ _) ?_
  | refine vb_i (eql64 _ _ _) ?_
  | refine vb_i (neq64 _ _ _) ?_
  | refine vb_i (eqls _ _) ?_
  | refine vb_i (neqs _ _) ?_
  | (refine vb_i (add64 ?_ ?_) ?_; (· omega); (· omega))
  | (refine vb_i (sub64 ?_ ?_) ?_; (· omega); (· omega))
  | (refine vb_i (mul64 ?_ ?_) ?_; (· omega); (· omega))
  | (refine vb_i (quo64 ?_ ?_ ?_) ?_; (· omega); (· omega); (· omega))
  | (refine vb_i (rem64 ?_ ?_) ?_; (· omega); (· omega))
  | refine vb_i (e_lenSt _) ?_
  | refine vb_i (e_lenSl _ _ _) ?_
  | refine vb_i e_lenNil ?_
  | refine vb_i (lenSl_view (by assumption)) ?_
  | refine vb_i (e_ptrNil _ _) ?_
  | refine vb_i (e_ptrNilN _ _) ?_
  | refine vb_i (e_nilNil _) ?_
  | refine vb_i (e_nilNilN _) ?_
  | refine vb_i (e_pickT _ _) ?_
  | refine vb_i (e_pickF _ _) ?_
  | refine vb_i e_notd ?_
  | refine vb_i e_boolNe ?_
  | refine vb_i e_boolEq ?_
  | refine vb_i (e_not _) ?_
  | refine vb_i (e_nilCheck _) ?_
  | refine vb_i (e_fieldAddr _ _) ?_
  | refine hb_i (e_alloc _ _) ?_
  | (refine vb_i (adds ?_) ?_; (· first | omega | (simp only [List.length_cons, List.length_nil, List.length_append]; omega)))
  exact fin_bool rfl p6
end Go.Sh

/- The laws of chains, 3. -/
namespace Go.Sh
open Go Go.Abs

def right (d a : Int) : Prop := (d = 0 ∨ d = 1) ∧ (a = 0 ∨ a = 1)
instance (d a : Int) : Decidable (right d a) := by unfold right; infer_instance
def checkV (k : List UInt8) : List UInt8 := if k.length = 32 then sum (keyT k) else []
def checkE (k : List UInt8) : Int := if k.length = 32 then 0 else 2
def startV (d a : Int) (s : List UInt8) : List UInt8 := if startE d a s = 0 then sum (startT d a s) else zs 32
theorem startV_len (d a : Int) (s : List UInt8) : (startV d a s).length = 32 := by
  unfold startV; split
  · exact sum_len _
  · exact zs32_len
theorem startT_len (d a : Int) (s : List UInt8) : (startT d a s).length = 7 + s.length := by simp [startT]; omega

theorem RunN.Start {A C : AHeap} {own : Nat → Prop} {T : List (List UInt8)} (h : RunN A C own T) (hT : T.length ≤ 1000) {s : List UInt8} (hs : s.length ≤ 1000) (d a : Int) :
    ∃ C2 T2, S_chain_Start [.ptr ⟨A.length + 1, 0, 0⟩, .str s, .int .i64 d, .int .i64 a] C (.tup [.agg ((startV d a s).map ofByte), .int .i64 (startE d a s)]) C2 ∧ RunN A C2 own T2 ∧ T2.length ≤ T.length + 1 ∧ ∀ k, own k → C2[k]? = C[k]? := by
  by_cases he : startE d a s = 0
  · have := startT_len d a s
    obtain ⟨C2, hO, hr, _, hk⟩ := h.call (ss := [startT d a s]) (by simp; omega) (by simp; omega)
    refine ⟨C2, _, ⟨_, s, d, a, rfl, .inr ⟨he, ?_, hO⟩⟩, hr, ?_, hk⟩
    · rw [startV, if_pos he, he]
    · have := keepTs_len [startT d a s] T; simp at this; omega
  · refine ⟨C, T, ⟨_, s, d, a, rfl, .inl ⟨he, ?_, rfl⟩⟩, h, by omega, fun _ _ => rfl⟩
    simp only [startV, if_neg he, zero32_zs]
theorem RunN.Check {A C : AHeap} {own : Nat → Prop} {T : List (List UInt8)} (h : RunN A C own T) (hT : T.length ≤ 1000) (k : List UInt8) :
    ∃ C2 T2, S_chain_Check [.ptr ⟨A.length + 1, 0, 0⟩, .str k] C (.tup [.str (checkV k), .int .i64 (checkE k)]) C2 ∧ RunN A C2 own T2 ∧ ∀ k, own k → C2[k]? = C[k]? := by
  by_cases he : k.length = 32
  · obtain ⟨C2, hO, hr, _, hk⟩ := h.call (ss := [keyT k]) (by simp; omega) (by simp [keyT]; omega)
    refine ⟨C2, _, ⟨_, k, rfl, .inr ⟨he, ?_, hO⟩⟩, hr, hk⟩
    simp only [checkV, checkE, if_pos he]
  · refine ⟨C, T, ⟨_, k, rfl, .inl ⟨he, ?_, rfl⟩⟩, h, fun _ _ => rfl⟩
    simp only [checkV, checkE, if_neg he]

theorem cellaretlaw14_ChainSums.ok (args : List AVal) (H : AHeap) (r : AVal) (H' : AHeap) (h : S_cellaretlaw14_ChainSums args H r H') : ∃ x0, args = [x0] ∧ cellaretlaw14_ChainSums.w x0 H fun r1 H1 => Weak H r1 H1 r H' := by
  obtain ⟨s, k, d, a, rfl, rfl, rfl⟩ := h
  refine ⟨_, rfl, ?_⟩
  unfold cellaretlaw14_ChainSums.w
  have hcl : (AVal.agg [.str s, .int .i64 d, .int .i64 a, .str k]).cells = [.str s, .int .i64 d, .int .i64 a, .str k] := rfl
  refine hb_i (e_box rfl) ?_
  rw [hcl]
  have g0 : (H' ++ [AObj.cells 0 .exact [.str s, .int .i64 d, .int .i64 a, .str k]])[H'.length]? = some (.cells 0 .exact [.str s, .int .i64 d, .int .i64 a, .str k]) := by rw [app_get0]; rfl
  have p0 : H' <+: H' ++ [AObj.cells 0 .exact [.str s, .int .i64 d, .int .i64 a, .str k]] := pre_app _ _
  generalize H' ++ [AObj.cells 0 .exact [.str s, .int .i64 d, .int .i64 a, .str k]] = A at *
  repeat with_reducible refine vb_i (e_fieldAddr _ _) ?_
  refine vb_i (v := .str s) (e_load1 g0 (by simp)) ?_
  repeat with_reducible refine vb_i (e_fieldAddr _ _) ?_
  refine vb_i (v := .int .i64 d) (e_load1 g0 (by simp)) ?_
  repeat with_reducible refine vb_i (e_fieldAddr _ _) ?_
  refine vb_i (v := .int .i64 a) (e_load1 g0 (by simp)) ?_
  repeat with_reducible refine vb_i (e_fieldAddr _ _) ?_
  refine vb_i (v := .str k) (e_load1 g0 (by simp)) ?_
  refine JoinP.mk (fun e vs B => B = A ∧ ((e = .ret ∧ vs = [.bool true]) ∨ (e = .normal ∧ s.length ≤ 1000 ∧ k.length ≤ 1000))) ?_ ?_
  · repeat with_reducible first
    | refine vb_i (gtr64 _ _ _) ?_
    | refine vb_i (e_lenSt _) ?_
    refine isB_c (fun h1 => ?_) (fun h1 => ?_)
    · refine cb_i _ _ ⟨rfl, rfl, rfl⟩ ?_
      exact ⟨rfl, .inl ⟨rfl, rfl⟩⟩
    · repeat with_reducible first
      | refine vb_i (gtr64 _ _ _) ?_
      | refine vb_i (e_lenSt _) ?_
      refine isB_c (fun h2 => ?_) (fun h2 => ?_)
      · refine cb_i _ _ ⟨rfl, rfl, rfl⟩ ?_
        exact ⟨rfl, .inl ⟨rfl, rfl⟩⟩
      · exact ⟨rfl, .inr ⟨rfl, by omega, by omega⟩⟩
  · rintro _ vs B ⟨rfl, ⟨rfl, rfl⟩ | ⟨rfl, hs, hk0⟩⟩
    · repeat with_reducible first
      | refine onE_i ?_
      | (refine onE_s ?_ ?_; (· decide))
      exact fin_bool rfl p0
    · repeat with_reducible refine onE_i ?_
      refine cb_i _ _ ⟨rfl, rfl, rfl⟩ ?_
      obtain ⟨C1, T1, hS, r1, hT1, _⟩ := (RunN.start B).Start (by simp) hs d a
      refine cb_i _ _ hS ?_
      have hva := startV_len d a s
      repeat with_reducible first
      | refine vb_i e_ext0 ?_
      | refine vb_i e_ext1 ?_
      | refine hb_i (e_alloc _ _) ?_
      with_reducible refine sb_i (store_new List.length_replicate (by rw [List.length_map]; exact hva) (cells_byte _)) ?_
      obtain ⟨C2, T2, hC, r2, hk2⟩ := (r1.push (.cells 0 .exact ((startV d a s).map ofByte))).Check (by simp at hT1; omega) k
      refine cb_i _ _ hC ?_
      have g1 : C2[C1.length]? = some (.cells 0 .exact ((startV d a s).map ofByte)) := by
        rw [hk2 _ (.inr rfl), app_get0]; rfl
      have p2 := p0.trans r2.pre
      clear hS hC hk2 r1 r2
      repeat with_reducible first
      | refine vb_i e_ext0 ?_
      | refine vb_i e_ext1 ?_
      refine JoinP.mk (fun e vs D => e = .normal ∧ vs = [.bool (decide (right d a))] ∧ D = C2) ?_ ?_
      · by_cases hd0 : d = 0
        · by_cases ha0 : a = 0
          · repeat with_reducible first
            | (refine isB_ct ?_ ?_; (· first | omega | rfl | assumption | trivial))
            | refine vb_i (eql64 _ _ _) ?_
            exact ⟨rfl, by rw [decide_eq_true (show right d a from ⟨.inl hd0, .inl ha0⟩)], rfl⟩
          · repeat with_reducible first
            | (refine isB_ct ?_ ?_; (· first | omega | rfl | assumption | trivial))
            | (refine isB_cf ?_ ?_; (· first | omega | assumption))
            | refine vb_i (eql64 _ _ _) ?_
            exact ⟨rfl, by congr 2; exact decide_eq_decide.2 ⟨fun h => ⟨.inl hd0, .inr h⟩, fun h => by have := h.2; omega⟩, rfl⟩
        · by_cases hd1 : d = 1
          · by_cases ha0 : a = 0
            · repeat with_reducible first
              | (refine isB_ct ?_ ?_; (· first | omega | rfl | assumption | trivial))
              | (refine isB_cf ?_ ?_; (· first | omega | assumption))
              | refine vb_i (eql64 _ _ _) ?_
              exact ⟨rfl, by rw [decide_eq_true (show right d a from ⟨.inr hd1, .inl ha0⟩)], rfl⟩
            · repeat with_reducible first
              | (refine isB_ct ?_ ?_; (· first | omega | rfl | assumption | trivial))
              | (refine isB_cf ?_ ?_; (· first | omega | assumption))
              | refine vb_i (eql64 _ _ _) ?_
              exact ⟨rfl, by congr 2; exact decide_eq_decide.2 ⟨fun h => ⟨.inr hd1, .inr h⟩, fun h => by have := h.2; omega⟩, rfl⟩
          · repeat with_reducible first
            | (refine isB_cf ?_ ?_; (· first | omega | assumption))
            | refine vb_i (eql64 _ _ _) ?_
            exact ⟨rfl, by rw [decide_eq_false (show ¬ right d a from fun h => by have := h.1; omega)], rfl⟩
      · rintro _ _ D ⟨rfl, rfl, rfl⟩
        repeat with_reducible refine onE_i ?_
        simp only [evB]
        repeat with_reducible refine vb_i e_notd ?_
        by_cases hr : right d a
        · by_cases h64 : s.length = 64
          · have he : startE d a s = 0 := by
              have h1 := hr.1
              have h2 := hr.2
              unfold startE
              rw [if_neg (by omega), if_neg (by omega)]
            have hve : startV d a s = sum (startT d a s) := by simp only [startV, if_pos he]
            have hst := startT_len d a s
            rw [hve] at g1 hva
            rw [he]
            skip
            with_reducible refine isB_cf (not_not_intro hr) ?_
            repeat with_reducible first
            | (refine isB_cf ?_ ?_; (· first | omega | assumption))
            | refine vb_i (neq64 _ _ _) ?_
            | refine vb_i (e_lenSt _) ?_
            with_reducible refine vb_i (e_loadAll g1 (by rw [List.length_map]; exact hva)) ?_
            refine vb_i (byte_int hr.1) (vb_i (byte_int hr.2) ?_)
            refine hb_i (two_bytes _ _ _) ?_
            refine vb_i (bytes_str (view_ex (n := 2) (app_get0 _ _) rfl)) ?_
            repeat with_reducible (refine vb_i (adds ?_) ?_; (· first | omega | (simp only [List.length_cons, List.length_nil, List.length_append]; omega)))
            refine cb_i _ _ ⟨startT d a s, rfl, by omega, rfl, rfl⟩ ?_
            with_reducible refine vb_i (e_neBytes hva hva) ?_
            with_reducible refine isB_cf ?_ ?_
            · exact not_not_intro rfl
            have p3 := p2.trans (pre_app D [AObj.cells 0 .exact ([UInt8.ofNat d.toNat, UInt8.ofNat a.toNat].map ofByte)])
            generalize D ++ [AObj.cells 0 .exact ([UInt8.ofNat d.toNat, UInt8.ofNat a.toNat].map ofByte)] = E at *
            by_cases hk : k.length = 32
            · simp only [checkV, checkE, if_pos hk]
              have hsk := sum_len (keyT k)
              have hkT : ([107, 101, 121] ++ k : List UInt8) = keyT k := rfl
              repeat with_reducible first
              | (refine isB_cf ?_ ?_; (· first | omega | assumption))
              | refine vb_i (neq64 _ _ _) ?_
              | refine vb_i (e_lenSt _) ?_
              | (refine vb_i (adds ?_) ?_; (· first | omega | (simp only [List.length_cons, List.length_nil, List.length_append]; omega)))
              rw [hkT]
              refine cb_i _ _ ⟨keyT k, rfl, by simp [keyT]; omega, rfl, rfl⟩ ?_
              repeat with_reducible refine hb_i (e_alloc _ _) ?_
              with_reducible refine sb_i (store_new List.length_replicate (by rw [List.length_map]; exact hsk) (cells_byte _)) ?_
              refine cb_i _ _ ⟨.nilp, k, rfl, .inr ⟨hk, rfl, .inl ⟨rfl, rfl⟩⟩⟩ ?_
              repeat with_reducible first
              | refine vb_i e_ext0 ?_
              | refine vb_i e_ext1 ?_
              refine cb_i _ _ ⟨rfl, rfl, rfl⟩ ?_
              repeat with_reducible first
              | refine isB_T ?_
              | (refine isB_ct ?_ ?_; (· first | omega | rfl | assumption | trivial))
              | refine vb_i (eql64 _ _ _) ?_
              with_reducible refine vb_i (sliceArr_all _ _ _ _) ?_
              refine vb_i (arr_str (app_get0 _ _) hsk) ?_
              repeat with_reducible first
              | (refine isB_ct ?_ ?_; (· first | omega | rfl | assumption | trivial))
              | refine vb_i (eql64 _ _ _) ?_
              | refine vb_i (eqls _ _) ?_
              exact fin_bool rfl (p3.trans (pre_app _ _))
            · simp only [checkV, checkE, if_neg hk]
              repeat with_reducible first
              | (refine isB_ct ?_ ?_; (· first | omega | rfl | assumption | trivial))
              | refine vb_i (neq64 _ _ _) ?_
              | refine vb_i (e_lenSt _) ?_
              refine cb_i _ _ ⟨rfl, rfl, rfl⟩ ?_
              repeat with_reducible first
              | refine isB_T ?_
              | (refine isB_ct ?_ ?_; (· first | omega | rfl | assumption | trivial))
              | refine vb_i (eql64 _ _ _) ?_
              | refine vb_i (eqls _ _) ?_
              exact fin_bool rfl p3
          · have he : startE d a s = 6 := by
              have h1 := hr.1
              have h2 := hr.2
              unfold startE
              rw [if_neg (by omega), if_pos (by omega)]
            have hve : startV d a s = zs 32 := by simp only [startV, he]; rfl
            rw [hve] at g1 hva
            rw [he]
            skip
            with_reducible refine isB_cf (not_not_intro hr) ?_
            repeat with_reducible first
            | (refine isB_ct ?_ ?_; (· first | omega | rfl | assumption | trivial))
            | refine vb_i (neq64 _ _ _) ?_
            | refine vb_i (e_lenSt _) ?_
            with_reducible refine vb_i (e_loadAll g1 (by rw [List.length_map]; exact hva)) ?_
            with_reducible refine vb_i build_zs ?_
            with_reducible refine vb_i (e_neBytes hva hva) ?_
            with_reducible refine isB_cf ?_ ?_
            · exact not_not_intro rfl
            repeat with_reducible first
            | (refine isB_cf ?_ ?_; (· first | omega | assumption))
            | refine vb_i (neq64 _ _ _) ?_
            | refine vb_i (e_lenSt _) ?_
            by_cases hk : k.length = 32
            · simp only [checkV, checkE, if_pos hk]
              have hsk := sum_len (keyT k)
              have hkT : ([107, 101, 121] ++ k : List UInt8) = keyT k := rfl
              repeat with_reducible first
              | (refine isB_cf ?_ ?_; (· first | omega | assumption))
              | (refine vb_i (adds ?_) ?_; (· first | omega | (simp only [List.length_cons, List.length_nil, List.length_append]; omega)))
              rw [hkT]
              refine cb_i _ _ ⟨keyT k, rfl, by simp [keyT]; omega, rfl, rfl⟩ ?_
              repeat with_reducible refine hb_i (e_alloc _ _) ?_
              with_reducible refine sb_i (store_new List.length_replicate (by rw [List.length_map]; exact hsk) (cells_byte _)) ?_
              refine cb_i _ _ ⟨.nilp, k, rfl, .inr ⟨hk, rfl, .inl ⟨rfl, rfl⟩⟩⟩ ?_
              repeat with_reducible first
              | refine vb_i e_ext0 ?_
              | refine vb_i e_ext1 ?_
              refine cb_i _ _ ⟨rfl, rfl, rfl⟩ ?_
              repeat with_reducible first
              | refine isB_T ?_
              | (refine isB_ct ?_ ?_; (· first | omega | rfl | assumption | trivial))
              | refine vb_i (eql64 _ _ _) ?_
              with_reducible refine vb_i (sliceArr_all _ _ _ _) ?_
              refine vb_i (arr_str (app_get0 _ _) hsk) ?_
              repeat with_reducible first
              | (refine isB_ct ?_ ?_; (· first | omega | rfl | assumption | trivial))
              | refine vb_i (eql64 _ _ _) ?_
              | refine vb_i (eqls _ _) ?_
              exact fin_bool rfl (p2.trans (pre_app _ _))
            · simp only [checkV, checkE, if_neg hk]
              repeat with_reducible (refine isB_ct ?_ ?_; (· first | omega | rfl | assumption | trivial))
              refine cb_i _ _ ⟨rfl, rfl, rfl⟩ ?_
              repeat with_reducible first
              | refine isB_T ?_
              | (refine isB_ct ?_ ?_; (· first | omega | rfl | assumption | trivial))
              | refine vb_i (eql64 _ _ _) ?_
              | refine vb_i (eqls _ _) ?_
              exact fin_bool rfl p2
        · have he : startE d a s = 2 := by
            unfold startE
            rw [if_pos]
            unfold right at hr
            omega
          have hve : startV d a s = zs 32 := by simp only [startV, he]; rfl
          rw [hve] at g1 hva
          rw [he]
          repeat with_reducible (refine isB_ct ?_ ?_; (· first | omega | rfl | assumption | trivial))
          with_reducible refine vb_i (e_loadAll g1 (by rw [List.length_map]; exact hva)) ?_
          with_reducible refine vb_i build_zs ?_
          with_reducible refine vb_i (e_neBytes hva hva) ?_
          with_reducible refine isB_cf ?_ ?_
          · exact not_not_intro rfl
          repeat with_reducible first
          | (refine isB_cf ?_ ?_; (· first | omega | assumption))
          | refine vb_i (neq64 _ _ _) ?_
          | refine vb_i (e_lenSt _) ?_
          by_cases hk : k.length = 32
          · simp only [checkV, checkE, if_pos hk]
            have hsk := sum_len (keyT k)
            have hkT : ([107, 101, 121] ++ k : List UInt8) = keyT k := rfl
            repeat with_reducible first
            | (refine isB_cf ?_ ?_; (· first | omega | assumption))
            | (refine vb_i (adds ?_) ?_; (· first | omega | (simp only [List.length_cons, List.length_nil, List.length_append]; omega)))
            rw [hkT]
            refine cb_i _ _ ⟨keyT k, rfl, by simp [keyT]; omega, rfl, rfl⟩ ?_
            repeat with_reducible refine hb_i (e_alloc _ _) ?_
            with_reducible refine sb_i (store_new List.length_replicate (by rw [List.length_map]; exact hsk) (cells_byte _)) ?_
            refine cb_i _ _ ⟨.nilp, k, rfl, .inr ⟨hk, rfl, .inl ⟨rfl, rfl⟩⟩⟩ ?_
            repeat with_reducible first
            | refine vb_i e_ext0 ?_
            | refine vb_i e_ext1 ?_
            refine cb_i _ _ ⟨rfl, rfl, rfl⟩ ?_
            repeat with_reducible first
            | refine isB_T ?_
            | (refine isB_ct ?_ ?_; (· first | omega | rfl | assumption | trivial))
            | refine vb_i (eql64 _ _ _) ?_
            with_reducible refine vb_i (sliceArr_all _ _ _ _) ?_
            refine vb_i (arr_str (app_get0 _ _) hsk) ?_
            repeat with_reducible first
            | (refine isB_ct ?_ ?_; (· first | omega | rfl | assumption | trivial))
            | refine vb_i (eql64 _ _ _) ?_
            | refine vb_i (eqls _ _) ?_
            exact fin_bool rfl (p2.trans (pre_app _ _))
          · simp only [checkV, checkE, if_neg hk]
            repeat with_reducible (refine isB_ct ?_ ?_; (· first | omega | rfl | assumption | trivial))
            refine cb_i _ _ ⟨rfl, rfl, rfl⟩ ?_
            repeat with_reducible first
            | refine isB_T ?_
            | (refine isB_ct ?_ ?_; (· first | omega | rfl | assumption | trivial))
            | refine vb_i (eql64 _ _ _) ?_
            | refine vb_i (eqls _ _) ?_
            exact fin_bool rfl p2
end Go.Sh

/- The laws of chains, 4. -/
namespace Go.Sh
open Go Go.Abs

def nextV (a : List UInt8) (l : List (List UInt8)) : List UInt8 := if good l then sum (nextT a l) else zs 32
def nextE (l : List (List UInt8)) : Int := if good l then 0 else 6
theorem nextV_len (a : List UInt8) (l : List (List UInt8)) : (nextV a l).length = 32 := by
  unfold nextV; split
  · exact sum_len _
  · exact zs32_len
theorem RunN.Next {A C : AHeap} {own : Nat → Prop} {T : List (List UInt8)} (h : RunN A C own T) (hT : T.length ≤ 1000) {a : List UInt8} {l : List (List UInt8)} {x : AVal} (ha : a.length = 32) (hN : NArgs C x l) :
    ∃ C2 T2, S_chain_Next [.ptr ⟨A.length + 1, 0, 0⟩, .agg (a.map ofByte), x] C (.tup [.agg ((nextV a l).map ofByte), .int .i64 (nextE l)]) C2 ∧ RunN A C2 own T2 ∧ T2.length ≤ T.length + 1 ∧ ∀ k, own k → C2[k]? = C[k]? := by
  by_cases hg : good l
  · obtain ⟨C2, hO, hr, _, hk⟩ := h.call (ss := [nextT a l]) (by simp; omega) (by simpa using good_short ha hg)
    refine ⟨C2, _, ⟨_, x, a, l, rfl, ha, hN, .inr ⟨hg, by rw [nextV, nextE, if_pos hg, if_pos hg], hO⟩⟩, hr, ?_, hk⟩
    have := keepTs_len [nextT a l] T; simp at this; omega
  · exact ⟨C, T, ⟨_, x, a, l, rfl, ha, hN, .inl ⟨hg, by rw [nextV, nextE, if_neg hg, if_neg hg, zero32_zs], rfl⟩⟩, h, by omega, fun _ _ => rfl⟩
theorem law_next {B : AHeap} {a : List UInt8} {l : List (List UInt8)} {x : AVal} (ha : a.length = 32) (hN : NArgs B x l) :
    S_cellaretlaw14_next [.agg (a.map ofByte), x] B (.tup [.agg ((nextV a l).map ofByte), .int .i64 (nextE l)]) B := by
  refine ⟨x, a, l, rfl, ha, hN, rfl, ?_⟩
  by_cases hg : good l
  · rw [nextV, nextE, if_pos hg, if_pos hg, if_pos hg]
  · rw [nextV, nextE, if_neg hg, if_neg hg, if_neg hg, zero32_zs]
def twoE (l m : List (List UInt8)) : Int := if nextE l = 0 then nextE m else nextE l
def twoW (a : List UInt8) (l m : List (List UInt8)) : List UInt8 := if nextE l = 0 then nextV (nextV a l) m else nextV a l
def twoV (a : List UInt8) (l m : List (List UInt8)) : List UInt8 := if twoE l m = 0 then twoW a l m else zs 32
theorem twoW_len (a : List UInt8) (l m : List (List UInt8)) : (twoW a l m).length = 32 := by
  unfold twoW; split <;> exact nextV_len _ _
theorem twoV_len (a : List UInt8) (l m : List (List UInt8)) : (twoV a l m).length = 32 := by
  unfold twoV; split
  · exact twoW_len _ _ _
  · exact zs32_len
theorem along_two (a : List UInt8) (l m : List (List UInt8)) :
    (match alongR a [l, m] with | some b => AVal.tup [.agg (b.map ofByte), .int .i64 0] | none => .tup [zero32, .int .i64 6]) = .tup [.agg ((twoV a l m).map ofByte), .int .i64 (twoE l m)] := by
  by_cases hg : good l
  · by_cases hm : good m
    · simp [alongR, twoV, twoE, twoW, nextV, nextE, hg, hm]
    · simp [alongR, twoV, twoE, twoW, nextV, nextE, hg, hm, zero32_zs]
  · simp [alongR, twoV, twoE, twoW, nextV, nextE, hg, zero32_zs]
theorem slice_cells {B : AHeap} {x : AVal} {n : Nat} {cs : List AVal} (h : VwN B x n cs) : x = .nils ∨ ∃ r n c, x = .slice r n c := by
  rcases h with h | ⟨_, _, r, c, rfl⟩
  rotate_left
  · exact .inr ⟨_, _, _, rfl⟩
  rcases h.2 with ⟨rfl, _⟩ | ⟨i, v, off, c, kd, cs', rfl, _⟩
  · exact .inl rfl
  · exact .inr ⟨_, _, _, rfl⟩
theorem two_slices (H : AHeap) {B : AHeap} {x y : AVal} {n m : Nat} {cs ds : List AVal} (h : VwN B x n cs) (k : VwN B y m ds) :
    aBuildSlice H 1 [.nils] 2 [(0, x), (1, y)] = some (.slice ⟨H.length, 0, 0⟩ 2 (.ex 2), H ++ [.cells 0 .exact [x, y]]) := by
  rcases slice_cells h with rfl | ⟨_, _, _, rfl⟩ <;> rcases slice_cells k with rfl | ⟨_, _, _, rfl⟩ <;> rfl

theorem cellaretlaw14_ChainNexts.ok (args : List AVal) (H : AHeap) (r : AVal) (H' : AHeap) (h : S_cellaretlaw14_ChainNexts args H r H') : ∃ x0 x1 x2, args = [x0, x1, x2] ∧ cellaretlaw14_ChainNexts.w x0 x1 x2 H fun r1 H1 => Weak H r1 H1 r H' := by
  obtain ⟨a, x, y, l, m, rfl, ha, hx, hy, rfl, rfl⟩ := h
  refine ⟨_, _, _, rfl, ?_⟩
  unfold cellaretlaw14_ChainNexts.w
  have hcl : ∀ b : List UInt8, (AVal.agg (b.map ofByte)).cells = b.map ofByte := fun _ => rfl
  have vx := hx.v
  have vy := hy.v
  have hxl := hx.hl
  have hyl := hy.hl
  refine hb_i (e_box rfl) ?_
  rw [hcl]
  have g0 : (H' ++ [AObj.cells 0 .exact (a.map ofByte)])[H'.length]? = some (.cells 0 .exact (a.map ofByte)) := by rw [app_get0]; rfl
  have p0 : H' <+: H' ++ [AObj.cells 0 .exact (a.map ofByte)] := pre_app _ _
  generalize H' ++ [AObj.cells 0 .exact (a.map ofByte)] = A at *
  have ham : (a.map ofByte).length = 32 := by rw [List.length_map]; exact ha
  refine JoinP.mk (fun e vs B => B = A ∧ ((e = .ret ∧ vs = [.bool true]) ∨ (e = .normal ∧ vs = [.bool false]))) ?_ ?_
  · refine vb_lenN vx ?_
    repeat with_reducible first
    | refine isB_T ?_
    | refine isB_F ?_
    | (refine isB_ct ?_ ?_; (· first | omega | rfl | assumption | trivial))
    | (refine isB_cf ?_ ?_; (· first | omega | assumption))
    | refine onE_i ?_
    | (refine onE_s ?_ ?_; (· decide))
    | refine vb_i e_ext0 ?_
    | refine vb_i e_ext1 ?_
    | refine vb_i e_ext2 ?_
    | refine vb_i (lss64 _ _ _) ?_
    | refine vb_i (leq64 _ _ _) ?_
    | refine vb_i (gtr64 _ _ _) ?_
    | refine vb_i (geq64 _ _ _) ?_
    | refine vb_i (eql64 _ _ _) ?_
    | refine vb_i (neq64 _ _ _) ?_
    | refine vb_i (eqls _ _) ?_
    | refine vb_i (neqs _ _) ?_
    | (refine vb_i (add64 ?_ ?_) ?_; (· omega); (· omega))
    | (refine vb_i (sub64 ?_ ?_) ?_; (· omega); (· omega))
    | (refine vb_i (mul64 ?_ ?_) ?_; (· omega); (· omega))
    | (refine vb_i (quo64 ?_ ?_ ?_) ?_; (· omega); (· omega); (· omega))
    | (refine vb_i (rem64 ?_ ?_) ?_; (· omega); (· omega))
    | refine vb_i (e_lenSt _) ?_
    | refine vb_i (e_lenSl _ _ _) ?_
    | refine vb_i e_lenNil ?_
    | refine vb_i (lenSl_view (by assumption)) ?_
    | refine vb_i (e_ptrNil _ _) ?_
    | refine vb_i (e_ptrNilN _ _) ?_
    | refine vb_i (e_nilNil _) ?_
    | refine vb_i (e_nilNilN _) ?_
    | refine vb_i (e_pickT _ _) ?_
    | refine vb_i (e_pickF _ _) ?_
    | refine vb_i e_notd ?_
    | refine vb_i e_boolNe ?_
    | refine vb_i e_boolEq ?_
    | refine vb_i (e_not _) ?_
    | refine vb_i (e_nilCheck _) ?_
    | refine vb_i (e_fieldAddr _ _) ?_
    | refine hb_i (e_alloc _ _) ?_
    | (refine vb_i (adds ?_) ?_; (· first | omega | (simp only [List.length_cons, List.length_nil, List.length_append]; omega)))
    refine isB_c (fun h1 => ?_) (fun h1 => ?_)
    · refine cb_i _ _ ⟨rfl, rfl, rfl⟩ ?_
      exact ⟨rfl, .inl ⟨rfl, rfl⟩⟩
    · refine vb_lenN vy ?_
      repeat with_reducible first
      | refine isB_T ?_
      | refine isB_F ?_
      | (refine isB_ct ?_ ?_; (· first | omega | rfl | assumption | trivial))
      | (refine isB_cf ?_ ?_; (· first | omega | assumption))
      | refine onE_i ?_
      | (refine onE_s ?_ ?_; (· decide))
      | refine vb_i e_ext0 ?_
      | refine vb_i e_ext1 ?_
      | refine vb_i e_ext2 ?_
      | refine vb_i (lss64 _ _ _) ?_
      | refine vb_i (leq64 _ _ _) ?_
      | refine vb_i (gtr64 _ _ _) ?_
      | refine vb_i (geq64 _ _ _) ?_
      | refine vb_i (eql64 _ _ _) ?_
      | refine vb_i (neq64 _ _ _) ?_
      | refine vb_i (eqls _ _) ?_
      | refine vb_i (neqs _ _) ?_
      | (refine vb_i (add64 ?_ ?_) ?_; (· omega); (· omega))
      | (refine vb_i (sub64 ?_ ?_) ?_; (· omega); (· omega))
      | (refine vb_i (mul64 ?_ ?_) ?_; (· omega); (· omega))
      | (refine vb_i (quo64 ?_ ?_ ?_) ?_; (· omega); (· omega); (· omega))
      | (refine vb_i (rem64 ?_ ?_) ?_; (· omega); (· omega))
      | refine vb_i (e_lenSt _) ?_
      | refine vb_i (e_lenSl _ _ _) ?_
      | refine vb_i e_lenNil ?_
      | refine vb_i (lenSl_view (by assumption)) ?_
      | refine vb_i (e_ptrNil _ _) ?_
      | refine vb_i (e_ptrNilN _ _) ?_
      | refine vb_i (e_nilNil _) ?_
      | refine vb_i (e_nilNilN _) ?_
      | refine vb_i (e_pickT _ _) ?_
      | refine vb_i (e_pickF _ _) ?_
      | refine vb_i e_notd ?_
      | refine vb_i e_boolNe ?_
      | refine vb_i e_boolEq ?_
      | refine vb_i (e_not _) ?_
      | refine vb_i (e_nilCheck _) ?_
      | refine vb_i (e_fieldAddr _ _) ?_
      | refine hb_i (e_alloc _ _) ?_
      | (refine vb_i (adds ?_) ?_; (· first | omega | (simp only [List.length_cons, List.length_nil, List.length_append]; omega)))
      refine isB_c (fun h2 => ?_) (fun h2 => ?_)
      · refine cb_i _ _ ⟨rfl, rfl, rfl⟩ ?_
        exact ⟨rfl, .inl ⟨rfl, rfl⟩⟩
      · exact ⟨rfl, .inr ⟨rfl, rfl⟩⟩
  · rintro _ _ B ⟨rfl, ⟨rfl, rfl⟩ | ⟨rfl, rfl⟩⟩
    · repeat with_reducible first
      | refine isB_T ?_
      | refine isB_F ?_
      | (refine isB_ct ?_ ?_; (· first | omega | rfl | assumption | trivial))
      | (refine isB_cf ?_ ?_; (· first | omega | assumption))
      | refine onE_i ?_
      | (refine onE_s ?_ ?_; (· decide))
      | refine vb_i e_ext0 ?_
      | refine vb_i e_ext1 ?_
      | refine vb_i e_ext2 ?_
      | refine vb_i (lss64 _ _ _) ?_
      | refine vb_i (leq64 _ _ _) ?_
      | refine vb_i (gtr64 _ _ _) ?_
      | refine vb_i (geq64 _ _ _) ?_
      | refine vb_i (eql64 _ _ _) ?_
      | refine vb_i (neq64 _ _ _) ?_
      | refine vb_i (eqls _ _) ?_
      | refine vb_i (neqs _ _) ?_
      | (refine vb_i (add64 ?_ ?_) ?_; (· omega); (· omega))
      | (refine vb_i (sub64 ?_ ?_) ?_; (· omega); (· omega))
      | (refine vb_i (mul64 ?_ ?_) ?_; (· omega); (· omega))
      | (refine vb_i (quo64 ?_ ?_ ?_) ?_; (· omega); (· omega); (· omega))
      | (refine vb_i (rem64 ?_ ?_) ?_; (· omega); (· omega))
      | refine vb_i (e_lenSt _) ?_
      | refine vb_i (e_lenSl _ _ _) ?_
      | refine vb_i e_lenNil ?_
      | refine vb_i (lenSl_view (by assumption)) ?_
      | refine vb_i (e_ptrNil _ _) ?_
      | refine vb_i (e_ptrNilN _ _) ?_
      | refine vb_i (e_nilNil _) ?_
      | refine vb_i (e_nilNilN _) ?_
      | refine vb_i (e_pickT _ _) ?_
      | refine vb_i (e_pickF _ _) ?_
      | refine vb_i e_notd ?_
      | refine vb_i e_boolNe ?_
      | refine vb_i e_boolEq ?_
      | refine vb_i (e_not _) ?_
      | refine vb_i (e_nilCheck _) ?_
      | refine vb_i (e_fieldAddr _ _) ?_
      | refine hb_i (e_alloc _ _) ?_
      | (refine vb_i (adds ?_) ?_; (· first | omega | (simp only [List.length_cons, List.length_nil, List.length_append]; omega)))
      exact fin_bool rfl p0
    · have hv := nextV_len a l
      have gN : (newO B)[H'.length]? = some (.cells 0 .exact (a.map ofByte)) := by rw [pre_get (pre_newO B) (lt_of_some g0)]; exact g0
      repeat with_reducible first
      | refine isB_T ?_
      | refine isB_F ?_
      | (refine isB_ct ?_ ?_; (· first | omega | rfl | assumption | trivial))
      | (refine isB_cf ?_ ?_; (· first | omega | assumption))
      | refine onE_i ?_
      | (refine onE_s ?_ ?_; (· decide))
      | refine vb_i e_ext0 ?_
      | refine vb_i e_ext1 ?_
      | refine vb_i e_ext2 ?_
      | refine vb_i (lss64 _ _ _) ?_
      | refine vb_i (leq64 _ _ _) ?_
      | refine vb_i (gtr64 _ _ _) ?_
      | refine vb_i (geq64 _ _ _) ?_
      | refine vb_i (eql64 _ _ _) ?_
      | refine vb_i (neq64 _ _ _) ?_
      | refine vb_i (eqls _ _) ?_
      | refine vb_i (neqs _ _) ?_
      | (refine vb_i (add64 ?_ ?_) ?_; (· omega); (· omega))
      | (refine vb_i (sub64 ?_ ?_) ?_; (· omega); (· omega))
      | (refine vb_i (mul64 ?_ ?_) ?_; (· omega); (· omega))
      | (refine vb_i (quo64 ?_ ?_ ?_) ?_; (· omega); (· omega); (· omega))
      | (refine vb_i (rem64 ?_ ?_) ?_; (· omega); (· omega))
      | refine vb_i (e_lenSt _) ?_
      | refine vb_i (e_lenSl _ _ _) ?_
      | refine vb_i e_lenNil ?_
      | refine vb_i (lenSl_view (by assumption)) ?_
      | refine vb_i (e_ptrNil _ _) ?_
      | refine vb_i (e_ptrNilN _ _) ?_
      | refine vb_i (e_nilNil _) ?_
      | refine vb_i (e_nilNilN _) ?_
      | refine vb_i (e_pickT _ _) ?_
      | refine vb_i (e_pickF _ _) ?_
      | refine vb_i e_notd ?_
      | refine vb_i e_boolNe ?_
      | refine vb_i e_boolEq ?_
      | refine vb_i (e_not _) ?_
      | refine vb_i (e_nilCheck _) ?_
      | refine vb_i (e_fieldAddr _ _) ?_
      | refine hb_i (e_alloc _ _) ?_
      | (refine vb_i (adds ?_) ?_; (· first | omega | (simp only [List.length_cons, List.length_nil, List.length_append]; omega)))
      refine JoinP.mk (fun e vs D => e = .normal ∧ ∃ k1, vs = [.ptr ⟨k1, 0, 0⟩, .int .i64 (nextE l)] ∧ D[k1]? = some (.cells 0 .exact ((nextV a l).map ofByte)) ∧ B <+: D) ⟨?_, ?_⟩ ?_
      · refine cb_i _ _ ⟨rfl, rfl, rfl⟩ ?_
        refine vb_i (e_loadAll gN ham) ?_
        obtain ⟨C2, _, hS, r2, _, _⟩ := (RunN.start B).Next (by simp) ha (hx.pre (p0.trans (pre_newO B)))
        refine cb_i _ _ hS ?_
        repeat with_reducible first
        | refine isB_T ?_
        | refine isB_F ?_
        | (refine isB_ct ?_ ?_; (· first | omega | rfl | assumption | trivial))
        | (refine isB_cf ?_ ?_; (· first | omega | assumption))
        | refine onE_i ?_
        | (refine onE_s ?_ ?_; (· decide))
        | refine vb_i e_ext0 ?_
        | refine vb_i e_ext1 ?_
        | refine vb_i e_ext2 ?_
        | refine vb_i (lss64 _ _ _) ?_
        | refine vb_i (leq64 _ _ _) ?_
        | refine vb_i (gtr64 _ _ _) ?_
        | refine vb_i (geq64 _ _ _) ?_
        | refine vb_i (eql64 _ _ _) ?_
        | refine vb_i (neq64 _ _ _) ?_
        | refine vb_i (eqls _ _) ?_
        | refine vb_i (neqs _ _) ?_
        | (refine vb_i (add64 ?_ ?_) ?_; (· omega); (· omega))
        | (refine vb_i (sub64 ?_ ?_) ?_; (· omega); (· omega))
        | (refine vb_i (mul64 ?_ ?_) ?_; (· omega); (· omega))
        | (refine vb_i (quo64 ?_ ?_ ?_) ?_; (· omega); (· omega); (· omega))
        | (refine vb_i (rem64 ?_ ?_) ?_; (· omega); (· omega))
        | refine vb_i (e_lenSt _) ?_
        | refine vb_i (e_lenSl _ _ _) ?_
        | refine vb_i e_lenNil ?_
        | refine vb_i (lenSl_view (by assumption)) ?_
        | refine vb_i (e_ptrNil _ _) ?_
        | refine vb_i (e_ptrNilN _ _) ?_
        | refine vb_i (e_nilNil _) ?_
        | refine vb_i (e_nilNilN _) ?_
        | refine vb_i (e_pickT _ _) ?_
        | refine vb_i (e_pickF _ _) ?_
        | refine vb_i e_notd ?_
        | refine vb_i e_boolNe ?_
        | refine vb_i e_boolEq ?_
        | refine vb_i (e_not _) ?_
        | refine vb_i (e_nilCheck _) ?_
        | refine vb_i (e_fieldAddr _ _) ?_
        | refine hb_i (e_alloc _ _) ?_
        | (refine vb_i (adds ?_) ?_; (· first | omega | (simp only [List.length_cons, List.length_nil, List.length_append]; omega)))
        with_reducible refine sb_i (store_new List.length_replicate (by rw [List.length_map]; exact hv) (cells_byte _)) ?_
        exact ⟨rfl, _, rfl, by rw [app_get0]; rfl, r2.pre.trans (pre_app _ _)⟩
      · refine cb_i _ _ ⟨rfl, rfl, rfl⟩ ?_
        refine vb_i (e_loadAll gN ham) ?_
        repeat with_reducible first
        | refine isB_T ?_
        | refine isB_F ?_
        | (refine isB_ct ?_ ?_; (· first | omega | rfl | assumption | trivial))
        | (refine isB_cf ?_ ?_; (· first | omega | assumption))
        | refine onE_i ?_
        | (refine onE_s ?_ ?_; (· decide))
        | refine vb_i e_ext0 ?_
        | refine vb_i e_ext1 ?_
        | refine vb_i e_ext2 ?_
        | refine vb_i (lss64 _ _ _) ?_
        | refine vb_i (leq64 _ _ _) ?_
        | refine vb_i (gtr64 _ _ _) ?_
        | refine vb_i (geq64 _ _ _) ?_
        | refine vb_i (eql64 _ _ _) ?_
        | refine vb_i (neq64 _ _ _) ?_
        | refine vb_i (eqls _ _) ?_
        | refine vb_i (neqs _ _) ?_
        | (refine vb_i (add64 ?_ ?_) ?_; (· omega); (· omega))
        | (refine vb_i (sub64 ?_ ?_) ?_; (· omega); (· omega))
        | (refine vb_i (mul64 ?_ ?_) ?_; (· omega); (· omega))
        | (refine vb_i (quo64 ?_ ?_ ?_) ?_; (· omega); (· omega); (· omega))
        | (refine vb_i (rem64 ?_ ?_) ?_; (· omega); (· omega))
        | refine vb_i (e_lenSt _) ?_
        | refine vb_i (e_lenSl _ _ _) ?_
        | refine vb_i e_lenNil ?_
        | refine vb_i (lenSl_view (by assumption)) ?_
        | refine vb_i (e_ptrNil _ _) ?_
        | refine vb_i (e_ptrNilN _ _) ?_
        | refine vb_i (e_nilNil _) ?_
        | refine vb_i (e_nilNilN _) ?_
        | refine vb_i (e_pickT _ _) ?_
        | refine vb_i (e_pickF _ _) ?_
        | refine vb_i e_notd ?_
        | refine vb_i e_boolNe ?_
        | refine vb_i e_boolEq ?_
        | refine vb_i (e_not _) ?_
        | refine vb_i (e_nilCheck _) ?_
        | refine vb_i (e_fieldAddr _ _) ?_
        | refine hb_i (e_alloc _ _) ?_
        | (refine vb_i (adds ?_) ?_; (· first | omega | (simp only [List.length_cons, List.length_nil, List.length_append]; omega)))
        obtain ⟨C2, _, hS, r2, _, hk2⟩ := ((RunN.start B).push (.cells 0 .exact (List.replicate 32 (.int .u8 0)))).Next (by simp) ha (hx.pre ((p0.trans (pre_newO B)).trans (pre_app _ _)))
        refine cb_i _ _ hS ?_
        have gz : C2[(newO B).length]? = some (.cells 0 .exact (List.replicate 32 (.int .u8 0))) := by rw [hk2 _ (.inr rfl), app_get0]; rfl
        repeat with_reducible first
        | refine isB_T ?_
        | refine isB_F ?_
        | (refine isB_ct ?_ ?_; (· first | omega | rfl | assumption | trivial))
        | (refine isB_cf ?_ ?_; (· first | omega | assumption))
        | refine onE_i ?_
        | (refine onE_s ?_ ?_; (· decide))
        | refine vb_i e_ext0 ?_
        | refine vb_i e_ext1 ?_
        | refine vb_i e_ext2 ?_
        | refine vb_i (lss64 _ _ _) ?_
        | refine vb_i (leq64 _ _ _) ?_
        | refine vb_i (gtr64 _ _ _) ?_
        | refine vb_i (geq64 _ _ _) ?_
        | refine vb_i (eql64 _ _ _) ?_
        | refine vb_i (neq64 _ _ _) ?_
        | refine vb_i (eqls _ _) ?_
        | refine vb_i (neqs _ _) ?_
        | (refine vb_i (add64 ?_ ?_) ?_; (· omega); (· omega))
        | (refine vb_i (sub64 ?_ ?_) ?_; (· omega); (· omega))
        | (refine vb_i (mul64 ?_ ?_) ?_; (· omega); (· omega))
        | (refine vb_i (quo64 ?_ ?_ ?_) ?_; (· omega); (· omega); (· omega))
        | (refine vb_i (rem64 ?_ ?_) ?_; (· omega); (· omega))
        | refine vb_i (e_lenSt _) ?_
        | refine vb_i (e_lenSl _ _ _) ?_
        | refine vb_i e_lenNil ?_
        | refine vb_i (lenSl_view (by assumption)) ?_
        | refine vb_i (e_ptrNil _ _) ?_
        | refine vb_i (e_ptrNilN _ _) ?_
        | refine vb_i (e_nilNil _) ?_
        | refine vb_i (e_nilNilN _) ?_
        | refine vb_i (e_pickT _ _) ?_
        | refine vb_i (e_pickF _ _) ?_
        | refine vb_i e_notd ?_
        | refine vb_i e_boolNe ?_
        | refine vb_i e_boolEq ?_
        | refine vb_i (e_not _) ?_
        | refine vb_i (e_nilCheck _) ?_
        | refine vb_i (e_fieldAddr _ _) ?_
        | refine hb_i (e_alloc _ _) ?_
        | (refine vb_i (adds ?_) ?_; (· first | omega | (simp only [List.length_cons, List.length_nil, List.length_append]; omega)))
        with_reducible refine sb_i (store32 gz List.length_replicate (by rw [List.length_map]; exact hv) (cells_byte _)) ?_
        refine ⟨rfl, _, rfl, by rw [List.getElem?_set_self (lt_of_some gz)], ?_⟩
        have hBl := r2.len
        refine pre_of_get (by rw [List.length_set]; omega) fun k hk => ?_
        rw [List.getElem?_set_ne (by rw [newO_len]; omega), pre_get r2.pre hk]
      rintro _ _ D ⟨rfl, k1, rfl, g1, p3⟩
      repeat with_reducible first
      | refine isB_T ?_
      | refine isB_F ?_
      | (refine isB_ct ?_ ?_; (· first | omega | rfl | assumption | trivial))
      | (refine isB_cf ?_ ?_; (· first | omega | assumption))
      | refine onE_i ?_
      | (refine onE_s ?_ ?_; (· decide))
      | refine vb_i e_ext0 ?_
      | refine vb_i e_ext1 ?_
      | refine vb_i e_ext2 ?_
      | refine vb_i (lss64 _ _ _) ?_
      | refine vb_i (leq64 _ _ _) ?_
      | refine vb_i (gtr64 _ _ _) ?_
      | refine vb_i (geq64 _ _ _) ?_
      | refine vb_i (eql64 _ _ _) ?_
      | refine vb_i (neq64 _ _ _) ?_
      | refine vb_i (eqls _ _) ?_
      | refine vb_i (neqs _ _) ?_
      | (refine vb_i (add64 ?_ ?_) ?_; (· omega); (· omega))
      | (refine vb_i (sub64 ?_ ?_) ?_; (· omega); (· omega))
      | (refine vb_i (mul64 ?_ ?_) ?_; (· omega); (· omega))
      | (refine vb_i (quo64 ?_ ?_ ?_) ?_; (· omega); (· omega); (· omega))
      | (refine vb_i (rem64 ?_ ?_) ?_; (· omega); (· omega))
      | refine vb_i (e_lenSt _) ?_
      | refine vb_i (e_lenSl _ _ _) ?_
      | refine vb_i e_lenNil ?_
      | refine vb_i (lenSl_view (by assumption)) ?_
      | refine vb_i (e_ptrNil _ _) ?_
      | refine vb_i (e_ptrNilN _ _) ?_
      | refine vb_i (e_nilNil _) ?_
      | refine vb_i (e_nilNilN _) ?_
      | refine vb_i (e_pickT _ _) ?_
      | refine vb_i (e_pickF _ _) ?_
      | refine vb_i e_notd ?_
      | refine vb_i e_boolNe ?_
      | refine vb_i e_boolEq ?_
      | refine vb_i (e_not _) ?_
      | refine vb_i (e_nilCheck _) ?_
      | refine vb_i (e_fieldAddr _ _) ?_
      | refine hb_i (e_alloc _ _) ?_
      | (refine vb_i (adds ?_) ?_; (· first | omega | (simp only [List.length_cons, List.length_nil, List.length_append]; omega)))
      simp only [evB]
      refine vb_i (e_loadAll (by rw [pre_get p3 (lt_of_some g0)]; exact g0) ham) ?_
      refine hb_i (two_slices _ vx vy) ?_
      have p4 : B <+: D ++ [AObj.cells 0 .exact [x, y]] := p3.trans (pre_app _ _)
      refine cb_i _ _ ⟨_, _, a, [x, y], [l, m], rfl, ha, ⟨view_ex (n := 2) (app_get0 _ _) rfl, by simp, ?_, fun _ _ _ _ _ _ e => (by cases e), fun _ _ _ _ _ _ _ _ _ e => by cases e⟩, (along_two a l m).symm, .inl ⟨rfl, rfl⟩⟩ ?_
      · intro i hi
        have : i = 0 ∨ i = 1 := by simp at hi; omega
        rcases this with rfl | rfl
        · exact hx.pre (p0.trans p4)
        · exact hy.pre (p0.trans p4)
      have hw := twoV_len a l m
      have g2 : (D ++ [AObj.cells 0 .exact [x, y]])[k1]? = some (.cells 0 .exact ((nextV a l).map ofByte)) := by rw [pre_get (pre_app _ _) (lt_of_some g1)]; exact g1
      generalize D ++ [AObj.cells 0 .exact [x, y]] = E at *
      repeat with_reducible first
      | refine isB_T ?_
      | refine isB_F ?_
      | (refine isB_ct ?_ ?_; (· first | omega | rfl | assumption | trivial))
      | (refine isB_cf ?_ ?_; (· first | omega | assumption))
      | refine onE_i ?_
      | (refine onE_s ?_ ?_; (· decide))
      | refine vb_i e_ext0 ?_
      | refine vb_i e_ext1 ?_
      | refine vb_i e_ext2 ?_
      | refine vb_i (lss64 _ _ _) ?_
      | refine vb_i (leq64 _ _ _) ?_
      | refine vb_i (gtr64 _ _ _) ?_
      | refine vb_i (geq64 _ _ _) ?_
      | refine vb_i (eql64 _ _ _) ?_
      | refine vb_i (neq64 _ _ _) ?_
      | refine vb_i (eqls _ _) ?_
      | refine vb_i (neqs _ _) ?_
      | (refine vb_i (add64 ?_ ?_) ?_; (· omega); (· omega))
      | (refine vb_i (sub64 ?_ ?_) ?_; (· omega); (· omega))
      | (refine vb_i (mul64 ?_ ?_) ?_; (· omega); (· omega))
      | (refine vb_i (quo64 ?_ ?_ ?_) ?_; (· omega); (· omega); (· omega))
      | (refine vb_i (rem64 ?_ ?_) ?_; (· omega); (· omega))
      | refine vb_i (e_lenSt _) ?_
      | refine vb_i (e_lenSl _ _ _) ?_
      | refine vb_i e_lenNil ?_
      | refine vb_i (lenSl_view (by assumption)) ?_
      | refine vb_i (e_ptrNil _ _) ?_
      | refine vb_i (e_ptrNilN _ _) ?_
      | refine vb_i (e_nilNil _) ?_
      | refine vb_i (e_nilNilN _) ?_
      | refine vb_i (e_pickT _ _) ?_
      | refine vb_i (e_pickF _ _) ?_
      | refine vb_i e_notd ?_
      | refine vb_i e_boolNe ?_
      | refine vb_i e_boolEq ?_
      | refine vb_i (e_not _) ?_
      | refine vb_i (e_nilCheck _) ?_
      | refine vb_i (e_fieldAddr _ _) ?_
      | refine hb_i (e_alloc _ _) ?_
      | (refine vb_i (adds ?_) ?_; (· first | omega | (simp only [List.length_cons, List.length_nil, List.length_append]; omega)))
      with_reducible refine sb_i (store_new List.length_replicate (by rw [List.length_map]; exact hw) (cells_byte _)) ?_
      have g3 : (E ++ [AObj.cells 0 .exact ((twoV a l m).map ofByte)])[k1]? = some (.cells 0 .exact ((nextV a l).map ofByte)) := by rw [pre_get (pre_app _ _) (lt_of_some g2)]; exact g2
      have g4 : (E ++ [AObj.cells 0 .exact ((twoV a l m).map ofByte)])[E.length]? = some (.cells 0 .exact ((twoV a l m).map ofByte)) := by rw [app_get0]; rfl
      have p5 : B <+: E ++ [AObj.cells 0 .exact ((twoV a l m).map ofByte)] := p4.trans (pre_app _ _)
      generalize hK2 : E.length = k2 at *
      generalize E ++ [AObj.cells 0 .exact ((twoV a l m).map ofByte)] = F at *
      refine vb_i (e_loadAll (by rw [pre_get p5 (lt_of_some g0)]; exact g0) ham) ?_
      refine cb_i (.tup [.agg (a.map ofByte), .int .i64 0]) _ ⟨_, _, a, [], [], rfl, ha, ⟨⟨rfl, .inl ⟨rfl, rfl⟩⟩, by simp, fun i hi => (by simp at hi), fun _ _ _ _ _ _ e => (by cases e), fun _ _ _ _ _ _ _ _ _ e => by cases e⟩, rfl, .inl ⟨rfl, rfl⟩⟩ ?_
      repeat with_reducible first
      | refine isB_T ?_
      | refine isB_F ?_
      | (refine isB_ct ?_ ?_; (· first | omega | rfl | assumption | trivial))
      | (refine isB_cf ?_ ?_; (· first | omega | assumption))
      | refine onE_i ?_
      | (refine onE_s ?_ ?_; (· decide))
      | refine vb_i e_ext0 ?_
      | refine vb_i e_ext1 ?_
      | refine vb_i e_ext2 ?_
      | refine vb_i (lss64 _ _ _) ?_
      | refine vb_i (leq64 _ _ _) ?_
      | refine vb_i (gtr64 _ _ _) ?_
      | refine vb_i (geq64 _ _ _) ?_
      | refine vb_i (eql64 _ _ _) ?_
      | refine vb_i (neq64 _ _ _) ?_
      | refine vb_i (eqls _ _) ?_
      | refine vb_i (neqs _ _) ?_
      | (refine vb_i (add64 ?_ ?_) ?_; (· omega); (· omega))
      | (refine vb_i (sub64 ?_ ?_) ?_; (· omega); (· omega))
      | (refine vb_i (mul64 ?_ ?_) ?_; (· omega); (· omega))
      | (refine vb_i (quo64 ?_ ?_ ?_) ?_; (· omega); (· omega); (· omega))
      | (refine vb_i (rem64 ?_ ?_) ?_; (· omega); (· omega))
      | refine vb_i (e_lenSt _) ?_
      | refine vb_i (e_lenSl _ _ _) ?_
      | refine vb_i e_lenNil ?_
      | refine vb_i (lenSl_view (by assumption)) ?_
      | refine vb_i (e_ptrNil _ _) ?_
      | refine vb_i (e_ptrNilN _ _) ?_
      | refine vb_i (e_nilNil _) ?_
      | refine vb_i (e_nilNilN _) ?_
      | refine vb_i (e_pickT _ _) ?_
      | refine vb_i (e_pickF _ _) ?_
      | refine vb_i e_notd ?_
      | refine vb_i e_boolNe ?_
      | refine vb_i e_boolEq ?_
      | refine vb_i (e_not _) ?_
      | refine vb_i (e_nilCheck _) ?_
      | refine vb_i (e_fieldAddr _ _) ?_
      | refine hb_i (e_alloc _ _) ?_
      | (refine vb_i (adds ?_) ?_; (· first | omega | (simp only [List.length_cons, List.length_nil, List.length_append]; omega)))
      with_reducible refine sb_i (store_new List.length_replicate ham (cells_byte _)) ?_
      have g5 : (F ++ [AObj.cells 0 .exact (a.map ofByte)])[k1]? = some (.cells 0 .exact ((nextV a l).map ofByte)) := by rw [pre_get (pre_app _ _) (lt_of_some g3)]; exact g3
      have g6 : (F ++ [AObj.cells 0 .exact (a.map ofByte)])[k2]? = some (.cells 0 .exact ((twoV a l m).map ofByte)) := by rw [pre_get (pre_app _ _) (lt_of_some g4)]; exact g4
      have g7 : (F ++ [AObj.cells 0 .exact (a.map ofByte)])[F.length]? = some (.cells 0 .exact (a.map ofByte)) := by rw [app_get0]; rfl
      have p6 : B <+: F ++ [AObj.cells 0 .exact (a.map ofByte)] := p5.trans (pre_app _ _)
      generalize hK3 : F.length = k3 at *
      generalize F ++ [AObj.cells 0 .exact (a.map ofByte)] = G at *
      refine vb_i (e_loadAll (by rw [pre_get p6 (lt_of_some g0)]; exact g0) ham) ?_
      refine cb_i _ _ (law_next ha (hx.pre (p0.trans p6))) ?_
      repeat with_reducible first
      | refine isB_T ?_
      | refine isB_F ?_
      | (refine isB_ct ?_ ?_; (· first | omega | rfl | assumption | trivial))
      | (refine isB_cf ?_ ?_; (· first | omega | assumption))
      | refine onE_i ?_
      | (refine onE_s ?_ ?_; (· decide))
      | refine vb_i e_ext0 ?_
      | refine vb_i e_ext1 ?_
      | refine vb_i e_ext2 ?_
      | refine vb_i (lss64 _ _ _) ?_
      | refine vb_i (leq64 _ _ _) ?_
      | refine vb_i (gtr64 _ _ _) ?_
      | refine vb_i (geq64 _ _ _) ?_
      | refine vb_i (eql64 _ _ _) ?_
      | refine vb_i (neq64 _ _ _) ?_
      | refine vb_i (eqls _ _) ?_
      | refine vb_i (neqs _ _) ?_
      | (refine vb_i (add64 ?_ ?_) ?_; (· omega); (· omega))
      | (refine vb_i (sub64 ?_ ?_) ?_; (· omega); (· omega))
      | (refine vb_i (mul64 ?_ ?_) ?_; (· omega); (· omega))
      | (refine vb_i (quo64 ?_ ?_ ?_) ?_; (· omega); (· omega); (· omega))
      | (refine vb_i (rem64 ?_ ?_) ?_; (· omega); (· omega))
      | refine vb_i (e_lenSt _) ?_
      | refine vb_i (e_lenSl _ _ _) ?_
      | refine vb_i e_lenNil ?_
      | refine vb_i (lenSl_view (by assumption)) ?_
      | refine vb_i (e_ptrNil _ _) ?_
      | refine vb_i (e_ptrNilN _ _) ?_
      | refine vb_i (e_nilNil _) ?_
      | refine vb_i (e_nilNilN _) ?_
      | refine vb_i (e_pickT _ _) ?_
      | refine vb_i (e_pickF _ _) ?_
      | refine vb_i e_notd ?_
      | refine vb_i e_boolNe ?_
      | refine vb_i e_boolEq ?_
      | refine vb_i (e_not _) ?_
      | refine vb_i (e_nilCheck _) ?_
      | refine vb_i (e_fieldAddr _ _) ?_
      | refine hb_i (e_alloc _ _) ?_
      | (refine vb_i (adds ?_) ?_; (· first | omega | (simp only [List.length_cons, List.length_nil, List.length_append]; omega)))
      with_reducible refine sb_i (store_new List.length_replicate (by rw [List.length_map]; exact hv) (cells_byte _)) ?_
      have q1 : (G ++ [AObj.cells 0 .exact ((nextV a l).map ofByte)])[k1]? = some (.cells 0 .exact ((nextV a l).map ofByte)) := by rw [pre_get (pre_app _ _) (lt_of_some g5)]; exact g5
      have q2 : (G ++ [AObj.cells 0 .exact ((nextV a l).map ofByte)])[k2]? = some (.cells 0 .exact ((twoV a l m).map ofByte)) := by rw [pre_get (pre_app _ _) (lt_of_some g6)]; exact g6
      have q3 : (G ++ [AObj.cells 0 .exact ((nextV a l).map ofByte)])[k3]? = some (.cells 0 .exact (a.map ofByte)) := by rw [pre_get (pre_app _ _) (lt_of_some g7)]; exact g7
      have q4 : (G ++ [AObj.cells 0 .exact ((nextV a l).map ofByte)])[G.length]? = some (.cells 0 .exact ((nextV a l).map ofByte)) := by rw [app_get0]; rfl
      have p7 : B <+: G ++ [AObj.cells 0 .exact ((nextV a l).map ofByte)] := p6.trans (pre_app _ _)
      have hk24 : k2 < G.length := lt_of_some g6
      have hk4 : B.length ≤ G.length := p6.length_le
      generalize hK4 : G.length = k4 at *
      generalize G ++ [AObj.cells 0 .exact ((nextV a l).map ofByte)] = Q at *
      refine JoinP.mk (fun e vs C => e = .normal ∧ vs = [.bool false] ∧ C = Q) ?_ ?_
      · with_reducible refine vb_i (e_loadAll q1 (by rw [List.length_map]; exact hv)) ?_
        with_reducible refine vb_i (e_loadAll q4 (by rw [List.length_map]; exact hv)) ?_
        with_reducible refine vb_i (e_neBytes hv hv) ?_
        with_reducible refine isB_cf ?_ ?_
        · exact not_not_intro rfl
        repeat with_reducible first
        | refine isB_T ?_
        | refine isB_F ?_
        | (refine isB_ct ?_ ?_; (· first | omega | rfl | assumption | trivial))
        | (refine isB_cf ?_ ?_; (· first | omega | assumption))
        | refine onE_i ?_
        | (refine onE_s ?_ ?_; (· decide))
        | refine vb_i e_ext0 ?_
        | refine vb_i e_ext1 ?_
        | refine vb_i e_ext2 ?_
        | refine vb_i (lss64 _ _ _) ?_
        | refine vb_i (leq64 _ _ _) ?_
        | refine vb_i (gtr64 _ _ _) ?_
        | refine vb_i (geq64 _ _ _) ?_
        | refine vb_i (eql64 _ _ _) ?_
        | refine vb_i (neq64 _ _ _) ?_
        | refine vb_i (eqls _ _) ?_
        | refine vb_i (neqs _ _) ?_
        | (refine vb_i (add64 ?_ ?_) ?_; (· omega); (· omega))
        | (refine vb_i (sub64 ?_ ?_) ?_; (· omega); (· omega))
        | (refine vb_i (mul64 ?_ ?_) ?_; (· omega); (· omega))
        | (refine vb_i (quo64 ?_ ?_ ?_) ?_; (· omega); (· omega); (· omega))
        | (refine vb_i (rem64 ?_ ?_) ?_; (· omega); (· omega))
        | refine vb_i (e_lenSt _) ?_
        | refine vb_i (e_lenSl _ _ _) ?_
        | refine vb_i e_lenNil ?_
        | refine vb_i (lenSl_view (by assumption)) ?_
        | refine vb_i (e_ptrNil _ _) ?_
        | refine vb_i (e_ptrNilN _ _) ?_
        | refine vb_i (e_nilNil _) ?_
        | refine vb_i (e_nilNilN _) ?_
        | refine vb_i (e_pickT _ _) ?_
        | refine vb_i (e_pickF _ _) ?_
        | refine vb_i e_notd ?_
        | refine vb_i e_boolNe ?_
        | refine vb_i e_boolEq ?_
        | refine vb_i (e_not _) ?_
        | refine vb_i (e_nilCheck _) ?_
        | refine vb_i (e_fieldAddr _ _) ?_
        | refine hb_i (e_alloc _ _) ?_
        | (refine vb_i (adds ?_) ?_; (· first | omega | (simp only [List.length_cons, List.length_nil, List.length_append]; omega)))
        with_reducible refine vb_i (e_loadAll q3 ham) ?_
        refine vb_i (e_loadAll (by rw [pre_get p7 (lt_of_some g0)]; exact g0) ham) ?_
        with_reducible refine vb_i (e_neBytes ha ha) ?_
        with_reducible refine isB_cf ?_ ?_
        · exact not_not_intro rfl
        repeat with_reducible first
        | refine isB_T ?_
        | refine isB_F ?_
        | (refine isB_ct ?_ ?_; (· first | omega | rfl | assumption | trivial))
        | (refine isB_cf ?_ ?_; (· first | omega | assumption))
        | refine onE_i ?_
        | (refine onE_s ?_ ?_; (· decide))
        | refine vb_i e_ext0 ?_
        | refine vb_i e_ext1 ?_
        | refine vb_i e_ext2 ?_
        | refine vb_i (lss64 _ _ _) ?_
        | refine vb_i (leq64 _ _ _) ?_
        | refine vb_i (gtr64 _ _ _) ?_
        | refine vb_i (geq64 _ _ _) ?_
        | refine vb_i (eql64 _ _ _) ?_
        | refine vb_i (neq64 _ _ _) ?_
        | refine vb_i (eqls _ _) ?_
        | refine vb_i (neqs _ _) ?_
        | (refine vb_i (add64 ?_ ?_) ?_; (· omega); (· omega))
        | (refine vb_i (sub64 ?_ ?_) ?_; (· omega); (· omega))
        | (refine vb_i (mul64 ?_ ?_) ?_; (· omega); (· omega))
        | (refine vb_i (quo64 ?_ ?_ ?_) ?_; (· omega); (· omega); (· omega))
        | (refine vb_i (rem64 ?_ ?_) ?_; (· omega); (· omega))
        | refine vb_i (e_lenSt _) ?_
        | refine vb_i (e_lenSl _ _ _) ?_
        | refine vb_i e_lenNil ?_
        | refine vb_i (lenSl_view (by assumption)) ?_
        | refine vb_i (e_ptrNil _ _) ?_
        | refine vb_i (e_ptrNilN _ _) ?_
        | refine vb_i (e_nilNil _) ?_
        | refine vb_i (e_nilNilN _) ?_
        | refine vb_i (e_pickT _ _) ?_
        | refine vb_i (e_pickF _ _) ?_
        | refine vb_i e_notd ?_
        | refine vb_i e_boolNe ?_
        | refine vb_i e_boolEq ?_
        | refine vb_i (e_not _) ?_
        | refine vb_i (e_nilCheck _) ?_
        | refine vb_i (e_fieldAddr _ _) ?_
        | refine hb_i (e_alloc _ _) ?_
        | (refine vb_i (adds ?_) ?_; (· first | omega | (simp only [List.length_cons, List.length_nil, List.length_append]; omega)))
        exact ⟨rfl, rfl, rfl⟩
      · rintro _ _ C ⟨rfl, rfl, rfl⟩
        repeat with_reducible first
        | refine isB_T ?_
        | refine isB_F ?_
        | (refine isB_ct ?_ ?_; (· first | omega | rfl | assumption | trivial))
        | (refine isB_cf ?_ ?_; (· first | omega | assumption))
        | refine onE_i ?_
        | (refine onE_s ?_ ?_; (· decide))
        | refine vb_i e_ext0 ?_
        | refine vb_i e_ext1 ?_
        | refine vb_i e_ext2 ?_
        | refine vb_i (lss64 _ _ _) ?_
        | refine vb_i (leq64 _ _ _) ?_
        | refine vb_i (gtr64 _ _ _) ?_
        | refine vb_i (geq64 _ _ _) ?_
        | refine vb_i (eql64 _ _ _) ?_
        | refine vb_i (neq64 _ _ _) ?_
        | refine vb_i (eqls _ _) ?_
        | refine vb_i (neqs _ _) ?_
        | (refine vb_i (add64 ?_ ?_) ?_; (· omega); (· omega))
        | (refine vb_i (sub64 ?_ ?_) ?_; (· omega); (· omega))
        | (refine vb_i (mul64 ?_ ?_) ?_; (· omega); (· omega))
        | (refine vb_i (quo64 ?_ ?_ ?_) ?_; (· omega); (· omega); (· omega))
        | (refine vb_i (rem64 ?_ ?_) ?_; (· omega); (· omega))
        | refine vb_i (e_lenSt _) ?_
        | refine vb_i (e_lenSl _ _ _) ?_
        | refine vb_i e_lenNil ?_
        | refine vb_i (lenSl_view (by assumption)) ?_
        | refine vb_i (e_ptrNil _ _) ?_
        | refine vb_i (e_ptrNilN _ _) ?_
        | refine vb_i (e_nilNil _) ?_
        | refine vb_i (e_nilNilN _) ?_
        | refine vb_i (e_pickT _ _) ?_
        | refine vb_i (e_pickF _ _) ?_
        | refine vb_i e_notd ?_
        | refine vb_i e_boolNe ?_
        | refine vb_i e_boolEq ?_
        | refine vb_i (e_not _) ?_
        | refine vb_i (e_nilCheck _) ?_
        | refine vb_i (e_fieldAddr _ _) ?_
        | refine hb_i (e_alloc _ _) ?_
        | (refine vb_i (adds ?_) ?_; (· first | omega | (simp only [List.length_cons, List.length_nil, List.length_append]; omega)))
        refine JoinP.mk (fun e vs D => e = .normal ∧ vs = [.int .i64 (twoE l m)] ∧ D[k2]? = some (.cells 0 .exact ((twoV a l m).map ofByte)) ∧ D[k4]? = some (.cells 0 .exact ((twoW a l m).map ofByte)) ∧ H' <+: D) ?_ ?_
        · by_cases hg : nextE l = 0
          · repeat with_reducible first
            | refine isB_T ?_
            | refine isB_F ?_
            | (refine isB_ct ?_ ?_; (· first | omega | rfl | assumption | trivial))
            | (refine isB_cf ?_ ?_; (· first | omega | assumption))
            | refine onE_i ?_
            | (refine onE_s ?_ ?_; (· decide))
            | refine vb_i e_ext0 ?_
            | refine vb_i e_ext1 ?_
            | refine vb_i e_ext2 ?_
            | refine vb_i (lss64 _ _ _) ?_
            | refine vb_i (leq64 _ _ _) ?_
            | refine vb_i (gtr64 _ _ _) ?_
            | refine vb_i (geq64 _ _ _) ?_
            | refine vb_i (eql64 _ _ _) ?_
            | refine vb_i (neq64 _ _ _) ?_
            | refine vb_i (eqls _ _) ?_
            | refine vb_i (neqs _ _) ?_
            | (refine vb_i (add64 ?_ ?_) ?_; (· omega); (· omega))
            | (refine vb_i (sub64 ?_ ?_) ?_; (· omega); (· omega))
            | (refine vb_i (mul64 ?_ ?_) ?_; (· omega); (· omega))
            | (refine vb_i (quo64 ?_ ?_ ?_) ?_; (· omega); (· omega); (· omega))
            | (refine vb_i (rem64 ?_ ?_) ?_; (· omega); (· omega))
            | refine vb_i (e_lenSt _) ?_
            | refine vb_i (e_lenSl _ _ _) ?_
            | refine vb_i e_lenNil ?_
            | refine vb_i (lenSl_view (by assumption)) ?_
            | refine vb_i (e_ptrNil _ _) ?_
            | refine vb_i (e_ptrNilN _ _) ?_
            | refine vb_i (e_nilNil _) ?_
            | refine vb_i (e_nilNilN _) ?_
            | refine vb_i (e_pickT _ _) ?_
            | refine vb_i (e_pickF _ _) ?_
            | refine vb_i e_notd ?_
            | refine vb_i e_boolNe ?_
            | refine vb_i e_boolEq ?_
            | refine vb_i (e_not _) ?_
            | refine vb_i (e_nilCheck _) ?_
            | refine vb_i (e_fieldAddr _ _) ?_
            | refine hb_i (e_alloc _ _) ?_
            | (refine vb_i (adds ?_) ?_; (· first | omega | (simp only [List.length_cons, List.length_nil, List.length_append]; omega)))
            with_reducible refine vb_i (e_loadAll q4 (by rw [List.length_map]; exact hv)) ?_
            refine cb_i _ _ (law_next hv (hy.pre (p0.trans p7))) ?_
            repeat with_reducible first
            | refine isB_T ?_
            | refine isB_F ?_
            | (refine isB_ct ?_ ?_; (· first | omega | rfl | assumption | trivial))
            | (refine isB_cf ?_ ?_; (· first | omega | assumption))
            | refine onE_i ?_
            | (refine onE_s ?_ ?_; (· decide))
            | refine vb_i e_ext0 ?_
            | refine vb_i e_ext1 ?_
            | refine vb_i e_ext2 ?_
            | refine vb_i (lss64 _ _ _) ?_
            | refine vb_i (leq64 _ _ _) ?_
            | refine vb_i (gtr64 _ _ _) ?_
            | refine vb_i (geq64 _ _ _) ?_
            | refine vb_i (eql64 _ _ _) ?_
            | refine vb_i (neq64 _ _ _) ?_
            | refine vb_i (eqls _ _) ?_
            | refine vb_i (neqs _ _) ?_
            | (refine vb_i (add64 ?_ ?_) ?_; (· omega); (· omega))
            | (refine vb_i (sub64 ?_ ?_) ?_; (· omega); (· omega))
            | (refine vb_i (mul64 ?_ ?_) ?_; (· omega); (· omega))
            | (refine vb_i (quo64 ?_ ?_ ?_) ?_; (· omega); (· omega); (· omega))
            | (refine vb_i (rem64 ?_ ?_) ?_; (· omega); (· omega))
            | refine vb_i (e_lenSt _) ?_
            | refine vb_i (e_lenSl _ _ _) ?_
            | refine vb_i e_lenNil ?_
            | refine vb_i (lenSl_view (by assumption)) ?_
            | refine vb_i (e_ptrNil _ _) ?_
            | refine vb_i (e_ptrNilN _ _) ?_
            | refine vb_i (e_nilNil _) ?_
            | refine vb_i (e_nilNilN _) ?_
            | refine vb_i (e_pickT _ _) ?_
            | refine vb_i (e_pickF _ _) ?_
            | refine vb_i e_notd ?_
            | refine vb_i e_boolNe ?_
            | refine vb_i e_boolEq ?_
            | refine vb_i (e_not _) ?_
            | refine vb_i (e_nilCheck _) ?_
            | refine vb_i (e_fieldAddr _ _) ?_
            | refine hb_i (e_alloc _ _) ?_
            | (refine vb_i (adds ?_) ?_; (· first | omega | (simp only [List.length_cons, List.length_nil, List.length_append]; omega)))
            have hv2 := nextV_len (nextV a l) m
            with_reducible refine sb_i (store32 q4 (by rw [List.length_map]; exact hv) (by rw [List.length_map]; exact hv2) (cells_byte _)) ?_
            refine ⟨rfl, by rw [twoE, if_pos hg], ?_, ?_, ?_⟩
            · rw [List.getElem?_set_ne (by omega)]; exact q2
            · rw [List.getElem?_set_self (lt_of_some q4), twoW, if_pos hg]
            · refine pre_of_get (by rw [List.length_set]; exact (p0.trans p7).length_le) fun k hk => ?_
              have := p0.length_le
              rw [List.getElem?_set_ne (by omega), pre_get (p0.trans p7) hk]
          · repeat with_reducible first
            | refine isB_T ?_
            | refine isB_F ?_
            | (refine isB_ct ?_ ?_; (· first | omega | rfl | assumption | trivial))
            | (refine isB_cf ?_ ?_; (· first | omega | assumption))
            | refine onE_i ?_
            | (refine onE_s ?_ ?_; (· decide))
            | refine vb_i e_ext0 ?_
            | refine vb_i e_ext1 ?_
            | refine vb_i e_ext2 ?_
            | refine vb_i (lss64 _ _ _) ?_
            | refine vb_i (leq64 _ _ _) ?_
            | refine vb_i (gtr64 _ _ _) ?_
            | refine vb_i (geq64 _ _ _) ?_
            | refine vb_i (eql64 _ _ _) ?_
            | refine vb_i (neq64 _ _ _) ?_
            | refine vb_i (eqls _ _) ?_
            | refine vb_i (neqs _ _) ?_
            | (refine vb_i (add64 ?_ ?_) ?_; (· omega); (· omega))
            | (refine vb_i (sub64 ?_ ?_) ?_; (· omega); (· omega))
            | (refine vb_i (mul64 ?_ ?_) ?_; (· omega); (· omega))
            | (refine vb_i (quo64 ?_ ?_ ?_) ?_; (· omega); (· omega); (· omega))
            | (refine vb_i (rem64 ?_ ?_) ?_; (· omega); (· omega))
            | refine vb_i (e_lenSt _) ?_
            | refine vb_i (e_lenSl _ _ _) ?_
            | refine vb_i e_lenNil ?_
            | refine vb_i (lenSl_view (by assumption)) ?_
            | refine vb_i (e_ptrNil _ _) ?_
            | refine vb_i (e_ptrNilN _ _) ?_
            | refine vb_i (e_nilNil _) ?_
            | refine vb_i (e_nilNilN _) ?_
            | refine vb_i (e_pickT _ _) ?_
            | refine vb_i (e_pickF _ _) ?_
            | refine vb_i e_notd ?_
            | refine vb_i e_boolNe ?_
            | refine vb_i e_boolEq ?_
            | refine vb_i (e_not _) ?_
            | refine vb_i (e_nilCheck _) ?_
            | refine vb_i (e_fieldAddr _ _) ?_
            | refine hb_i (e_alloc _ _) ?_
            | (refine vb_i (adds ?_) ?_; (· first | omega | (simp only [List.length_cons, List.length_nil, List.length_append]; omega)))
            exact ⟨rfl, by rw [twoE, if_neg hg], q2, by rw [twoW, if_neg hg]; exact q4, p0.trans p7⟩
        · rintro _ _ D ⟨rfl, rfl, d1, d2, p8⟩
          have hw2 := twoW_len a l m
          by_cases hE : twoE l m = 0
          · have hVW : twoV a l m = twoW a l m := by rw [twoV, if_pos hE]
            rw [hVW] at d1
            rw [hE]
            repeat with_reducible first
            | refine isB_T ?_
            | refine isB_F ?_
            | (refine isB_ct ?_ ?_; (· first | omega | rfl | assumption | trivial))
            | (refine isB_cf ?_ ?_; (· first | omega | assumption))
            | refine onE_i ?_
            | (refine onE_s ?_ ?_; (· decide))
            | refine vb_i e_ext0 ?_
            | refine vb_i e_ext1 ?_
            | refine vb_i e_ext2 ?_
            | refine vb_i (lss64 _ _ _) ?_
            | refine vb_i (leq64 _ _ _) ?_
            | refine vb_i (gtr64 _ _ _) ?_
            | refine vb_i (geq64 _ _ _) ?_
            | refine vb_i (eql64 _ _ _) ?_
            | refine vb_i (neq64 _ _ _) ?_
            | refine vb_i (eqls _ _) ?_
            | refine vb_i (neqs _ _) ?_
            | (refine vb_i (add64 ?_ ?_) ?_; (· omega); (· omega))
            | (refine vb_i (sub64 ?_ ?_) ?_; (· omega); (· omega))
            | (refine vb_i (mul64 ?_ ?_) ?_; (· omega); (· omega))
            | (refine vb_i (quo64 ?_ ?_ ?_) ?_; (· omega); (· omega); (· omega))
            | (refine vb_i (rem64 ?_ ?_) ?_; (· omega); (· omega))
            | refine vb_i (e_lenSt _) ?_
            | refine vb_i (e_lenSl _ _ _) ?_
            | refine vb_i e_lenNil ?_
            | refine vb_i (lenSl_view (by assumption)) ?_
            | refine vb_i (e_ptrNil _ _) ?_
            | refine vb_i (e_ptrNilN _ _) ?_
            | refine vb_i (e_nilNil _) ?_
            | refine vb_i (e_nilNilN _) ?_
            | refine vb_i (e_pickT _ _) ?_
            | refine vb_i (e_pickF _ _) ?_
            | refine vb_i e_notd ?_
            | refine vb_i e_boolNe ?_
            | refine vb_i e_boolEq ?_
            | refine vb_i (e_not _) ?_
            | refine vb_i (e_nilCheck _) ?_
            | refine vb_i (e_fieldAddr _ _) ?_
            | refine hb_i (e_alloc _ _) ?_
            | (refine vb_i (adds ?_) ?_; (· first | omega | (simp only [List.length_cons, List.length_nil, List.length_append]; omega)))
            simp only [evB]
            repeat with_reducible first
            | refine isB_T ?_
            | refine isB_F ?_
            | (refine isB_ct ?_ ?_; (· first | omega | rfl | assumption | trivial))
            | (refine isB_cf ?_ ?_; (· first | omega | assumption))
            | refine onE_i ?_
            | (refine onE_s ?_ ?_; (· decide))
            | refine vb_i e_ext0 ?_
            | refine vb_i e_ext1 ?_
            | refine vb_i e_ext2 ?_
            | refine vb_i (lss64 _ _ _) ?_
            | refine vb_i (leq64 _ _ _) ?_
            | refine vb_i (gtr64 _ _ _) ?_
            | refine vb_i (geq64 _ _ _) ?_
            | refine vb_i (eql64 _ _ _) ?_
            | refine vb_i (neq64 _ _ _) ?_
            | refine vb_i (eqls _ _) ?_
            | refine vb_i (neqs _ _) ?_
            | (refine vb_i (add64 ?_ ?_) ?_; (· omega); (· omega))
            | (refine vb_i (sub64 ?_ ?_) ?_; (· omega); (· omega))
            | (refine vb_i (mul64 ?_ ?_) ?_; (· omega); (· omega))
            | (refine vb_i (quo64 ?_ ?_ ?_) ?_; (· omega); (· omega); (· omega))
            | (refine vb_i (rem64 ?_ ?_) ?_; (· omega); (· omega))
            | refine vb_i (e_lenSt _) ?_
            | refine vb_i (e_lenSl _ _ _) ?_
            | refine vb_i e_lenNil ?_
            | refine vb_i (lenSl_view (by assumption)) ?_
            | refine vb_i (e_ptrNil _ _) ?_
            | refine vb_i (e_ptrNilN _ _) ?_
            | refine vb_i (e_nilNil _) ?_
            | refine vb_i (e_nilNilN _) ?_
            | refine vb_i (e_pickT _ _) ?_
            | refine vb_i (e_pickF _ _) ?_
            | refine vb_i e_notd ?_
            | refine vb_i e_boolNe ?_
            | refine vb_i e_boolEq ?_
            | refine vb_i (e_not _) ?_
            | refine vb_i (e_nilCheck _) ?_
            | refine vb_i (e_fieldAddr _ _) ?_
            | refine hb_i (e_alloc _ _) ?_
            | (refine vb_i (adds ?_) ?_; (· first | omega | (simp only [List.length_cons, List.length_nil, List.length_append]; omega)))
            refine cb_i _ _ ⟨rfl, rfl, rfl⟩ ?_
            repeat with_reducible first
            | refine isB_T ?_
            | refine isB_F ?_
            | (refine isB_ct ?_ ?_; (· first | omega | rfl | assumption | trivial))
            | (refine isB_cf ?_ ?_; (· first | omega | assumption))
            | refine onE_i ?_
            | (refine onE_s ?_ ?_; (· decide))
            | refine vb_i e_ext0 ?_
            | refine vb_i e_ext1 ?_
            | refine vb_i e_ext2 ?_
            | refine vb_i (lss64 _ _ _) ?_
            | refine vb_i (leq64 _ _ _) ?_
            | refine vb_i (gtr64 _ _ _) ?_
            | refine vb_i (geq64 _ _ _) ?_
            | refine vb_i (eql64 _ _ _) ?_
            | refine vb_i (neq64 _ _ _) ?_
            | refine vb_i (eqls _ _) ?_
            | refine vb_i (neqs _ _) ?_
            | (refine vb_i (add64 ?_ ?_) ?_; (· omega); (· omega))
            | (refine vb_i (sub64 ?_ ?_) ?_; (· omega); (· omega))
            | (refine vb_i (mul64 ?_ ?_) ?_; (· omega); (· omega))
            | (refine vb_i (quo64 ?_ ?_ ?_) ?_; (· omega); (· omega); (· omega))
            | (refine vb_i (rem64 ?_ ?_) ?_; (· omega); (· omega))
            | refine vb_i (e_lenSt _) ?_
            | refine vb_i (e_lenSl _ _ _) ?_
            | refine vb_i e_lenNil ?_
            | refine vb_i (lenSl_view (by assumption)) ?_
            | refine vb_i (e_ptrNil _ _) ?_
            | refine vb_i (e_ptrNilN _ _) ?_
            | refine vb_i (e_nilNil _) ?_
            | refine vb_i (e_nilNilN _) ?_
            | refine vb_i (e_pickT _ _) ?_
            | refine vb_i (e_pickF _ _) ?_
            | refine vb_i e_notd ?_
            | refine vb_i e_boolNe ?_
            | refine vb_i e_boolEq ?_
            | refine vb_i (e_not _) ?_
            | refine vb_i (e_nilCheck _) ?_
            | refine vb_i (e_fieldAddr _ _) ?_
            | refine hb_i (e_alloc _ _) ?_
            | (refine vb_i (adds ?_) ?_; (· first | omega | (simp only [List.length_cons, List.length_nil, List.length_append]; omega)))
            with_reducible refine vb_i (e_loadAll d1 (by rw [List.length_map]; exact hw2)) ?_
            with_reducible refine vb_i (e_loadAll d2 (by rw [List.length_map]; exact hw2)) ?_
            with_reducible refine vb_i (e_eqBytes hw2 hw2) ?_
            repeat with_reducible first
            | refine isB_T ?_
            | refine isB_F ?_
            | (refine isB_ct ?_ ?_; (· first | omega | rfl | assumption | trivial))
            | (refine isB_cf ?_ ?_; (· first | omega | assumption))
            | refine onE_i ?_
            | (refine onE_s ?_ ?_; (· decide))
            | refine vb_i e_ext0 ?_
            | refine vb_i e_ext1 ?_
            | refine vb_i e_ext2 ?_
            | refine vb_i (lss64 _ _ _) ?_
            | refine vb_i (leq64 _ _ _) ?_
            | refine vb_i (gtr64 _ _ _) ?_
            | refine vb_i (geq64 _ _ _) ?_
            | refine vb_i (eql64 _ _ _) ?_
            | refine vb_i (neq64 _ _ _) ?_
            | refine vb_i (eqls _ _) ?_
            | refine vb_i (neqs _ _) ?_
            | (refine vb_i (add64 ?_ ?_) ?_; (· omega); (· omega))
            | (refine vb_i (sub64 ?_ ?_) ?_; (· omega); (· omega))
            | (refine vb_i (mul64 ?_ ?_) ?_; (· omega); (· omega))
            | (refine vb_i (quo64 ?_ ?_ ?_) ?_; (· omega); (· omega); (· omega))
            | (refine vb_i (rem64 ?_ ?_) ?_; (· omega); (· omega))
            | refine vb_i (e_lenSt _) ?_
            | refine vb_i (e_lenSl _ _ _) ?_
            | refine vb_i e_lenNil ?_
            | refine vb_i (lenSl_view (by assumption)) ?_
            | refine vb_i (e_ptrNil _ _) ?_
            | refine vb_i (e_ptrNilN _ _) ?_
            | refine vb_i (e_nilNil _) ?_
            | refine vb_i (e_nilNilN _) ?_
            | refine vb_i (e_pickT _ _) ?_
            | refine vb_i (e_pickF _ _) ?_
            | refine vb_i e_notd ?_
            | refine vb_i e_boolNe ?_
            | refine vb_i e_boolEq ?_
            | refine vb_i (e_not _) ?_
            | refine vb_i (e_nilCheck _) ?_
            | refine vb_i (e_fieldAddr _ _) ?_
            | refine hb_i (e_alloc _ _) ?_
            | (refine vb_i (adds ?_) ?_; (· first | omega | (simp only [List.length_cons, List.length_nil, List.length_append]; omega)))
            exact fin_bool rfl p8
          · have hVW : twoV a l m = zs 32 := by rw [twoV, if_neg hE]
            rw [hVW] at d1 hw
            repeat with_reducible first
            | refine isB_T ?_
            | refine isB_F ?_
            | (refine isB_ct ?_ ?_; (· first | omega | rfl | assumption | trivial))
            | (refine isB_cf ?_ ?_; (· first | omega | assumption))
            | refine onE_i ?_
            | (refine onE_s ?_ ?_; (· decide))
            | refine vb_i e_ext0 ?_
            | refine vb_i e_ext1 ?_
            | refine vb_i e_ext2 ?_
            | refine vb_i (lss64 _ _ _) ?_
            | refine vb_i (leq64 _ _ _) ?_
            | refine vb_i (gtr64 _ _ _) ?_
            | refine vb_i (geq64 _ _ _) ?_
            | refine vb_i (eql64 _ _ _) ?_
            | refine vb_i (neq64 _ _ _) ?_
            | refine vb_i (eqls _ _) ?_
            | refine vb_i (neqs _ _) ?_
            | (refine vb_i (add64 ?_ ?_) ?_; (· omega); (· omega))
            | (refine vb_i (sub64 ?_ ?_) ?_; (· omega); (· omega))
            | (refine vb_i (mul64 ?_ ?_) ?_; (· omega); (· omega))
            | (refine vb_i (quo64 ?_ ?_ ?_) ?_; (· omega); (· omega); (· omega))
            | (refine vb_i (rem64 ?_ ?_) ?_; (· omega); (· omega))
            | refine vb_i (e_lenSt _) ?_
            | refine vb_i (e_lenSl _ _ _) ?_
            | refine vb_i e_lenNil ?_
            | refine vb_i (lenSl_view (by assumption)) ?_
            | refine vb_i (e_ptrNil _ _) ?_
            | refine vb_i (e_ptrNilN _ _) ?_
            | refine vb_i (e_nilNil _) ?_
            | refine vb_i (e_nilNilN _) ?_
            | refine vb_i (e_pickT _ _) ?_
            | refine vb_i (e_pickF _ _) ?_
            | refine vb_i e_notd ?_
            | refine vb_i e_boolNe ?_
            | refine vb_i e_boolEq ?_
            | refine vb_i (e_not _) ?_
            | refine vb_i (e_nilCheck _) ?_
            | refine vb_i (e_fieldAddr _ _) ?_
            | refine hb_i (e_alloc _ _) ?_
            | (refine vb_i (adds ?_) ?_; (· first | omega | (simp only [List.length_cons, List.length_nil, List.length_append]; omega)))
            simp only [evB]
            repeat with_reducible first
            | refine isB_T ?_
            | refine isB_F ?_
            | (refine isB_ct ?_ ?_; (· first | omega | rfl | assumption | trivial))
            | (refine isB_cf ?_ ?_; (· first | omega | assumption))
            | refine onE_i ?_
            | (refine onE_s ?_ ?_; (· decide))
            | refine vb_i e_ext0 ?_
            | refine vb_i e_ext1 ?_
            | refine vb_i e_ext2 ?_
            | refine vb_i (lss64 _ _ _) ?_
            | refine vb_i (leq64 _ _ _) ?_
            | refine vb_i (gtr64 _ _ _) ?_
            | refine vb_i (geq64 _ _ _) ?_
            | refine vb_i (eql64 _ _ _) ?_
            | refine vb_i (neq64 _ _ _) ?_
            | refine vb_i (eqls _ _) ?_
            | refine vb_i (neqs _ _) ?_
            | (refine vb_i (add64 ?_ ?_) ?_; (· omega); (· omega))
            | (refine vb_i (sub64 ?_ ?_) ?_; (· omega); (· omega))
            | (refine vb_i (mul64 ?_ ?_) ?_; (· omega); (· omega))
            | (refine vb_i (quo64 ?_ ?_ ?_) ?_; (· omega); (· omega); (· omega))
            | (refine vb_i (rem64 ?_ ?_) ?_; (· omega); (· omega))
            | refine vb_i (e_lenSt _) ?_
            | refine vb_i (e_lenSl _ _ _) ?_
            | refine vb_i e_lenNil ?_
            | refine vb_i (lenSl_view (by assumption)) ?_
            | refine vb_i (e_ptrNil _ _) ?_
            | refine vb_i (e_ptrNilN _ _) ?_
            | refine vb_i (e_nilNil _) ?_
            | refine vb_i (e_nilNilN _) ?_
            | refine vb_i (e_pickT _ _) ?_
            | refine vb_i (e_pickF _ _) ?_
            | refine vb_i e_notd ?_
            | refine vb_i e_boolNe ?_
            | refine vb_i e_boolEq ?_
            | refine vb_i (e_not _) ?_
            | refine vb_i (e_nilCheck _) ?_
            | refine vb_i (e_fieldAddr _ _) ?_
            | refine hb_i (e_alloc _ _) ?_
            | (refine vb_i (adds ?_) ?_; (· first | omega | (simp only [List.length_cons, List.length_nil, List.length_append]; omega)))
            refine cb_i _ _ ⟨rfl, rfl, rfl⟩ ?_
            repeat with_reducible first
            | refine isB_T ?_
            | refine isB_F ?_
            | (refine isB_ct ?_ ?_; (· first | omega | rfl | assumption | trivial))
            | (refine isB_cf ?_ ?_; (· first | omega | assumption))
            | refine onE_i ?_
            | (refine onE_s ?_ ?_; (· decide))
            | refine vb_i e_ext0 ?_
            | refine vb_i e_ext1 ?_
            | refine vb_i e_ext2 ?_
            | refine vb_i (lss64 _ _ _) ?_
            | refine vb_i (leq64 _ _ _) ?_
            | refine vb_i (gtr64 _ _ _) ?_
            | refine vb_i (geq64 _ _ _) ?_
            | refine vb_i (eql64 _ _ _) ?_
            | refine vb_i (neq64 _ _ _) ?_
            | refine vb_i (eqls _ _) ?_
            | refine vb_i (neqs _ _) ?_
            | (refine vb_i (add64 ?_ ?_) ?_; (· omega); (· omega))
            | (refine vb_i (sub64 ?_ ?_) ?_; (· omega); (· omega))
            | (refine vb_i (mul64 ?_ ?_) ?_; (· omega); (· omega))
            | (refine vb_i (quo64 ?_ ?_ ?_) ?_; (· omega); (· omega); (· omega))
            | (refine vb_i (rem64 ?_ ?_) ?_; (· omega); (· omega))
            | refine vb_i (e_lenSt _) ?_
            | refine vb_i (e_lenSl _ _ _) ?_
            | refine vb_i e_lenNil ?_
            | refine vb_i (lenSl_view (by assumption)) ?_
            | refine vb_i (e_ptrNil _ _) ?_
            | refine vb_i (e_ptrNilN _ _) ?_
            | refine vb_i (e_nilNil _) ?_
            | refine vb_i (e_nilNilN _) ?_
            | refine vb_i (e_pickT _ _) ?_
            | refine vb_i (e_pickF _ _) ?_
            | refine vb_i e_notd ?_
            | refine vb_i e_boolNe ?_
            | refine vb_i e_boolEq ?_
            | refine vb_i (e_not _) ?_
            | refine vb_i (e_nilCheck _) ?_
            | refine vb_i (e_fieldAddr _ _) ?_
            | refine hb_i (e_alloc _ _) ?_
            | (refine vb_i (adds ?_) ?_; (· first | omega | (simp only [List.length_cons, List.length_nil, List.length_append]; omega)))
            with_reducible refine vb_i (e_loadAll d1 (by rw [List.length_map]; exact hw)) ?_
            with_reducible refine vb_i build_zs ?_
            with_reducible refine vb_i (e_eqBytes hw hw) ?_
            repeat with_reducible first
            | refine isB_T ?_
            | refine isB_F ?_
            | (refine isB_ct ?_ ?_; (· first | omega | rfl | assumption | trivial))
            | (refine isB_cf ?_ ?_; (· first | omega | assumption))
            | refine onE_i ?_
            | (refine onE_s ?_ ?_; (· decide))
            | refine vb_i e_ext0 ?_
            | refine vb_i e_ext1 ?_
            | refine vb_i e_ext2 ?_
            | refine vb_i (lss64 _ _ _) ?_
            | refine vb_i (leq64 _ _ _) ?_
            | refine vb_i (gtr64 _ _ _) ?_
            | refine vb_i (geq64 _ _ _) ?_
            | refine vb_i (eql64 _ _ _) ?_
            | refine vb_i (neq64 _ _ _) ?_
            | refine vb_i (eqls _ _) ?_
            | refine vb_i (neqs _ _) ?_
            | (refine vb_i (add64 ?_ ?_) ?_; (· omega); (· omega))
            | (refine vb_i (sub64 ?_ ?_) ?_; (· omega); (· omega))
            | (refine vb_i (mul64 ?_ ?_) ?_; (· omega); (· omega))
            | (refine vb_i (quo64 ?_ ?_ ?_) ?_; (· omega); (· omega); (· omega))
            | (refine vb_i (rem64 ?_ ?_) ?_; (· omega); (· omega))
            | refine vb_i (e_lenSt _) ?_
            | refine vb_i (e_lenSl _ _ _) ?_
            | refine vb_i e_lenNil ?_
            | refine vb_i (lenSl_view (by assumption)) ?_
            | refine vb_i (e_ptrNil _ _) ?_
            | refine vb_i (e_ptrNilN _ _) ?_
            | refine vb_i (e_nilNil _) ?_
            | refine vb_i (e_nilNilN _) ?_
            | refine vb_i (e_pickT _ _) ?_
            | refine vb_i (e_pickF _ _) ?_
            | refine vb_i e_notd ?_
            | refine vb_i e_boolNe ?_
            | refine vb_i e_boolEq ?_
            | refine vb_i (e_not _) ?_
            | refine vb_i (e_nilCheck _) ?_
            | refine vb_i (e_fieldAddr _ _) ?_
            | refine hb_i (e_alloc _ _) ?_
            | (refine vb_i (adds ?_) ?_; (· first | omega | (simp only [List.length_cons, List.length_nil, List.length_append]; omega)))
            exact fin_bool (by simp) p8
end Go.Sh

/- Functions that leave what was there as it was. -/
namespace Go.Sh
open Go Go.Abs

theorem chain_Start_1.quiet {args : List AVal} {H : AHeap} {r : AVal} {H' : AHeap} (h : S_chain_Start_1 args H r H') : H <+: H' := by
  unfold S_chain_Start_1 at h; grind [pre_app, pre_of_eq, newO]
theorem cellaretlaw14_awake.quiet {args : List AVal} {H : AHeap} {r : AVal} {H' : AHeap} (h : S_cellaretlaw14_awake args H r H') : H <+: H' := by
  unfold S_cellaretlaw14_awake at h; grind [pre_app, pre_of_eq, newO]
theorem cellaretlaw14_next.quiet {args : List AVal} {H : AHeap} {r : AVal} {H' : AHeap} (h : S_cellaretlaw14_next args H r H') : H <+: H' := by
  unfold S_cellaretlaw14_next at h; grind [pre_app, pre_of_eq, newO]
theorem cellaretlaw14_ChainSums.quiet {args : List AVal} {H : AHeap} {r : AVal} {H' : AHeap} (h : S_cellaretlaw14_ChainSums args H r H') : H <+: H' := by
  unfold S_cellaretlaw14_ChainSums at h; grind [pre_app, pre_of_eq, newO]
end Go.Sh

/- Functions that leave what was there as it was, 2. -/
namespace Go.Sh
open Go Go.Abs

theorem cellaretlaw14_ChainNexts.quiet {args : List AVal} {H : AHeap} {r : AVal} {H' : AHeap} (h : S_cellaretlaw14_ChainNexts args H r H') : H <+: H' := by
  unfold S_cellaretlaw14_ChainNexts at h; grind [pre_app, pre_of_eq, newO]
end Go.Sh
