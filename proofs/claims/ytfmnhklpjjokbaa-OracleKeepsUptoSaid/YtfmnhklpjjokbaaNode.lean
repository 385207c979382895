/- One text of these: Node0, NodeW1, NodeP1, NodeP2, NodeP3, NodeP4, NodeP5, NodeP6, NodeP7, NodeQ. -/
import Derived.Test.YtfmnhklpjjokbaaOrc
import Derived.Test.YtfmnhklpjjokbaaAbsE
import Derived.Test.YtfmnhklpjjokbaaRon

/- Nodes of a tree of sums. -/
namespace Go.Sh
open Go Go.Abs


/-- The j-th node on the way up from a leaf (the 0-th: the leaf itself, behind the nodes). -/
def up (k j : Nat) : Nat := (k + 64) / 2 ^ j - 1
def path (k : Nat) : List Int := [(up k 1 : Int), up k 2, up k 3, up k 4, up k 5, up k 6]
theorem up_zero (k : Nat) : up k 0 = k + 63 := by simp [up]
theorem up_next (k j : Nat) (h : 2 ≤ (k + 64) / 2 ^ j) : up k (j + 1) = (up k j - 1) / 2 := by
  unfold up
  rw [Nat.pow_succ, ← Nat.div_div_eq_div_mul]
  omega
theorem up_pos (k j : Nat) (hk : k < 64) (hj : j < 6) : 0 < up k j ∧ 2 ≤ (k + 64) / 2 ^ j := by
  have : j = 0 ∨ j = 1 ∨ j = 2 ∨ j = 3 ∨ j = 4 ∨ j = 5 := by omega
  unfold up
  rcases this with rfl | rfl | rfl | rfl | rfl | rfl <;> omega
theorem up_six (k : Nat) (hk : k < 64) : up k 6 = 0 := by unfold up; omega

def S_node_Path : Abs.Spec := fun args H r H' => ∃ k : Int, args = [.int .i64 k] ∧
  (((k < 0 ∨ 64 ≤ k) ∧ r = .tup [.nils, .int .i64 3] ∧ H' = H) ∨ (0 ≤ k ∧ k < 64 ∧ r = .tup [.slice ⟨H.length, 0, 0⟩ 6 (.op 1), .int .i64 0] ∧ H' = H ++ [.cells 0 .opn (ints (path k.toNat))]))

/-- Which of the ways up comes to a node. -/
def hit (k : Nat) (n : Int) : Option Nat := (List.range 6).find? fun j => decide ((up k (j + 1) : Int) = n)
def sideR (l n : Int) : List AVal :=
  if l < 0 ∨ 64 ≤ l then [.int .i64 0, .int .i64 3] else
  match hit l.toNat n with
  | some j => [.int .i64 ((up l.toNat j + 1) % 2 : Nat), .int .i64 0]
  | none => [.int .i64 0, .int .i64 3]
def S_node_Side : Abs.Spec := fun args H r H' => ∃ l n : Int, args = [.int .i64 l, .int .i64 n] ∧ r = .tup (sideR l n) ∧ H' = H

def belowR (n s : Int) : List AVal :=
  if n < 0 ∨ 63 ≤ n ∨ s < 0 ∨ 1 < s then [.int .i64 0, .bool false, .int .i64 3]
  else if 2 * n + 1 + s < 63 then [.int .i64 (2 * n + 1 + s), .bool false, .int .i64 0] else [.int .i64 (2 * n + 1 + s - 63), .bool true, .int .i64 0]
def S_node_Below : Abs.Spec := fun args H r H' => ∃ n s : Int, args = [.int .i64 n, .int .i64 s] ∧ r = .tup (belowR n s) ∧ H' = H

def S_node_sum : Abs.Spec := fun args H r H' => ∃ o s, args = [o, .str s] ∧ s.length ≤ 1099511627776 ∧ r = .agg ((sum s).map ofByte) ∧ Osums H o [s] H'
def S_node_Leaf : Abs.Spec := fun args H r H' => ∃ o s, args = [o, .str s] ∧ ((s.length ≠ 64 ∧ r = .tup [zero32, .int .i64 6] ∧ H' = H) ∨ (s.length = 64 ∧ r = .tup [.agg ((sum (0 :: s)).map ofByte), .int .i64 0] ∧ Osums H o [0 :: s] H'))
def S_node_Node : Abs.Spec := fun args H r H' => ∃ o s, args = [o, .str s] ∧ ((s.length ≠ 64 ∧ r = .tup [zero32, .int .i64 6] ∧ H' = H) ∨ (s.length = 64 ∧ r = .tup [.agg ((sum (1 :: s)).map ofByte), .int .i64 0] ∧ Osums H o [1 :: s] H'))
def mayR (s : List UInt8) (k : Int) : Int := if s.length ≠ 64 then 6 else if k < 0 ∨ 1 < k then 3 else 0
def S_node_may : Abs.Spec := fun args H r H' => ∃ (s : List UInt8) (k : Int), args = [.str s, .int .i64 k] ∧ r = .int .i64 (mayR s k) ∧ H' = H
def half (s : List UInt8) (k : Int) : List UInt8 := (s.drop (32 * k.toNat)).take 32
def S_node_Split : Abs.Spec := fun args H r H' => ∃ (s : List UInt8) (k : Int), args = [.str s, .int .i64 k] ∧ H' = H ∧
  ((mayR s k ≠ 0 ∧ r = .tup [zero32, .int .i64 (mayR s k)]) ∨ (mayR s k = 0 ∧ r = .tup [.agg ((half s k).map ofByte), .int .i64 0]))
def S_node_With : Abs.Spec := fun args H r H' => ∃ (s : List UInt8) (k : Int) (d : List UInt8), args = [.str s, .int .i64 k, .agg (d.map ofByte)] ∧ d.length = 32 ∧ H' = H ∧
  ((mayR s k ≠ 0 ∧ r = .tup [.str [], .int .i64 (mayR s k)]) ∨ (mayR s k = 0 ∧ r = .tup [.str (if k = 0 then d ++ s.drop 32 else s.take 32 ++ d), .int .i64 0]))
def S_cellaretlaw17_awake : Abs.Spec := fun args H r H' => args = [] ∧ r = .bool true ∧ H' = H
def S_cellaretlaw17_NodePaths : Abs.Spec := fun args H r H' => ∃ a b c : Int, args = [.int .i64 a, .int .i64 b, .int .i64 c] ∧ (-9223372036854775808 ≤ b ∧ b < 9223372036854775808) ∧ r = .bool true ∧ H' = H
def S_cellaretlaw17_NodeSplits : Abs.Spec := fun args H r H' => ∃ (s : List UInt8) (k : Int) (d : List UInt8), args = [.str s, .int .i64 k, .agg (d.map ofByte)] ∧ d.length = 32 ∧ s.length ≤ 1048576 ∧ (-9223372036854775808 ≤ k ∧ k < 9223372036854775808) ∧ r = .bool true ∧ H' = H
def S_cellaretlaw17_NodeSums : Abs.Spec := fun args H r H' => ∃ s, args = [.str s] ∧ r = .bool true ∧ H' = H
end Go.Sh

/- What Go functions come to over abstract values, printed by a program (wtext.py). -/
namespace Go.Sh
open Go Go.Abs





def node_Path.L5.b (x4_5 : AVal) (x5_5 : AVal) (H10 : AHeap) (Kn11 : List AVal → AHeap → Prop) (Ke12 : AExit → List AVal → AHeap → Prop) : Prop :=
  vb (aBin .gtr x5_5 (.int .i64 0)) fun v13 =>
  isB v13 fun b14 => cond b14
    (vb (aBin .sub x5_5 (.int .i64 1)) fun v15 =>
    vb (aBin .quo v15 (.int .i64 2)) fun v16 =>
    hb (aBuildSlice H10 1 [.int .i64 0] 1 [(0, v16)]) fun v17 H18 =>
    hb (aAppendS H18 1 8 x4_5 v17) fun v19 H20 =>
    Kn11 [v19, v16] H20)
    (Ke12 (.exit 0) [x4_5] H10)

def node_Path.L5 : Body := fun vs H Kn Ke => node_Path.L5.b (vs.getD 0 .undef) (vs.getD 1 .undef) H Kn Ke

def node_Path.w (x0 : AVal) (H : AHeap) (K : AVal → AHeap → Prop) : Prop :=
  JoinP (fun Kj1 => vb (aBin .lss x0 (.int .i64 0)) fun v2 =>
    isB v2 fun b3 => cond b3
      (Kj1 .ret [.nils, .int .i64 3] H)
      (vb (aBin .geq x0 (.int .i64 64)) fun v4 =>
        isB v4 fun b5 => cond b5
          (Kj1 .ret [.nils, .int .i64 3] H)
          (Kj1 .normal [.nils, .int .i64 0] H)))
  (fun e6 vs7 H8 =>
    onE e6 .normal
      (vb (aBin .add x0 (.int .i64 63)) fun v9 =>
      LoopP node_Path.L5 [.nils, v9] H8 fun e21 vs22 H23 =>
        onE e21 (.exit 0)
          (fin .ret [.v (vs22.getD 0 .undef), .v (.int .i64 0)] H23 K)
        (False))
    (onE e6 .ret
      (fin .ret [.v (vs7.getD 0 .undef), .v (vs7.getD 1 .undef)] H8 K)
    (False)))

def node_Side.L4.b (x1 : AVal) (x6_4 : AVal) (H10 : AHeap) (Kn11 : List AVal → AHeap → Prop) (Ke12 : AExit → List AVal → AHeap → Prop) : Prop :=
  vb (aBin .gtr x6_4 (.int .i64 0)) fun v13 =>
  isB v13 fun b14 => cond b14
    (vb (aBin .sub x6_4 (.int .i64 1)) fun v15 =>
    vb (aBin .quo v15 (.int .i64 2)) fun v16 =>
    vb (aBin .eql v16 x1) fun v17 =>
    isB v17 fun b18 => cond b18
      (vb (aBin .add x6_4 (.int .i64 1)) fun v19 =>
      vb (aBin .rem v19 (.int .i64 2)) fun v20 =>
      Ke12 .ret [v20, .int .i64 0] H10)
      (Kn11 [v16] H10))
    (Ke12 (.exit 0) [.undef, .undef] H10)

def node_Side.L4 (x1 : AVal) : Body := fun vs H Kn Ke => node_Side.L4.b x1 (vs.getD 0 .undef) H Kn Ke

def node_Side.w (x0 : AVal) (x1 : AVal) (H : AHeap) (K : AVal → AHeap → Prop) : Prop :=
  JoinP (fun Kj1 => vb (aBin .lss x0 (.int .i64 0)) fun v2 =>
    isB v2 fun b3 => cond b3
      (Kj1 .ret [.int .i64 0, .int .i64 3] H)
      (vb (aBin .geq x0 (.int .i64 64)) fun v4 =>
        isB v4 fun b5 => cond b5
          (Kj1 .ret [.int .i64 0, .int .i64 3] H)
          (Kj1 .normal [.int .i64 0, .int .i64 0] H)))
  (fun e6 vs7 H8 =>
    onE e6 .normal
      (vb (aBin .add x0 (.int .i64 63)) fun v9 =>
      LoopP (node_Side.L4 x1) [v9] H8 fun e21 vs22 H23 =>
        onE e21 (.exit 0)
          (fin .ret [.v (.int .i64 0), .v (.int .i64 3)] H23 K)
        (onE e21 .ret
          (fin .ret [.v (vs22.getD 0 .undef), .v (vs22.getD 1 .undef)] H23 K)
        (False)))
    (onE e6 .ret
      (fin .ret [.v (vs7.getD 0 .undef), .v (vs7.getD 1 .undef)] H8 K)
    (False)))

def node_Below.w (x0 : AVal) (x1 : AVal) (H : AHeap) (K : AVal → AHeap → Prop) : Prop :=
  JoinP (fun Kj1 => vb (aBin .lss x0 (.int .i64 0)) fun v2 =>
    isB v2 fun b3 => cond b3
      (Kj1 .ret [.int .i64 0, .bool false, .int .i64 3] H)
      (vb (aBin .geq x0 (.int .i64 63)) fun v4 =>
        isB v4 fun b5 => cond b5
          (Kj1 .ret [.int .i64 0, .bool false, .int .i64 3] H)
          (vb (aBin .lss x1 (.int .i64 0)) fun v6 =>
            isB v6 fun b7 => cond b7
              (Kj1 .ret [.int .i64 0, .bool false, .int .i64 3] H)
              (vb (aBin .gtr x1 (.int .i64 1)) fun v8 =>
                isB v8 fun b9 => cond b9
                  (Kj1 .ret [.int .i64 0, .bool false, .int .i64 3] H)
                  (Kj1 .normal [.int .i64 0, .bool false, .int .i64 0] H)))))
  (fun e10 vs11 H12 =>
    onE e10 .normal
      (vb (aBin .mul (.int .i64 2) x0) fun v13 =>
      vb (aBin .add v13 (.int .i64 1)) fun v14 =>
      vb (aBin .add v14 x1) fun v15 =>
      vb (aBin .lss v15 (.int .i64 63)) fun v16 =>
      isB v16 fun b17 => cond b17
        (fin .ret [.v (v15), .v (.bool false), .v (.int .i64 0)] H12 K)
        (vb (aBin .sub v15 (.int .i64 63)) fun v18 =>
        fin .ret [.v (v18), .v (.bool true), .v (.int .i64 0)] H12 K))
    (onE e10 .ret
      (fin .ret [.v (vs11.getD 0 .undef), .v (vs11.getD 1 .undef), .v (vs11.getD 2 .undef)] H12 K)
    (False)))

def node_sum.w (x0 : AVal) (x1 : AVal) (H : AHeap) (K : AVal → AHeap → Prop) : Prop :=
  hb (aAlloc H (List.replicate 32 (.int .u8 0))) fun v1 H2 =>
  vb (aEql false .ptr H2 x0 .nilp) fun v3 =>
  isB v3 fun b4 => cond b4
    (cb (S_sha_Sum [x1] H2) fun v5 H6 =>
    sb (aStore H6 32 v1 v5) fun H7 =>
    fin .ret [.c true 32 (v1)] H7 K)
    (cb (S_oracle_Oracle_Sum [x0, x1] H2) fun v8 H9 =>
    sb (aStore H9 32 v1 v8) fun H10 =>
    fin .ret [.c true 32 (v1)] H10 K)

def node_Leaf.w (x0 : AVal) (x1 : AVal) (H : AHeap) (K : AVal → AHeap → Prop) : Prop :=
  hb (aAlloc H (List.replicate 32 (.int .u8 0))) fun v1 H2 =>
  vb (lenSt x1) fun v3 =>
  vb (aBin .neq v3 (.int .i64 64)) fun v4 =>
  isB v4 fun b5 => cond b5
    (vb (aBuild (List.replicate 32 (.int .u8 0)) (fun k => some (k * 1, 1)) []) fun v6 =>
    sb (aStore H2 32 v1 v6) fun H7 =>
    fin .ret [.c true 32 (v1), .v (.int .i64 6)] H7 K)
    (vb (aBin .add (.str [0]) x1) fun v8 =>
    cb (S_node_sum [x0, v8] H2) fun v9 H10 =>
    sb (aStore H10 32 v1 v9) fun H11 =>
    fin .ret [.c true 32 (v1), .v (.int .i64 0)] H11 K)

def node_Node.w (x0 : AVal) (x1 : AVal) (H : AHeap) (K : AVal → AHeap → Prop) : Prop :=
  hb (aAlloc H (List.replicate 32 (.int .u8 0))) fun v1 H2 =>
  vb (lenSt x1) fun v3 =>
  vb (aBin .neq v3 (.int .i64 64)) fun v4 =>
  isB v4 fun b5 => cond b5
    (vb (aBuild (List.replicate 32 (.int .u8 0)) (fun k => some (k * 1, 1)) []) fun v6 =>
    sb (aStore H2 32 v1 v6) fun H7 =>
    fin .ret [.c true 32 (v1), .v (.int .i64 6)] H7 K)
    (vb (aBin .add (.str [1]) x1) fun v8 =>
    cb (S_node_sum [x0, v8] H2) fun v9 H10 =>
    sb (aStore H10 32 v1 v9) fun H11 =>
    fin .ret [.c true 32 (v1), .v (.int .i64 0)] H11 K)

def node_may.w (x0 : AVal) (x1 : AVal) (H : AHeap) (K : AVal → AHeap → Prop) : Prop :=
  vb (lenSt x0) fun v1 =>
  vb (aBin .neq v1 (.int .i64 64)) fun v2 =>
  isB v2 fun b3 => cond b3
    (fin .ret [.v (.int .i64 6)] H K)
    (vb (aBin .lss x1 (.int .i64 0)) fun v4 =>
    isB v4 fun b5 => cond b5
      (fin .ret [.v (.int .i64 3)] H K)
      (vb (aBin .gtr x1 (.int .i64 1)) fun v6 =>
        isB v6 fun b7 => cond b7
          (fin .ret [.v (.int .i64 3)] H K)
          (fin .ret [.v (.int .i64 0)] H K)))

def node_Split.w (x0 : AVal) (x1 : AVal) (H : AHeap) (K : AVal → AHeap → Prop) : Prop :=
  hb (aAlloc H (List.replicate 32 (.int .u8 0))) fun v1 H2 =>
  hb (aAlloc H2 (List.replicate 32 (.int .u8 0))) fun v3 H4 =>
  cb (S_node_may [x0, x1] H4) fun v5 H6 =>
  vb (aBin .neq v5 (.int .i64 0)) fun v7 =>
  isB v7 fun b8 => cond b8
    (vb (aLoad H6 true 32 v3) fun v9 =>
    sb (aStore H6 32 v1 v9) fun H10 =>
    fin .ret [.c true 32 (v1), .v (v5)] H10 K)
    (vb (aSliceArr 32 1 v3 none none none) fun v11 =>
    vb (aBin .mul (.int .i64 32) x1) fun v12 =>
    vb (aSliceStr x0 (some v12) none) fun v13 =>
    hb (aCopy H6 1 v11 v13) fun v14 H15 =>
    vb (aLoad H15 true 32 v3) fun v16 =>
    sb (aStore H15 32 v1 v16) fun H17 =>
    fin .ret [.c true 32 (v1), .v (.int .i64 0)] H17 K)

def node_With.w (x0 : AVal) (x1 : AVal) (x2 : AVal) (H : AHeap) (K : AVal → AHeap → Prop) : Prop :=
  hb (aBox H x2) fun v1 H2 =>
  cb (S_node_may [x0, x1] H2) fun v3 H4 =>
  vb (aBin .neq v3 (.int .i64 0)) fun v5 =>
  isB v5 fun b6 => cond b6
    (fin .ret [.v (.str []), .v (v3)] H4 K)
    (vb (aBin .eql x1 (.int .i64 0)) fun v7 =>
    isB v7 fun b8 => cond b8
      (vb (aSliceArr 32 1 v1 none none none) fun v9 =>
      vb (aBytes2Str H4 v9) fun v10 =>
      vb (aSliceStr x0 (some (.int .i64 32)) none) fun v11 =>
      vb (aBin .add v10 v11) fun v12 =>
      fin .ret [.v (v12), .v (.int .i64 0)] H4 K)
      (vb (aSliceStr x0 none (some (.int .i64 32))) fun v13 =>
      vb (aSliceArr 32 1 v1 none none none) fun v14 =>
      vb (aBytes2Str H4 v14) fun v15 =>
      vb (aBin .add v13 v15) fun v16 =>
      fin .ret [.v (v16), .v (.int .i64 0)] H4 K))

def cellaretlaw17_awake.w (H : AHeap) (K : AVal → AHeap → Prop) : Prop :=
  cb (S_node_Path [.int .i64 0] H) fun v1 H2 =>
  vb (aExtract v1 0) fun v3 =>
  vb (aExtract v1 1) fun v4 =>
  cb (S_node_Side [.int .i64 63, .int .i64 0] H2) fun v5 H6 =>
  vb (aExtract v5 0) fun v7 =>
  vb (aExtract v5 1) fun v8 =>
  cb (S_cellaretref01_Zeros [.int .i64 64] H6) fun v9 H10 =>
  cb (S_node_Leaf [.nilp, v9] H10) fun v11 H12 =>
  vb (aExtract v11 0) fun v13 =>
  vb (aExtract v11 1) fun v14 =>
  hb (aAlloc H12 (List.replicate 32 (.int .u8 0))) fun v15 H16 =>
  sb (aStore H16 32 v15 v13) fun H17 =>
  vb (aBin .eql v4 (.int .i64 0)) fun v18 =>
  isB v18 fun b19 => cond b19
    (vb (aBin .eql v8 (.int .i64 0)) fun v20 =>
      isB v20 fun b21 => cond b21
        (vb (aBin .eql v14 (.int .i64 0)) fun v22 =>
          isB v22 fun b23 => cond b23
            (hb (aBuildSlice H17 1 [.int .i64 0] 6 [(0, .int .i64 31), (1, .int .i64 15), (2, .int .i64 7), (3, .int .i64 3), (4, .int .i64 1), (5, .int .i64 0)]) fun v24 H25 =>
              cb (S_cellaretref01_Ints [v3, v24] H25) fun v26 H27 =>
                isB v26 fun b28 => cond b28
                  (vb (aBin .eql v7 (.int .i64 1)) fun v29 =>
                    isB v29 fun b30 => cond b30
                      (vb (aLoad H27 true 32 v15) fun v31 =>
                      cb (S_cellaretref01_Zeros [.int .i64 64] H27) fun v32 H33 =>
                        vb (aBin .add (.str [0]) v32) fun v34 =>
                          cb (S_sha_Sum [v34] H33) fun v35 H36 =>
                            vb (aEql false (.agg (List.replicate 32 .int)) H36 v31 v35) fun v37 =>
                              fin .ret [.v (v37)] H36 K)
                      (fin .ret [.v (.bool false)] H27 K))
                  (fin .ret [.v (.bool false)] H27 K))
            (fin .ret [.v (.bool false)] H17 K))
        (fin .ret [.v (.bool false)] H17 K))
    (fin .ret [.v (.bool false)] H17 K)

def cellaretlaw17_NodePaths.L17.b (v3 : AVal) (x0 : AVal) (x1 : AVal) (v7 : AVal) (v8 : AVal) (x16_17 : AVal) (x17_17 : AVal) (H112 : AHeap) (Kn113 : List AVal → AHeap → Prop) (Ke114 : AExit → List AVal → AHeap → Prop) : Prop :=
  vb (aBin .geq x17_17 (.int .i64 0)) fun v115 =>
  isB v115 fun b116 => cond b116
    (vb (aIndexAddr 1 v3 x17_17) fun v117 =>
    vb (aLoad H112 false 1 v117) fun v118 =>
    cb (S_node_Side [x0, v118] H112) fun v119 H120 =>
    vb (aExtract v119 0) fun v121 =>
    vb (aExtract v119 1) fun v122 =>
    vb (aIndexAddr 1 v3 x17_17) fun v123 =>
    vb (aLoad H120 false 1 v123) fun v124 =>
    cb (S_node_Below [v124, v121] H120) fun v125 H126 =>
    vb (aExtract v125 0) fun v127 =>
    vb (aExtract v125 1) fun v128 =>
    vb (aExtract v125 2) fun v129 =>
    JoinP (fun Kj130 => vb (aBin .neq v122 (.int .i64 0)) fun v131 =>
      isB v131 fun b132 => cond b132
        (Kj130 .ret [.bool false] H126)
        (vb (aBin .neq v129 (.int .i64 0)) fun v133 =>
          isB v133 fun b134 => cond b134
            (Kj130 .ret [.bool false] H126)
            (vb (aBin .eql x17_17 (.int .i64 0)) fun v135 =>
                vb (aEql true .bool H126 v128 v135) fun v136 =>
                  isB v136 fun b137 => cond b137
                    (Kj130 .ret [.bool false] H126)
                    (isB v128 fun b138 => cond b138
                        (vb (aBin .neq v127 x0) fun v139 =>
                            isB v139 fun b140 => cond b140
                                (Kj130 .ret [.bool false] H126)
                                (vb (aUn .not v128) fun v141 =>
                                  isB v141 fun b142 => cond b142
                                      (vb (aBin .sub x17_17 (.int .i64 1)) fun v143 =>
                                            vb (aIndexAddr 1 v3 v143) fun v144 =>
                                              vb (aLoad H126 false 1 v144) fun v145 =>
                                                vb (aBin .neq v127 v145) fun v146 =>
                                                  isB v146 fun b147 => cond b147
                                                      (Kj130 .ret [.bool false] H126)
                                                      (Kj130 .normal [.undef] H126))
                                      (Kj130 .normal [.undef] H126)))
                        (vb (aUn .not v128) fun v148 =>
                                  isB v148 fun b149 => cond b149
                                      (vb (aBin .sub x17_17 (.int .i64 1)) fun v150 =>
                                            vb (aIndexAddr 1 v3 v150) fun v151 =>
                                              vb (aLoad H126 false 1 v151) fun v152 =>
                                                vb (aBin .neq v127 v152) fun v153 =>
                                                  isB v153 fun b154 => cond b154
                                                      (Kj130 .ret [.bool false] H126)
                                                      (Kj130 .normal [.undef] H126))
                                      (Kj130 .normal [.undef] H126))))))
    (fun e155 vs156 H157 =>
      onE e155 .normal
        (vb (aIndexAddr 1 v3 x17_17) fun v158 =>
        vb (aLoad H157 false 1 v158) fun v159 =>
        vb (aBin .eql v159 x1) fun v160 =>
        isB v160 fun b161 => cond b161
          (vb (aBin .neq v7 v121) fun v162 =>
          isB v162 fun b163 => cond b163
            (Ke114 .ret [.bool false, .bool true] H157)
            (vb (aBin .neq v8 (.int .i64 0)) fun v164 =>
              isB v164 fun b165 => cond b165
                (Ke114 .ret [.bool false, .bool true] H157)
                (vb (aBin .sub x17_17 (.int .i64 1)) fun v166 =>
                Kn113 [.bool true, v166] H157)))
          (vb (aBin .sub x17_17 (.int .i64 1)) fun v167 =>
          Kn113 [x16_17, v167] H157))
      (onE e155 .ret
        (Ke114 .ret [vs156.getD 0 .undef, x16_17] H157)
      (False))))
    (Ke114 (.exit 0) [.undef, x16_17] H112)

def cellaretlaw17_NodePaths.L17 (v3 : AVal) (x0 : AVal) (x1 : AVal) (v7 : AVal) (v8 : AVal) : Body := fun vs H Kn Ke => cellaretlaw17_NodePaths.L17.b v3 x0 x1 v7 v8 (vs.getD 0 .undef) (vs.getD 1 .undef) H Kn Ke

def cellaretlaw17_NodePaths.w (x0 : AVal) (x1 : AVal) (x2 : AVal) (H : AHeap) (K : AVal → AHeap → Prop) : Prop :=
  cb (S_node_Path [x0] H) fun v1 H2 =>
  vb (aExtract v1 0) fun v3 =>
  vb (aExtract v1 1) fun v4 =>
  cb (S_node_Side [x0, x1] H2) fun v5 H6 =>
  vb (aExtract v5 0) fun v7 =>
  vb (aExtract v5 1) fun v8 =>
  cb (S_node_Below [x1, x2] H6) fun v9 H10 =>
  vb (aExtract v9 0) fun v11 =>
  vb (aExtract v9 1) fun v12 =>
  vb (aExtract v9 2) fun v13 =>
  JoinP (fun Kj14 => vb (aBin .geq x1 (.int .i64 0)) fun v15 =>
    isB v15 fun b16 => cond b16
      (vb (aBin .lss x1 (.int .i64 63)) fun v17 =>
        isB v17 fun b18 => cond b18
          (vb (aBin .eql x2 (.int .i64 0)) fun v19 =>
            isB v19 fun b20 => cond b20
                (Kj14 .normal [.bool true] H10)
                (vb (aBin .eql x2 (.int .i64 1)) fun v21 =>
                  Kj14 .normal [v21] H10))
          (Kj14 .normal [.bool false] H10))
      (Kj14 .normal [.bool false] H10))
  (fun e22 vs23 H24 =>
    onE e22 .normal
      (JoinP (fun Kj25 => vb (aUn .not (vs23.getD 0 .undef)) fun v26 =>
        isB v26 fun b27 => cond b27
          (vb (aBin .neq v11 (.int .i64 0)) fun v28 =>
            isB v28 fun b29 => cond b29
                (Kj25 .ret [.bool false] H24)
                (isB v12 fun b30 => cond b30
                      (Kj25 .ret [.bool false] H24)
                      (vb (aBin .neq v13 (.int .i64 3)) fun v31 =>
                        isB v31 fun b32 => cond b32
                            (Kj25 .ret [.bool false] H24)
                            (isB (vs23.getD 0 .undef) fun b33 => cond b33
                                (vb (aBin .neq v13 (.int .i64 0)) fun v34 =>
                                  isB v34 fun b35 => cond b35
                                      (Kj25 .ret [.bool false] H24)
                                      (Kj25 .normal [.bool false] H24))
                                (Kj25 .normal [.bool false] H24)))))
          (isB (vs23.getD 0 .undef) fun b36 => cond b36
                          (vb (aBin .neq v13 (.int .i64 0)) fun v37 =>
                            isB v37 fun b38 => cond b38
                                (Kj25 .ret [.bool false] H24)
                                (Kj25 .normal [.bool false] H24))
                          (Kj25 .normal [.bool false] H24)))
      (fun e39 vs40 H41 =>
        onE e39 .normal
          (JoinP (fun Kj42 => isB (vs23.getD 0 .undef) fun b43 => cond b43
              (vb (aBin .mul (.int .i64 2) x1) fun v44 =>
              vb (aBin .add v44 (.int .i64 1)) fun v45 =>
              vb (aBin .add v45 x2) fun v46 =>
              vb (aBin .lss v46 (.int .i64 63)) fun v47 =>
              isB v47 fun b48 => cond b48
                (vb (aBin .neq v11 v46) fun v49 =>
                    isB v49 fun b50 => cond b50
                        (Kj42 .ret [.bool false] H41)
                        (isB v12 fun b51 => cond b51
                            (Kj42 .ret [.bool false] H41)
                            (vb (aBin .geq v46 (.int .i64 63)) fun v52 =>
                              isB v52 fun b53 => cond b53
                                  (vb (aBin .sub v46 (.int .i64 63)) fun v54 =>
                                      vb (aBin .neq v11 v54) fun v55 =>
                                        isB v55 fun b56 => cond b56
                                            (Kj42 .ret [.bool false] H41)
                                            (vb (aUn .not v12) fun v57 =>
                                              isB v57 fun b58 => cond b58
                                                    (Kj42 .ret [.bool false] H41)
                                                    (Kj42 .normal [vs40.getD 0 .undef] H41)))
                                  (Kj42 .normal [vs40.getD 0 .undef] H41))))
                (vb (aBin .geq v46 (.int .i64 63)) fun v59 =>
                            isB v59 fun b60 => cond b60
                                (vb (aBin .sub v46 (.int .i64 63)) fun v61 =>
                                    vb (aBin .neq v11 v61) fun v62 =>
                                      isB v62 fun b63 => cond b63
                                          (Kj42 .ret [.bool false] H41)
                                          (vb (aUn .not v12) fun v64 =>
                                            isB v64 fun b65 => cond b65
                                                  (Kj42 .ret [.bool false] H41)
                                                  (Kj42 .normal [vs40.getD 0 .undef] H41)))
                                (Kj42 .normal [vs40.getD 0 .undef] H41)))
              (Kj42 .normal [vs40.getD 0 .undef] H41))
          (fun e66 vs67 H68 =>
            onE e66 .normal
              (JoinP (fun Kj69 => vb (aBin .lss x0 (.int .i64 0)) fun v70 =>
                isB v70 fun b71 => cond b71
                  (cb (S_cellaretlaw17_awake [] H68) fun v72 H73 =>
                    isB v72 fun b74 => cond b74
                      (vb (lenSl v3) fun v75 =>
                        vb (aBin .eql v75 (.int .i64 0)) fun v76 =>
                          isB v76 fun b77 => cond b77
                            (vb (aBin .eql v4 (.int .i64 3)) fun v78 =>
                              isB v78 fun b79 => cond b79
                                (vb (aBin .eql v7 (.int .i64 0)) fun v80 =>
                                  isB v80 fun b81 => cond b81
                                    (vb (aBin .eql v8 (.int .i64 3)) fun v82 =>
                                      Kj69 .ret [v82] H73)
                                    (Kj69 .ret [.bool false] H73))
                                (Kj69 .ret [.bool false] H73))
                            (Kj69 .ret [.bool false] H73))
                      (Kj69 .ret [.bool false] H73))
                  (vb (aBin .gtr x0 (.int .i64 63)) fun v83 =>
                    isB v83 fun b84 => cond b84
                      (cb (S_cellaretlaw17_awake [] H68) fun v85 H86 =>
                      isB v85 fun b87 => cond b87
                        (vb (lenSl v3) fun v88 =>
                          vb (aBin .eql v88 (.int .i64 0)) fun v89 =>
                            isB v89 fun b90 => cond b90
                              (vb (aBin .eql v4 (.int .i64 3)) fun v91 =>
                                isB v91 fun b92 => cond b92
                                  (vb (aBin .eql v7 (.int .i64 0)) fun v93 =>
                                    isB v93 fun b94 => cond b94
                                      (vb (aBin .eql v8 (.int .i64 3)) fun v95 =>
                                        Kj69 .ret [v95] H86)
                                      (Kj69 .ret [.bool false] H86))
                                  (Kj69 .ret [.bool false] H86))
                              (Kj69 .ret [.bool false] H86))
                        (Kj69 .ret [.bool false] H86))
                      (Kj69 .normal [vs67.getD 0 .undef] H68)))
              (fun e96 vs97 H98 =>
                onE e96 .normal
                  (JoinP (fun Kj99 => vb (aBin .neq v4 (.int .i64 0)) fun v100 =>
                    isB v100 fun b101 => cond b101
                      (Kj99 .ret [.bool false] H98)
                      (vb (lenSl v3) fun v102 =>
                        vb (aBin .neq v102 (.int .i64 6)) fun v103 =>
                          isB v103 fun b104 => cond b104
                            (Kj99 .ret [.bool false] H98)
                            (vb (aIndexAddr 1 v3 (.int .i64 5)) fun v105 =>
                              vb (aLoad H98 false 1 v105) fun v106 =>
                                vb (aBin .neq v106 (.int .i64 0)) fun v107 =>
                                  isB v107 fun b108 => cond b108
                                    (Kj99 .ret [.bool false] H98)
                                    (Kj99 .normal [vs97.getD 0 .undef] H98))))
                  (fun e109 vs110 H111 =>
                    onE e109 .normal
                      (LoopP (cellaretlaw17_NodePaths.L17 v3 x0 x1 v7 v8) [.bool false, .int .i64 5] H111 fun e168 vs169 H170 =>
                        onE e168 (.exit 0)
                          (cb (S_cellaretlaw17_awake [] H170) fun v171 H172 =>
                          isB v171 fun b173 => cond b173
                            (isB (vs169.getD 1 .undef) fun b174 => cond b174
                                (fin .ret [.v (.bool true)] H172 K)
                                (vb (aBin .eql v7 (.int .i64 0)) fun v175 =>
                                  isB v175 fun b176 => cond b176
                                      (vb (aBin .eql v8 (.int .i64 3)) fun v177 =>
                                        fin .ret [.v (v177)] H172 K)
                                      (fin .ret [.v (.bool false)] H172 K)))
                            (fin .ret [.v (.bool false)] H172 K))
                        (onE e168 .ret
                          (fin .ret [.v (vs169.getD 0 .undef)] H170 K)
                        (False)))
                    (onE e109 .ret
                      (fin .ret [.v (vs110.getD 0 .undef)] H111 K)
                    (False))))
                (onE e96 .ret
                  (fin .ret [.v (vs97.getD 0 .undef)] H98 K)
                (False))))
            (onE e66 .ret
              (fin .ret [.v (vs67.getD 0 .undef)] H68 K)
            (False))))
        (onE e39 .ret
          (fin .ret [.v (vs40.getD 0 .undef)] H41 K)
        (False))))
    (False))

def cellaretlaw17_NodeSplits.w (x0 : AVal) (x1 : AVal) (x2 : AVal) (H : AHeap) (K : AVal → AHeap → Prop) : Prop :=
  hb (aBox H x2) fun v1 H2 =>
  cb (S_node_Split [x0, x1] H2) fun v3 H4 =>
  vb (aExtract v3 0) fun v5 =>
  vb (aExtract v3 1) fun v6 =>
  hb (aAlloc H4 (List.replicate 32 (.int .u8 0))) fun v7 H8 =>
  sb (aStore H8 32 v7 v5) fun H9 =>
  vb (aLoad H9 true 32 v1) fun v10 =>
  cb (S_node_With [x0, x1, v10] H9) fun v11 H12 =>
  vb (aExtract v11 0) fun v13 =>
  vb (aExtract v11 1) fun v14 =>
  vb (lenSt x0) fun v15 =>
  vb (aBin .neq v15 (.int .i64 64)) fun v16 =>
  isB v16 fun b17 => cond b17
    (vb (aBin .neq (.int .i64 6) (.int .i64 0)) fun v18 =>
    isB v18 fun b19 => cond b19
      (cb (S_cellaretlaw17_awake [] H12) fun v20 H21 =>
      isB v20 fun b22 => cond b22
        (vb (aLoad H21 true 32 v7) fun v23 =>
        vb (aBuild (List.replicate 32 (.int .u8 0)) (fun k => some (k * 1, 1)) []) fun v24 =>
          vb (aEql false (.agg (List.replicate 32 .int)) H21 v23 v24) fun v25 =>
            isB v25 fun b26 => cond b26
              (vb (aBin .eql v13 (.str [])) fun v27 =>
                isB v27 fun b28 => cond b28
                  (vb (aBin .eql v6 (.int .i64 6)) fun v29 =>
                      isB v29 fun b30 => cond b30
                        (vb (aBin .eql v14 (.int .i64 6)) fun v31 =>
                            fin .ret [.v (v31)] H21 K)
                        (fin .ret [.v (.bool false)] H21 K))
                  (fin .ret [.v (.bool false)] H21 K))
              (fin .ret [.v (.bool false)] H21 K))
        (fin .ret [.v (.bool false)] H21 K))
      (cb (S_node_Split [v13, x1] H12) fun v32 H33 =>
      vb (aExtract v32 0) fun v34 =>
      vb (aExtract v32 1) fun v35 =>
      hb (aAlloc H33 (List.replicate 32 (.int .u8 0))) fun v36 H37 =>
      sb (aStore H37 32 v36 v34) fun H38 =>
      vb (aBin .mul (.int .i64 32) x1) fun v39 =>
      cb (S_cellaretlaw17_awake [] H38) fun v40 H41 =>
      isB v40 fun b42 => cond b42
        (vb (aBin .eql v6 (.int .i64 0)) fun v43 =>
          isB v43 fun b44 => cond b44
            (vb (aBin .eql v14 (.int .i64 0)) fun v45 =>
              isB v45 fun b46 => cond b46
                (vb (aBin .eql v35 (.int .i64 0)) fun v47 =>
                  isB v47 fun b48 => cond b48
                    (vb (aSliceArr 32 1 v7 none none none) fun v49 =>
                    vb (aBytes2Str H41 v49) fun v50 =>
                      vb (aBin .add v39 (.int .i64 32)) fun v51 =>
                              vb (aSliceStr x0 (some v39) (some v51)) fun v52 =>
                                vb (aBin .eql v50 v52) fun v53 =>
                                  isB v53 fun b54 => cond b54
                                    (vb (aLoad H41 true 32 v36) fun v55 =>
                                    vb (aLoad H41 true 32 v1) fun v56 =>
                                      vb (aEql false (.agg (List.replicate 32 .int)) H41 v55 v56) fun v57 =>
                                        isB v57 fun b58 => cond b58
                                          (vb (aBin .sub (.int .i64 32) v39) fun v59 =>
                                              vb (aBin .sub (.int .i64 64) v39) fun v60 =>
                                                  vb (aSliceStr v13 (some v59) (some v60)) fun v61 =>
                                                    vb (aBin .sub (.int .i64 32) v39) fun v62 =>
                                                          vb (aBin .sub (.int .i64 64) v39) fun v63 =>
                                                              vb (aSliceStr x0 (some v62) (some v63)) fun v64 =>
                                                                vb (aBin .eql v61 v64) fun v65 =>
                                                                  isB v65 fun b66 => cond b66
                                                                    (vb (lenSt v13) fun v67 =>
                                                                      vb (aBin .eql v67 (.int .i64 64)) fun v68 =>
                                                                        fin .ret [.v (v68)] H41 K)
                                                                    (fin .ret [.v (.bool false)] H41 K))
                                          (fin .ret [.v (.bool false)] H41 K))
                                    (fin .ret [.v (.bool false)] H41 K))
                    (fin .ret [.v (.bool false)] H41 K))
                (fin .ret [.v (.bool false)] H41 K))
            (fin .ret [.v (.bool false)] H41 K))
        (fin .ret [.v (.bool false)] H41 K)))
    (vb (aBin .lss x1 (.int .i64 0)) fun v69 =>
    isB v69 fun b70 => cond b70
      (vb (aBin .neq (.int .i64 3) (.int .i64 0)) fun v71 =>
        isB v71 fun b72 => cond b72
          (cb (S_cellaretlaw17_awake [] H12) fun v73 H74 =>
          isB v73 fun b75 => cond b75
            (vb (aLoad H74 true 32 v7) fun v76 =>
            vb (aBuild (List.replicate 32 (.int .u8 0)) (fun k => some (k * 1, 1)) []) fun v77 =>
              vb (aEql false (.agg (List.replicate 32 .int)) H74 v76 v77) fun v78 =>
                isB v78 fun b79 => cond b79
                  (vb (aBin .eql v13 (.str [])) fun v80 =>
                    isB v80 fun b81 => cond b81
                      (vb (aBin .eql v6 (.int .i64 3)) fun v82 =>
                          isB v82 fun b83 => cond b83
                            (vb (aBin .eql v14 (.int .i64 3)) fun v84 =>
                                fin .ret [.v (v84)] H74 K)
                            (fin .ret [.v (.bool false)] H74 K))
                      (fin .ret [.v (.bool false)] H74 K))
                  (fin .ret [.v (.bool false)] H74 K))
            (fin .ret [.v (.bool false)] H74 K))
          (cb (S_node_Split [v13, x1] H12) fun v85 H86 =>
          vb (aExtract v85 0) fun v87 =>
          vb (aExtract v85 1) fun v88 =>
          hb (aAlloc H86 (List.replicate 32 (.int .u8 0))) fun v89 H90 =>
          sb (aStore H90 32 v89 v87) fun H91 =>
          vb (aBin .mul (.int .i64 32) x1) fun v92 =>
          cb (S_cellaretlaw17_awake [] H91) fun v93 H94 =>
          isB v93 fun b95 => cond b95
            (vb (aBin .eql v6 (.int .i64 0)) fun v96 =>
              isB v96 fun b97 => cond b97
                (vb (aBin .eql v14 (.int .i64 0)) fun v98 =>
                  isB v98 fun b99 => cond b99
                    (vb (aBin .eql v88 (.int .i64 0)) fun v100 =>
                      isB v100 fun b101 => cond b101
                        (vb (aSliceArr 32 1 v7 none none none) fun v102 =>
                        vb (aBytes2Str H94 v102) fun v103 =>
                          vb (aBin .add v92 (.int .i64 32)) fun v104 =>
                                  vb (aSliceStr x0 (some v92) (some v104)) fun v105 =>
                                    vb (aBin .eql v103 v105) fun v106 =>
                                      isB v106 fun b107 => cond b107
                                        (vb (aLoad H94 true 32 v89) fun v108 =>
                                        vb (aLoad H94 true 32 v1) fun v109 =>
                                          vb (aEql false (.agg (List.replicate 32 .int)) H94 v108 v109) fun v110 =>
                                            isB v110 fun b111 => cond b111
                                              (vb (aBin .sub (.int .i64 32) v92) fun v112 =>
                                                  vb (aBin .sub (.int .i64 64) v92) fun v113 =>
                                                      vb (aSliceStr v13 (some v112) (some v113)) fun v114 =>
                                                        vb (aBin .sub (.int .i64 32) v92) fun v115 =>
                                                              vb (aBin .sub (.int .i64 64) v92) fun v116 =>
                                                                  vb (aSliceStr x0 (some v115) (some v116)) fun v117 =>
                                                                    vb (aBin .eql v114 v117) fun v118 =>
                                                                      isB v118 fun b119 => cond b119
                                                                        (vb (lenSt v13) fun v120 =>
                                                                          vb (aBin .eql v120 (.int .i64 64)) fun v121 =>
                                                                            fin .ret [.v (v121)] H94 K)
                                                                        (fin .ret [.v (.bool false)] H94 K))
                                              (fin .ret [.v (.bool false)] H94 K))
                                        (fin .ret [.v (.bool false)] H94 K))
                        (fin .ret [.v (.bool false)] H94 K))
                    (fin .ret [.v (.bool false)] H94 K))
                (fin .ret [.v (.bool false)] H94 K))
            (fin .ret [.v (.bool false)] H94 K)))
      (vb (aBin .gtr x1 (.int .i64 1)) fun v122 =>
        isB v122 fun b123 => cond b123
          (vb (aBin .neq (.int .i64 3) (.int .i64 0)) fun v124 =>
          isB v124 fun b125 => cond b125
            (cb (S_cellaretlaw17_awake [] H12) fun v126 H127 =>
            isB v126 fun b128 => cond b128
              (vb (aLoad H127 true 32 v7) fun v129 =>
              vb (aBuild (List.replicate 32 (.int .u8 0)) (fun k => some (k * 1, 1)) []) fun v130 =>
                vb (aEql false (.agg (List.replicate 32 .int)) H127 v129 v130) fun v131 =>
                  isB v131 fun b132 => cond b132
                    (vb (aBin .eql v13 (.str [])) fun v133 =>
                      isB v133 fun b134 => cond b134
                        (vb (aBin .eql v6 (.int .i64 3)) fun v135 =>
                            isB v135 fun b136 => cond b136
                              (vb (aBin .eql v14 (.int .i64 3)) fun v137 =>
                                  fin .ret [.v (v137)] H127 K)
                              (fin .ret [.v (.bool false)] H127 K))
                        (fin .ret [.v (.bool false)] H127 K))
                    (fin .ret [.v (.bool false)] H127 K))
              (fin .ret [.v (.bool false)] H127 K))
            (cb (S_node_Split [v13, x1] H12) fun v138 H139 =>
            vb (aExtract v138 0) fun v140 =>
            vb (aExtract v138 1) fun v141 =>
            hb (aAlloc H139 (List.replicate 32 (.int .u8 0))) fun v142 H143 =>
            sb (aStore H143 32 v142 v140) fun H144 =>
            vb (aBin .mul (.int .i64 32) x1) fun v145 =>
            cb (S_cellaretlaw17_awake [] H144) fun v146 H147 =>
            isB v146 fun b148 => cond b148
              (vb (aBin .eql v6 (.int .i64 0)) fun v149 =>
                isB v149 fun b150 => cond b150
                  (vb (aBin .eql v14 (.int .i64 0)) fun v151 =>
                    isB v151 fun b152 => cond b152
                      (vb (aBin .eql v141 (.int .i64 0)) fun v153 =>
                        isB v153 fun b154 => cond b154
                          (vb (aSliceArr 32 1 v7 none none none) fun v155 =>
                          vb (aBytes2Str H147 v155) fun v156 =>
                            vb (aBin .add v145 (.int .i64 32)) fun v157 =>
                                    vb (aSliceStr x0 (some v145) (some v157)) fun v158 =>
                                      vb (aBin .eql v156 v158) fun v159 =>
                                        isB v159 fun b160 => cond b160
                                          (vb (aLoad H147 true 32 v142) fun v161 =>
                                          vb (aLoad H147 true 32 v1) fun v162 =>
                                            vb (aEql false (.agg (List.replicate 32 .int)) H147 v161 v162) fun v163 =>
                                              isB v163 fun b164 => cond b164
                                                (vb (aBin .sub (.int .i64 32) v145) fun v165 =>
                                                    vb (aBin .sub (.int .i64 64) v145) fun v166 =>
                                                        vb (aSliceStr v13 (some v165) (some v166)) fun v167 =>
                                                          vb (aBin .sub (.int .i64 32) v145) fun v168 =>
                                                                vb (aBin .sub (.int .i64 64) v145) fun v169 =>
                                                                    vb (aSliceStr x0 (some v168) (some v169)) fun v170 =>
                                                                      vb (aBin .eql v167 v170) fun v171 =>
                                                                        isB v171 fun b172 => cond b172
                                                                          (vb (lenSt v13) fun v173 =>
                                                                            vb (aBin .eql v173 (.int .i64 64)) fun v174 =>
                                                                              fin .ret [.v (v174)] H147 K)
                                                                          (fin .ret [.v (.bool false)] H147 K))
                                                (fin .ret [.v (.bool false)] H147 K))
                                          (fin .ret [.v (.bool false)] H147 K))
                          (fin .ret [.v (.bool false)] H147 K))
                      (fin .ret [.v (.bool false)] H147 K))
                  (fin .ret [.v (.bool false)] H147 K))
              (fin .ret [.v (.bool false)] H147 K)))
          (vb (aBin .neq (.int .i64 0) (.int .i64 0)) fun v175 =>
          isB v175 fun b176 => cond b176
            (cb (S_cellaretlaw17_awake [] H12) fun v177 H178 =>
            isB v177 fun b179 => cond b179
              (vb (aLoad H178 true 32 v7) fun v180 =>
              vb (aBuild (List.replicate 32 (.int .u8 0)) (fun k => some (k * 1, 1)) []) fun v181 =>
                vb (aEql false (.agg (List.replicate 32 .int)) H178 v180 v181) fun v182 =>
                  isB v182 fun b183 => cond b183
                    (vb (aBin .eql v13 (.str [])) fun v184 =>
                      isB v184 fun b185 => cond b185
                        (vb (aBin .eql v6 (.int .i64 0)) fun v186 =>
                            isB v186 fun b187 => cond b187
                              (vb (aBin .eql v14 (.int .i64 0)) fun v188 =>
                                  fin .ret [.v (v188)] H178 K)
                              (fin .ret [.v (.bool false)] H178 K))
                        (fin .ret [.v (.bool false)] H178 K))
                    (fin .ret [.v (.bool false)] H178 K))
              (fin .ret [.v (.bool false)] H178 K))
            (cb (S_node_Split [v13, x1] H12) fun v189 H190 =>
            vb (aExtract v189 0) fun v191 =>
            vb (aExtract v189 1) fun v192 =>
            hb (aAlloc H190 (List.replicate 32 (.int .u8 0))) fun v193 H194 =>
            sb (aStore H194 32 v193 v191) fun H195 =>
            vb (aBin .mul (.int .i64 32) x1) fun v196 =>
            cb (S_cellaretlaw17_awake [] H195) fun v197 H198 =>
            isB v197 fun b199 => cond b199
              (vb (aBin .eql v6 (.int .i64 0)) fun v200 =>
                isB v200 fun b201 => cond b201
                  (vb (aBin .eql v14 (.int .i64 0)) fun v202 =>
                    isB v202 fun b203 => cond b203
                      (vb (aBin .eql v192 (.int .i64 0)) fun v204 =>
                        isB v204 fun b205 => cond b205
                          (vb (aSliceArr 32 1 v7 none none none) fun v206 =>
                          vb (aBytes2Str H198 v206) fun v207 =>
                            vb (aBin .add v196 (.int .i64 32)) fun v208 =>
                                    vb (aSliceStr x0 (some v196) (some v208)) fun v209 =>
                                      vb (aBin .eql v207 v209) fun v210 =>
                                        isB v210 fun b211 => cond b211
                                          (vb (aLoad H198 true 32 v193) fun v212 =>
                                          vb (aLoad H198 true 32 v1) fun v213 =>
                                            vb (aEql false (.agg (List.replicate 32 .int)) H198 v212 v213) fun v214 =>
                                              isB v214 fun b215 => cond b215
                                                (vb (aBin .sub (.int .i64 32) v196) fun v216 =>
                                                    vb (aBin .sub (.int .i64 64) v196) fun v217 =>
                                                        vb (aSliceStr v13 (some v216) (some v217)) fun v218 =>
                                                          vb (aBin .sub (.int .i64 32) v196) fun v219 =>
                                                                vb (aBin .sub (.int .i64 64) v196) fun v220 =>
                                                                    vb (aSliceStr x0 (some v219) (some v220)) fun v221 =>
                                                                      vb (aBin .eql v218 v221) fun v222 =>
                                                                        isB v222 fun b223 => cond b223
                                                                          (vb (lenSt v13) fun v224 =>
                                                                            vb (aBin .eql v224 (.int .i64 64)) fun v225 =>
                                                                              fin .ret [.v (v225)] H198 K)
                                                                          (fin .ret [.v (.bool false)] H198 K))
                                                (fin .ret [.v (.bool false)] H198 K))
                                          (fin .ret [.v (.bool false)] H198 K))
                          (fin .ret [.v (.bool false)] H198 K))
                      (fin .ret [.v (.bool false)] H198 K))
                  (fin .ret [.v (.bool false)] H198 K))
              (fin .ret [.v (.bool false)] H198 K)))))

def cellaretlaw17_NodeSums.w (x0 : AVal) (H : AHeap) (K : AVal → AHeap → Prop) : Prop :=
  vb (lenSt x0) fun v1 =>
  vb (aBin .gtr v1 (.int .i64 1000)) fun v2 =>
  isB v2 fun b3 => cond b3
    (cb (S_cellaretlaw17_awake [] H) fun v4 H5 =>
    fin .ret [.v (v4)] H5 K)
    (cb (S_oracle_New [] H) fun v6 H7 =>
    cb (S_node_Leaf [v6, x0] H7) fun v8 H9 =>
    vb (aExtract v8 0) fun v10 =>
    vb (aExtract v8 1) fun v11 =>
    hb (aAlloc H9 (List.replicate 32 (.int .u8 0))) fun v12 H13 =>
    sb (aStore H13 32 v12 v10) fun H14 =>
    cb (S_oracle_New [] H14) fun v15 H16 =>
    cb (S_node_Node [v15, x0] H16) fun v17 H18 =>
    vb (aExtract v17 0) fun v19 =>
    vb (aExtract v17 1) fun v20 =>
    hb (aAlloc H18 (List.replicate 32 (.int .u8 0))) fun v21 H22 =>
    sb (aStore H22 32 v21 v19) fun H23 =>
    vb (lenSt x0) fun v24 =>
    vb (aBin .neq v24 (.int .i64 64)) fun v25 =>
    isB v25 fun b26 => cond b26
      (cb (S_cellaretlaw17_awake [] H23) fun v27 H28 =>
      isB v27 fun b29 => cond b29
        (vb (aLoad H28 true 32 v12) fun v30 =>
        vb (aBuild (List.replicate 32 (.int .u8 0)) (fun k => some (k * 1, 1)) []) fun v31 =>
          vb (aEql false (.agg (List.replicate 32 .int)) H28 v30 v31) fun v32 =>
            isB v32 fun b33 => cond b33
              (vb (aLoad H28 true 32 v21) fun v34 =>
              vb (aBuild (List.replicate 32 (.int .u8 0)) (fun k => some (k * 1, 1)) []) fun v35 =>
                vb (aEql false (.agg (List.replicate 32 .int)) H28 v34 v35) fun v36 =>
                  isB v36 fun b37 => cond b37
                    (vb (aBin .eql v11 (.int .i64 6)) fun v38 =>
                      isB v38 fun b39 => cond b39
                        (vb (aBin .eql v20 (.int .i64 6)) fun v40 =>
                          fin .ret [.v (v40)] H28 K)
                        (fin .ret [.v (.bool false)] H28 K))
                    (fin .ret [.v (.bool false)] H28 K))
              (fin .ret [.v (.bool false)] H28 K))
        (fin .ret [.v (.bool false)] H28 K))
      (cb (S_cellaretlaw17_awake [] H23) fun v41 H42 =>
      isB v41 fun b43 => cond b43
        (vb (aBin .eql v11 (.int .i64 0)) fun v44 =>
          isB v44 fun b45 => cond b45
            (vb (aBin .eql v20 (.int .i64 0)) fun v46 =>
              isB v46 fun b47 => cond b47
                (vb (aLoad H42 true 32 v12) fun v48 =>
                vb (aBin .add (.str [0]) x0) fun v49 =>
                    cb (S_sha_Sum [v49] H42) fun v50 H51 =>
                      vb (aEql false (.agg (List.replicate 32 .int)) H51 v48 v50) fun v52 =>
                        isB v52 fun b53 => cond b53
                          (vb (aLoad H51 true 32 v21) fun v54 =>
                          vb (aBin .add (.str [1]) x0) fun v55 =>
                              cb (S_sha_Sum [v55] H51) fun v56 H57 =>
                                vb (aEql false (.agg (List.replicate 32 .int)) H57 v54 v56) fun v58 =>
                                  fin .ret [.v (v58)] H57 K)
                          (fin .ret [.v (.bool false)] H51 K))
                (fin .ret [.v (.bool false)] H42 K))
            (fin .ret [.v (.bool false)] H42 K))
        (fin .ret [.v (.bool false)] H42 K)))

end Go.Sh

/- The functions of nodes come to what is told. -/
namespace Go.Sh
open Go Go.Abs


end Go.Sh

/- The functions of nodes, more of them. -/
namespace Go.Sh
open Go Go.Abs

theorem node_Below.ok (args : List AVal) (H : AHeap) (r : AVal) (H' : AHeap) (h : S_node_Below args H r H') : ∃ x0 x1, args = [x0, x1] ∧ node_Below.w x0 x1 H fun r1 H1 => Weak H r1 H1 r H' := by
  obtain ⟨n, s, rfl, rfl, rfl⟩ := h
  refine ⟨_, _, rfl, ?_⟩
  unfold node_Below.w
  have bad : (n < 0 ∨ 63 ≤ n ∨ s < 0 ∨ 1 < s) → fin .ret [.v (.int .i64 0), .v (.bool false), .v (.int .i64 3)] H' fun r1 H1 => Weak H' r1 H1 (.tup (belowR n s)) H' := by
    intro hb
    refine fin_ret (vs := [.int .i64 0, .bool false, .int .i64 3]) (rvs_v (rvs_v (rvs_v (rvs_nil _)))) ?_
    have e : belowR n s = [.int .i64 0, .bool false, .int .i64 3] := if_pos hb
    rw [e]
    exact Weak.refl (tup_plain (plain_cons rfl (plain_cons rfl (plain_cons rfl plain_nil))))
  refine JoinP.mk (fun e vs B => B = H' ∧ ((e = .ret ∧ vs = [.int .i64 0, .bool false, .int .i64 3] ∧ (n < 0 ∨ 63 ≤ n ∨ s < 0 ∨ 1 < s)) ∨ (e = .normal ∧ ¬ (n < 0 ∨ 63 ≤ n ∨ s < 0 ∨ 1 < s)))) ?_ ?_
  · simp only [ev]
    refine isB_d (fun h1 => ?_) (fun h1 => ?_)
    · exact ⟨by trivial, .inl ⟨by trivial, by trivial, by omega⟩⟩
    · rw [cond_false]
      refine isB_d (fun h2 => ?_) (fun h2 => ?_)
      · exact ⟨by trivial, .inl ⟨by trivial, by trivial, by omega⟩⟩
      · rw [cond_false]
        refine isB_d (fun h3 => ?_) (fun h3 => ?_)
        · exact ⟨by trivial, .inl ⟨by trivial, by trivial, by omega⟩⟩
        · rw [cond_false]
          refine isB_d (fun h4 => ?_) (fun h4 => ?_)
          · exact ⟨by trivial, .inl ⟨by trivial, by trivial, by omega⟩⟩
          · exact ⟨by trivial, .inr ⟨by trivial, by omega⟩⟩
  · rintro e vs B ⟨rfl, ⟨rfl, rfl, hb⟩ | ⟨rfl, hb⟩⟩
    · simp only [onE_rn, onE_same, evB]
      exact bad hb
    · rw [onE_same]
      have e : belowR n s = if 2 * n + 1 + s < 63 then [.int .i64 (2 * n + 1 + s), .bool false, .int .i64 0] else [.int .i64 (2 * n + 1 + s - 63), .bool true, .int .i64 0] := if_neg hb
      rw [e]
      by_cases hk : 2 * n + 1 + s < 63
      · first | rw [if_pos hk] | rw [if_neg hk]
        simp (disch := first | omega | fail) only [ev, evB, isB_tE, isB_fE]
        refine fin_ret (vs := [.int .i64 (2 * n + 1 + s), .bool false, .int .i64 0]) (rvs_v (rvs_v (rvs_v (rvs_nil _)))) ?_
        exact Weak.refl (tup_plain (plain_cons rfl (plain_cons rfl (plain_cons rfl plain_nil))))
      · first | rw [if_pos hk] | rw [if_neg hk]
        simp (disch := first | omega | fail) only [ev, evB, isB_tE, isB_fE]
        refine fin_ret (vs := [.int .i64 (2 * n + 1 + s - 63), .bool true, .int .i64 0]) (rvs_v (rvs_v (rvs_v (rvs_nil _)))) ?_
        exact Weak.refl (tup_plain (plain_cons rfl (plain_cons rfl (plain_cons rfl plain_nil))))

theorem node_Path.ok (args : List AVal) (H : AHeap) (r : AVal) (H' : AHeap) (h : S_node_Path args H r H') : ∃ x0, args = [x0] ∧ node_Path.w x0 H fun r1 H1 => Weak H r1 H1 r H' := by
  obtain ⟨k, rfl, h⟩ := h
  refine ⟨_, rfl, ?_⟩
  unfold node_Path.w
  refine JoinP.mk (fun e vs B => B = H ∧ ((e = .ret ∧ vs = [.nils, .int .i64 3] ∧ (k < 0 ∨ 64 ≤ k)) ∨ (e = .normal ∧ ¬ (k < 0 ∨ 64 ≤ k)))) ?_ ?_
  · simp only [ev]
    refine isB_d (fun h1 => ?_) (fun h1 => ?_)
    · exact ⟨by trivial, .inl ⟨by trivial, by trivial, by omega⟩⟩
    · rw [cond_false]
      refine isB_d (fun h2 => ?_) (fun h2 => ?_)
      · exact ⟨by trivial, .inl ⟨by trivial, by trivial, by omega⟩⟩
      · exact ⟨by trivial, .inr ⟨by trivial, by omega⟩⟩
  · rintro e vs B ⟨rfl, ⟨rfl, rfl, hb⟩ | ⟨rfl, hb⟩⟩
    · simp only [onE_rn, onE_same, evB]
      rcases h with ⟨_, rfl, rfl⟩ | ⟨h1, h2, _⟩
      · refine fin_ret (vs := [.nils, .int .i64 3]) (rvs_v (rvs_v (rvs_nil _))) ?_
        exact Weak.refl (tup_plain (plain_cons rfl (plain_cons rfl plain_nil)))
      · omega
    · rw [onE_same]
      rcases h with ⟨h1, _⟩ | ⟨h1, h2, rfl, rfl⟩
      · omega
      obtain ⟨m, rfl⟩ : ∃ m : Nat, k = m := ⟨k.toNat, by omega⟩
      have hm : m < 64 := by omega
      rw [Int.toNat_natCast]
      simp (disch := first | omega | fail) only [ev]
      have hu0 : ((m : Int) + 63) = ((up m 0 : Nat) : Int) := by rw [up_zero]; omega
      rw [hu0]
      refine LoopP.ruleG (α := AVal × Nat) (fun a => [a.1, .int .i64 (up m a.2 : Nat)])
        (fun a C => a.2 ≤ 6 ∧ B <+: C ∧ (∀ i, slId a.1 = some i → B.length ≤ i) ∧ OwnO C a.1 1 a.2 (ints ((path m).take a.2))) (fun a => 6 - a.2) (.nils, 0) rfl
        ⟨Nat.zero_le _, List.prefix_refl _, fun i hi => (by cases hi), OwnO.nils _ _⟩ ?_
      rintro ⟨sv, j⟩ C Kn ⟨hj, hp, hid, ho⟩ hn
      simp only at hj ho hid
      unfold node_Path.L5 node_Path.L5.b
      simp only [List.getD_cons_zero, List.getD_cons_succ, ev]
      have hpl : (path m).length = 6 := rfl
      by_cases hj6 : j < 6
      · obtain ⟨p1, p2⟩ := up_pos m j hm hj6
        have hup := up_next m j p2
        refine isB_t (by omega) ?_
        rw [cond_true]
        have hval : (((up m j : Nat) : Int) - 1) / 2 = ((up m (j + 1) : Nat) : Int) := by rw [hup]; omega
        have hub : up m j < 1000 := by
          have : up m j ≤ m + 63 := by unfold up; have := Nat.div_le_self (m + 64) (2 ^ j); omega
          omega
        simp (disch := first | omega | fail) only [ev, hval]
        refine pushO1 ho rfl (by simp only [room]; omega) (by simp only [room]; omega) fun sv' C' o kk hi => ?_
        refine hn (sv', j + 1) C' ⟨by simp only; omega, kk.pre hp hid, fun i hi' => ?_, ?_⟩ (by simp only; omega)
        · rcases hi with e | ⟨_, e⟩
          · exact hid i (by rw [← e]; exact hi')
          · rw [e] at hi'; cases hi'; have := hp.length_le; omega
        · have e : ints ((path m).take (j + 1)) = ints ((path m).take j) ++ [.int .i64 (up m (j + 1) : Nat)] := by
            have : j = 0 ∨ j = 1 ∨ j = 2 ∨ j = 3 ∨ j = 4 ∨ j = 5 := by omega
            rcases this with rfl | rfl | rfl | rfl | rfl | rfl <;> rfl
          simp only
          rw [e]; exact o
      · have : j = 6 := by omega
        subst this
        refine isB_f (by rw [up_six m hm]; decide) ?_
        simp only [cond_false, onE_same, evB]
        refine fin_ret (vs := [sv, .int .i64 0]) (rvs_v (rvs_v (rvs_nil _))) ?_
        refine ho.weak (by decide) (fun x hx => ?_) hp hid fun ρ σ N hN hr => ?_
        · simp only [ints, List.mem_map] at hx; obtain ⟨y, _, rfl⟩ := hx; rfl
        · simp only [Ren, RenL] at hr ⊢
          exact ⟨_, rfl, _, _, rfl, hr, _, _, rfl, rfl, rfl⟩
end Go.Sh

/- Sums that are kept, and what is called beside them. -/
namespace Go.Sh
open Go Go.Abs

theorem OInv.agree {H : AHeap} {i v m mv : Nat} {lv : AVal} {T : List (List UInt8)} {C : AHeap} {mv' : Nat} {lv' : AVal} {T' : List (List UInt8)} (h : OInv H i v m mv lv T C mv' lv' T') {D : AHeap} (hl : H.length ≤ D.length)
    (hD : ∀ j, (j < H.length ∨ slId lv' = some j) → D[j]? = C[j]?) : OInv H i v m mv lv T D mv' lv' T' := by
  have hi := lt_of_some h.src.cell
  have hm := lt_of_some h.src.mp
  refine ⟨h.src, ⟨by rw [hD i (.inl hi)]; exact h.rep.cell, by rw [hD m (.inl hm)]; exact h.rep.mp, ?_, h.rep.nd, h.rep.short⟩, h.mvE, h.le, hl, fun k hk h1 h2 h3 => by rw [hD k (.inl hk)]; exact h.keep k hk h1 h2 h3, h.same, h.old, h.new⟩
  rcases h.rep.lst with h1 | ⟨j, u, rfl, h2, h3⟩
  · exact .inl h1
  · exact .inr ⟨j, u, rfl, by rw [hD j (.inr rfl)]; exact h2, h3⟩

theorem ORep.slt {H : AHeap} {i v m mv : Nat} {lv : AVal} {T : List (List UInt8)} (h : ORep H i v m mv lv T) {j : Nat} (hj : slId lv = some j) : j < H.length := by
  rcases h.lst with ⟨rfl, _⟩ | ⟨q, u, rfl, h2, _⟩
  · cases hj
  · simp only [slId, Option.some.injEq] at hj; subst hj; exact lt_of_some h2

/-- A call that sums, with things of one's own beside. -/
theorem sums_call {H H' : AHeap} {o : AVal} {ss : List (List UInt8)} (h : Osums H o ss H') (hs : ∀ s ∈ ss, s.length ≤ 1099511627776) (L : AHeap) :
    ∃ C2, Osums (H ++ L) o ss C2 ∧ (∀ k, k < L.length → C2[H.length + k]? = L[k]?) ∧ H.length + L.length ≤ C2.length ∧
      (∀ (D : AHeap) (r r1 : AVal), H.length ≤ D.length → (∀ j, j < C2.length → (j < H.length ∨ H.length + L.length ≤ j) → D[j]? = C2[j]?) → (∀ ρ σ n, Ren ρ σ n r r1) → Weak H r1 D r H') := by
  rcases h with ⟨rfl, rfl⟩ | ⟨i, v, m, mv, lv, T, rfl, hr, hT, rfl⟩
  · refine ⟨H' ++ L, .inl ⟨rfl, rfl⟩, fun k _ => app_get _ _ _, by simp, fun D r r1 hl hD hR => ?_⟩
    refine Weak.cells (hR _ _ _) (pre_of_get hl fun k hk => ?_)
    rw [hD k (by simp; omega) (.inl hk), List.getElem?_append_left hk]
  · have h0 := (OInv.refl hr).pre (pre_app H L)
    obtain ⟨C2, mv2, lv2, hO, hI, hl, hf⟩ := h0.sums (ss := ss) (by omega) hs
    have hlv : ∀ k, H.length ≤ k → slId lv ≠ some k := fun k hk e => by
      rcases hr.lst with ⟨rfl, _⟩ | ⟨j, u, rfl, h2, _⟩
      · cases e
      · simp only [slId, Option.some.injEq] at e; have := lt_of_some h2; omega
    refine ⟨C2, hO, fun k hk => ?_, by simpa using hl, fun D r r1 hlD hD hR => ?_⟩
    · rw [(hf (H.length + k) (by simp; omega) (by omega) (hlv _ (by omega))).1, app_get]
    · refine (hI.agree hlD fun j hj => ?_).weak fun ρ σ n _ _ => hR ρ σ n
      rcases hj with hj | hj
      · exact hD j (by simp at hl; omega) (.inl hj)
      · refine hD j (hI.rep.slt hj) ?_
        by_cases h1 : j < H.length
        · exact .inl h1
        · right
          by_cases h2 : j < (H ++ L).length
          · exact absurd hj (hf j h2 (by omega) (hlv _ (by omega))).2
          · simpa using h2

theorem node_sum.ok (args : List AVal) (H : AHeap) (r : AVal) (H' : AHeap) (h : S_node_sum args H r H') : ∃ x0 x1, args = [x0, x1] ∧ node_sum.w x0 x1 H fun r1 H1 => Weak H r1 H1 r H' := by
  obtain ⟨o, s, rfl, hs, rfl, h⟩ := h
  refine ⟨_, _, rfl, ?_⟩
  unfold node_sum.w
  have hsl := sum_len s
  refine hb_i rfl ?_
  obtain ⟨C2, hO, hL, hl, hW⟩ := sums_call h (by simpa using hs) [.cells 0 .exact (List.replicate 32 (.int .u8 0))]
  have hL0 := hL 0 (by decide)
  simp only [Nat.add_zero, List.getElem?_cons_zero] at hL0
  simp only [List.length_cons, List.length_nil, Nat.zero_add] at hl hW
  have fin : ∀ C3 : AHeap, C3 = C2 → sb (aStore C3 32 (.ptr ⟨H.length, 0, 0⟩) (.agg ((sum s).map ofByte))) fun H7 => fin .ret [.c true 32 (.ptr ⟨H.length, 0, 0⟩)] H7 fun r1 H1 => Weak H r1 H1 (.agg ((sum s).map ofByte)) H' := by
    rintro C3 rfl
    simp (disch := first | omega | (simp only [evS]; done) | (simp only [len_map, len_rep, hsl]; done) | fail) only [ev, evH, hL0]
    refine fin_ret (vs := [.agg ((sum s).map ofByte)]) (rvs_c (e_loadAll (by rw [List.getElem?_set_self (by omega)]) (by simp [hsl])) (rvs_nil _)) ?_
    exact hW _ _ _ (by simp; omega) (fun j _ hj => List.getElem?_set_ne (by omega)) (agg_plain (bytes_plain _))
  rcases h with ⟨rfl, rfl⟩ | ⟨i, v, m, mv, lv, T, rfl, hr, hT, h⟩
  · simp only [ev]
    refine cb_i _ _ ⟨s, rfl, hs, rfl, rfl⟩ (fin _ ?_)
    rcases hO with ⟨_, e⟩ | ⟨_, _, _, _, _, _, e, _⟩
    · exact e.symm
    · cases e
  · simp only [ev]
    exact cb_i _ _ ⟨_, s, rfl, hs, rfl, hO⟩ (fin _ rfl)

theorem leaf_like {o : AVal} {s : List UInt8} {b : UInt8} {H H' : AHeap} {r : AVal} (W : AVal → AVal → AHeap → (AVal → AHeap → Prop) → Prop)
    (hW : ∀ x0 x1 H K, W x0 x1 H K = (hb (aAlloc H (List.replicate 32 (.int .u8 0))) fun v1 H2 =>
      vb (lenSt x1) fun v3 => vb (aBin .neq v3 (.int .i64 64)) fun v4 => isB v4 fun b5 => cond b5
        (vb (aBuild (List.replicate 32 (.int .u8 0)) (fun k => some (k * 1, 1)) []) fun v6 => sb (aStore H2 32 v1 v6) fun H7 => fin .ret [.c true 32 (v1), .v (.int .i64 6)] H7 K)
        (vb (aBin .add (.str [b]) x1) fun v8 => cb (S_node_sum [x0, v8] H2) fun v9 H10 => sb (aStore H10 32 v1 v9) fun H11 => fin .ret [.c true 32 (v1), .v (.int .i64 0)] H11 K)))
    (h : (s.length ≠ 64 ∧ r = .tup [zero32, .int .i64 6] ∧ H' = H) ∨ (s.length = 64 ∧ r = .tup [.agg ((sum (b :: s)).map ofByte), .int .i64 0] ∧ Osums H o [b :: s] H')) :
    W o (.str s) H fun r1 H1 => Weak H r1 H1 r H' := by
  rw [hW]
  refine hb_i rfl ?_
  rcases h with ⟨h1, rfl, rfl⟩ | ⟨h1, rfl, h⟩
  · have hz : zero32 = .agg (List.replicate 32 (.int .u8 0)) := rfl
    simp (disch := first | omega | (simp only [evS]; done) | (simp only [len_map, len_rep]; done) | fail) only [ev, evH, evB, isB_tE, isB_fE, zero32_build, hz]
    refine fin_ret (vs := [zero32, .int .i64 6]) (rvs_c (e_loadAll (H := H' ++ [AObj.cells 0 .exact (List.replicate 32 (.int .u8 0))]) (i := H'.length) (v := 0) (kd := .exact) (by rw [app_get0]; rfl) List.length_replicate) (rvs_v (rvs_nil _))) ?_
    exact Weak.any (ren_pair (agg_plain zero32_plain) (ren_p rfl)) (pre_app _ _)
  · have hsl := sum_len (b :: s)
    obtain ⟨C2, hO, hL, hl, hw⟩ := sums_call h (by simp; omega) [.cells 0 .exact (List.replicate 32 (.int .u8 0))]
    have hL0 := hL 0 (by decide)
    simp only [Nat.add_zero, List.getElem?_cons_zero] at hL0
    simp only [List.length_cons, List.length_nil, Nat.zero_add] at hl hw
    simp (disch := first | omega | (simp only [List.length_cons, List.length_nil]; omega) | fail) only [ev, isB_tE, isB_fE, List.cons_append, List.nil_append]
    refine cb_i _ _ ⟨o, b :: s, rfl, by simp; omega, rfl, hO⟩ ?_
    simp (disch := first | omega | (simp only [evS]; done) | (simp only [len_map, len_rep, hsl]; done) | fail) only [ev, evH, hL0]
    refine fin_ret (vs := [.agg ((sum (b :: s)).map ofByte), .int .i64 0]) (rvs_c (e_loadAll (by rw [List.getElem?_set_self (by omega)]) (by simp [hsl])) (rvs_v (rvs_nil _))) ?_
    exact hw _ _ _ (by simp; omega) (fun j _ hj => List.getElem?_set_ne (by omega)) (ren_pair (agg_plain (bytes_plain _)) (ren_p rfl))

theorem node_Leaf.ok (args : List AVal) (H : AHeap) (r : AVal) (H' : AHeap) (h : S_node_Leaf args H r H') : ∃ x0 x1, args = [x0, x1] ∧ node_Leaf.w x0 x1 H fun r1 H1 => Weak H r1 H1 r H' := by
  obtain ⟨o, s, rfl, h⟩ := h
  exact ⟨_, _, rfl, leaf_like node_Leaf.w (fun _ _ _ _ => rfl) h⟩
theorem node_Node.ok (args : List AVal) (H : AHeap) (r : AVal) (H' : AHeap) (h : S_node_Node args H r H') : ∃ x0 x1, args = [x0, x1] ∧ node_Node.w x0 x1 H fun r1 H1 => Weak H r1 H1 r H' := by
  obtain ⟨o, s, rfl, h⟩ := h
  exact ⟨_, _, rfl, leaf_like node_Node.w (fun _ _ _ _ => rfl) h⟩

theorem node_may.ok (args : List AVal) (H : AHeap) (r : AVal) (H' : AHeap) (h : S_node_may args H r H') : ∃ x0 x1, args = [x0, x1] ∧ node_may.w x0 x1 H fun r1 H1 => Weak H r1 H1 r H' := by
  obtain ⟨s, k, rfl, rfl, rfl⟩ := h
  refine ⟨_, _, rfl, ?_⟩
  unfold node_may.w mayR
  simp only [ev]
  refine isB_d (fun h1 => ?_) (fun h1 => ?_)
  · rw [cond_true, if_pos (by omega)]
    exact fin_ret (vs := [.int .i64 6]) (rvs_v (rvs_nil _)) (Weak.plain rfl (List.prefix_refl _))
  · rw [cond_false, if_neg (by omega)]
    refine isB_d (fun h2 => ?_) (fun h2 => ?_)
    · rw [cond_true, if_pos (by omega)]
      exact fin_ret (vs := [.int .i64 3]) (rvs_v (rvs_nil _)) (Weak.plain rfl (List.prefix_refl _))
    · rw [cond_false]
      refine isB_d (fun h3 => ?_) (fun h3 => ?_)
      · rw [cond_true, if_pos (by omega)]
        exact fin_ret (vs := [.int .i64 3]) (rvs_v (rvs_nil _)) (Weak.plain rfl (List.prefix_refl _))
      · rw [cond_false, if_neg (by omega)]
        exact fin_ret (vs := [.int .i64 0]) (rvs_v (rvs_nil _)) (Weak.plain rfl (List.prefix_refl _))
end Go.Sh

/- Split, With, Side. -/
namespace Go.Sh
open Go Go.Abs

theorem mayR_0 {s : List UInt8} {k : Int} (h : mayR s k = 0) : s.length = 64 ∧ (k = 0 ∨ k = 1) := by
  unfold mayR at h
  split at h
  · omega
  · split at h <;> omega
theorem half_len {s : List UInt8} {k : Int} (h : mayR s k = 0) : (half s k).length = 32 := by
  have := mayR_0 h
  unfold half
  rw [List.length_take, List.length_drop]
  omega

/-- copy(d[:], s) of a new array -/
theorem copy_arr {H : AHeap} {q : Nat} {s : List UInt8} (h : H[q]? = some (.cells 0 .exact (List.replicate 32 (.int .u8 0)))) (hs : 32 ≤ s.length) :
    aCopy H 1 (.slice ⟨q, 0, 0⟩ 32 (.ex 32)) (.str s) = some (.int .i64 32, H.set q (.cells 0 .exact ((s.take 32).map ofByte))) := by
  have hm : min s.length 32 = 32 := by omega
  simp only [aCopy, srcLen, srcCells, hm]
  have hl : ((s.take 32).map ofByte).length = 32 := by simp; omega
  have hw : wrCells H ⟨q, 0, 0⟩ ((s.take 32).map ofByte) = some (H.set q (.cells 0 .exact (splice (List.replicate 32 (.int .u8 0)) 0 ((s.take 32).map ofByte)))) :=
    wr_of (r := ⟨q, 0, 0⟩) h rfl (by decide) (by simp; omega) (cells_byte _)
  rw [hw, splice_whole (by rw [hl]; rfl)]
  rfl

theorem node_Split.ok (args : List AVal) (H : AHeap) (r : AVal) (H' : AHeap) (h : S_node_Split args H r H') : ∃ x0 x1, args = [x0, x1] ∧ node_Split.w x0 x1 H fun r1 H1 => Weak H r1 H1 r H' := by
  obtain ⟨s, k, rfl, rfl, h⟩ := h
  refine ⟨_, _, rfl, ?_⟩
  unfold node_Split.w
  refine hb_i rfl (hb_i rfl (cb_i _ _ ⟨s, k, rfl, rfl, rfl⟩ ?_))
  rcases h with ⟨h0, rfl⟩ | ⟨h0, rfl⟩
  · have hz : zero32 = .agg (List.replicate 32 (.int .u8 0)) := rfl
    simp (disch := first | omega | (simp only [evS]; done) | (simp only [len_map, len_rep]; done) | fail) only [ev, evH, evB, isB_tE, isB_fE, List.append_assoc, List.cons_append, List.nil_append, List.length_append, List.length_cons, List.length_nil, Nat.zero_add]
    refine fin_ret (vs := [zero32, .int .i64 (mayR s k)]) (rvs_c (e_loadAll (i := H'.length) (v := 0) (kd := .exact) (by rw [app_get0]; rfl) List.length_replicate) (rvs_v (rvs_nil _))) ?_
    exact Weak.any (ren_pair (agg_plain zero32_plain) (ren_p rfl)) (pre_app _ _)
  · obtain ⟨h1, h2⟩ := mayR_0 h0
    rw [h0]
    have hd : 32 ≤ (s.drop (32 * k).toNat).length := by rw [List.length_drop]; omega
    have hh := half_len h0
    have hk : (32 * k).toNat = 32 * k.toNat := by omega
    simp (disch := first | omega | fail) only [ev, isB_fE]
    refine vb_i (v := .slice ⟨H'.length + 1, 0, 0⟩ 32 (.ex 32)) ?_ ?_
    · simp [aSliceArr, bnd]
    · skip
      refine hb_i (copy_arr (by simp) hd) ?_
      have hcl : ((s.drop (32 * k).toNat).take 32).length = 32 := by rw [List.length_take]; omega
      simp (disch := first | omega | (simp only [evS]; done) | (simp only [len_map, len_rep, hcl]; done) | fail) only [ev, evH, evB, List.append_assoc, List.cons_append, List.nil_append, List.length_append, List.length_cons, List.length_nil, Nat.zero_add]
      refine fin_ret (vs := [.agg ((half s k).map ofByte), .int .i64 0]) (rvs_c ?_ (rvs_v (rvs_nil _))) ?_
      · rw [hk]
        exact e_loadAll (app_get0 _ _) (by simp [hh])
      exact Weak.any (ren_pair (agg_plain (bytes_plain _)) (ren_p rfl)) (pre_app _ _)

/-- The text of an array. -/
theorem arr_str {H : AHeap} {q v n : Nat} {kd : Kd} {l : List UInt8} (h : H[q]? = some (.cells v kd (l.map ofByte))) (hl : l.length = n) : aBytes2Str H (.slice ⟨q, v, 0⟩ n (.ex n)) = some (.str l) := by
  simp only [aBytes2Str]
  rw [rd_of (r := ⟨q, v, 0⟩) h rfl (fun _ => by simp [hl])]
  simp only [List.drop_zero]
  rw [List.take_of_length_le (by simp [hl])]
  simp only [bytesOf_map]
theorem sliceArr_all (n q v : Nat) (es : Nat) : aSliceArr n es (.ptr ⟨q, v, 0⟩) none none none = some (.slice ⟨q, v, 0⟩ n (.ex n)) := by
  simp [aSliceArr, bnd]

theorem node_With.ok (args : List AVal) (H : AHeap) (r : AVal) (H' : AHeap) (h : S_node_With args H r H') : ∃ x0 x1 x2, args = [x0, x1, x2] ∧ node_With.w x0 x1 x2 H fun r1 H1 => Weak H r1 H1 r H' := by
  obtain ⟨s, k, d, rfl, hd, rfl, h⟩ := h
  refine ⟨_, _, _, rfl, ?_⟩
  unfold node_With.w
  refine hb_i (e_box rfl) (cb_i _ _ ⟨s, k, rfl, rfl, rfl⟩ ?_)
  have hcl : (AVal.agg (d.map ofByte)).cells = d.map ofByte := rfl
  rw [hcl]
  have hg : (H' ++ [AObj.cells 0 .exact (d.map ofByte)])[H'.length]? = some (.cells 0 .exact (d.map ofByte)) := by simp
  rcases h with ⟨h0, rfl⟩ | ⟨h0, rfl⟩
  · simp (disch := first | omega | fail) only [ev, isB_tE]
    exact fin_ret (vs := [.str [], .int .i64 (mayR s k)]) (rvs_v (rvs_v (rvs_nil _))) (Weak.any (ren_pair (ren_p rfl) (ren_p rfl)) (pre_app _ _))
  · obtain ⟨h1, h2⟩ := mayR_0 h0
    rw [h0]
    have e1 : (s.drop 32).length = 32 := by rw [List.length_drop]; omega
    have e2 : (s.take 32).length = 32 := by rw [List.length_take]; omega
    rcases h2 with rfl | rfl
    · simp (disch := first | omega | fail) only [ev, isB_tE, isB_fE, sliceArr_all, arr_str hg hd, show (32 : Int).toNat = 32 from rfl]
      exact fin_ret (vs := [.str (d ++ s.drop 32), .int .i64 0]) (rvs_v (rvs_v (rvs_nil _))) (Weak.any (ren_pair (ren_p rfl) (ren_p rfl)) (pre_app _ _))
    · simp (disch := first | omega | fail) only [ev, isB_tE, isB_fE, sliceArr_all, arr_str hg hd, show (32 : Int).toNat = 32 from rfl]
      exact fin_ret (vs := [.str (s.take 32 ++ d), .int .i64 0]) (rvs_v (rvs_v (rvs_nil _))) (Weak.any (ren_pair (ren_p rfl) (ren_p rfl)) (pre_app _ _))

theorem find_none {p : Nat → Bool} : ∀ {l : List Nat}, (∀ j ∈ l, p j = false) → l.find? p = none
  | [], _ => rfl
  | x :: l, h => by
    rw [List.find?_cons_of_neg (by rw [h x List.mem_cons_self]; decide)]
    exact find_none fun j hj => h j (List.mem_cons_of_mem _ hj)
theorem find_range {p : Nat → Bool} {j : Nat} (hp : p j = true) : ∀ (n : Nat), j < n → (∀ k, k < j → p k = false) → (List.range n).find? p = some j := by
  intro n hj hk
  have e : List.range n = List.range j ++ (List.range' j (n - j)) := by
    have h1 : List.range j = List.range' 0 j := List.range_eq_range'
    have h2 : List.range n = List.range' 0 n := List.range_eq_range'
    have h3 := List.range'_append (s := 0) (m := j) (n := n - j) (step := 1)
    rw [h1, h2]
    rw [show n = j + (n - j) by omega]
    simpa using h3.symm
  rw [e, List.find?_append, find_none (fun k hk' => hk k (List.mem_range.1 hk'))]
  rw [show n - j = (n - j - 1) + 1 by omega, List.range'_succ, Option.none_or, List.find?_cons_of_pos hp]
theorem hit_some {k : Nat} {n : Int} {j : Nat} (hj : j < 6) (h : (up k (j + 1) : Int) = n) (hn : ∀ i, i < j → (up k (i + 1) : Int) ≠ n) : hit k n = some j :=
  find_range (p := fun j => decide ((up k (j + 1) : Int) = n)) (by simpa using h) 6 hj fun i hi => by simpa using hn i hi
theorem hit_none {k : Nat} {n : Int} (hn : ∀ i, i < 6 → (up k (i + 1) : Int) ≠ n) : hit k n = none :=
  find_none fun j hj => by simpa using hn j (List.mem_range.1 hj)

theorem up_le (m j : Nat) : up m j ≤ m + 63 := by unfold up; have := Nat.div_le_self (m + 64) (2 ^ j); omega

theorem node_Side.ok (args : List AVal) (H : AHeap) (r : AVal) (H' : AHeap) (h : S_node_Side args H r H') : ∃ x0 x1, args = [x0, x1] ∧ node_Side.w x0 x1 H fun r1 H1 => Weak H r1 H1 r H' := by
  obtain ⟨k, n, rfl, rfl, rfl⟩ := h
  refine ⟨_, _, rfl, ?_⟩
  unfold node_Side.w
  refine JoinP.mk (fun e vs B => B = H' ∧ ((e = .ret ∧ vs = [.int .i64 0, .int .i64 3] ∧ (k < 0 ∨ 64 ≤ k)) ∨ (e = .normal ∧ ¬ (k < 0 ∨ 64 ≤ k)))) ?_ ?_
  · simp only [ev]
    refine isB_d (fun h1 => ?_) (fun h1 => ?_)
    · exact ⟨by trivial, .inl ⟨by trivial, by trivial, by omega⟩⟩
    · rw [cond_false]
      refine isB_d (fun h2 => ?_) (fun h2 => ?_)
      · exact ⟨by trivial, .inl ⟨by trivial, by trivial, by omega⟩⟩
      · exact ⟨by trivial, .inr ⟨by trivial, by omega⟩⟩
  · rintro e vs B ⟨rfl, ⟨rfl, rfl, hb⟩ | ⟨rfl, hb⟩⟩
    · simp only [onE_rn, onE_same, evB]
      refine fin_ret (vs := [.int .i64 0, .int .i64 3]) (rvs_v (rvs_v (rvs_nil _))) ?_
      have e : sideR k n = [.int .i64 0, .int .i64 3] := if_pos hb
      rw [e]
      exact Weak.refl (ren_pair (ren_p rfl) (ren_p rfl))
    · rw [onE_same]
      obtain ⟨m, rfl⟩ : ∃ m : Nat, k = m := ⟨k.toNat, by omega⟩
      have hm : m < 64 := by omega
      simp (disch := first | omega | fail) only [ev]
      have hu0 : ((m : Int) + 63) = ((up m 0 : Nat) : Int) := by rw [up_zero]; omega
      rw [hu0]
      refine LoopP.ruleG (α := Nat) (fun a => [.int .i64 (up m a : Nat)]) (fun a C => C = B ∧ a ≤ 6 ∧ ∀ i, i < a → (up m (i + 1) : Int) ≠ n) (fun a => 6 - a) 0 rfl ⟨rfl, Nat.zero_le _, fun i hi => by omega⟩ ?_
      rintro j C Kn ⟨rfl, hj, hno⟩ hn
      unfold node_Side.L4 node_Side.L4.b
      simp only [evB, ev]
      by_cases hj6 : j < 6
      · obtain ⟨p1, p2⟩ := up_pos m j hm hj6
        have hup := up_next m j p2
        have hub := up_le m j
        have hval : (((up m j : Nat) : Int) - 1) / 2 = ((up m (j + 1) : Nat) : Int) := by rw [hup]; omega
        refine isB_t (by omega) ?_
        rw [cond_true]
        simp (disch := first | omega | fail) only [ev, hval]
        refine isB_d (fun h1 => ?_) (fun h1 => ?_)
        · simp only [cond_true]
          have e : sideR m n = [.int .i64 ((up m j + 1) % 2 : Nat), .int .i64 0] := by
            unfold sideR
            rw [if_neg hb, Int.toNat_natCast, hit_some hj6 h1 hno]
          rw [e]
          refine fin_ret (vs := [.int .i64 ((((up m j : Nat) : Int) + 1) % 2), .int .i64 0]) (rvs_v (rvs_v (rvs_nil _))) ?_
          have : (((up m j : Nat) : Int) + 1) % 2 = (((up m j + 1) % 2 : Nat) : Int) := by omega
          rw [this]
          exact Weak.refl (ren_pair (ren_p rfl) (ren_p rfl))
        · simp only [cond_false]
          exact hn (j + 1) _ ⟨rfl, by omega, fun i hi => by
            by_cases e : i = j
            · subst e; exact h1
            · exact hno i (by omega)⟩ (by omega)
      · have : j = 6 := by omega
        subst this
        refine isB_f (by rw [up_six m hm]; decide) ?_
        simp only [cond_false, onE_same, evB]
        have e : sideR m n = [.int .i64 0, .int .i64 3] := by
          unfold sideR
          rw [if_neg hb, Int.toNat_natCast, hit_none hno]
        rw [e]
        refine fin_ret (vs := [.int .i64 0, .int .i64 3]) (rvs_v (rvs_v (rvs_nil _))) ?_
        exact Weak.refl (ren_pair (ren_p rfl) (ren_p rfl))
end Go.Sh

/- What must come at any rate; the laws of splits and sums. -/
namespace Go.Sh
open Go Go.Abs

theorem side63 : sideR 63 0 = [.int .i64 1, .int .i64 0] := by
  unfold sideR
  rw [if_neg (by decide)]
  rw [show (63 : Int).toNat = 63 from rfl, hit_some (j := 5) (by decide) (by decide) (by decide)]
  rfl
theorem path0 : path 0 = [31, 15, 7, 3, 1, 0] := by decide
theorem view_op {B : AHeap} {q : Nat} {l : List AVal} (h : B[q]? = some (.cells 0 .opn l)) : View B (.slice ⟨q, 0, 0⟩ l.length (.op 1)) 1 l.length l :=
  ⟨by omega, .inr ⟨q, 0, 0, _, _, _, rfl, h, fun _ => by omega, by simp, rfl⟩⟩
theorem view_ex {B : AHeap} {q n es : Nat} {l : List AVal} (h : B[q]? = some (.cells 0 .exact l)) (hl : l.length = n * es) : View B (.slice ⟨q, 0, 0⟩ n (.ex n)) es n l :=
  ⟨hl, .inr ⟨q, 0, 0, _, _, _, rfl, h, fun _ => by omega, by rw [List.drop_zero, ← hl, List.take_length], Nat.le_refl _⟩⟩
theorem ints6 (H : AHeap) : aBuildSlice H 1 [.int .i64 0] 6 [(0, .int .i64 31), (1, .int .i64 15), (2, .int .i64 7), (3, .int .i64 3), (4, .int .i64 1), (5, .int .i64 0)] =
    some (.slice ⟨H.length, 0, 0⟩ 6 (.ex 6), H ++ [.cells 0 .exact (ints [31, 15, 7, 3, 1, 0])]) := rfl
/-- a store of a whole array -/
theorem store32 {H : AHeap} {q : Nat} {cs xs : List AVal} (h : H[q]? = some (.cells 0 .exact cs)) (hl : cs.length = 32) (hx : xs.length = 32) (hc : xs.all AVal.isCell = true) :
    aStore H 32 (.ptr ⟨q, 0, 0⟩) (.agg xs) = some (H.set q (.cells 0 .exact xs)) := e_storeAll h (by decide) hx hl hc

theorem store_new {H : AHeap} {n : Nat} {cs xs : List AVal} (hl : cs.length = n) (hx : xs.length = n) (hc : xs.all AVal.isCell = true) :
    aStore (H ++ [.cells 0 .exact cs]) n (.ptr ⟨H.length, 0, 0⟩) (.agg xs) = some (H ++ [.cells 0 .exact xs]) := by
  rw [e_storeAll (app_get0 _ _) (by decide) hx hl hc, app_set0]; rfl
theorem load_new {H : AHeap} {n : Nat} {cs : List AVal} (hl : cs.length = n) : aLoad (H ++ [.cells 0 .exact cs]) true n (.ptr ⟨H.length, 0, 0⟩) = some (.agg cs) := e_loadAll (app_get0 _ _) hl

theorem cellaretlaw17_awake.ok (args : List AVal) (H : AHeap) (r : AVal) (H' : AHeap) (h : S_cellaretlaw17_awake args H r H') : args = [] ∧ cellaretlaw17_awake.w H fun r1 H1 => Weak H r1 H1 r H' := by
  obtain ⟨rfl, rfl, rfl⟩ := h
  refine ⟨rfl, ?_⟩
  unfold cellaretlaw17_awake.w
  refine cb_i _ _ ⟨0, rfl, .inr ⟨by decide, by decide, rfl, rfl⟩⟩ ?_
  repeat with_reducible first
  | refine vb_i e_ext0 ?_
  | refine vb_i e_ext1 ?_
  refine cb_i _ _ ⟨63, 0, rfl, rfl, rfl⟩ ?_
  rw [side63]
  repeat with_reducible first
  | refine vb_i e_ext0 ?_
  | refine vb_i e_ext1 ?_
  refine cb_i _ _ ⟨64, rfl, by decide, rfl, rfl⟩ ?_
  refine cb_i _ _ ⟨.nilp, zs 64, rfl, .inr ⟨zs_len 64, rfl, .inl ⟨rfl, rfl⟩⟩⟩ ?_
  have hsl := sum_len (0 :: zs 64)
  repeat with_reducible first
  | refine vb_i e_ext0 ?_
  | refine vb_i e_ext1 ?_
  | refine hb_i (e_alloc _ _) ?_
  with_reducible refine sb_i (store_new List.length_replicate (by rw [List.length_map]; exact hsl) (cells_byte _)) ?_
  repeat with_reducible first
  | (refine isB_ct ?_ ?_; (· first | omega | rfl | assumption | trivial))
  | refine vb_i (eql64 _ _ _) ?_
  have hB0 : (H' ++ [AObj.cells 0 Kd.opn (ints (path (Int.toNat 0)))]) ++ [AObj.cells 0 Kd.exact (List.map ofByte (sum (0 :: zs 64)))] = H' ++ [AObj.cells 0 Kd.opn (ints (path 0)), AObj.cells 0 Kd.exact ((sum (0 :: zs 64)).map ofByte)] := by
    rw [List.append_assoc]; rfl
  rw [hB0]
  refine hb_i (ints6 _) ?_
  refine cb_i _ _ ⟨_, _, path 0, [31, 15, 7, 3, 1, 0], rfl, ?_, view_ex (by simp) rfl, by decide, rfl, rfl⟩ ?_
  · exact view_op (l := ints (path 0)) (by simp)
  · refine isB_ct path0 ?_
    repeat with_reducible first
    | (refine isB_ct ?_ ?_; (· first | omega | rfl | assumption | trivial))
    | refine vb_i (eql64 _ _ _) ?_
    refine vb_i (e_loadAll (v := 0) (kd := .exact) (cs := (sum (0 :: zs 64)).map ofByte) (by simp) (by simp [hsl])) ?_
    refine cb_i _ _ ⟨64, rfl, by decide, rfl, rfl⟩ ?_
    have hzl := zs_len 64
    repeat with_reducible (refine vb_i (adds ?_) ?_; (· first | omega | (simp only [List.length_cons, List.length_nil, List.length_append]; omega)))
    simp only [List.cons_append, List.nil_append]
    refine cb_i _ _ ⟨_, rfl, by simp [zs_len], rfl, rfl⟩ ?_
    have hse : decide (sum (0 :: zs 64) = sum (0 :: zs 64)) = true := decide_eq_true rfl
    with_reducible refine vb_i (e_eqBytes (sum_len _) (sum_len _)) ?_
    rw [hse]
    refine fin_ret (vs := [.bool true]) (rvs_v (rvs_nil _)) (Weak.plain rfl ?_)
    exact (pre_app _ _).trans (pre_app _ _)

theorem mayR_cases {s : List UInt8} {k : Int} (h : mayR s k ≠ 0) : (s.length ≠ 64 ∧ mayR s k = 6) ∨ (s.length = 64 ∧ (k < 0 ∨ 1 < k) ∧ mayR s k = 3) := by
  by_cases h1 : s.length ≠ 64
  · exact .inl ⟨h1, if_pos h1⟩
  · by_cases h2 : k < 0 ∨ 1 < k
    · exact .inr ⟨by omega, h2, by unfold mayR; rw [if_neg h1, if_pos h2]⟩
    · exact absurd (by unfold mayR; rw [if_neg h1, if_neg h2]) h

theorem zero_eq {H : AHeap} : aEql false (.agg (List.replicate 32 .int)) H (.agg (List.replicate 32 (.int .u8 0))) (.agg (List.replicate 32 (.int .u8 0))) = some (.bool true) := by
  have := e_eqBytes (n := 32) (H := H) (l := zs 32) (k := zs 32) rfl rfl
  rw [decide_eq_true rfl] at this
  exact this
end Go.Sh

/- The laws of splits and sums. -/
namespace Go.Sh
open Go Go.Abs

theorem fin_bool {H H' : AHeap} {v : AVal} (h : v = .bool true) (p : H' <+: H) : fin .ret [.v v] H fun r1 H1 => Weak H' r1 H1 (.bool true) H' := by
  subst h
  exact fin_ret (vs := [.bool true]) (rvs_v (rvs_nil _)) (Weak.plain rfl p)

theorem cellaretlaw17_NodeSplits.ok (args : List AVal) (H : AHeap) (r : AVal) (H' : AHeap) (h : S_cellaretlaw17_NodeSplits args H r H') : ∃ x0 x1 x2, args = [x0, x1, x2] ∧ cellaretlaw17_NodeSplits.w x0 x1 x2 H fun r1 H1 => Weak H r1 H1 r H' := by
  obtain ⟨s, k, d, rfl, hd, hs, hk, rfl, rfl⟩ := h
  refine ⟨_, _, _, rfl, ?_⟩
  unfold cellaretlaw17_NodeSplits.w
  have hcl : (AVal.agg (d.map ofByte)).cells = d.map ofByte := rfl
  with_reducible refine hb_i (e_box rfl) ?_
  rw [hcl]
  have ld : ∀ X : List AVal, aLoad ((H' ++ [AObj.cells 0 .exact (d.map ofByte)]) ++ [AObj.cells 0 .exact X]) true 32 (.ptr ⟨H'.length, 0, 0⟩) = some (.agg (d.map ofByte)) := fun X =>
    e_loadAll (v := 0) (kd := .exact) (by rw [List.append_assoc, app_get0]; rfl) (by simp [hd])
  by_cases h0 : mayR s k = 0
  · obtain ⟨h1, h2⟩ := mayR_0 h0
    have hh := half_len h0
    refine cb_i _ _ ⟨s, k, rfl, rfl, .inr ⟨h0, rfl⟩⟩ ?_
    repeat with_reducible first
    | refine vb_i e_ext0 ?_
    | refine vb_i e_ext1 ?_
    | refine hb_i (e_alloc _ _) ?_
    with_reducible refine sb_i (store_new List.length_replicate (by rw [List.length_map]; exact hh) (cells_byte _)) ?_
    with_reducible refine vb_i (ld _) ?_
    refine cb_i _ _ ⟨s, k, d, rfl, hd, rfl, .inr ⟨h0, rfl⟩⟩ ?_
    repeat with_reducible first
    | (refine isB_cf ?_ ?_; (· first | omega | assumption))
    | refine vb_i e_ext0 ?_
    | refine vb_i e_ext1 ?_
    | refine vb_i (lss64 _ _ _) ?_
    | refine vb_i (gtr64 _ _ _) ?_
    | refine vb_i (neq64 _ _ _) ?_
    | refine vb_i (e_lenSt _) ?_
    have e1 : (s.drop 32).length = 32 := by rw [List.length_drop]; omega
    have e2 : (s.take 32).length = 32 := by rw [List.length_take]; omega
    obtain ⟨b, hb⟩ : ∃ b, b = if k = 0 then d ++ s.drop 32 else s.take 32 ++ d := ⟨_, rfl⟩
    rw [← hb]
    have hb64 : b.length = 64 := by rw [hb]; split <;> simp [hd] <;> omega
    have hm : mayR b k = 0 := by unfold mayR; rw [if_neg (by omega), if_neg (by omega)]
    have hhb : half b k = d := by
      unfold half
      rcases h2 with rfl | rfl
      · rw [hb, if_pos rfl]; simp [← hd]
      · rw [hb, if_neg (by decide), show 32 * Int.toNat 1 = 32 from rfl, List.drop_left' e2, ← hd, List.take_length]
    refine cb_i _ _ ⟨b, k, rfl, rfl, .inr ⟨hm, rfl⟩⟩ ?_
    rw [hhb]
    repeat with_reducible first
    | refine vb_i e_ext0 ?_
    | refine vb_i e_ext1 ?_
    | refine hb_i (e_alloc _ _) ?_
    with_reducible refine sb_i (store_new List.length_replicate (by rw [List.length_map]; exact hd) (cells_byte _)) ?_
    repeat with_reducible (refine vb_i (mul64 ?_ ?_) ?_; (· omega); (· omega))
    refine cb_i _ _ ⟨rfl, rfl, rfl⟩ ?_
    repeat with_reducible first
    | refine isB_T ?_
    | (refine isB_ct ?_ ?_; (· first | omega | rfl | assumption | trivial))
    | refine vb_i (eql64 _ _ _) ?_
    have g7 : ∀ X : List AVal, (((H' ++ [AObj.cells 0 .exact (d.map ofByte)]) ++ [AObj.cells 0 .exact ((half s k).map ofByte)]) ++ [AObj.cells 0 .exact X])[(H' ++ [AObj.cells 0 .exact (d.map ofByte)]).length]? = some (.cells 0 .exact ((half s k).map ofByte)) := fun X => by
      rw [List.getElem?_append_left (by simp), app_get0]; rfl
    have ld2 : ∀ X : List AVal, aLoad (((H' ++ [AObj.cells 0 .exact (d.map ofByte)]) ++ [AObj.cells 0 .exact ((half s k).map ofByte)]) ++ [AObj.cells 0 .exact X]) true 32 (.ptr ⟨H'.length, 0, 0⟩) = some (.agg (d.map ofByte)) := fun X =>
      e_loadAll (v := 0) (kd := .exact) (by rw [List.getElem?_append_left (by simp), List.append_assoc, app_get0]; rfl) (by simp [hd])
    with_reducible refine vb_i (sliceArr_all _ _ _ _) ?_
    with_reducible refine vb_i (arr_str (g7 _) hh) ?_
    repeat with_reducible (refine vb_i (add64 ?_ ?_) ?_; (· omega); (· omega))
    with_reducible refine vb_i (e_sliceStr (by omega) (by omega) (by omega)) ?_
    have hsl : (s.take (32 * k + 32).toNat).drop (32 * k).toNat = half s k := by
      unfold half
      rcases h2 with rfl | rfl
      · rfl
      · simp only [show (32 * (1 : Int) + 32).toNat = 64 from rfl, show (32 * (1 : Int)).toNat = 32 from rfl, show 32 * Int.toNat 1 = 32 from rfl]
        rw [List.take_of_length_le (by omega), List.take_of_length_le (by omega)]
    rw [hsl]
    repeat with_reducible first
    | (refine isB_ct ?_ ?_; (· first | omega | rfl | assumption | trivial))
    | refine vb_i (eqls _ _) ?_
    with_reducible refine vb_i (load_new (by simp [hd])) ?_
    with_reducible refine vb_i (ld2 _) ?_
    with_reducible refine vb_i (e_eqBytes hd hd) ?_
    repeat with_reducible first
    | (refine isB_ct ?_ ?_; (· first | omega | rfl | assumption | trivial))
    | (refine vb_i (sub64 ?_ ?_) ?_; (· omega); (· omega))
    with_reducible refine vb_i (e_sliceStr (by omega) (by omega) (by omega)) ?_
    repeat with_reducible (refine vb_i (sub64 ?_ ?_) ?_; (· omega); (· omega))
    with_reducible refine vb_i (e_sliceStr (by omega) (by omega) (by omega)) ?_
    repeat with_reducible refine vb_i (eqls _ _) ?_
    with_reducible refine isB_ct ?_ ?_
    · rcases h2 with rfl | rfl
      · rw [hb, if_pos rfl]
        simp only [show (64 - 32 * (0 : Int)).toNat = 64 from rfl, show (32 - 32 * (0 : Int)).toNat = 32 from rfl]
        rw [List.take_of_length_le (by simp [hd]; omega), List.take_of_length_le (by omega), List.drop_left' hd]
      · rw [hb, if_neg (by decide)]
        simp only [show (64 - 32 * (1 : Int)).toNat = 32 from rfl, show (32 - 32 * (1 : Int)).toNat = 0 from rfl, List.drop_zero]
        rw [List.take_left' e2]
    repeat with_reducible first
    | refine vb_i (eql64 _ _ _) ?_
    | refine vb_i (e_lenSt _) ?_
    refine fin_bool ?_ (((pre_app _ _).trans (pre_app _ _)).trans (pre_app _ _))
    rw [hb64]; rfl
  · refine cb_i _ _ ⟨s, k, rfl, rfl, .inl ⟨h0, rfl⟩⟩ ?_
    repeat with_reducible first
    | refine vb_i e_ext0 ?_
    | refine vb_i e_ext1 ?_
    | refine hb_i (e_alloc _ _) ?_
    with_reducible refine sb_i (store_new List.length_replicate List.length_replicate (cells_rep _ _ _)) ?_
    with_reducible refine vb_i (ld _) ?_
    refine cb_i _ _ ⟨s, k, d, rfl, hd, rfl, .inl ⟨h0, rfl⟩⟩ ?_
    repeat with_reducible first
    | refine vb_i e_ext0 ?_
    | refine vb_i e_ext1 ?_
    | refine vb_i (neq64 _ _ _) ?_
    | refine vb_i (e_lenSt _) ?_
    have tailz : ∀ (n : Int) (H12 : AHeap), H12 = (H' ++ [AObj.cells 0 .exact (d.map ofByte)]) ++ [AObj.cells 0 .exact (List.replicate 32 (AVal.int .u8 0))] → mayR s k = n →
       vb (aLoad H12 true 32 (.ptr ⟨(H' ++ [AObj.cells 0 .exact (d.map ofByte)]).length, 0, 0⟩)) (fun v23 =>
        vb (aBuild (List.replicate 32 (.int .u8 0)) (fun k => some (k * 1, 1)) []) fun v24 =>
          vb (aEql false (.agg (List.replicate 32 .int)) H12 v23 v24) fun v25 =>
            isB v25 fun b26 => cond b26
              (vb (aBin .eql (.str []) (.str [])) fun v27 =>
                isB v27 fun b28 => cond b28
                  (vb (aBin .eql (.int .i64 (mayR s k)) (.int .i64 n)) fun v29 =>
                      isB v29 fun b30 => cond b30
                        (vb (aBin .eql (.int .i64 (mayR s k)) (.int .i64 n)) fun v31 =>
                            fin .ret [.v (v31)] H12 fun r1 H1 => Weak H' r1 H1 (.bool true) H')
                        (fin .ret [.v (.bool false)] H12 fun r1 H1 => Weak H' r1 H1 (.bool true) H'))
                  (fin .ret [.v (.bool false)] H12 fun r1 H1 => Weak H' r1 H1 (.bool true) H'))
              (fin .ret [.v (.bool false)] H12 fun r1 H1 => Weak H' r1 H1 (.bool true) H')) := by
      rintro n H12 rfl hn
      with_reducible refine vb_i (load_new List.length_replicate) ?_
      with_reducible refine vb_i zero32_build ?_
      refine vb_i zero_eq ?_
      repeat with_reducible first
      | refine isB_T ?_
      | (refine isB_ct ?_ ?_; (· first | omega | rfl | assumption | trivial))
      | refine vb_i (eql64 _ _ _) ?_
      | refine vb_i (eqls _ _) ?_
      refine fin_bool ?_ ((pre_app _ _).trans (pre_app _ _))
      rw [hn]; simp
    rcases mayR_cases h0 with ⟨h1, h2⟩ | ⟨h1, h2, h3⟩
    · repeat with_reducible first
      | (refine isB_ct ?_ ?_; (· first | omega | rfl | assumption | trivial))
      | refine vb_i (neq64 _ _ _) ?_
      refine cb_i _ _ ⟨rfl, rfl, rfl⟩ ?_
      repeat with_reducible refine isB_T ?_
      exact tailz 6 _ rfl h2
    · repeat with_reducible first
      | (refine isB_cf ?_ ?_; (· first | omega | assumption))
      | refine vb_i (lss64 _ _ _) ?_
      by_cases h4 : k < 0
      · repeat with_reducible first
        | (refine isB_ct ?_ ?_; (· first | omega | rfl | assumption | trivial))
        | refine vb_i (neq64 _ _ _) ?_
        refine cb_i _ _ ⟨rfl, rfl, rfl⟩ ?_
        repeat with_reducible refine isB_T ?_
        exact tailz 3 _ rfl h3
      · have h5 : 1 < k := by omega
        repeat with_reducible first
        | (refine isB_ct ?_ ?_; (· first | omega | rfl | assumption | trivial))
        | (refine isB_cf ?_ ?_; (· first | omega | assumption))
        | refine vb_i (gtr64 _ _ _) ?_
        | refine vb_i (neq64 _ _ _) ?_
        refine cb_i _ _ ⟨rfl, rfl, rfl⟩ ?_
        repeat with_reducible refine isB_T ?_
        exact tailz 3 _ rfl h3
end Go.Sh

/- The law of sums; the law of ways. -/
namespace Go.Sh
open Go Go.Abs

theorem sums_new (C : AHeap) {ss : List (List UInt8)} (hl : ss.length ≤ 1073741824) (hs : ∀ s ∈ ss, s.length ≤ 1099511627776) : ∃ C2, Osums (newO C) (.ptr ⟨C.length + 1, 0, 0⟩) ss C2 ∧ C <+: C2 := by
  have h0 := OInv.refl (ORep.new C)
  obtain ⟨C2, mv2, lv2, hO, hI, hl2, _⟩ := h0.sums (ss := ss) (by simpa using hl) hs
  have hn : (newO C).length = C.length + 2 := by simp [newO]
  refine ⟨C2, hO, pre_of_get (by omega) fun k hk => ?_⟩
  rw [hI.keep k (by omega) (by omega) (by omega) (by simp [slId])]
  exact pre_get (pre_app _ _) hk
theorem pre_newO (C : AHeap) : C <+: newO C := pre_app _ _
theorem load_pre {H C : AHeap} {n : Nat} {cs : List AVal} (p : H ++ [AObj.cells 0 .exact cs] <+: C) (hl : cs.length = n) : aLoad C true n (.ptr ⟨H.length, 0, 0⟩) = some (.agg cs) :=
  e_loadAll (v := 0) (kd := .exact) (by rw [pre_get p (by simp), app_get0]; rfl) hl

theorem cellaretlaw17_NodeSums.ok (args : List AVal) (H : AHeap) (r : AVal) (H' : AHeap) (h : S_cellaretlaw17_NodeSums args H r H') : ∃ x0, args = [x0] ∧ cellaretlaw17_NodeSums.w x0 H fun r1 H1 => Weak H r1 H1 r H' := by
  obtain ⟨s, rfl, rfl, rfl⟩ := h
  refine ⟨_, rfl, ?_⟩
  unfold cellaretlaw17_NodeSums.w
  by_cases h1 : 1000 < s.length
  · repeat with_reducible first
    | (refine isB_ct ?_ ?_; (· first | omega | rfl | assumption | trivial))
    | refine vb_i (gtr64 _ _ _) ?_
    | refine vb_i (e_lenSt _) ?_
    refine cb_i _ _ ⟨rfl, rfl, rfl⟩ ?_
    exact fin_bool rfl (List.prefix_refl _)
  · repeat with_reducible first
    | (refine isB_cf ?_ ?_; (· first | omega | assumption))
    | refine vb_i (gtr64 _ _ _) ?_
    | refine vb_i (e_lenSt _) ?_
    refine cb_i _ _ ⟨rfl, rfl, rfl⟩ ?_
    by_cases h2 : s.length = 64
    · obtain ⟨C2, hO, p2⟩ := sums_new H' (ss := [0 :: s]) (by simp) (by simp; omega)
      refine cb_i _ _ ⟨_, s, rfl, .inr ⟨h2, rfl, hO⟩⟩ ?_
      repeat with_reducible first
      | refine vb_i e_ext0 ?_
      | refine vb_i e_ext1 ?_
      | refine hb_i (e_alloc _ _) ?_
      have hs0 := sum_len (0 :: s)
      have hs1 := sum_len (1 :: s)
      with_reducible refine sb_i (store_new List.length_replicate (by rw [List.length_map]; exact hs0) (cells_byte _)) ?_
      refine cb_i _ _ ⟨rfl, rfl, rfl⟩ ?_
      obtain ⟨C4, hO4, p4⟩ := sums_new (C2 ++ [AObj.cells 0 .exact ((sum (0 :: s)).map ofByte)]) (ss := [1 :: s]) (by simp) (by simp; omega)
      refine cb_i _ _ ⟨_, s, rfl, .inr ⟨h2, rfl, hO4⟩⟩ ?_
      repeat with_reducible first
      | refine vb_i e_ext0 ?_
      | refine vb_i e_ext1 ?_
      | refine hb_i (e_alloc _ _) ?_
      with_reducible refine sb_i (store_new List.length_replicate (by rw [List.length_map]; exact hs1) (cells_byte _)) ?_
      repeat with_reducible first
      | (refine isB_cf ?_ ?_; (· first | omega | assumption))
      | refine vb_i (neq64 _ _ _) ?_
      | refine vb_i (e_lenSt _) ?_
      refine cb_i _ _ ⟨rfl, rfl, rfl⟩ ?_
      repeat with_reducible first
      | refine isB_T ?_
      | (refine isB_ct ?_ ?_; (· first | omega | rfl | assumption | trivial))
      | refine vb_i (eql64 _ _ _) ?_
      with_reducible refine vb_i (load_pre (p4.trans (pre_app _ _)) (by rw [List.length_map]; exact hs0)) ?_
      repeat with_reducible (refine vb_i (adds ?_) ?_; (· first | omega | (simp only [List.length_cons, List.length_nil, List.length_append]; omega)))
      simp only [List.cons_append, List.nil_append]
      refine cb_i _ _ ⟨_, rfl, by simp; omega, rfl, rfl⟩ ?_
      with_reducible refine vb_i (e_eqBytes (sum_len _) (sum_len _)) ?_
      repeat with_reducible (refine isB_ct ?_ ?_; (· first | omega | rfl | assumption | trivial))
      with_reducible refine vb_i (load_new (by rw [List.length_map]; exact hs1)) ?_
      repeat with_reducible (refine vb_i (adds ?_) ?_; (· first | omega | (simp only [List.length_cons, List.length_nil, List.length_append]; omega)))
      simp only [List.cons_append, List.nil_append]
      refine cb_i _ _ ⟨_, rfl, by simp; omega, rfl, rfl⟩ ?_
      with_reducible refine vb_i (e_eqBytes (sum_len _) (sum_len _)) ?_
      refine fin_bool (by simp) ?_
      exact ((p2.trans (pre_app _ _)).trans p4).trans (pre_app _ _)
    · refine cb_i _ _ ⟨_, s, rfl, .inl ⟨h2, rfl, rfl⟩⟩ ?_
      repeat with_reducible first
      | refine vb_i e_ext0 ?_
      | refine vb_i e_ext1 ?_
      | refine hb_i (e_alloc _ _) ?_
      unfold zero32
      with_reducible refine sb_i (store_new List.length_replicate List.length_replicate (cells_rep _ _ _)) ?_
      refine cb_i _ _ ⟨rfl, rfl, rfl⟩ ?_
      refine cb_i _ _ ⟨_, s, rfl, .inl ⟨h2, rfl, rfl⟩⟩ ?_
      repeat with_reducible first
      | refine vb_i e_ext0 ?_
      | refine vb_i e_ext1 ?_
      | refine hb_i (e_alloc _ _) ?_
      unfold zero32
      with_reducible refine sb_i (store_new List.length_replicate List.length_replicate (cells_rep _ _ _)) ?_
      repeat with_reducible first
      | (refine isB_ct ?_ ?_; (· first | omega | rfl | assumption | trivial))
      | refine vb_i (neq64 _ _ _) ?_
      | refine vb_i (e_lenSt _) ?_
      refine cb_i _ _ ⟨rfl, rfl, rfl⟩ ?_
      repeat with_reducible refine isB_T ?_
      with_reducible refine vb_i (load_pre ((pre_newO _).trans (pre_app _ _)) List.length_replicate) ?_
      with_reducible refine vb_i zero32_build ?_
      refine vb_i zero_eq ?_
      repeat with_reducible refine isB_T ?_
      with_reducible refine vb_i (load_new List.length_replicate) ?_
      with_reducible refine vb_i zero32_build ?_
      refine vb_i zero_eq ?_
      repeat with_reducible first
      | refine isB_T ?_
      | (refine isB_ct ?_ ?_; (· first | omega | rfl | assumption | trivial))
      | refine vb_i (eql64 _ _ _) ?_
      refine fin_bool rfl ?_
      exact (((pre_newO _).trans (pre_app _ _)).trans (pre_newO _)).trans (pre_app _ _)

theorem belowR_bad {n s : Int} (h : n < 0 ∨ 63 ≤ n ∨ s < 0 ∨ 1 < s) : belowR n s = [.int .i64 0, .bool false, .int .i64 3] := if_pos h
theorem belowR_in {n s : Int} (h : ¬ (n < 0 ∨ 63 ≤ n ∨ s < 0 ∨ 1 < s)) (k : 2 * n + 1 + s < 63) : belowR n s = [.int .i64 (2 * n + 1 + s), .bool false, .int .i64 0] := by
  unfold belowR; rw [if_neg h, if_pos k]
theorem belowR_leaf {n s : Int} (h : ¬ (n < 0 ∨ 63 ≤ n ∨ s < 0 ∨ 1 < s)) (k : ¬ 2 * n + 1 + s < 63) : belowR n s = [.int .i64 (2 * n + 1 + s - 63), .bool true, .int .i64 0] := by
  unfold belowR; rw [if_neg h, if_neg k]

theorem up_lt (m : Nat) (hm : m < 64) {i j : Nat} (hij : i < j) (hj : j ≤ 6) : up m j < up m i := by
  have hi : i = 0 ∨ i = 1 ∨ i = 2 ∨ i = 3 ∨ i = 4 ∨ i = 5 := by omega
  have hj : j = 1 ∨ j = 2 ∨ j = 3 ∨ j = 4 ∨ j = 5 ∨ j = 6 := by omega
  unfold up
  rcases hi with rfl | rfl | rfl | rfl | rfl | rfl <;> rcases hj with rfl | rfl | rfl | rfl | rfl | rfl <;> first | omega
theorem hit_path (m : Nat) (hm : m < 64) {i : Nat} (hi : i < 6) : hit m (up m (i + 1) : Nat) = some i :=
  hit_some hi rfl fun k hk e => by
    have := up_lt m hm (i := k + 1) (j := i + 1) (by omega) (by omega)
    omega
theorem side_path (m : Nat) (hm : m < 64) {i : Nat} (hi : i < 6) : sideR m (up m (i + 1) : Nat) = [.int .i64 ((up m i + 1) % 2 : Nat), .int .i64 0] := by
  unfold sideR
  rw [if_neg (by omega), Int.toNat_natCast, hit_path m hm hi]
theorem down_path (m : Nat) (hm : m < 64) {i : Nat} (hi : i < 6) : 2 * (up m (i + 1) : Int) + 1 + ((up m i + 1) % 2 : Nat) = up m i := by
  obtain ⟨p1, p2⟩ := up_pos m i hm hi
  have := up_next m i p2
  have h2 : up m i = (m + 64) / 2 ^ i - 1 := rfl
  omega
theorem path_get (m : Nat) {i : Nat} (hi : i < 6) : (ints (path m)).getD i .undef = .int .i64 (up m (i + 1) : Nat) := by
  have : i = 0 ∨ i = 1 ∨ i = 2 ∨ i = 3 ∨ i = 4 ∨ i = 5 := by omega
  rcases this with rfl | rfl | rfl | rfl | rfl | rfl <;> rfl
theorem up_63 (m : Nat) (hm : m < 64) {i : Nat} (hi : 0 < i) (hi6 : i ≤ 6) : up m i < 63 := by
  have : i = 1 ∨ i = 2 ∨ i = 3 ∨ i = 4 ∨ i = 5 ∨ i = 6 := by omega
  unfold up
  rcases this with rfl | rfl | rfl | rfl | rfl | rfl <;> omega

theorem below_ok (n s : Int) : ∃ (a b e : AVal), belowR n s = [a, b, e] ∧ (((n < 0 ∨ 63 ≤ n ∨ s < 0 ∨ 1 < s) ∧ a = .int .i64 0 ∧ b = .bool false ∧ e = .int .i64 3) ∨
    (¬ (n < 0 ∨ 63 ≤ n ∨ s < 0 ∨ 1 < s) ∧ 2 * n + 1 + s < 63 ∧ a = .int .i64 (2 * n + 1 + s) ∧ b = .bool false ∧ e = .int .i64 0) ∨
    (¬ (n < 0 ∨ 63 ≤ n ∨ s < 0 ∨ 1 < s) ∧ ¬ 2 * n + 1 + s < 63 ∧ a = .int .i64 (2 * n + 1 + s - 63) ∧ b = .bool true ∧ e = .int .i64 0)) := by
  by_cases h : n < 0 ∨ 63 ≤ n ∨ s < 0 ∨ 1 < s
  · exact ⟨_, _, _, belowR_bad h, .inl ⟨h, rfl, rfl, rfl⟩⟩
  · by_cases k : 2 * n + 1 + s < 63
    · exact ⟨_, _, _, belowR_in h k, .inr (.inl ⟨h, k, rfl, rfl, rfl⟩)⟩
    · exact ⟨_, _, _, belowR_leaf h k, .inr (.inr ⟨h, k, rfl, rfl, rfl⟩)⟩

theorem cellaretlaw17_NodePaths.ok (args : List AVal) (H : AHeap) (r : AVal) (H' : AHeap) (h : S_cellaretlaw17_NodePaths args H r H') : ∃ x0 x1 x2, args = [x0, x1, x2] ∧ cellaretlaw17_NodePaths.w x0 x1 x2 H fun r1 H1 => Weak H r1 H1 r H' := by
  obtain ⟨l, n, s, rfl, hn, rfl, rfl⟩ := h
  refine ⟨_, _, _, rfl, ?_⟩
  unfold cellaretlaw17_NodePaths.w
  -- the way, and the side, of the leaf
  obtain ⟨v3, v4, C, hpath, hC, hcase⟩ : ∃ v3 v4 C, S_node_Path [.int .i64 l] H' (.tup [v3, v4]) C ∧ H' <+: C ∧
      (((l < 0 ∨ 64 ≤ l) ∧ v3 = .nils ∧ v4 = .int .i64 3) ∨ (0 ≤ l ∧ l < 64 ∧ v3 = .slice ⟨H'.length, 0, 0⟩ 6 (.op 1) ∧ v4 = .int .i64 0 ∧ View C v3 1 6 (ints (path l.toNat)))) := by
    by_cases hl : l < 0 ∨ 64 ≤ l
    · exact ⟨_, _, H', ⟨l, rfl, .inl ⟨hl, rfl, rfl⟩⟩, List.prefix_refl _, .inl ⟨hl, rfl, rfl⟩⟩
    · exact ⟨_, _, _, ⟨l, rfl, .inr ⟨by omega, by omega, rfl, rfl⟩⟩, pre_app _ _, .inr ⟨by omega, by omega, rfl, rfl, view_op (l := ints (path l.toNat)) (by simp)⟩⟩
  refine cb_i _ _ hpath ?_
  repeat with_reducible first
  | refine vb_i e_ext0 ?_
  | refine vb_i e_ext1 ?_
  refine cb_i _ _ ⟨l, n, rfl, rfl, rfl⟩ ?_
  obtain ⟨v7, v8, hside⟩ : ∃ v7 v8 : Int, sideR l n = [.int .i64 v7, .int .i64 v8] := by
    unfold sideR
    split
    · exact ⟨_, _, rfl⟩
    · split <;> exact ⟨_, _, rfl⟩
  rw [hside]
  repeat with_reducible first
  | refine vb_i e_ext0 ?_
  | refine vb_i e_ext1 ?_
  refine cb_i _ _ ⟨n, s, rfl, rfl, rfl⟩ ?_
  obtain ⟨a, b, e, hbel, hbc⟩ := below_ok n s
  rw [hbel]
  repeat with_reducible first
  | refine vb_i e_ext0 ?_
  | refine vb_i e_ext1 ?_
  | refine vb_i e_ext2 ?_
  refine JoinP.mk (fun e' vs B => B = C ∧ e' = .normal ∧ vs = [.bool (decide (¬ (n < 0 ∨ 63 ≤ n ∨ s < 0 ∨ 1 < s)))]) ?_ ?_
  · repeat with_reducible refine vb_i (geq64 _ _ _) ?_
    refine isB_c (fun h1 => ?_) (fun h1 => ?_)
    · repeat with_reducible refine vb_i (lss64 _ _ _) ?_
      refine isB_c (fun h2 => ?_) (fun h2 => ?_)
      · repeat with_reducible refine vb_i (eql64 _ _ _) ?_
        refine isB_c (fun h3 => ?_) (fun h3 => ?_)
        · exact ⟨rfl, rfl, by rw [decide_eq_true (by omega)]⟩
        · repeat with_reducible refine vb_i (eql64 _ _ _) ?_
          exact ⟨rfl, rfl, by congr 2; apply decide_eq_decide.2; omega⟩
      · exact ⟨rfl, rfl, by rw [decide_eq_false (by omega)]⟩
    · exact ⟨rfl, rfl, by rw [decide_eq_false (by omega)]⟩
  · rintro _ _ B ⟨rfl, rfl, rfl⟩
    repeat with_reducible refine onE_i ?_
    refine JoinP.mk (fun e' vs B' => B' = B ∧ e' = .normal) ?_ ?_
    · simp only [evB]
      rcases hbc with ⟨h1, rfl, rfl, rfl⟩ | ⟨h1, h2, rfl, rfl, rfl⟩ | ⟨h1, h2, rfl, rfl, rfl⟩
      · repeat with_reducible first
        | refine isB_F ?_
        | (refine isB_ct ?_ ?_; (· first | omega | rfl | assumption | trivial))
        | (refine isB_cf ?_ ?_; (· first | omega | assumption))
        | refine vb_i (neq64 _ _ _) ?_
        | refine vb_i e_notd ?_
        exact ⟨by trivial, by trivial⟩
      · repeat with_reducible first
        | (refine isB_ct ?_ ?_; (· first | omega | rfl | assumption | trivial))
        | (refine isB_cf ?_ ?_; (· first | omega | assumption))
        | refine vb_i (neq64 _ _ _) ?_
        | refine vb_i e_notd ?_
        exact ⟨by trivial, by trivial⟩
      · repeat with_reducible first
        | (refine isB_ct ?_ ?_; (· first | omega | rfl | assumption | trivial))
        | (refine isB_cf ?_ ?_; (· first | omega | assumption))
        | refine vb_i (neq64 _ _ _) ?_
        | refine vb_i e_notd ?_
        exact ⟨by trivial, by trivial⟩
    · rintro _ vs40 B' ⟨rfl, rfl⟩
      repeat with_reducible refine onE_i ?_
      refine JoinP.mk (fun e' vs B => B = B' ∧ e' = .normal) ?_ ?_
      · simp only [evB]
        rcases hbc with ⟨h1, rfl, rfl, rfl⟩ | ⟨h1, h2, rfl, rfl, rfl⟩ | ⟨h1, h2, rfl, rfl, rfl⟩
        · repeat with_reducible (refine isB_cf ?_ ?_; (· first | omega | assumption))
          exact ⟨by trivial, by trivial⟩
        · repeat with_reducible first
          | refine isB_F ?_
          | (refine isB_ct ?_ ?_; (· first | omega | rfl | assumption | trivial))
          | (refine isB_cf ?_ ?_; (· first | omega | assumption))
          | refine vb_i (lss64 _ _ _) ?_
          | refine vb_i (geq64 _ _ _) ?_
          | refine vb_i (neq64 _ _ _) ?_
          | (refine vb_i (add64 ?_ ?_) ?_; (· omega); (· omega))
          | (refine vb_i (mul64 ?_ ?_) ?_; (· omega); (· omega))
          exact ⟨by trivial, by trivial⟩
        · repeat with_reducible first
          | (refine isB_ct ?_ ?_; (· first | omega | rfl | assumption | trivial))
          | (refine isB_cf ?_ ?_; (· first | omega | assumption))
          | refine vb_i (lss64 _ _ _) ?_
          | refine vb_i (geq64 _ _ _) ?_
          | refine vb_i (neq64 _ _ _) ?_
          | (refine vb_i (add64 ?_ ?_) ?_; (· omega); (· omega))
          | (refine vb_i (sub64 ?_ ?_) ?_; (· omega); (· omega))
          | (refine vb_i (mul64 ?_ ?_) ?_; (· omega); (· omega))
          | refine vb_i (e_not _) ?_
          exact ⟨by trivial, by trivial⟩
      · rintro _ vs67 B ⟨rfl, rfl⟩
        repeat with_reducible refine onE_i ?_
        rcases hcase with ⟨hl, rfl, rfl⟩ | ⟨hl1, hl2, rfl, rfl, hv⟩
        · have hs0 : v7 = 0 ∧ v8 = 3 := by
            unfold sideR at hside
            rw [if_pos hl] at hside
            simpa [eq_comm] using hside
          obtain ⟨rfl, rfl⟩ := hs0
          refine JoinP.mk (fun e' vs C => C = B ∧ e' = .ret ∧ vs = [.bool true]) ?_ ?_
          · repeat with_reducible refine vb_i (lss64 _ _ _) ?_
            by_cases h1 : l < 0
            · repeat with_reducible (refine isB_ct ?_ ?_; (· first | omega | rfl | assumption | trivial))
              refine cb_i _ _ ⟨rfl, rfl, rfl⟩ ?_
              repeat with_reducible first
              | refine isB_T ?_
              | (refine isB_ct ?_ ?_; (· first | omega | rfl | assumption | trivial))
              | refine vb_i (eql64 _ _ _) ?_
              | refine vb_i e_lenNil ?_
              exact ⟨rfl, rfl, by simp⟩
            · repeat with_reducible first
              | (refine isB_ct ?_ ?_; (· first | omega | rfl | assumption | trivial))
              | (refine isB_cf ?_ ?_; (· first | omega | assumption))
              | refine vb_i (gtr64 _ _ _) ?_
              refine cb_i _ _ ⟨rfl, rfl, rfl⟩ ?_
              repeat with_reducible first
              | refine isB_T ?_
              | (refine isB_ct ?_ ?_; (· first | omega | rfl | assumption | trivial))
              | refine vb_i (eql64 _ _ _) ?_
              | refine vb_i e_lenNil ?_
              exact ⟨rfl, rfl, by simp⟩
          · rintro _ _ C ⟨rfl, rfl, rfl⟩
            repeat with_reducible first
            | refine onE_i ?_
            | (refine onE_s ?_ ?_; (· decide))
            exact fin_bool rfl hC
        · obtain ⟨m, rfl⟩ : ∃ m : Nat, l = m := ⟨l.toNat, by omega⟩
          have hm : m < 64 := by omega
          rw [Int.toNat_natCast] at hv
          refine JoinP.mk (fun e' vs C => C = B ∧ e' = .normal) ?_ ?_
          · repeat with_reducible first
            | (refine isB_cf ?_ ?_; (· first | omega | assumption))
            | refine vb_i (lss64 _ _ _) ?_
            | refine vb_i (gtr64 _ _ _) ?_
            exact ⟨rfl, rfl⟩
          · rintro _ vs97 C ⟨rfl, rfl⟩
            repeat with_reducible refine onE_i ?_
            have rd : ∀ (i : Nat), i < 6 → ∃ q, aIndexAddr 1 (.slice ⟨H'.length, 0, 0⟩ 6 (.op 1)) (.int .i64 i) = some q ∧ aLoad C false 1 q = some (.int .i64 (up m (i + 1) : Nat)) := by
              intro i hi
              obtain ⟨q, h1, h2⟩ := hv.at1 (k := (i : Int)) (kd := .i64) (by omega) (by omega) (List.prefix_refl _)
              rw [Int.toNat_natCast, path_get m hi] at h2
              exact ⟨q, h1, h2⟩
            refine JoinP.mk (fun e' vs B => B = C ∧ e' = .normal) ?_ ?_
            · repeat with_reducible first
              | (refine isB_cf ?_ ?_; (· first | omega | assumption))
              | refine vb_i (neq64 _ _ _) ?_
              | refine vb_i (e_lenSl _ _ _) ?_
              obtain ⟨q, h1, h2⟩ := rd 5 (by decide)
              have h6 : up m (5 + 1) = 0 := up_six m hm
              with_reducible refine vb_i h1 ?_
              with_reducible refine vb_i h2 ?_
              repeat with_reducible first
              | (refine isB_cf ?_ ?_; (· first | omega | assumption))
              | refine vb_i (neq64 _ _ _) ?_
              exact ⟨rfl, rfl⟩
            · rintro _ vs110 B ⟨rfl, rfl⟩
              repeat with_reducible refine onE_i ?_
              -- the loop: from the root down
              refine LoopP.ruleG (α := Nat × Bool) (fun a => [.bool a.2, .int .i64 ((a.1 : Int) - 1)]) (fun a C => C = B ∧ a.1 ≤ 6 ∧ (a.2 = true ↔ ∃ j, a.1 ≤ j ∧ j < 6 ∧ (up m (j + 1) : Int) = n)) (fun a => a.1) (6, false) rfl ⟨rfl, Nat.le_refl _, ?_⟩ ?_
              · constructor
                · intro h; cases h
                · rintro ⟨j, h1, h2, _⟩; simp only at h1; omega
              · rintro ⟨i, t⟩ C Kn ⟨rfl, hi, ht⟩ hnx
                simp only at hi ht
                unfold cellaretlaw17_NodePaths.L17 cellaretlaw17_NodePaths.L17.b
                simp only [evB]
                by_cases hi0 : i = 0
                · subst hi0
                  repeat with_reducible first
                  | (refine isB_cf ?_ ?_; (· first | omega | assumption))
                  | refine onE_i ?_
                  | refine vb_i (geq64 _ _ _) ?_
                  refine cb_i _ _ ⟨rfl, rfl, rfl⟩ ?_
                  repeat with_reducible refine isB_T ?_
                  refine isB_bb (fun h1 => ?_) (fun h1 => ?_)
                  · exact fin_bool rfl hC
                  · have hs0 : v7 = 0 ∧ v8 = 3 := by
                      unfold sideR at hside
                      rw [if_neg (by omega), Int.toNat_natCast, hit_none (fun j hj e => by have := ht.2 ⟨j, Nat.zero_le _, hj, e⟩; rw [h1] at this; cases this)] at hside
                      simpa [eq_comm] using hside
                    obtain ⟨rfl, rfl⟩ := hs0
                    repeat with_reducible first
                    | (refine isB_ct ?_ ?_; (· first | omega | rfl | assumption | trivial))
                    | refine vb_i (eql64 _ _ _) ?_
                    exact fin_bool (by simp) hC
                · obtain ⟨k, rfl⟩ : ∃ k, i = k + 1 := ⟨i - 1, by omega⟩
                  have hk : k < 6 := by omega
                  have e0 : (((k + 1 : Nat) : Int) - 1) = (k : Int) := by omega
                  rw [e0]
                  obtain ⟨q, h1, h2⟩ := rd k hk
                  repeat with_reducible first
                  | (refine isB_ct ?_ ?_; (· first | omega | rfl | assumption | trivial))
                  | refine vb_i (geq64 _ _ _) ?_
                  with_reducible refine vb_i h1 ?_
                  with_reducible refine vb_i h2 ?_
                  refine cb_i _ _ ⟨_, _, rfl, rfl, rfl⟩ ?_
                  rw [side_path m hm hk]
                  repeat with_reducible first
                  | refine vb_i e_ext0 ?_
                  | refine vb_i e_ext1 ?_
                  with_reducible refine vb_i h1 ?_
                  with_reducible refine vb_i h2 ?_
                  refine cb_i _ _ ⟨_, _, rfl, rfl, rfl⟩ ?_
                  have hdn := down_path m hm hk
                  have h63 := up_63 m hm (i := k + 1) (by omega) (by omega)
                  have hule := up_le m k
                  have hbl : belowR (up m (k + 1) : Nat) ((up m k + 1) % 2 : Nat) = [.int .i64 (if k = 0 then m else up m k : Nat), .bool (decide (k = 0)), .int .i64 0] := by
                    by_cases hk0 : k = 0
                    · subst hk0
                      have hu0 := up_zero m
                      rw [belowR_leaf (by omega) (by omega)]
                      have e : 2 * ((up m (0 + 1) : Nat) : Int) + 1 + ((up m 0 + 1) % 2 : Nat) - 63 = (m : Int) := by omega
                      rw [e]; rfl
                    · have h63' := up_63 m hm (i := k) (by omega) (by omega)
                      rw [belowR_in (by omega) (by omega), hdn, if_neg hk0, decide_eq_false hk0]
                  rw [hbl]
                  repeat with_reducible first
                  | refine vb_i e_ext0 ?_
                  | refine vb_i e_ext1 ?_
                  | refine vb_i e_ext2 ?_
                  refine JoinP.mk (fun e' vs B => B = C ∧ e' = .normal) ?_ ?_
                  · by_cases hk0 : k = 0
                    · subst hk0
                      rw [if_pos rfl]
                      repeat with_reducible first
                      | (refine isB_ct ?_ ?_; (· first | omega | rfl | assumption | trivial))
                      | (refine isB_cf ?_ ?_; (· first | omega | assumption))
                      | refine vb_i (eql64 _ _ _) ?_
                      | refine vb_i (neq64 _ _ _) ?_
                      | refine vb_i e_notd ?_
                      | refine vb_i e_boolNe ?_
                      exact ⟨rfl, rfl⟩
                    · rw [if_neg hk0]
                      obtain ⟨q', h1', h2'⟩ := rd (k - 1) (by omega)
                      have e1 : ((k : Int) - 1) = ((k - 1 : Nat) : Int) := by omega
                      have e2 : k - 1 + 1 = k := by omega
                      rw [e2] at h2'
                      repeat with_reducible first
                      | (refine isB_ct ?_ ?_; (· first | omega | rfl | assumption | trivial))
                      | (refine isB_cf ?_ ?_; (· first | omega | assumption))
                      | refine vb_i (eql64 _ _ _) ?_
                      | refine vb_i (neq64 _ _ _) ?_
                      | (refine vb_i (sub64 ?_ ?_) ?_; (· omega); (· omega))
                      | refine vb_i e_notd ?_
                      | refine vb_i e_boolNe ?_
                      rw [e1]
                      with_reducible refine vb_i h1' ?_
                      with_reducible refine vb_i h2' ?_
                      repeat with_reducible first
                      | (refine isB_cf ?_ ?_; (· first | omega | assumption))
                      | refine vb_i (neq64 _ _ _) ?_
                      exact ⟨rfl, rfl⟩
                  · rintro _ vs156 B ⟨rfl, rfl⟩
                    repeat with_reducible refine onE_i ?_
                    with_reducible refine vb_i h1 ?_
                    with_reducible refine vb_i h2 ?_
                    repeat with_reducible refine vb_i (eql64 _ _ _) ?_
                    refine isB_c (fun h3 => ?_) (fun h3 => ?_)
                    · have hs0 : v7 = ((up m k + 1) % 2 : Nat) ∧ v8 = 0 := by
                        rw [← h3, side_path m hm hk] at hside
                        simpa [eq_comm] using hside
                      obtain ⟨rfl, rfl⟩ := hs0
                      repeat with_reducible first
                      | (refine isB_cf ?_ ?_; (· first | omega | assumption))
                      | refine vb_i (neq64 _ _ _) ?_
                      | (refine vb_i (sub64 ?_ ?_) ?_; (· omega); (· omega))
                      refine hnx (k, true) _ ⟨rfl, by simp only; omega, ?_⟩ (by simp only; omega)
                      simp only [true_iff]
                      exact ⟨k, Nat.le_refl _, hk, h3⟩
                    · repeat with_reducible (refine vb_i (sub64 ?_ ?_) ?_; (· omega); (· omega))
                      refine hnx (k, t) _ ⟨rfl, by simp only; omega, ?_⟩ (by simp only; omega)
                      simp only
                      rw [ht]
                      constructor
                      · rintro ⟨j, j1, j2, j3⟩; exact ⟨j, by omega, j2, j3⟩
                      · rintro ⟨j, j1, j2, j3⟩
                        refine ⟨j, ?_, j2, j3⟩
                        by_cases hj : j = k
                        · subst hj; exact absurd j3 h3
                        · omega
end Go.Sh

/- Functions that leave what was there as it was. -/
namespace Go.Sh
open Go Go.Abs

theorem node_Path.quiet {args : List AVal} {H : AHeap} {r : AVal} {H' : AHeap} (h : S_node_Path args H r H') : H <+: H' := by
  unfold S_node_Path at h; grind [pre_app, pre_of_eq, newO]
theorem node_Side.quiet {args : List AVal} {H : AHeap} {r : AVal} {H' : AHeap} (h : S_node_Side args H r H') : H <+: H' := by
  unfold S_node_Side at h; grind [pre_app, pre_of_eq, newO]
theorem node_Below.quiet {args : List AVal} {H : AHeap} {r : AVal} {H' : AHeap} (h : S_node_Below args H r H') : H <+: H' := by
  unfold S_node_Below at h; grind [pre_app, pre_of_eq, newO]
theorem node_may.quiet {args : List AVal} {H : AHeap} {r : AVal} {H' : AHeap} (h : S_node_may args H r H') : H <+: H' := by
  unfold S_node_may at h; grind [pre_app, pre_of_eq, newO]
theorem node_Split.quiet {args : List AVal} {H : AHeap} {r : AVal} {H' : AHeap} (h : S_node_Split args H r H') : H <+: H' := by
  unfold S_node_Split at h; grind [pre_app, pre_of_eq, newO]
theorem node_With.quiet {args : List AVal} {H : AHeap} {r : AVal} {H' : AHeap} (h : S_node_With args H r H') : H <+: H' := by
  unfold S_node_With at h; grind [pre_app, pre_of_eq, newO]
theorem cellaretlaw17_awake.quiet {args : List AVal} {H : AHeap} {r : AVal} {H' : AHeap} (h : S_cellaretlaw17_awake args H r H') : H <+: H' := by
  unfold S_cellaretlaw17_awake at h; grind [pre_app, pre_of_eq, newO]
theorem cellaretlaw17_NodePaths.quiet {args : List AVal} {H : AHeap} {r : AVal} {H' : AHeap} (h : S_cellaretlaw17_NodePaths args H r H') : H <+: H' := by
  unfold S_cellaretlaw17_NodePaths at h; grind [pre_app, pre_of_eq, newO]
theorem cellaretlaw17_NodeSplits.quiet {args : List AVal} {H : AHeap} {r : AVal} {H' : AHeap} (h : S_cellaretlaw17_NodeSplits args H r H') : H <+: H' := by
  unfold S_cellaretlaw17_NodeSplits at h; grind [pre_app, pre_of_eq, newO]
theorem cellaretlaw17_NodeSums.quiet {args : List AVal} {H : AHeap} {r : AVal} {H' : AHeap} (h : S_cellaretlaw17_NodeSums args H r H') : H <+: H' := by
  unfold S_cellaretlaw17_NodeSums at h; grind [pre_app, pre_of_eq, newO]
theorem oracle_New.quiet {args : List AVal} {H : AHeap} {r : AVal} {H' : AHeap} (h : S_oracle_New args H r H') : H <+: H' := by
  unfold S_oracle_New at h; grind [pre_app, pre_of_eq, newO]
theorem oracle_Oracle_Len.quiet {args : List AVal} {H : AHeap} {r : AVal} {H' : AHeap} (h : S_oracle_Oracle_Len args H r H') : H <+: H' := by
  unfold S_oracle_Oracle_Len at h; grind [pre_app, pre_of_eq, newO]
theorem oracle_Oracle_Input.quiet {args : List AVal} {H : AHeap} {r : AVal} {H' : AHeap} (h : S_oracle_Oracle_Input args H r H') : H <+: H' := by
  unfold S_oracle_Oracle_Input at h; grind [pre_app, pre_of_eq, newO]
end Go.Sh
