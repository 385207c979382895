/- One text of these: Node0, NodeW1, NodeP1, NodeP2, NodeP3, NodeP4, NodeP5, NodeP6, NodeP7, NodeQ. -/
import Derived.Test.YtchfbhiaboggmaaOrc
import Derived.Test.YtchfbhiaboggmaaAbsE
import Derived.Test.YtchfbhiaboggmaaRon

/- Nodes of a tree of sums. -/
namespace Go.Sh
open Go Go.Abs


/-- The j-th node on the way up from a leaf (the 0-th: the leaf itself, behind the nodes). -/
def up (k j : Nat) : Nat := (k + 64) / 2 ^ j - 1
def path (k : Nat) : List Int := [(up k 1 : Int), up k 2, up k 3, up k 4, up k 5, up k 6]
theorem up_zero (k : Nat) : up k 0 = k + 63 := by simp [up]
theorem up_next (k j : Nat) (h : 2 ≤ (k + 64) / 2 ^ j) : up k (j + 1) = (up k j - 1) / 2 := by
  unfold up
  rw [Nat.pow_succ, ← Nat.div_div_eq_div_mul]
  omega
theorem up_pos (k j : Nat) (hk : k < 64) (hj : j < 6) : 0 < up k j ∧ 2 ≤ (k + 64) / 2 ^ j := by
  have : j = 0 ∨ j = 1 ∨ j = 2 ∨ j = 3 ∨ j = 4 ∨ j = 5 := by omega
  unfold up
  rcases this with rfl | rfl | rfl | rfl | rfl | rfl <;> omega
theorem up_six (k : Nat) (hk : k < 64) : up k 6 = 0 := by unfold up; omega

def S_node_Path : Abs.Spec := fun args H r H' => ∃ k : Int, args = [.int .i64 k] ∧
  (((k < 0 ∨ 64 ≤ k) ∧ r = .tup [.nils, .int .i64 3] ∧ H' = H) ∨ (0 ≤ k ∧ k < 64 ∧ r = .tup [.slice ⟨H.length, 0, 0⟩ 6 (.op 1), .int .i64 0] ∧ H' = H ++ [.cells 0 .opn (ints (path k.toNat))]))

/-- Which of the ways up comes to a node. -/
def hit (k : Nat) (n : Int) : Option Nat := (List.range 6).find? fun j => decide ((up k (j + 1) : Int) = n)
def sideR (l n : Int) : List AVal :=
  if l < 0 ∨ 64 ≤ l then [.int .i64 0, .int .i64 3] else
  match hit l.toNat n with
  | some j => [.int .i64 ((up l.toNat j + 1) % 2 : Nat), .int .i64 0]
  | none => [.int .i64 0, .int .i64 3]
def S_node_Side : Abs.Spec := fun args H r H' => ∃ l n : Int, args = [.int .i64 l, .int .i64 n] ∧ r = .tup (sideR l n) ∧ H' = H

def belowR (n s : Int) : List AVal :=
  if n < 0 ∨ 63 ≤ n ∨ s < 0 ∨ 1 < s then [.int .i64 0, .bool false, .int .i64 3]
  else if 2 * n + 1 + s < 63 then [.int .i64 (2 * n + 1 + s), .bool false, .int .i64 0] else [.int .i64 (2 * n + 1 + s - 63), .bool true, .int .i64 0]
def S_node_sum : Abs.Spec := fun args H r H' => ∃ o s, args = [o, .str s] ∧ s.length ≤ 1099511627776 ∧ r = .agg ((sum s).map ofByte) ∧ Osums H o [s] H'
def S_node_Leaf : Abs.Spec := fun args H r H' => ∃ o s, args = [o, .str s] ∧ ((s.length ≠ 64 ∧ r = .tup [zero32, .int .i64 6] ∧ H' = H) ∨ (s.length = 64 ∧ r = .tup [.agg ((sum (0 :: s)).map ofByte), .int .i64 0] ∧ Osums H o [0 :: s] H'))
def S_node_Node : Abs.Spec := fun args H r H' => ∃ o s, args = [o, .str s] ∧ ((s.length ≠ 64 ∧ r = .tup [zero32, .int .i64 6] ∧ H' = H) ∨ (s.length = 64 ∧ r = .tup [.agg ((sum (1 :: s)).map ofByte), .int .i64 0] ∧ Osums H o [1 :: s] H'))
def mayR (s : List UInt8) (k : Int) : Int := if s.length ≠ 64 then 6 else if k < 0 ∨ 1 < k then 3 else 0
def S_node_may : Abs.Spec := fun args H r H' => ∃ (s : List UInt8) (k : Int), args = [.str s, .int .i64 k] ∧ r = .int .i64 (mayR s k) ∧ H' = H
def half (s : List UInt8) (k : Int) : List UInt8 := (s.drop (32 * k.toNat)).take 32
def S_node_Split : Abs.Spec := fun args H r H' => ∃ (s : List UInt8) (k : Int), args = [.str s, .int .i64 k] ∧ H' = H ∧
  ((mayR s k ≠ 0 ∧ r = .tup [zero32, .int .i64 (mayR s k)]) ∨ (mayR s k = 0 ∧ r = .tup [.agg ((half s k).map ofByte), .int .i64 0]))
def S_node_With : Abs.Spec := fun args H r H' => ∃ (s : List UInt8) (k : Int) (d : List UInt8), args = [.str s, .int .i64 k, .agg (d.map ofByte)] ∧ d.length = 32 ∧ H' = H ∧
  ((mayR s k ≠ 0 ∧ r = .tup [.str [], .int .i64 (mayR s k)]) ∨ (mayR s k = 0 ∧ r = .tup [.str (if k = 0 then d ++ s.drop 32 else s.take 32 ++ d), .int .i64 0]))
end Go.Sh

/- What Go functions come to over abstract values, printed by a program (wtext.py). -/
namespace Go.Sh
open Go Go.Abs





def node_Path.L5.b (x4_5 : AVal) (x5_5 : AVal) (H10 : AHeap) (Kn11 : List AVal → AHeap → Prop) (Ke12 : AExit → List AVal → AHeap → Prop) : Prop :=
 vb (aBin .gtr x5_5 (.int .i64 0)) fun v13 =>
 isB v13 fun b14 => cond b14
 (vb (aBin .sub x5_5 (.int .i64 1)) fun v15 =>
 vb (aBin .quo v15 (.int .i64 2)) fun v16 =>
 hb (aBuildSlice H10 1 [.int .i64 0] 1 [(0, v16)]) fun v17 H18 =>
 hb (aAppendS H18 1 8 x4_5 v17) fun v19 H20 =>
 Kn11 [v19, v16] H20)
 (Ke12 (.exit 0) [x4_5] H10)

def node_Path.L5 : Body := fun vs H Kn Ke => node_Path.L5.b (vs.getD 0 .undef) (vs.getD 1 .undef) H Kn Ke

def node_Path.w (x0 : AVal) (H : AHeap) (K : AVal → AHeap → Prop) : Prop :=
 JoinP (fun Kj1 => vb (aBin .lss x0 (.int .i64 0)) fun v2 =>
 isB v2 fun b3 => cond b3
 (Kj1 .ret [.nils, .int .i64 3] H)
 (vb (aBin .geq x0 (.int .i64 64)) fun v4 =>
 isB v4 fun b5 => cond b5
 (Kj1 .ret [.nils, .int .i64 3] H)
 (Kj1 .normal [.nils, .int .i64 0] H)))
 (fun e6 vs7 H8 =>
 onE e6 .normal
 (vb (aBin .add x0 (.int .i64 63)) fun v9 =>
 LoopP node_Path.L5 [.nils, v9] H8 fun e21 vs22 H23 =>
 onE e21 (.exit 0)
 (fin .ret [.v (vs22.getD 0 .undef), .v (.int .i64 0)] H23 K)
 (False))
 (onE e6 .ret
 (fin .ret [.v (vs7.getD 0 .undef), .v (vs7.getD 1 .undef)] H8 K)
 (False)))

def node_Side.L4.b (x1 : AVal) (x6_4 : AVal) (H10 : AHeap) (Kn11 : List AVal → AHeap → Prop) (Ke12 : AExit → List AVal → AHeap → Prop) : Prop :=
 vb (aBin .gtr x6_4 (.int .i64 0)) fun v13 =>
 isB v13 fun b14 => cond b14
 (vb (aBin .sub x6_4 (.int .i64 1)) fun v15 =>
 vb (aBin .quo v15 (.int .i64 2)) fun v16 =>
 vb (aBin .eql v16 x1) fun v17 =>
 isB v17 fun b18 => cond b18
 (vb (aBin .add x6_4 (.int .i64 1)) fun v19 =>
 vb (aBin .rem v19 (.int .i64 2)) fun v20 =>
 Ke12 .ret [v20, .int .i64 0] H10)
 (Kn11 [v16] H10))
 (Ke12 (.exit 0) [.undef, .undef] H10)

def node_Side.L4 (x1 : AVal) : Body := fun vs H Kn Ke => node_Side.L4.b x1 (vs.getD 0 .undef) H Kn Ke

def node_Side.w (x0 : AVal) (x1 : AVal) (H : AHeap) (K : AVal → AHeap → Prop) : Prop :=
 JoinP (fun Kj1 => vb (aBin .lss x0 (.int .i64 0)) fun v2 =>
 isB v2 fun b3 => cond b3
 (Kj1 .ret [.int .i64 0, .int .i64 3] H)
 (vb (aBin .geq x0 (.int .i64 64)) fun v4 =>
 isB v4 fun b5 => cond b5
 (Kj1 .ret [.int .i64 0, .int .i64 3] H)
 (Kj1 .normal [.int .i64 0, .int .i64 0] H)))
 (fun e6 vs7 H8 =>
 onE e6 .normal
 (vb (aBin .add x0 (.int .i64 63)) fun v9 =>
 LoopP (node_Side.L4 x1) [v9] H8 fun e21 vs22 H23 =>
 onE e21 (.exit 0)
 (fin .ret [.v (.int .i64 0), .v (.int .i64 3)] H23 K)
 (onE e21 .ret
 (fin .ret [.v (vs22.getD 0 .undef), .v (vs22.getD 1 .undef)] H23 K)
 (False)))
 (onE e6 .ret
 (fin .ret [.v (vs7.getD 0 .undef), .v (vs7.getD 1 .undef)] H8 K)
 (False)))

def node_sum.w (x0 : AVal) (x1 : AVal) (H : AHeap) (K : AVal → AHeap → Prop) : Prop :=
 hb (aAlloc H (List.replicate 32 (.int .u8 0))) fun v1 H2 =>
 vb (aEql false .ptr H2 x0 .nilp) fun v3 =>
 isB v3 fun b4 => cond b4
 (cb (S_sha_Sum [x1] H2) fun v5 H6 =>
 sb (aStore H6 32 v1 v5) fun H7 =>
 fin .ret [.c true 32 (v1)] H7 K)
 (cb (S_oracle_Oracle_Sum [x0, x1] H2) fun v8 H9 =>
 sb (aStore H9 32 v1 v8) fun H10 =>
 fin .ret [.c true 32 (v1)] H10 K)

def node_Leaf.w (x0 : AVal) (x1 : AVal) (H : AHeap) (K : AVal → AHeap → Prop) : Prop :=
 hb (aAlloc H (List.replicate 32 (.int .u8 0))) fun v1 H2 =>
 vb (lenSt x1) fun v3 =>
 vb (aBin .neq v3 (.int .i64 64)) fun v4 =>
 isB v4 fun b5 => cond b5
 (vb (aBuild (List.replicate 32 (.int .u8 0)) (fun k => some (k * 1, 1)) []) fun v6 =>
 sb (aStore H2 32 v1 v6) fun H7 =>
 fin .ret [.c true 32 (v1), .v (.int .i64 6)] H7 K)
 (vb (aBin .add (.str [0]) x1) fun v8 =>
 cb (S_node_sum [x0, v8] H2) fun v9 H10 =>
 sb (aStore H10 32 v1 v9) fun H11 =>
 fin .ret [.c true 32 (v1), .v (.int .i64 0)] H11 K)

def node_Node.w (x0 : AVal) (x1 : AVal) (H : AHeap) (K : AVal → AHeap → Prop) : Prop :=
 hb (aAlloc H (List.replicate 32 (.int .u8 0))) fun v1 H2 =>
 vb (lenSt x1) fun v3 =>
 vb (aBin .neq v3 (.int .i64 64)) fun v4 =>
 isB v4 fun b5 => cond b5
 (vb (aBuild (List.replicate 32 (.int .u8 0)) (fun k => some (k * 1, 1)) []) fun v6 =>
 sb (aStore H2 32 v1 v6) fun H7 =>
 fin .ret [.c true 32 (v1), .v (.int .i64 6)] H7 K)
 (vb (aBin .add (.str [1]) x1) fun v8 =>
 cb (S_node_sum [x0, v8] H2) fun v9 H10 =>
 sb (aStore H10 32 v1 v9) fun H11 =>
 fin .ret [.c true 32 (v1), .v (.int .i64 0)] H11 K)

def node_may.w (x0 : AVal) (x1 : AVal) (H : AHeap) (K : AVal → AHeap → Prop) : Prop :=
 vb (lenSt x0) fun v1 =>
 vb (aBin .neq v1 (.int .i64 64)) fun v2 =>
 isB v2 fun b3 => cond b3
 (fin .ret [.v (.int .i64 6)] H K)
 (vb (aBin .lss x1 (.int .i64 0)) fun v4 =>
 isB v4 fun b5 => cond b5
 (fin .ret [.v (.int .i64 3)] H K)
 (vb (aBin .gtr x1 (.int .i64 1)) fun v6 =>
 isB v6 fun b7 => cond b7
 (fin .ret [.v (.int .i64 3)] H K)
 (fin .ret [.v (.int .i64 0)] H K)))

def node_Split.w (x0 : AVal) (x1 : AVal) (H : AHeap) (K : AVal → AHeap → Prop) : Prop :=
 hb (aAlloc H (List.replicate 32 (.int .u8 0))) fun v1 H2 =>
 hb (aAlloc H2 (List.replicate 32 (.int .u8 0))) fun v3 H4 =>
 cb (S_node_may [x0, x1] H4) fun v5 H6 =>
 vb (aBin .neq v5 (.int .i64 0)) fun v7 =>
 isB v7 fun b8 => cond b8
 (vb (aLoad H6 true 32 v3) fun v9 =>
 sb (aStore H6 32 v1 v9) fun H10 =>
 fin .ret [.c true 32 (v1), .v (v5)] H10 K)
 (vb (aSliceArr 32 1 v3 none none none) fun v11 =>
 vb (aBin .mul (.int .i64 32) x1) fun v12 =>
 vb (aSliceStr x0 (some v12) none) fun v13 =>
 hb (aCopy H6 1 v11 v13) fun v14 H15 =>
 vb (aLoad H15 true 32 v3) fun v16 =>
 sb (aStore H15 32 v1 v16) fun H17 =>
 fin .ret [.c true 32 (v1), .v (.int .i64 0)] H17 K)

def node_With.w (x0 : AVal) (x1 : AVal) (x2 : AVal) (H : AHeap) (K : AVal → AHeap → Prop) : Prop :=
 hb (aBox H x2) fun v1 H2 =>
 cb (S_node_may [x0, x1] H2) fun v3 H4 =>
 vb (aBin .neq v3 (.int .i64 0)) fun v5 =>
 isB v5 fun b6 => cond b6
 (fin .ret [.v (.str []), .v (v3)] H4 K)
 (vb (aBin .eql x1 (.int .i64 0)) fun v7 =>
 isB v7 fun b8 => cond b8
 (vb (aSliceArr 32 1 v1 none none none) fun v9 =>
 vb (aBytes2Str H4 v9) fun v10 =>
 vb (aSliceStr x0 (some (.int .i64 32)) none) fun v11 =>
 vb (aBin .add v10 v11) fun v12 =>
 fin .ret [.v (v12), .v (.int .i64 0)] H4 K)
 (vb (aSliceStr x0 none (some (.int .i64 32))) fun v13 =>
 vb (aSliceArr 32 1 v1 none none none) fun v14 =>
 vb (aBytes2Str H4 v14) fun v15 =>
 vb (aBin .add v13 v15) fun v16 =>
 fin .ret [.v (v16), .v (.int .i64 0)] H4 K))

end Go.Sh

/- The functions of nodes come to what is told. -/
namespace Go.Sh
open Go Go.Abs


end Go.Sh

/- The functions of nodes, more of them. -/
namespace Go.Sh
open Go Go.Abs

theorem node_Path.ok (args : List AVal) (H : AHeap) (r : AVal) (H' : AHeap) (h : S_node_Path args H r H') : ∃ x0, args = [x0] ∧ node_Path.w x0 H fun r1 H1 => Weak H r1 H1 r H' := by
  obtain ⟨k, rfl, h⟩ := h
  refine ⟨_, rfl, ?_⟩
  unfold node_Path.w
  refine JoinP.mk (fun e vs B => B = H ∧ ((e = .ret ∧ vs = [.nils, .int .i64 3] ∧ (k < 0 ∨ 64 ≤ k)) ∨ (e = .normal ∧ ¬ (k < 0 ∨ 64 ≤ k)))) ?_ ?_
  · simp only [ev]
    refine isB_d (fun h1 => ?_) (fun h1 => ?_)
    · exact ⟨by trivial, .inl ⟨by trivial, by trivial, by omega⟩⟩
    · rw [cond_false]
      refine isB_d (fun h2 => ?_) (fun h2 => ?_)
      · exact ⟨by trivial, .inl ⟨by trivial, by trivial, by omega⟩⟩
      · exact ⟨by trivial, .inr ⟨by trivial, by omega⟩⟩
  · rintro e vs B ⟨rfl, ⟨rfl, rfl, hb⟩ | ⟨rfl, hb⟩⟩
    · simp only [onE_rn, onE_same, evB]
      rcases h with ⟨_, rfl, rfl⟩ | ⟨h1, h2, _⟩
      · refine fin_ret (vs := [.nils, .int .i64 3]) (rvs_v (rvs_v (rvs_nil _))) ?_
        exact Weak.refl (tup_plain (plain_cons rfl (plain_cons rfl plain_nil)))
      · omega
    · rw [onE_same]
      rcases h with ⟨h1, _⟩ | ⟨h1, h2, rfl, rfl⟩
      · omega
      obtain ⟨m, rfl⟩ : ∃ m : Nat, k = m := ⟨k.toNat, by omega⟩
      have hm : m < 64 := by omega
      rw [Int.toNat_natCast]
      simp (disch := first | omega | fail) only [ev]
      have hu0 : ((m : Int) + 63) = ((up m 0 : Nat) : Int) := by rw [up_zero]; omega
      rw [hu0]
      refine LoopP.ruleG (α := AVal × Nat) (fun a => [a.1, .int .i64 (up m a.2 : Nat)])
        (fun a C => a.2 ≤ 6 ∧ B <+: C ∧ (∀ i, slId a.1 = some i → B.length ≤ i) ∧ OwnO C a.1 1 a.2 (ints ((path m).take a.2))) (fun a => 6 - a.2) (.nils, 0) rfl
        ⟨Nat.zero_le _, List.prefix_refl _, fun i hi => (by cases hi), OwnO.nils _ _⟩ ?_
      rintro ⟨sv, j⟩ C Kn ⟨hj, hp, hid, ho⟩ hn
      simp only at hj ho hid
      unfold node_Path.L5 node_Path.L5.b
      simp only [List.getD_cons_zero, List.getD_cons_succ, ev]
      have hpl : (path m).length = 6 := rfl
      by_cases hj6 : j < 6
      · obtain ⟨p1, p2⟩ := up_pos m j hm hj6
        have hup := up_next m j p2
        refine isB_t (by omega) ?_
        rw [cond_true]
        have hval : (((up m j : Nat) : Int) - 1) / 2 = ((up m (j + 1) : Nat) : Int) := by rw [hup]; omega
        have hub : up m j < 1000 := by
          have : up m j ≤ m + 63 := by unfold up; have := Nat.div_le_self (m + 64) (2 ^ j); omega
          omega
        simp (disch := first | omega | fail) only [ev, hval]
        refine pushO1 ho rfl (by simp only [room]; omega) (by simp only [room]; omega) fun sv' C' o kk hi => ?_
        refine hn (sv', j + 1) C' ⟨by simp only; omega, kk.pre hp hid, fun i hi' => ?_, ?_⟩ (by simp only; omega)
        · rcases hi with e | ⟨_, e⟩
          · exact hid i (by rw [← e]; exact hi')
          · rw [e] at hi'; cases hi'; have := hp.length_le; omega
        · have e : ints ((path m).take (j + 1)) = ints ((path m).take j) ++ [.int .i64 (up m (j + 1) : Nat)] := by
            have : j = 0 ∨ j = 1 ∨ j = 2 ∨ j = 3 ∨ j = 4 ∨ j = 5 := by omega
            rcases this with rfl | rfl | rfl | rfl | rfl | rfl <;> rfl
          simp only
          rw [e]; exact o
      · have : j = 6 := by omega
        subst this
        refine isB_f (by rw [up_six m hm]; decide) ?_
        simp only [cond_false, onE_same, evB]
        refine fin_ret (vs := [sv, .int .i64 0]) (rvs_v (rvs_v (rvs_nil _))) ?_
        refine ho.weak (by decide) (fun x hx => ?_) hp hid fun ρ σ N hN hr => ?_
        · simp only [ints, List.mem_map] at hx; obtain ⟨y, _, rfl⟩ := hx; rfl
        · simp only [Ren, RenL] at hr ⊢
          exact ⟨_, rfl, _, _, rfl, hr, _, _, rfl, rfl, rfl⟩
end Go.Sh

/- Sums that are kept, and what is called beside them. -/
namespace Go.Sh
open Go Go.Abs

theorem OInv.agree {H : AHeap} {i v m mv : Nat} {lv : AVal} {T : List (List UInt8)} {C : AHeap} {mv' : Nat} {lv' : AVal} {T' : List (List UInt8)} (h : OInv H i v m mv lv T C mv' lv' T') {D : AHeap} (hl : H.length ≤ D.length)
    (hD : ∀ j, (j < H.length ∨ slId lv' = some j) → D[j]? = C[j]?) : OInv H i v m mv lv T D mv' lv' T' := by
  have hi := lt_of_some h.src.cell
  have hm := lt_of_some h.src.mp
  refine ⟨h.src, ⟨by rw [hD i (.inl hi)]; exact h.rep.cell, by rw [hD m (.inl hm)]; exact h.rep.mp, ?_, h.rep.nd, h.rep.short⟩, h.mvE, h.le, hl, fun k hk h1 h2 h3 => by rw [hD k (.inl hk)]; exact h.keep k hk h1 h2 h3, h.same, h.old, h.new⟩
  rcases h.rep.lst with h1 | ⟨j, u, rfl, h2, h3⟩
  · exact .inl h1
  · exact .inr ⟨j, u, rfl, by rw [hD j (.inr rfl)]; exact h2, h3⟩

theorem ORep.slt {H : AHeap} {i v m mv : Nat} {lv : AVal} {T : List (List UInt8)} (h : ORep H i v m mv lv T) {j : Nat} (hj : slId lv = some j) : j < H.length := by
  rcases h.lst with ⟨rfl, _⟩ | ⟨q, u, rfl, h2, _⟩
  · cases hj
  · simp only [slId, Option.some.injEq] at hj; subst hj; exact lt_of_some h2

/-- A call that sums, with things of one's own beside. -/
theorem sums_call {H H' : AHeap} {o : AVal} {ss : List (List UInt8)} (h : Osums H o ss H') (hs : ∀ s ∈ ss, s.length ≤ 1099511627776) (L : AHeap) :
    ∃ C2, Osums (H ++ L) o ss C2 ∧ (∀ k, k < L.length → C2[H.length + k]? = L[k]?) ∧ H.length + L.length ≤ C2.length ∧
      (∀ (D : AHeap) (r r1 : AVal), H.length ≤ D.length → (∀ j, j < C2.length → (j < H.length ∨ H.length + L.length ≤ j) → D[j]? = C2[j]?) → (∀ ρ σ n, Ren ρ σ n r r1) → Weak H r1 D r H') := by
  rcases h with ⟨rfl, rfl⟩ | ⟨i, v, m, mv, lv, T, rfl, hr, hT, rfl⟩
  · refine ⟨H' ++ L, .inl ⟨rfl, rfl⟩, fun k _ => app_get _ _ _, by simp, fun D r r1 hl hD hR => ?_⟩
    refine Weak.cells (hR _ _ _) (pre_of_get hl fun k hk => ?_)
    rw [hD k (by simp; omega) (.inl hk), List.getElem?_append_left hk]
  · have h0 := (OInv.refl hr).pre (pre_app H L)
    obtain ⟨C2, mv2, lv2, hO, hI, hl, hf⟩ := h0.sums (ss := ss) (by omega) hs
    have hlv : ∀ k, H.length ≤ k → slId lv ≠ some k := fun k hk e => by
      rcases hr.lst with ⟨rfl, _⟩ | ⟨j, u, rfl, h2, _⟩
      · cases e
      · simp only [slId, Option.some.injEq] at e; have := lt_of_some h2; omega
    refine ⟨C2, hO, fun k hk => ?_, by simpa using hl, fun D r r1 hlD hD hR => ?_⟩
    · rw [(hf (H.length + k) (by simp; omega) (by omega) (hlv _ (by omega))).1, app_get]
    · refine (hI.agree hlD fun j hj => ?_).weak fun ρ σ n _ _ => hR ρ σ n
      rcases hj with hj | hj
      · exact hD j (by simp at hl; omega) (.inl hj)
      · refine hD j (hI.rep.slt hj) ?_
        by_cases h1 : j < H.length
        · exact .inl h1
        · right
          by_cases h2 : j < (H ++ L).length
          · exact absurd hj (hf j h2 (by omega) (hlv _ (by omega))).2
          · simpa using h2

theorem node_sum.ok (args : List AVal) (H : AHeap) (r : AVal) (H' : AHeap) (h : S_node_sum args H r H') : ∃ x0 x1, args = [x0, x1] ∧ node_sum.w x0 x1 H fun r1 H1 => Weak H r1 H1 r H' := by
  obtain ⟨o, s, rfl, hs, rfl, h⟩ := h
  refine ⟨_, _, rfl, ?_⟩
  unfold node_sum.w
  have hsl := sum_len s
  refine hb_i rfl ?_
  obtain ⟨C2, hO, hL, hl, hW⟩ := sums_call h (by simpa using hs) [.cells 0 .exact (List.replicate 32 (.int .u8 0))]
  have hL0 := hL 0 (by decide)
  simp only [Nat.add_zero, List.getElem?_cons_zero] at hL0
  simp only [List.length_cons, List.length_nil, Nat.zero_add] at hl hW
  have fin : ∀ C3 : AHeap, C3 = C2 → sb (aStore C3 32 (.ptr ⟨H.length, 0, 0⟩) (.agg ((sum s).map ofByte))) fun H7 => fin .ret [.c true 32 (.ptr ⟨H.length, 0, 0⟩)] H7 fun r1 H1 => Weak H r1 H1 (.agg ((sum s).map ofByte)) H' := by
    rintro C3 rfl
    simp (disch := first | omega | (simp only [evS]; done) | (simp only [len_map, len_rep, hsl]; done) | fail) only [ev, evH, hL0]
    refine fin_ret (vs := [.agg ((sum s).map ofByte)]) (rvs_c (e_loadAll (by rw [List.getElem?_set_self (by omega)]) (by simp [hsl])) (rvs_nil _)) ?_
    exact hW _ _ _ (by simp; omega) (fun j _ hj => List.getElem?_set_ne (by omega)) (agg_plain (bytes_plain _))
  rcases h with ⟨rfl, rfl⟩ | ⟨i, v, m, mv, lv, T, rfl, hr, hT, h⟩
  · simp only [ev]
    refine cb_i _ _ ⟨s, rfl, hs, rfl, rfl⟩ (fin _ ?_)
    rcases hO with ⟨_, e⟩ | ⟨_, _, _, _, _, _, e, _⟩
    · exact e.symm
    · cases e
  · simp only [ev]
    exact cb_i _ _ ⟨_, s, rfl, hs, rfl, hO⟩ (fin _ rfl)

theorem leaf_like {o : AVal} {s : List UInt8} {b : UInt8} {H H' : AHeap} {r : AVal} (W : AVal → AVal → AHeap → (AVal → AHeap → Prop) → Prop)
    (hW : ∀ x0 x1 H K, W x0 x1 H K = (hb (aAlloc H (List.replicate 32 (.int .u8 0))) fun v1 H2 =>
      vb (lenSt x1) fun v3 => vb (aBin .neq v3 (.int .i64 64)) fun v4 => isB v4 fun b5 => cond b5
        (vb (aBuild (List.replicate 32 (.int .u8 0)) (fun k => some (k * 1, 1)) []) fun v6 => sb (aStore H2 32 v1 v6) fun H7 => fin .ret [.c true 32 (v1), .v (.int .i64 6)] H7 K)
        (vb (aBin .add (.str [b]) x1) fun v8 => cb (S_node_sum [x0, v8] H2) fun v9 H10 => sb (aStore H10 32 v1 v9) fun H11 => fin .ret [.c true 32 (v1), .v (.int .i64 0)] H11 K)))
    (h : (s.length ≠ 64 ∧ r = .tup [zero32, .int .i64 6] ∧ H' = H) ∨ (s.length = 64 ∧ r = .tup [.agg ((sum (b :: s)).map ofByte), .int .i64 0] ∧ Osums H o [b :: s] H')) :
    W o (.str s) H fun r1 H1 => Weak H r1 H1 r H' := by
  rw [hW]
  refine hb_i rfl ?_
  rcases h with ⟨h1, rfl, rfl⟩ | ⟨h1, rfl, h⟩
  · have hz : zero32 = .agg (List.replicate 32 (.int .u8 0)) := rfl
    simp (disch := first | omega | (simp only [evS]; done) | (simp only [len_map, len_rep]; done) | fail) only [ev, evH, evB, isB_tE, isB_fE, zero32_build, hz]
    refine fin_ret (vs := [zero32, .int .i64 6]) (rvs_c (e_loadAll (H := H' ++ [AObj.cells 0 .exact (List.replicate 32 (.int .u8 0))]) (i := H'.length) (v := 0) (kd := .exact) (by rw [app_get0]; rfl) List.length_replicate) (rvs_v (rvs_nil _))) ?_
    exact Weak.any (ren_pair (agg_plain zero32_plain) (ren_p rfl)) (pre_app _ _)
  · have hsl := sum_len (b :: s)
    obtain ⟨C2, hO, hL, hl, hw⟩ := sums_call h (by simp; omega) [.cells 0 .exact (List.replicate 32 (.int .u8 0))]
    have hL0 := hL 0 (by decide)
    simp only [Nat.add_zero, List.getElem?_cons_zero] at hL0
    simp only [List.length_cons, List.length_nil, Nat.zero_add] at hl hw
    simp (disch := first | omega | (simp only [List.length_cons, List.length_nil]; omega) | fail) only [ev, isB_tE, isB_fE, List.cons_append, List.nil_append]
    refine cb_i _ _ ⟨o, b :: s, rfl, by simp; omega, rfl, hO⟩ ?_
    simp (disch := first | omega | (simp only [evS]; done) | (simp only [len_map, len_rep, hsl]; done) | fail) only [ev, evH, hL0]
    refine fin_ret (vs := [.agg ((sum (b :: s)).map ofByte), .int .i64 0]) (rvs_c (e_loadAll (by rw [List.getElem?_set_self (by omega)]) (by simp [hsl])) (rvs_v (rvs_nil _))) ?_
    exact hw _ _ _ (by simp; omega) (fun j _ hj => List.getElem?_set_ne (by omega)) (ren_pair (agg_plain (bytes_plain _)) (ren_p rfl))

theorem node_Leaf.ok (args : List AVal) (H : AHeap) (r : AVal) (H' : AHeap) (h : S_node_Leaf args H r H') : ∃ x0 x1, args = [x0, x1] ∧ node_Leaf.w x0 x1 H fun r1 H1 => Weak H r1 H1 r H' := by
  obtain ⟨o, s, rfl, h⟩ := h
  exact ⟨_, _, rfl, leaf_like node_Leaf.w (fun _ _ _ _ => rfl) h⟩
theorem node_Node.ok (args : List AVal) (H : AHeap) (r : AVal) (H' : AHeap) (h : S_node_Node args H r H') : ∃ x0 x1, args = [x0, x1] ∧ node_Node.w x0 x1 H fun r1 H1 => Weak H r1 H1 r H' := by
  obtain ⟨o, s, rfl, h⟩ := h
  exact ⟨_, _, rfl, leaf_like node_Node.w (fun _ _ _ _ => rfl) h⟩

theorem node_may.ok (args : List AVal) (H : AHeap) (r : AVal) (H' : AHeap) (h : S_node_may args H r H') : ∃ x0 x1, args = [x0, x1] ∧ node_may.w x0 x1 H fun r1 H1 => Weak H r1 H1 r H' := by
  obtain ⟨s, k, rfl, rfl, rfl⟩ := h
  refine ⟨_, _, rfl, ?_⟩
  unfold node_may.w mayR
  simp only [ev]
  refine isB_d (fun h1 => ?_) (fun h1 => ?_)
  · rw [cond_true, if_pos (by omega)]
    exact fin_ret (vs := [.int .i64 6]) (rvs_v (rvs_nil _)) (Weak.plain rfl (List.prefix_refl _))
  · rw [cond_false, if_neg (by omega)]
    refine isB_d (fun h2 => ?_) (fun h2 => ?_)
    · rw [cond_true, if_pos (by omega)]
      exact fin_ret (vs := [.int .i64 3]) (rvs_v (rvs_nil _)) (Weak.plain rfl (List.prefix_refl _))
    · rw [cond_false]
      refine isB_d (fun h3 => ?_) (fun h3 => ?_)
      · rw [cond_true, if_pos (by omega)]
        exact fin_ret (vs := [.int .i64 3]) (rvs_v (rvs_nil _)) (Weak.plain rfl (List.prefix_refl _))
      · rw [cond_false, if_neg (by omega)]
        exact fin_ret (vs := [.int .i64 0]) (rvs_v (rvs_nil _)) (Weak.plain rfl (List.prefix_refl _))
end Go.Sh

/- Split, With, Side. -/
namespace Go.Sh
open Go Go.Abs

theorem mayR_0 {s : List UInt8} {k : Int} (h : mayR s k = 0) : s.length = 64 ∧ (k = 0 ∨ k = 1) := by
  unfold mayR at h
  split at h
  · omega
  · split at h <;> omega
theorem half_len {s : List UInt8} {k : Int} (h : mayR s k = 0) : (half s k).length = 32 := by
  have := mayR_0 h
  unfold half
  rw [List.length_take, List.length_drop]
  omega

/-- copy(d[:], s) of a new array -/
theorem copy_arr {H : AHeap} {q : Nat} {s : List UInt8} (h : H[q]? = some (.cells 0 .exact (List.replicate 32 (.int .u8 0)))) (hs : 32 ≤ s.length) :
    aCopy H 1 (.slice ⟨q, 0, 0⟩ 32 (.ex 32)) (.str s) = some (.int .i64 32, H.set q (.cells 0 .exact ((s.take 32).map ofByte))) := by
  have hm : min s.length 32 = 32 := by omega
  simp only [aCopy, srcLen, srcCells, hm]
  have hl : ((s.take 32).map ofByte).length = 32 := by simp; omega
  have hw : wrCells H ⟨q, 0, 0⟩ ((s.take 32).map ofByte) = some (H.set q (.cells 0 .exact (splice (List.replicate 32 (.int .u8 0)) 0 ((s.take 32).map ofByte)))) :=
    wr_of (r := ⟨q, 0, 0⟩) h rfl (by decide) (by simp; omega) (cells_byte _)
  rw [hw, splice_whole (by rw [hl]; rfl)]
  rfl

theorem node_Split.ok (args : List AVal) (H : AHeap) (r : AVal) (H' : AHeap) (h : S_node_Split args H r H') : ∃ x0 x1, args = [x0, x1] ∧ node_Split.w x0 x1 H fun r1 H1 => Weak H r1 H1 r H' := by
  obtain ⟨s, k, rfl, rfl, h⟩ := h
  refine ⟨_, _, rfl, ?_⟩
  unfold node_Split.w
  refine hb_i rfl (hb_i rfl (cb_i _ _ ⟨s, k, rfl, rfl, rfl⟩ ?_))
  rcases h with ⟨h0, rfl⟩ | ⟨h0, rfl⟩
  · have hz : zero32 = .agg (List.replicate 32 (.int .u8 0)) := rfl
    simp (disch := first | omega | (simp only [evS]; done) | (simp only [len_map, len_rep]; done) | fail) only [ev, evH, evB, isB_tE, isB_fE, List.append_assoc, List.cons_append, List.nil_append, List.length_append, List.length_cons, List.length_nil, Nat.zero_add]
    refine fin_ret (vs := [zero32, .int .i64 (mayR s k)]) (rvs_c (e_loadAll (i := H'.length) (v := 0) (kd := .exact) (by rw [app_get0]; rfl) List.length_replicate) (rvs_v (rvs_nil _))) ?_
    exact Weak.any (ren_pair (agg_plain zero32_plain) (ren_p rfl)) (pre_app _ _)
  · obtain ⟨h1, h2⟩ := mayR_0 h0
    rw [h0]
    have hd : 32 ≤ (s.drop (32 * k).toNat).length := by rw [List.length_drop]; omega
    have hh := half_len h0
    have hk : (32 * k).toNat = 32 * k.toNat := by omega
    simp (disch := first | omega | fail) only [ev, isB_fE]
    refine vb_i (v := .slice ⟨H'.length + 1, 0, 0⟩ 32 (.ex 32)) ?_ ?_
    · simp [aSliceArr, bnd]
    · skip
      refine hb_i (copy_arr (by simp) hd) ?_
      have hcl : ((s.drop (32 * k).toNat).take 32).length = 32 := by rw [List.length_take]; omega
      simp (disch := first | omega | (simp only [evS]; done) | (simp only [len_map, len_rep, hcl]; done) | fail) only [ev, evH, evB, List.append_assoc, List.cons_append, List.nil_append, List.length_append, List.length_cons, List.length_nil, Nat.zero_add]
      refine fin_ret (vs := [.agg ((half s k).map ofByte), .int .i64 0]) (rvs_c ?_ (rvs_v (rvs_nil _))) ?_
      · rw [hk]
        exact e_loadAll (app_get0 _ _) (by simp [hh])
      exact Weak.any (ren_pair (agg_plain (bytes_plain _)) (ren_p rfl)) (pre_app _ _)

/-- The text of an array. -/
theorem arr_str {H : AHeap} {q v n : Nat} {kd : Kd} {l : List UInt8} (h : H[q]? = some (.cells v kd (l.map ofByte))) (hl : l.length = n) : aBytes2Str H (.slice ⟨q, v, 0⟩ n (.ex n)) = some (.str l) := by
  simp only [aBytes2Str]
  rw [rd_of (r := ⟨q, v, 0⟩) h rfl (fun _ => by simp [hl])]
  simp only [List.drop_zero]
  rw [List.take_of_length_le (by simp [hl])]
  simp only [bytesOf_map]
theorem sliceArr_all (n q v : Nat) (es : Nat) : aSliceArr n es (.ptr ⟨q, v, 0⟩) none none none = some (.slice ⟨q, v, 0⟩ n (.ex n)) := by
  simp [aSliceArr, bnd]

theorem node_With.ok (args : List AVal) (H : AHeap) (r : AVal) (H' : AHeap) (h : S_node_With args H r H') : ∃ x0 x1 x2, args = [x0, x1, x2] ∧ node_With.w x0 x1 x2 H fun r1 H1 => Weak H r1 H1 r H' := by
  obtain ⟨s, k, d, rfl, hd, rfl, h⟩ := h
  refine ⟨_, _, _, rfl, ?_⟩
  unfold node_With.w
  refine hb_i (e_box rfl) (cb_i _ _ ⟨s, k, rfl, rfl, rfl⟩ ?_)
  have hcl : (AVal.agg (d.map ofByte)).cells = d.map ofByte := rfl
  rw [hcl]
  have hg : (H' ++ [AObj.cells 0 .exact (d.map ofByte)])[H'.length]? = some (.cells 0 .exact (d.map ofByte)) := by simp
  rcases h with ⟨h0, rfl⟩ | ⟨h0, rfl⟩
  · simp (disch := first | omega | fail) only [ev, isB_tE]
    exact fin_ret (vs := [.str [], .int .i64 (mayR s k)]) (rvs_v (rvs_v (rvs_nil _))) (Weak.any (ren_pair (ren_p rfl) (ren_p rfl)) (pre_app _ _))
  · obtain ⟨h1, h2⟩ := mayR_0 h0
    rw [h0]
    have e1 : (s.drop 32).length = 32 := by rw [List.length_drop]; omega
    have e2 : (s.take 32).length = 32 := by rw [List.length_take]; omega
    rcases h2 with rfl | rfl
    · simp (disch := first | omega | fail) only [ev, isB_tE, isB_fE, sliceArr_all, arr_str hg hd, show (32 : Int).toNat = 32 from rfl]
      exact fin_ret (vs := [.str (d ++ s.drop 32), .int .i64 0]) (rvs_v (rvs_v (rvs_nil _))) (Weak.any (ren_pair (ren_p rfl) (ren_p rfl)) (pre_app _ _))
    · simp (disch := first | omega | fail) only [ev, isB_tE, isB_fE, sliceArr_all, arr_str hg hd, show (32 : Int).toNat = 32 from rfl]
      exact fin_ret (vs := [.str (s.take 32 ++ d), .int .i64 0]) (rvs_v (rvs_v (rvs_nil _))) (Weak.any (ren_pair (ren_p rfl) (ren_p rfl)) (pre_app _ _))

theorem find_none {p : Nat → Bool} : ∀ {l : List Nat}, (∀ j ∈ l, p j = false) → l.find? p = none
  | [], _ => rfl
  | x :: l, h => by
    rw [List.find?_cons_of_neg (by rw [h x List.mem_cons_self]; decide)]
    exact find_none fun j hj => h j (List.mem_cons_of_mem _ hj)
theorem find_range {p : Nat → Bool} {j : Nat} (hp : p j = true) : ∀ (n : Nat), j < n → (∀ k, k < j → p k = false) → (List.range n).find? p = some j := by
  intro n hj hk
  have e : List.range n = List.range j ++ (List.range' j (n - j)) := by
    have h1 : List.range j = List.range' 0 j := List.range_eq_range'
    have h2 : List.range n = List.range' 0 n := List.range_eq_range'
    have h3 := List.range'_append (s := 0) (m := j) (n := n - j) (step := 1)
    rw [h1, h2]
    rw [show n = j + (n - j) by omega]
    simpa using h3.symm
  rw [e, List.find?_append, find_none (fun k hk' => hk k (List.mem_range.1 hk'))]
  rw [show n - j = (n - j - 1) + 1 by omega, List.range'_succ, Option.none_or, List.find?_cons_of_pos hp]
theorem hit_some {k : Nat} {n : Int} {j : Nat} (hj : j < 6) (h : (up k (j + 1) : Int) = n) (hn : ∀ i, i < j → (up k (i + 1) : Int) ≠ n) : hit k n = some j :=
  find_range (p := fun j => decide ((up k (j + 1) : Int) = n)) (by simpa using h) 6 hj fun i hi => by simpa using hn i hi
theorem hit_none {k : Nat} {n : Int} (hn : ∀ i, i < 6 → (up k (i + 1) : Int) ≠ n) : hit k n = none :=
  find_none fun j hj => by simpa using hn j (List.mem_range.1 hj)

theorem up_le (m j : Nat) : up m j ≤ m + 63 := by unfold up; have := Nat.div_le_self (m + 64) (2 ^ j); omega

theorem node_Side.ok (args : List AVal) (H : AHeap) (r : AVal) (H' : AHeap) (h : S_node_Side args H r H') : ∃ x0 x1, args = [x0, x1] ∧ node_Side.w x0 x1 H fun r1 H1 => Weak H r1 H1 r H' := by
  obtain ⟨k, n, rfl, rfl, rfl⟩ := h
  refine ⟨_, _, rfl, ?_⟩
  unfold node_Side.w
  refine JoinP.mk (fun e vs B => B = H' ∧ ((e = .ret ∧ vs = [.int .i64 0, .int .i64 3] ∧ (k < 0 ∨ 64 ≤ k)) ∨ (e = .normal ∧ ¬ (k < 0 ∨ 64 ≤ k)))) ?_ ?_
  · simp only [ev]
    refine isB_d (fun h1 => ?_) (fun h1 => ?_)
    · exact ⟨by trivial, .inl ⟨by trivial, by trivial, by omega⟩⟩
    · rw [cond_false]
      refine isB_d (fun h2 => ?_) (fun h2 => ?_)
      · exact ⟨by trivial, .inl ⟨by trivial, by trivial, by omega⟩⟩
      · exact ⟨by trivial, .inr ⟨by trivial, by omega⟩⟩
  · rintro e vs B ⟨rfl, ⟨rfl, rfl, hb⟩ | ⟨rfl, hb⟩⟩
    · simp only [onE_rn, onE_same, evB]
      refine fin_ret (vs := [.int .i64 0, .int .i64 3]) (rvs_v (rvs_v (rvs_nil _))) ?_
      have e : sideR k n = [.int .i64 0, .int .i64 3] := if_pos hb
      rw [e]
      exact Weak.refl (ren_pair (ren_p rfl) (ren_p rfl))
    · rw [onE_same]
      obtain ⟨m, rfl⟩ : ∃ m : Nat, k = m := ⟨k.toNat, by omega⟩
      have hm : m < 64 := by omega
      simp (disch := first | omega | fail) only [ev]
      have hu0 : ((m : Int) + 63) = ((up m 0 : Nat) : Int) := by rw [up_zero]; omega
      rw [hu0]
      refine LoopP.ruleG (α := Nat) (fun a => [.int .i64 (up m a : Nat)]) (fun a C => C = B ∧ a ≤ 6 ∧ ∀ i, i < a → (up m (i + 1) : Int) ≠ n) (fun a => 6 - a) 0 rfl ⟨rfl, Nat.zero_le _, fun i hi => by omega⟩ ?_
      rintro j C Kn ⟨rfl, hj, hno⟩ hn
      unfold node_Side.L4 node_Side.L4.b
      simp only [evB, ev]
      by_cases hj6 : j < 6
      · obtain ⟨p1, p2⟩ := up_pos m j hm hj6
        have hup := up_next m j p2
        have hub := up_le m j
        have hval : (((up m j : Nat) : Int) - 1) / 2 = ((up m (j + 1) : Nat) : Int) := by rw [hup]; omega
        refine isB_t (by omega) ?_
        rw [cond_true]
        simp (disch := first | omega | fail) only [ev, hval]
        refine isB_d (fun h1 => ?_) (fun h1 => ?_)
        · simp only [cond_true]
          have e : sideR m n = [.int .i64 ((up m j + 1) % 2 : Nat), .int .i64 0] := by
            unfold sideR
            rw [if_neg hb, Int.toNat_natCast, hit_some hj6 h1 hno]
          rw [e]
          refine fin_ret (vs := [.int .i64 ((((up m j : Nat) : Int) + 1) % 2), .int .i64 0]) (rvs_v (rvs_v (rvs_nil _))) ?_
          have : (((up m j : Nat) : Int) + 1) % 2 = (((up m j + 1) % 2 : Nat) : Int) := by omega
          rw [this]
          exact Weak.refl (ren_pair (ren_p rfl) (ren_p rfl))
        · simp only [cond_false]
          exact hn (j + 1) _ ⟨rfl, by omega, fun i hi => by
            by_cases e : i = j
            · subst e; exact h1
            · exact hno i (by omega)⟩ (by omega)
      · have : j = 6 := by omega
        subst this
        refine isB_f (by rw [up_six m hm]; decide) ?_
        simp only [cond_false, onE_same, evB]
        have e : sideR m n = [.int .i64 0, .int .i64 3] := by
          unfold sideR
          rw [if_neg hb, Int.toNat_natCast, hit_none hno]
        rw [e]
        refine fin_ret (vs := [.int .i64 0, .int .i64 3]) (rvs_v (rvs_v (rvs_nil _))) ?_
        exact Weak.refl (ren_pair (ren_p rfl) (ren_p rfl))
end Go.Sh

/- What must come at any rate; the laws of splits and sums. -/
namespace Go.Sh
open Go Go.Abs

theorem view_ex {B : AHeap} {q n es : Nat} {l : List AVal} (h : B[q]? = some (.cells 0 .exact l)) (hl : l.length = n * es) : View B (.slice ⟨q, 0, 0⟩ n (.ex n)) es n l :=
  ⟨hl, .inr ⟨q, 0, 0, _, _, _, rfl, h, fun _ => by omega, by rw [List.drop_zero, ← hl, List.take_length], Nat.le_refl _⟩⟩
/-- a store of a whole array -/
theorem store32 {H : AHeap} {q : Nat} {cs xs : List AVal} (h : H[q]? = some (.cells 0 .exact cs)) (hl : cs.length = 32) (hx : xs.length = 32) (hc : xs.all AVal.isCell = true) :
    aStore H 32 (.ptr ⟨q, 0, 0⟩) (.agg xs) = some (H.set q (.cells 0 .exact xs)) := e_storeAll h (by decide) hx hl hc

theorem store_new {H : AHeap} {n : Nat} {cs xs : List AVal} (hl : cs.length = n) (hx : xs.length = n) (hc : xs.all AVal.isCell = true) :
    aStore (H ++ [.cells 0 .exact cs]) n (.ptr ⟨H.length, 0, 0⟩) (.agg xs) = some (H ++ [.cells 0 .exact xs]) := by
  rw [e_storeAll (app_get0 _ _) (by decide) hx hl hc, app_set0]; rfl
theorem load_new {H : AHeap} {n : Nat} {cs : List AVal} (hl : cs.length = n) : aLoad (H ++ [.cells 0 .exact cs]) true n (.ptr ⟨H.length, 0, 0⟩) = some (.agg cs) := e_loadAll (app_get0 _ _) hl

end Go.Sh

/- The laws of splits and sums. -/
namespace Go.Sh
open Go Go.Abs

theorem fin_bool {H H' : AHeap} {v : AVal} (h : v = .bool true) (p : H' <+: H) : fin .ret [.v v] H fun r1 H1 => Weak H' r1 H1 (.bool true) H' := by
  subst h
  exact fin_ret (vs := [.bool true]) (rvs_v (rvs_nil _)) (Weak.plain rfl p)

end Go.Sh

/- The law of sums; the law of ways. -/
namespace Go.Sh
open Go Go.Abs

theorem belowR_bad {n s : Int} (h : n < 0 ∨ 63 ≤ n ∨ s < 0 ∨ 1 < s) : belowR n s = [.int .i64 0, .bool false, .int .i64 3] := if_pos h
theorem belowR_in {n s : Int} (h : ¬ (n < 0 ∨ 63 ≤ n ∨ s < 0 ∨ 1 < s)) (k : 2 * n + 1 + s < 63) : belowR n s = [.int .i64 (2 * n + 1 + s), .bool false, .int .i64 0] := by
  unfold belowR; rw [if_neg h, if_pos k]
theorem belowR_leaf {n s : Int} (h : ¬ (n < 0 ∨ 63 ≤ n ∨ s < 0 ∨ 1 < s)) (k : ¬ 2 * n + 1 + s < 63) : belowR n s = [.int .i64 (2 * n + 1 + s - 63), .bool true, .int .i64 0] := by
  unfold belowR; rw [if_neg h, if_neg k]

theorem below_ok (n s : Int) : ∃ (a b e : AVal), belowR n s = [a, b, e] ∧ (((n < 0 ∨ 63 ≤ n ∨ s < 0 ∨ 1 < s) ∧ a = .int .i64 0 ∧ b = .bool false ∧ e = .int .i64 3) ∨
    (¬ (n < 0 ∨ 63 ≤ n ∨ s < 0 ∨ 1 < s) ∧ 2 * n + 1 + s < 63 ∧ a = .int .i64 (2 * n + 1 + s) ∧ b = .bool false ∧ e = .int .i64 0) ∨
    (¬ (n < 0 ∨ 63 ≤ n ∨ s < 0 ∨ 1 < s) ∧ ¬ 2 * n + 1 + s < 63 ∧ a = .int .i64 (2 * n + 1 + s - 63) ∧ b = .bool true ∧ e = .int .i64 0)) := by
  by_cases h : n < 0 ∨ 63 ≤ n ∨ s < 0 ∨ 1 < s
  · exact ⟨_, _, _, belowR_bad h, .inl ⟨h, rfl, rfl, rfl⟩⟩
  · by_cases k : 2 * n + 1 + s < 63
    · exact ⟨_, _, _, belowR_in h k, .inr (.inl ⟨h, k, rfl, rfl, rfl⟩)⟩
    · exact ⟨_, _, _, belowR_leaf h k, .inr (.inr ⟨h, k, rfl, rfl, rfl⟩)⟩

end Go.Sh

/- Functions that leave what was there as it was. -/
namespace Go.Sh
open Go Go.Abs

theorem node_Path.quiet {args : List AVal} {H : AHeap} {r : AVal} {H' : AHeap} (h : S_node_Path args H r H') : H <+: H' := by
  unfold S_node_Path at h; grind [pre_app, pre_of_eq, newO]
theorem node_Side.quiet {args : List AVal} {H : AHeap} {r : AVal} {H' : AHeap} (h : S_node_Side args H r H') : H <+: H' := by
  unfold S_node_Side at h; grind [pre_app, pre_of_eq, newO]
theorem node_may.quiet {args : List AVal} {H : AHeap} {r : AVal} {H' : AHeap} (h : S_node_may args H r H') : H <+: H' := by
  unfold S_node_may at h; grind [pre_app, pre_of_eq, newO]
theorem node_Split.quiet {args : List AVal} {H : AHeap} {r : AVal} {H' : AHeap} (h : S_node_Split args H r H') : H <+: H' := by
  unfold S_node_Split at h; grind [pre_app, pre_of_eq, newO]
theorem node_With.quiet {args : List AVal} {H : AHeap} {r : AVal} {H' : AHeap} (h : S_node_With args H r H') : H <+: H' := by
  unfold S_node_With at h; grind [pre_app, pre_of_eq, newO]
theorem oracle_New.quiet {args : List AVal} {H : AHeap} {r : AVal} {H' : AHeap} (h : S_oracle_New args H r H') : H <+: H' := by
  unfold S_oracle_New at h; grind [pre_app, pre_of_eq, newO]
end Go.Sh
