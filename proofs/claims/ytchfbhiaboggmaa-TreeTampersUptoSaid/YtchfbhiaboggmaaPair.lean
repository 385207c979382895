/- One text of these: Pair0, PairW1, PairP1, PairP2, PairQ. -/
import Derived.Test.YtchfbhiaboggmaaNode

/- Pairs of unlike texts of one sum. -/
namespace Go.Sh
open Go Go.Abs

abbrev D32 := { l : List UInt8 // l.length = 32 }
def d0 : D32 := ⟨List.replicate 32 0, rfl⟩
def dcell (d : D32) : List AVal := d.1.map ofByte
def dcells (dd : List D32) : List AVal := (dd.map dcell).flatten
theorem dcell_len (d : D32) : (dcell d).length = 32 := by simp [dcell, d.2]

def like (l : List (List UInt8)) (dd : List D32) (i k : Nat) : Bool := decide ((dd.getD i d0).1 = (dd.getD k d0).1) && decide (l.getD i [] ≠ l.getD k [])
def ahead (l : List (List UInt8)) (dd : List D32) (k : Nat) : Option Nat := (List.range k).find? fun i => like l dd i k
def pairs (l : List (List UInt8)) (dd : List D32) : Nat → Option (Nat × Nat)
  | 0 => none
  | n + 1 => match pairs l dd n with
    | some p => some p
    | none => (ahead l dd n).map fun i => (i, n)
def pairR (l : List (List UInt8)) (dd : List D32) : List AVal :=
  match pairs l dd (min l.length dd.length) with
  | some (i, k) => [.int .i64 i, .int .i64 k, .bool true]
  | none => [.int .i64 0, .int .i64 0, .bool false]

structure PArgs (H : AHeap) (x y : AVal) (l : List (List UInt8)) (dd : List D32) : Prop where
  vl : View H x 1 l.length (strs l)
  vd : View H y 32 dd.length (dcells dd)
  hl : l.length ≤ 9223372036854775807
  hd : dd.length ≤ 9223372036854775807

def S_oracle_Pair : Abs.Spec := fun args H r H' => ∃ x y l dd, args = [x, y] ∧ PArgs H x y l dd ∧ r = .tup (pairR l dd) ∧ H' = H
def S_oracle_Pair_1 : Abs.Spec := fun args H r H' => ∃ (k j q : Nat) (x y : AVal) (l : List (List UInt8)) (dd : List D32), args = [.int .i64 k, .ptr ⟨j, 0, 0⟩, .ptr ⟨q, 0, 0⟩] ∧ H[j]? = some (.cells 0 .exact [y]) ∧ H[q]? = some (.cells 0 .exact [x]) ∧ PArgs H x y l dd ∧ k < l.length ∧ k < dd.length ∧ H' = H ∧
  r = match ahead l dd k with | some i => .int .i64 i | none => .int .i64 (-1)
def sumD (s : List UInt8) : D32 := ⟨sum s, sum_len s⟩
def sums (T : List (List UInt8)) : List D32 := T.map sumD
def collideR (T : List (List UInt8)) : List AVal :=
  match pairs T (sums T) (min T.length (sums T).length) with
  | some (i, k) => [.str (T.getD i []), .str (T.getD k []), .bool true]
  | none => [.str [], .str [], .bool false]
def S_oracle_Oracle_Collide : Abs.Spec := fun args H r H' => ∃ o, args = [o] ∧ H' = H ∧
  ((o = .nilp ∧ r = .tup [.str [], .str [], .bool false]) ∨ ∃ i v m mv lv T, o = .ptr ⟨i, v, 0⟩ ∧ ORep H i v m mv lv T ∧ T.length ≤ 1073741824 ∧ r = .tup (collideR T))
theorem PArgs.pre {H K : AHeap} {x y : AVal} {l : List (List UInt8)} {dd : List D32} (h : PArgs H x y l dd) (p : H <+: K) : PArgs K x y l dd := ⟨h.vl.pre p, h.vd.pre p, h.hl, h.hd⟩
theorem view_defd {B : AHeap} {x : AVal} {es n : Nat} {cs : List AVal} (h : View B x es n cs) : x.defd = true ∧ x.cells = [x] := by
  rcases h.2 with ⟨rfl, _⟩ | ⟨i, v, off, c, kd, cs', rfl, _⟩ <;> exact ⟨rfl, rfl⟩

theorem strs_at {B B' : AHeap} {x : AVal} {l : List (List UInt8)} (h : View B x 1 l.length (strs l)) {k : Nat} (hk : k < l.length) (p : B <+: B') : ∃ q, aIndexAddr 1 x (.int .i64 k) = some q ∧ aLoad B' false 1 q = some (.str (l.getD k [])) := by
  obtain ⟨q, h1, h2⟩ := h.at1 (k := (k : Int)) (kd := .i64) (by omega) (by omega) p
  rw [Int.toNat_natCast] at h2
  exact ⟨q, h1, by rw [h2]; exact congrArg some (getD_str' hk)⟩
theorem digs_at {B B' : AHeap} {y : AVal} {dd : List D32} (h : View B y 32 dd.length (dcells dd)) {k : Nat} (hk : k < dd.length) (p : B <+: B') : ∃ q, aIndexAddr 32 y (.int .i64 k) = some q ∧ aLoad B' true 32 q = some (.agg ((dd.getD k d0).1.map ofByte)) := by
  obtain ⟨q, h1, h2⟩ := h.atN (k := (k : Int)) (kd := .i64) (by omega) (by omega) p
  rw [Int.toNat_natCast] at h2
  refine ⟨q, h1, ?_⟩
  rw [h2]
  have hg : dd[k]? = some (dd.getD k d0) := by simp [List.getD_eq_getElem?_getD, List.getElem?_eq_getElem hk]
  have := flat_drop (o := 0) (n := 32) dcell_len hg (by decide)
  simp only [Nat.add_zero, List.drop_zero] at this
  refine congrArg (fun z => some (AVal.agg z)) (this.trans ?_)
  rw [List.take_of_length_le (by rw [dcell_len]; exact Nat.le_refl _)]; rfl
end Go.Sh

/- What Go functions come to over abstract values, printed by a program (wtext.py). -/
namespace Go.Sh
open Go Go.Abs

def oracle_Pair_1.L2.b (x0 : AVal) (x1 : AVal) (x2 : AVal) (x7_2 : AVal) (H1 : AHeap) (Kn2 : List AVal → AHeap → Prop) (Ke3 : AExit → List AVal → AHeap → Prop) : Prop :=
 vb (aBin .lss x7_2 x0) fun v4 =>
 isB v4 fun b5 => cond b5
 (vb (aLoad H1 false 1 x1) fun v6 =>
 vb (aIndexAddr 32 v6 x7_2) fun v7 =>
 vb (aLoad H1 true 32 v7) fun v8 =>
 vb (aLoad H1 false 1 x1) fun v9 =>
 vb (aIndexAddr 32 v9 x0) fun v10 =>
 vb (aLoad H1 true 32 v10) fun v11 =>
 vb (aEql false (.agg (List.replicate 32 .int)) H1 v8 v11) fun v12 =>
 isB v12 fun b13 => cond b13
 (vb (aLoad H1 false 1 x2) fun v14 =>
 vb (aIndexAddr 1 v14 x7_2) fun v15 =>
 vb (aLoad H1 false 1 v15) fun v16 =>
 vb (aLoad H1 false 1 x2) fun v17 =>
 vb (aIndexAddr 1 v17 x0) fun v18 =>
 vb (aLoad H1 false 1 v18) fun v19 =>
 vb (aBin .neq v16 v19) fun v20 =>
 isB v20 fun b21 => cond b21
 (Ke3 .ret [x7_2] H1)
 (vb (aBin .add x7_2 (.int .i64 1)) fun v22 =>
 Kn2 [v22] H1))
 (vb (aBin .add x7_2 (.int .i64 1)) fun v23 =>
 Kn2 [v23] H1))
 (Ke3 (.exit 0) [.undef] H1)

def oracle_Pair_1.L2 (x0 : AVal) (x1 : AVal) (x2 : AVal) : Body := fun vs H Kn Ke => oracle_Pair_1.L2.b x0 x1 x2 (vs.getD 0 .undef) H Kn Ke

def oracle_Pair_1.w (x0 : AVal) (x1 : AVal) (x2 : AVal) (H : AHeap) (K : AVal → AHeap → Prop) : Prop :=
 LoopP (oracle_Pair_1.L2 x0 x1 x2) [.int .i64 0] H fun e24 vs25 H26 =>
 onE e24 (.exit 0)
 (fin .ret [.v (.int .i64 (-1))] H26 K)
 (onE e24 .ret
 (fin .ret [.v (vs25.getD 0 .undef)] H26 K)
 (False))

def oracle_Pair.L4.b (v9 : AVal) (v3 : AVal) (v1 : AVal) (x18_4 : AVal) (H10 : AHeap) (Kn11 : List AVal → AHeap → Prop) (Ke12 : AExit → List AVal → AHeap → Prop) : Prop :=
 vb (aBin .lss x18_4 v9) fun v13 =>
 isB v13 fun b14 => cond b14
 (cb (S_oracle_Pair_1 [x18_4, v3, v1] H10) fun v15 H16 =>
 vb (aBin .geq v15 (.int .i64 0)) fun v17 =>
 isB v17 fun b18 => cond b18
 (Ke12 .ret [v15, x18_4, .bool true] H16)
 (vb (aBin .add x18_4 (.int .i64 1)) fun v19 =>
 Kn11 [v19] H16))
 (Ke12 (.exit 0) [.undef, .undef, .undef] H10)

def oracle_Pair.L4 (v9 : AVal) (v3 : AVal) (v1 : AVal) : Body := fun vs H Kn Ke => oracle_Pair.L4.b v9 v3 v1 (vs.getD 0 .undef) H Kn Ke

def oracle_Pair.w (x0 : AVal) (x1 : AVal) (H : AHeap) (K : AVal → AHeap → Prop) : Prop :=
 hb (aBox H x0) fun v1 H2 =>
 hb (aBox H2 x1) fun v3 H4 =>
 vb (aLoad H4 false 1 v1) fun v5 =>
 vb (lenSl v5) fun v6 =>
 vb (aLoad H4 false 1 v3) fun v7 =>
 vb (lenSl v7) fun v8 =>
 vb (aFold aMin2 v6 [v8]) fun v9 =>
 LoopP (oracle_Pair.L4 v9 v3 v1) [.int .i64 0] H4 fun e20 vs21 H22 =>
 onE e20 (.exit 0)
 (fin .ret [.v (.int .i64 0), .v (.int .i64 0), .v (.bool false)] H22 K)
 (onE e20 .ret
 (fin .ret [.v (vs21.getD 0 .undef), .v (vs21.getD 1 .undef), .v (vs21.getD 2 .undef)] H22 K)
 (False))

end Go.Sh

/- Pairs: the functions come to what is told. -/
namespace Go.Sh
open Go Go.Abs

theorem ahead_some {l : List (List UInt8)} {dd : List D32} {i k : Nat} (hi : i < k) (h : like l dd i k = true) (hn : ∀ j, j < i → like l dd j k = false) : ahead l dd k = some i :=
  find_range (p := fun i => like l dd i k) h k hi hn
theorem ahead_none {l : List (List UInt8)} {dd : List D32} {k : Nat} (hn : ∀ j, j < k → like l dd j k = false) : ahead l dd k = none :=
  find_none fun j hj => hn j (List.mem_range.1 hj)
theorem pairs_none {l : List (List UInt8)} {dd : List D32} : ∀ {n : Nat}, (∀ k, k < n → ahead l dd k = none) → pairs l dd n = none
  | 0, _ => rfl
  | n + 1, h => by
    simp only [pairs]
    rw [pairs_none fun k hk => h k (by omega), h n (by omega)]; rfl
theorem pairs_some {l : List (List UInt8)} {dd : List D32} {i k : Nat} (h : ahead l dd k = some i) (hn : ∀ j, j < k → ahead l dd j = none) : ∀ {n : Nat}, k < n → pairs l dd n = some (i, k)
  | 0, hk => by omega
  | n + 1, hk => by
    simp only [pairs]
    by_cases e : k = n
    · subst e
      rw [pairs_none hn, h]; rfl
    · rw [pairs_some h hn (n := n) (by omega)]

theorem oracle_Pair_1.ok (args : List AVal) (H : AHeap) (r : AVal) (H' : AHeap) (h : S_oracle_Pair_1 args H r H') : ∃ x0 x1 x2, args = [x0, x1, x2] ∧ oracle_Pair_1.w x0 x1 x2 H fun r1 H1 => Weak H r1 H1 r H' := by
  obtain ⟨k, j, q, x, y, l, dd, rfl, hj, hq, hp, hkl, hkd, rfl, rfl⟩ := h
  refine ⟨_, _, _, rfl, ?_⟩
  unfold oracle_Pair_1.w
  have hl := hp.hl
  refine LoopP.ruleG (α := Nat) (fun i => [.int .i64 i]) (fun i B => B = H' ∧ i ≤ k ∧ ∀ j, j < i → like l dd j k = false) (fun i => k - i) 0 rfl ⟨rfl, Nat.zero_le _, fun j hj => by omega⟩ ?_
  rintro i B Kn ⟨rfl, hi, hno⟩ hn
  unfold oracle_Pair_1.L2 oracle_Pair_1.L2.b
  simp only [evB]
  have l1 : aLoad B false 1 (.ptr ⟨j, 0, 0⟩) = some y := e_load1 hj (by simp)
  have l2 : aLoad B false 1 (.ptr ⟨q, 0, 0⟩) = some x := e_load1 hq (by simp)
  by_cases hik : i < k
  · obtain ⟨a1, a2, a3⟩ := digs_at hp.vd (k := i) (by omega) (List.prefix_refl _)
    obtain ⟨b1, b2, b3⟩ := digs_at hp.vd (k := k) hkd (List.prefix_refl _)
    obtain ⟨c1, c2, c3⟩ := strs_at hp.vl (k := i) (by omega) (List.prefix_refl _)
    obtain ⟨e1, e2, e3⟩ := strs_at hp.vl (k := k) hkl (List.prefix_refl _)
    have go : like l dd i k = false → Kn [.int .i64 ((i : Int) + 1)] B := fun hf => hn (i + 1) _ ⟨rfl, by omega, fun j hj => by
      by_cases e : j = i
      · subst e; exact hf
      · exact hno j (by omega)⟩ (by omega)
    repeat with_reducible first
    | (refine isB_ct ?_ ?_; (· first | omega | rfl | assumption | trivial))
    | refine vb_i (lss64 _ _ _) ?_
    refine vb_i l1 (vb_i a2 (vb_i a3 (vb_i l1 (vb_i b2 (vb_i b3 ?_)))))
    refine vb_i (e_eqBytes (dd.getD i d0).2 (dd.getD k d0).2) ?_
    refine isB_c (fun h1 => ?_) (fun h1 => ?_)
    · refine vb_i l2 (vb_i c2 (vb_i c3 (vb_i l2 (vb_i e2 (vb_i e3 ?_)))))
      refine vb_i (neqs _ _) ?_
      refine isB_c (fun h2 => ?_) (fun h2 => ?_)
      · repeat with_reducible first
        | refine onE_i ?_
        | (refine onE_s ?_ ?_; (· decide))
        have hlk : like l dd i k = true := by simp only [like]; rw [decide_eq_true h1, decide_eq_true h2]; rfl
        rw [ahead_some hik hlk hno]
        exact fin_ret (vs := [.int .i64 i]) (rvs_v (rvs_nil _)) (Weak.plain rfl (List.prefix_refl _))
      · repeat with_reducible (refine vb_i (add64 ?_ ?_) ?_; (· omega); (· omega))
        exact go (by simp only [like]; rw [decide_eq_false h2, Bool.and_false])
    · repeat with_reducible (refine vb_i (add64 ?_ ?_) ?_; (· omega); (· omega))
      exact go (by simp only [like]; rw [decide_eq_false h1, Bool.false_and])
  · have : i = k := by omega
    subst this
    repeat with_reducible first
    | (refine isB_cf ?_ ?_; (· first | omega | assumption))
    | refine onE_i ?_
    | refine vb_i (lss64 _ _ _) ?_
    rw [ahead_none hno]
    exact fin_ret (vs := [.int .i64 (-1)]) (rvs_v (rvs_nil _)) (Weak.plain rfl (List.prefix_refl _))

theorem fold_min {a b : Nat} : aFold aMin2 (.int .i64 a) [.int .i64 b] = some (.int .i64 (min a b : Nat)) := by
  simp only [aFold, aMin2]
  congr 2
  by_cases h : (b : Int) < a
  · rw [if_pos h]; omega
  · rw [if_neg h]; omega

theorem oracle_Pair.ok (args : List AVal) (H : AHeap) (r : AVal) (H' : AHeap) (h : S_oracle_Pair args H r H') : ∃ x0 x1, args = [x0, x1] ∧ oracle_Pair.w x0 x1 H fun r1 H1 => Weak H r1 H1 r H' := by
  obtain ⟨x, y, l, dd, rfl, hp, rfl, rfl⟩ := h
  refine ⟨_, _, rfl, ?_⟩
  unfold oracle_Pair.w
  have hl := hp.hl
  have hd := hp.hd
  have dx := view_defd hp.vl
  have dy := view_defd hp.vd
  refine hb_i (e_box dx.1) ?_
  refine hb_i (e_box dy.1) ?_
  rw [dx.2, dy.2]
  have hp4 := hp.pre ((pre_app H' [AObj.cells 0 .exact [x]]).trans (pre_app _ [AObj.cells 0 .exact [y]]))
  have hx : ((H' ++ [AObj.cells 0 .exact [x]]) ++ [AObj.cells 0 .exact [y]])[H'.length]? = some (.cells 0 .exact [x]) := by rw [List.append_assoc, app_get0]; rfl
  have hy : ((H' ++ [AObj.cells 0 .exact [x]]) ++ [AObj.cells 0 .exact [y]])[(H' ++ [AObj.cells 0 .exact [x]]).length]? = some (.cells 0 .exact [y]) := by rw [app_get0]; rfl
  have pB : H' <+: (H' ++ [AObj.cells 0 .exact [x]]) ++ [AObj.cells 0 .exact [y]] := (pre_app _ _).trans (pre_app _ _)
  generalize (H' ++ [AObj.cells 0 .exact [x]]) ++ [AObj.cells 0 .exact [y]] = B at *
  refine vb_i (e_load1 hx (by simp)) ?_
  refine vb_i (lenSl_view hp4.vl) ?_
  refine vb_i (e_load1 hy (by simp)) ?_
  refine vb_i (lenSl_view hp4.vd) ?_
  refine vb_i fold_min ?_
  refine LoopP.ruleG (α := Nat) (fun k => [.int .i64 k]) (fun k C => C = B ∧ k ≤ min l.length dd.length ∧ ∀ j, j < k → ahead l dd j = none) (fun k => min l.length dd.length - k) 0 rfl ⟨rfl, Nat.zero_le _, fun j hj => by omega⟩ ?_
  rintro k C Kn ⟨rfl, hk, hno⟩ hn
  unfold oracle_Pair.L4 oracle_Pair.L4.b
  simp only [evB]
  by_cases hkn : k < min l.length dd.length
  · have hA : ∀ i, ahead l dd k = some i → i < k := fun i hi => List.mem_range.1 (List.mem_of_find?_eq_some hi)
    repeat with_reducible first
    | (refine isB_ct ?_ ?_; (· first | omega | rfl | assumption | trivial))
    | refine vb_i (lss64 _ _ _) ?_
    refine cb_i _ _ ⟨k, _, _, x, y, l, dd, rfl, hy, hx, hp4, by omega, by omega, rfl, rfl⟩ ?_
    cases ha : ahead l dd k with
    | some i =>
      have := hA i ha
      repeat with_reducible first
      | (refine isB_ct ?_ ?_; (· first | omega | rfl | assumption | trivial))
      | refine onE_i ?_
      | (refine onE_s ?_ ?_; (· decide))
      | refine vb_i (geq64 _ _ _) ?_
      try simp only [evB]
      refine fin_ret (vs := [.int .i64 i, .int .i64 k, .bool true]) (rvs_v (rvs_v (rvs_v (rvs_nil _)))) ?_
      have e : pairR l dd = [.int .i64 i, .int .i64 k, .bool true] := by
        unfold pairR
        rw [pairs_some ha hno hkn]
      rw [e]
      exact Weak.any (tup_plain (plain_cons rfl (plain_cons rfl (plain_cons rfl plain_nil)))) pB
    | none =>
      repeat with_reducible first
      | (refine isB_cf ?_ ?_; (· first | omega | assumption))
      | refine vb_i (geq64 _ _ _) ?_
      | (refine vb_i (add64 ?_ ?_) ?_; (· omega); (· omega))
      exact hn (k + 1) _ ⟨rfl, by omega, fun j hj => by
        by_cases e : j = k
        · subst e; exact ha
        · exact hno j (by omega)⟩ (by omega)
  · have : k = min l.length dd.length := by omega
    repeat with_reducible first
    | (refine isB_cf ?_ ?_; (· first | omega | assumption))
    | refine onE_i ?_
    | refine vb_i (lss64 _ _ _) ?_
    refine fin_ret (vs := [.int .i64 0, .int .i64 0, .bool false]) (rvs_v (rvs_v (rvs_v (rvs_nil _)))) ?_
    have e : pairR l dd = [.int .i64 0, .int .i64 0, .bool false] := by
      unfold pairR
      rw [pairs_none fun j hj => hno j (by omega)]
    rw [e]
    exact Weak.any (tup_plain (plain_cons rfl (plain_cons rfl (plain_cons rfl plain_nil)))) pB

end Go.Sh

/- The laws of pairs and of no oracle. -/
namespace Go.Sh
open Go Go.Abs

end Go.Sh

/- Functions that leave what was there as it was. -/
namespace Go.Sh
open Go Go.Abs

theorem oracle_Pair_1.quiet {args : List AVal} {H : AHeap} {r : AVal} {H' : AHeap} (h : S_oracle_Pair_1 args H r H') : H <+: H' := by
  unfold S_oracle_Pair_1 at h; grind [pre_app, pre_of_eq, newO]
theorem oracle_Pair.quiet {args : List AVal} {H : AHeap} {r : AVal} {H' : AHeap} (h : S_oracle_Pair args H r H') : H <+: H' := by
  unfold S_oracle_Pair at h; grind [pre_app, pre_of_eq, newO]
theorem oracle_Oracle_Collide.quiet {args : List AVal} {H : AHeap} {r : AVal} {H' : AHeap} (h : S_oracle_Oracle_Collide args H r H') : H <+: H' := by
  unfold S_oracle_Oracle_Collide at h; grind [pre_app, pre_of_eq, newO]
end Go.Sh
