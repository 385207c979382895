/- One text of these: TreM, Tre0, TreW1, Imp, TreP1, TreP2, TreP3, TreP4. -/
import Derived.Test.YtchfbhiaboggmaaBar
import Derived.Test.YtchfbhiaboggmaaOver
import Derived.Test.YtchfbhiaboggmaaJrA
import Derived.Test.YtchfbhiaboggmaaAbsH
import Derived.Test.YtchfbhiaboggmaaAbsF

/- Trees of sums: what a node's block is, and what one more leaf changes. -/
namespace Go.Sh
open Go Go.Abs

/-- The block of the j-th node, k + 1 levels above the leaves. -/
def nblk (dd : List D32) (k j : Nat) : List UInt8 := (val dd k (2 * j)).1 ++ (val dd k (2 * j + 1)).1
/-- A node's block. -/
def ndB (dd : List D32) (n : Nat) : List UInt8 := nblk dd (5 - hops n) (n + 1 - 2 ^ hops n)
theorem nblk_len (dd : List D32) (k j : Nat) : (nblk dd k j).length = 64 := by
  unfold nblk
  rw [List.length_append, (val dd k (2 * j)).2, (val dd k (2 * j + 1)).2]
theorem val_sum (dd : List D32) (k j : Nat) : (val dd (k + 1) j).1 = sum (1 :: nblk dd k j) := rfl
theorem path_facts : ∀ k, k < 64 → ∀ i, i < 6 → hops (up k (i + 1)) = 5 - i ∧ up k (i + 1) + 1 - 2 ^ (5 - i) = k / 2 ^ (i + 1) ∧ (up k i + 1) % 2 = (k / 2 ^ i) % 2 ∧ hit k (up k (i + 1)) = some i ∧ up k (i + 1) < 63 := by decide +kernel
theorem node_facts : ∀ n, n < 63 → hops n ≤ 5 ∧ ∀ k, k < 64 → n + 1 - 2 ^ hops n = k / 2 ^ (6 - hops n) → n = up k (6 - hops n) := by decide +kernel
theorem ndB_up (dd : List D32) {k i : Nat} (hk : k < 64) (hi : i < 6) : ndB dd (up k (i + 1)) = nblk dd i (k / 2 ^ (i + 1)) := by
  obtain ⟨h1, h2, _⟩ := path_facts k hk i hi
  unfold ndB
  rw [h1, h2, show 5 - (5 - i) = i by omega]
theorem val_ne {dd : List D32} {k : Nat} (D : D32) : ∀ {i j : Nat}, j ≠ k / 2 ^ i → val (dd.set k D) i j = val dd i j := by
  intro i
  induction i with
  | zero =>
    intro j h
    show (dd.set k D).getD j d0 = dd.getD j d0
    rw [Nat.pow_zero, Nat.div_one] at h
    rw [List.getD_eq_getElem?_getD, List.getD_eq_getElem?_getD, List.getElem?_set_ne (fun e => h e.symm)]
  | succ i ih =>
    intro j h
    have e : k / 2 ^ (i + 1) = k / 2 ^ i / 2 := by rw [Nat.pow_succ, Nat.div_div_eq_div_mul]
    rw [e] at h
    show nodeD _ _ = nodeD _ _
    rw [ih (by omega), ih (by omega)]
theorem nblk_ne {dd : List D32} {k : Nat} (D : D32) {i j : Nat} (h : j ≠ k / 2 ^ (i + 1)) : nblk (dd.set k D) i j = nblk dd i j := by
  have e : k / 2 ^ (i + 1) = k / 2 ^ i / 2 := by rw [Nat.pow_succ, Nat.div_div_eq_div_mul]
  rw [e] at h
  unfold nblk
  rw [val_ne D (by omega), val_ne D (by omega)]
theorem ndB_ne {dd : List D32} {k n : Nat} (D : D32) (hk : k < 64) (hn : n < 63) (h : ∀ i, i < 6 → n ≠ up k (i + 1)) : ndB (dd.set k D) n = ndB dd n := by
  obtain ⟨h1, h2⟩ := node_facts n hn
  unfold ndB
  refine nblk_ne D fun e => h (5 - hops n) (by omega) ?_
  rw [show 5 - hops n + 1 = 6 - hops n by omega] at e ⊢
  exact h2 k hk e
/-- The sum of a side. -/
theorem nblk_half (dd : List D32) (i k : Nat) : half (nblk dd i (k / 2 ^ (i + 1))) (((k / 2 ^ i) % 2 : Nat) : Int) = (val dd i (k / 2 ^ i)).1 := by
  have e : k / 2 ^ (i + 1) = k / 2 ^ i / 2 := by rw [Nat.pow_succ, Nat.div_div_eq_div_mul]
  rw [e]
  generalize k / 2 ^ i = m
  unfold half nblk
  rw [Int.toNat_natCast]
  have l0 := (val dd i (2 * (m / 2))).2
  have l1 := (val dd i (2 * (m / 2) + 1)).2
  rcases Nat.mod_two_eq_zero_or_one m with h | h
  · rw [h, Nat.mul_zero, List.drop_zero, List.take_left' l0, show 2 * (m / 2) = m by omega]
  · rw [h, Nat.mul_one, List.drop_left' l0, List.take_of_length_le (by omega), show 2 * (m / 2) + 1 = m by omega]
/-- A block with another sum on a side. -/
theorem nblk_with (dd : List D32) (i k : Nat) (D : D32) (d : List UInt8) (hd : d = (val (dd.set k D) i (k / 2 ^ i)).1) :
    (if (((k / 2 ^ i) % 2 : Nat) : Int) = 0 then d ++ (nblk dd i (k / 2 ^ (i + 1))).drop 32 else (nblk dd i (k / 2 ^ (i + 1))).take 32 ++ d) = nblk (dd.set k D) i (k / 2 ^ (i + 1)) := by
  have e : k / 2 ^ (i + 1) = k / 2 ^ i / 2 := by rw [Nat.pow_succ, Nat.div_div_eq_div_mul]
  rw [e]
  have hne : ∀ j, j ≠ k / 2 ^ i → val (dd.set k D) i j = val dd i j := fun j h => val_ne D h
  generalize k / 2 ^ i = m at *
  unfold nblk
  have l0 := (val dd i (2 * (m / 2))).2
  have l1 := (val dd i (2 * (m / 2) + 1)).2
  rcases Nat.mod_two_eq_zero_or_one m with h | h
  · rw [if_pos (by omega), List.drop_left' l0, hne (2 * (m / 2) + 1) (by omega), hd, show 2 * (m / 2) = m by omega]
  · rw [if_neg (by omega), List.take_left' l0, hne (2 * (m / 2)) (by omega), hd, show 2 * (m / 2) + 1 = m by omega]
theorem val_at (dd : List D32) {k : Nat} (hk : k < dd.length) (D : D32) : val (dd.set k D) 0 k = D := by
  show (dd.set k D).getD k d0 = D
  rw [List.getD_eq_getElem?_getD, List.getElem?_set_self hk]; rfl
end Go.Sh

/- Trees of sums on a device: what a tree has. -/
namespace Go.Sh
open Go Go.Abs

/-- Objects of 33 cells are as they were (ways that others hold). -/
def Keep33 (H H' : AHeap) : Prop := ∀ (k : Nat) (cs : List AVal), H[k]? = some (.cells 0 .exact cs) → cs.length = 33 → H'[k]? = H[k]?
/-! ### Leaves' blocks -/
/-- A leaf's block: 64 bytes 0 where there is none. -/
def leafB (m : List PutV) (l : Nat) : List UInt8 := (getL m l).getD (zs 64)
def digs (m : List PutV) : List D32 := (List.range 64).map fun l => sumD (0 :: leafB m l)
theorem digs_len (m : List PutV) : (digs m).length = 64 := by simp [digs]
/-- Blocks with one more, or one less. -/
def putM (m : List PutV) (k : Nat) (s : List UInt8) : List PutV := if s = zs 64 then dropL m k else setL m (k, s)
/-- Blocks that may be: by rising leaves, each of 64 bytes, none bare. -/
structure MOk (m : List PutV) : Prop where
  rise : Rising m
  each : ∀ p ∈ m, (0 ≤ p.1 ∧ p.1 < 64) ∧ p.2.length = 64 ∧ p.2 ≠ zs 64
theorem getL_mem {m : List PutV} {a : Int} {s : List UInt8} (h : getL m a = some s) : (a, s) ∈ m := by
  unfold getL at h
  cases hf : m.find? fun p => decide (p.1 = a) with
  | none => rw [hf] at h; cases h
  | some p =>
    rw [hf] at h
    have h1 := List.mem_of_find?_eq_some hf
    have h2 : p.1 = a := by simpa using List.find?_some hf
    have h3 : p.2 = s := by simpa using h
    rw [← h2, ← h3]; exact h1
theorem getL_drop (m : List PutV) (a b : Int) (hr : Rising m) : getL (dropL m a) b = if b = a then none else getL m b := by
  by_cases e : b = a
  · subst e
    rw [if_pos rfl]
    exact getL_none (drop_no m b)
  · rw [if_neg e]
    cases hg : getL m b with
    | none =>
      refine getL_none fun p hp he => ?_
      have := getL_some hr.apart (List.mem_filter.1 hp).1
      rw [he, hg] at this; cases this
    | some s =>
      have h1 := getL_mem hg
      have := getL_some (rise_drop hr a).apart (List.mem_filter.2 ⟨h1, by simpa using e⟩)
      exact this
theorem getL_set (m : List PutV) (a b : Int) (s : List UInt8) (hr : Rising m) : getL (setL m (a, s)) b = if b = a then some s else getL m b := by
  have hp := set_perm m (a, s)
  have hR := rise_set hr (a, s)
  by_cases e : b = a
  · subst e
    rw [if_pos rfl]
    have h1 : ((b, s) : PutV) ∈ setL m (b, s) := hp.mem_iff.2 List.mem_cons_self
    exact getL_some hR.apart h1
  · rw [if_neg e]
    cases hg : getL m b with
    | none =>
      refine getL_none fun p hq he => ?_
      rcases List.mem_cons.1 (hp.mem_iff.1 hq) with h | h
      · rw [h] at he; exact e he.symm
      · have := getL_some hr.apart (List.mem_filter.1 h).1
        rw [he, hg] at this; cases this
    | some t =>
      have h1 : ((b, t) : PutV) ∈ setL m (a, s) := hp.mem_iff.2 (List.mem_cons_of_mem _ (List.mem_filter.2 ⟨getL_mem hg, by simpa using e⟩))
      exact getL_some hR.apart h1
theorem leafB_put {m : List PutV} (h : MOk m) {k l : Nat} {s : List UInt8} : leafB (putM m k s) l = if l = k then s else leafB m l := by
  unfold leafB putM
  by_cases hs : s = zs 64
  · rw [if_pos hs, getL_drop _ _ _ h.rise]
    by_cases e : l = k
    · rw [if_pos (by rw [e]), if_pos e, hs]; rfl
    · rw [if_neg (by omega), if_neg e]
  · rw [if_neg hs, getL_set _ _ _ _ h.rise]
    by_cases e : l = k
    · rw [if_pos (by rw [e]), if_pos e]; rfl
    · rw [if_neg (by omega), if_neg e]
theorem MOk.put {m : List PutV} (h : MOk m) {k : Nat} {s : List UInt8} (hk : k < 64) (hs : s.length = 64) : MOk (putM m k s) := by
  unfold putM
  split
  · exact ⟨rise_drop h.rise _, fun p hp => h.each p (List.mem_filter.1 hp).1⟩
  · rename_i hz
    refine ⟨rise_set h.rise _, fun p hp => ?_⟩
    rcases List.mem_cons.1 ((set_perm m ((k : Int), s)).mem_iff.1 hp) with e | e
    · rw [e]; exact ⟨⟨by dsimp only; omega, by dsimp only; omega⟩, hs, hz⟩
    · exact h.each p (List.mem_filter.1 e).1
theorem digs_put {m : List PutV} (h : MOk m) {k : Nat} {s : List UInt8} : digs (putM m k s) = (digs m).set k (sumD (0 :: s)) := by
  apply List.ext_getElem (by simp [digs])
  intro i h1 h2
  rw [List.getElem_set]
  simp only [digs, List.getElem_map, List.getElem_range, leafB_put h]
  by_cases e : i = k
  · rw [if_pos e, if_pos e.symm]
  · rw [if_neg e, if_neg (fun h => e h.symm)]
theorem digs_val (m : List PutV) {k : Nat} (hk : k < 64) : val (digs m) 0 k = sumD (0 :: leafB m k) := by
  show (digs m).getD k d0 = _
  rw [List.getD_eq_getElem?_getD, List.getElem?_eq_getElem (by rw [digs_len]; exact hk)]
  simp [digs]
/-! ### A tree in memory -/
def tcells (r o : AVal) (d : Int) (root : List UInt8) (s km : AVal) : List AVal := [r, o, .int .i64 d] ++ (root.map ofByte ++ [s, km])
/-- The nodes that are known. -/
def kmP (m : Nat) (l : List PutV) : Part where
  ids := [m]
  ok B := Rising l ∧ ∃ w es, B[m]? = some (.map w (ments es)) ∧ l.Perm es
  loc B C h k := by
    obtain ⟨h1, w, es, h2, h3⟩ := k
    exact ⟨h1, w, es, by rw [h m (by simp)]; exact h2, h3⟩
  live B h i hi := by
    obtain ⟨h1, w, es, h2, h3⟩ := h
    simp at hi; subst hi; exact lt_of_some h2
section
variable {H0 B : AHeap} {own : Nat → Prop} {R : List Part} {r o s km : AVal} {d : Int} {root : List UInt8} {t : Nat}
theorem km_set {m w : Nat} {l l' es : List PutV} (hs : Sep H0 own B (kmP m l :: R)) (hr : Rising l') (hp : l'.Perm es) : Sep H0 own (B.set m (.map w (ments es))) (kmP m l' :: R) := by
  obtain ⟨h2, w0, es0, h4, h5⟩ := hs.head
  have hm := lt_of_some h4
  refine hs.put (by simp) (fun j hj => .inl hj) (fun k _ hk => List.getElem?_set_ne (fun e => hk (by rw [← e]; simp [kmP]))) ?_
  exact ⟨hr, w, es, by rw [List.getElem?_set_self hm], hp⟩
theorem km_new (h : Sep H0 own B R) {K : AVal → AHeap → Prop} (k : ∀ j C, B <+: C → Sep H0 own C (kmP j [] :: R) → K (.map j) C) : hb (aMakeMap B) K :=
  k B.length _ (pre_app _ _) ((h.new (.map 0 [])).as rfl fun h => ⟨List.Pairwise.nil, 0, [], h, List.Perm.refl _⟩)
theorem km_look {m : Nat} {l : List PutV} (h : (kmP m l).ok B) (a : Int) : aLookup B (.int .i64) (.str []) true (.map m) (.int .i64 a) = some (.tup [.str ((getL l a).getD []), .bool (getL l a).isSome]) := by
  obtain ⟨h1, w, es, h2, h3⟩ := h
  exact map_look h2 h1 h3
theorem km_put {m : Nat} {l : List PutV} (h : Sep H0 own B (kmP m l :: R)) (a : Int) (x : List UInt8) {K : AHeap → Prop} (k : ∀ C, Sep H0 own C (kmP m (setL l (a, x)) :: R) → K C) :
    sb (aMapUpdate B (.int .i64) (.map m) (.int .i64 a) (.str x)) K := by
  obtain ⟨h1, w, es, h2, h3⟩ := h.head
  obtain ⟨es', e, hp⟩ := map_put (a := a) h2 h1 h3 x
  exact sb_i e (k _ (km_set h (rise_set h1 _) hp))
theorem tc_len (hr : root.length = 32) : (tcells r o d root s km).length = 37 := by simp [tcells, hr]
theorem tc_root (hg : B[t]? = some (.cells 0 .exact (tcells r o d root s km))) (hr : root.length = 32) {K : AVal → Prop} (k : K (.agg (root.map ofByte))) : vb (aLoad B true 32 (.ptr ⟨t, 0, 3⟩)) K :=
  vb_ldP hg (by rw [tc_len hr]; rfl) (by unfold tcells; rw [List.drop_left' (by rfl), List.take_left' (by simp [hr])]) k
theorem tc_s (hg : B[t]? = some (.cells 0 .exact (tcells r o d root s km))) (hr : root.length = 32) {K : AVal → Prop} (k : K s) : vb (aLoad B false 1 (.ptr ⟨t, 0, 35⟩)) K :=
  vb_ld hg (by unfold tcells; rw [← List.append_assoc, List.getElem?_append_right (by simp [hr])]; simp [hr]) k
theorem tc_k (hg : B[t]? = some (.cells 0 .exact (tcells r o d root s km))) (hr : root.length = 32) {K : AVal → Prop} (k : K km) : vb (aLoad B false 1 (.ptr ⟨t, 0, 36⟩)) K :=
  vb_ld hg (by unfold tcells; rw [← List.append_assoc, List.getElem?_append_right (by simp [hr])]; simp [hr]) k
theorem tset_root (hr : root.length = 32) {x : List UInt8} (hx : x.length = 32) : splice (tcells r o d root s km) 3 (x.map ofByte) = tcells r o d x s km := by
  unfold splice tcells
  rw [List.take_left' (by rfl), List.length_map, hx, ← List.append_assoc, List.drop_left' (by simp [hr]), List.append_assoc]
theorem tset_k (hr : root.length = 32) {x : AVal} : (tcells r o d root s km).set 36 x = tcells r o d root s x := by
  unfold tcells
  rw [← List.append_assoc, List.set_append_right _ _ (by simp [hr])]
  simp [hr]
end
end Go.Sh

/- What Go functions come to over abstract values, printed by a program (wx.py); of each function its own text is what is told of it. -/
namespace Go.Sh
open Go Go.Abs

def geom_NodeAt.w (x0 : AVal) (H : AHeap) (K : AVal → AHeap → Prop) : Prop :=
 JoinP (fun Kj1 => vb (aBin .lss x0 (.int .i64 0)) fun v2 =>
 isB v2 fun b3 => cond b3
 (Kj1 .ret [.int .i64 0, .int .i64 3] H)
 (vb (aBin .geq x0 (.int .i64 63)) fun v4 =>
 isB v4 fun b5 => cond b5
 (Kj1 .ret [.int .i64 0, .int .i64 3] H)
 (Kj1 .normal [.int .i64 0, .int .i64 0] H)))
 (fun e6 vs7 H8 =>
 onE e6 .normal
 (vb (aBin .add (.int .i64 161) x0) fun v9 =>
 fin .ret [.v (v9), .v (.int .i64 0)] H8 K)
 (onE e6 .ret
 (fin .ret [.v (vs7.getD 0 .undef), .v (vs7.getD 1 .undef)] H8 K)
 (False)))

def S_geom_NodeAt : Abs.Spec := fun args H r H' => ∃ x0 : AVal, args = [x0] ∧ (geom_NodeAt.w x0 H fun r1 H1 => r1 = r ∧ H1 = H') ∧ H <+: H'
theorem geom_NodeAt.ok (args : List AVal) (H : AHeap) (r : AVal) (H' : AHeap) (h : S_geom_NodeAt args H r H') : ∃ x0 : AVal, args = [x0] ∧ geom_NodeAt.w x0 H fun r1 H1 => r1 = r ∧ H1 = H' := by
  obtain ⟨x0, h1, h2, _⟩ := h
  exact ⟨x0, h1, h2⟩
theorem geom_NodeAt.quiet {args : List AVal} {H : AHeap} {r : AVal} {H' : AHeap} (h : S_geom_NodeAt args H r H') : H <+: H' := by
  obtain ⟨_, _, _, h⟩ := h
  exact h
def geom_LeafAt.w (x0 : AVal) (H : AHeap) (K : AVal → AHeap → Prop) : Prop :=
 JoinP (fun Kj1 => vb (aBin .lss x0 (.int .i64 0)) fun v2 =>
 isB v2 fun b3 => cond b3
 (Kj1 .ret [.int .i64 0, .int .i64 3] H)
 (vb (aBin .geq x0 (.int .i64 64)) fun v4 =>
 isB v4 fun b5 => cond b5
 (Kj1 .ret [.int .i64 0, .int .i64 3] H)
 (Kj1 .normal [.int .i64 0, .int .i64 0] H)))
 (fun e6 vs7 H8 =>
 onE e6 .normal
 (vb (aBin .add (.int .i64 224) x0) fun v9 =>
 fin .ret [.v (v9), .v (.int .i64 0)] H8 K)
 (onE e6 .ret
 (fin .ret [.v (vs7.getD 0 .undef), .v (vs7.getD 1 .undef)] H8 K)
 (False)))

def S_geom_LeafAt : Abs.Spec := fun args H r H' => ∃ x0 : AVal, args = [x0] ∧ (geom_LeafAt.w x0 H fun r1 H1 => r1 = r ∧ H1 = H') ∧ H <+: H'
theorem geom_LeafAt.ok (args : List AVal) (H : AHeap) (r : AVal) (H' : AHeap) (h : S_geom_LeafAt args H r H') : ∃ x0 : AVal, args = [x0] ∧ geom_LeafAt.w x0 H fun r1 H1 => r1 = r ∧ H1 = H' := by
  obtain ⟨x0, h1, h2, _⟩ := h
  exact ⟨x0, h1, h2⟩
theorem geom_LeafAt.quiet {args : List AVal} {H : AHeap} {r : AVal} {H' : AHeap} (h : S_geom_LeafAt args H r H') : H <+: H' := by
  obtain ⟨_, _, _, h⟩ := h
  exact h
def tree_bare.w (H : AHeap) (K : AVal → AHeap → Prop) : Prop :=
 hb (aMakeSlice H 1 [.int .u8 0] (.int .i64 64) (.int .i64 64)) fun v1 H2 =>
 vb (aBytes2Str H2 v1) fun v3 =>
 fin .ret [.v (v3)] H2 K

def S_tree_bare : Abs.Spec := fun args H r H' => args = [] ∧ (tree_bare.w H fun r1 H1 => r1 = r ∧ H1 = H') ∧ H <+: H'
theorem tree_bare.ok (args : List AVal) (H : AHeap) (r : AVal) (H' : AHeap) (h : S_tree_bare args H r H') : args = [] ∧ tree_bare.w H fun r1 H1 => r1 = r ∧ H1 = H' := by
  obtain ⟨h1, h2, _⟩ := h
  exact ⟨h1, h2⟩
theorem tree_bare.quiet {args : List AVal} {H : AHeap} {r : AVal} {H' : AHeap} (h : S_tree_bare args H r H') : H <+: H' := by
  obtain ⟨_, _, h⟩ := h
  exact h
set_option maxRecDepth 100000 in
theorem tree_bare.ex (H : AHeap) : Ex fun K : AVal × AHeap → Prop => tree_bare.w H fun r H => K (r, H) := by
  unfold tree_bare.w
  repeat with_reducible first
    | exact Ex.pt _
    | exact Ex.fin
    | exact Ex.no
    | refine Ex.vb fun _ => ?_
    | refine Ex.hb fun _ _ => ?_
    | refine Ex.sb fun _ => ?_
    | refine Ex.cb fun _ _ => ?_
    | refine Ex.isB fun _ => ?_
    | refine Ex.cond ?_ ?_
    | refine Ex.onE ?_ ?_
    | refine Ex.join ?_ fun _ _ _ => ?_
    | refine Ex.loop (fun _ _ => ?_) fun _ _ _ => ?_

theorem tree_bare.out {H : AHeap} {Q : AVal → AHeap → Prop} (h : tree_bare.w H fun r H' => (H <+: H') ∧ Q r H') : ∃ r H', S_tree_bare [] H r H' ∧ Q r H' := by
  obtain ⟨r, H', h1, h2⟩ := (tree_bare.ex H).out h
  exact ⟨r, H', ⟨rfl, h1, h2.1⟩, h2.2⟩

def tree_New.w (x0 : AVal) (x1 : AVal) (x2 : AVal) (x3 : AVal) (H : AHeap) (K : AVal → AHeap → Prop) : Prop :=
 hb (aBox H x3) fun v1 H2 =>
 vb (aEql false .ptr H2 x0 .nilp) fun v3 =>
 isB v3 fun b4 => cond b4
 (fin .ret [.v (.nilp), .v (.int .i64 1)] H2 K)
 (vb (aBin .neq x2 (.int .i64 0)) fun v5 =>
 isB v5 fun b6 => cond b6
 (vb (aBin .neq x2 (.int .i64 1)) fun v7 =>
 isB v7 fun b8 => cond b8
 (fin .ret [.v (.nilp), .v (.int .i64 2)] H2 K)
 (vb (aLoad H2 true 32 v1) fun v9 =>
 cb (S_over_New [] H2) fun v10 H11 =>
 hb (aMakeMap H11) fun v12 H13 =>
 vb (aBuild [.nilp, .nilp, .int .i64 0, .int .u8 0, .int .u8 0, .int .u8 0, .int .u8 0, .int .u8 0, .int .u8 0, .int .u8 0, .int .u8 0, .int .u8 0, .int .u8 0, .int .u8 0, .int .u8 0, .int .u8 0, .int .u8 0, .int .u8 0, .int .u8 0, .int .u8 0, .int .u8 0, .int .u8 0, .int .u8 0, .int .u8 0, .int .u8 0, .int .u8 0, .int .u8 0, .int .u8 0, .int .u8 0, .int .u8 0, .int .u8 0, .int .u8 0, .int .u8 0, .int .u8 0, .int .u8 0, .nilp, .nilm] (fun k => ([(0, 1), (1, 1), (2, 1), (3, 32), (35, 1), (36, 1)] : List (Nat × Nat))[k]?) [(0, x0), (1, x1), (2, x2), (3, v9), (4, v10), (5, v12)]) fun v14 =>
 hb (aBox H13 v14) fun v15 H16 =>
 fin .ret [.v (v15), .v (.int .i64 0)] H16 K))
 (vb (aLoad H2 true 32 v1) fun v17 =>
 cb (S_over_New [] H2) fun v18 H19 =>
 hb (aMakeMap H19) fun v20 H21 =>
 vb (aBuild [.nilp, .nilp, .int .i64 0, .int .u8 0, .int .u8 0, .int .u8 0, .int .u8 0, .int .u8 0, .int .u8 0, .int .u8 0, .int .u8 0, .int .u8 0, .int .u8 0, .int .u8 0, .int .u8 0, .int .u8 0, .int .u8 0, .int .u8 0, .int .u8 0, .int .u8 0, .int .u8 0, .int .u8 0, .int .u8 0, .int .u8 0, .int .u8 0, .int .u8 0, .int .u8 0, .int .u8 0, .int .u8 0, .int .u8 0, .int .u8 0, .int .u8 0, .int .u8 0, .int .u8 0, .int .u8 0, .nilp, .nilm] (fun k => ([(0, 1), (1, 1), (2, 1), (3, 32), (35, 1), (36, 1)] : List (Nat × Nat))[k]?) [(0, x0), (1, x1), (2, x2), (3, v17), (4, v18), (5, v20)]) fun v22 =>
 hb (aBox H21 v22) fun v23 H24 =>
 fin .ret [.v (v23), .v (.int .i64 0)] H24 K))

def S_tree_New : Abs.Spec := fun args H r H' => ∃ x0 x1 x2 x3 : AVal, args = [x0, x1, x2, x3] ∧ (tree_New.w x0 x1 x2 x3 H fun r1 H1 => r1 = r ∧ H1 = H') ∧ H <+: H'
theorem tree_New.ok (args : List AVal) (H : AHeap) (r : AVal) (H' : AHeap) (h : S_tree_New args H r H') : ∃ x0 x1 x2 x3 : AVal, args = [x0, x1, x2, x3] ∧ tree_New.w x0 x1 x2 x3 H fun r1 H1 => r1 = r ∧ H1 = H' := by
  obtain ⟨x0, x1, x2, x3, h1, h2, _⟩ := h
  exact ⟨x0, x1, x2, x3, h1, h2⟩
theorem tree_New.quiet {args : List AVal} {H : AHeap} {r : AVal} {H' : AHeap} (h : S_tree_New args H r H') : H <+: H' := by
  obtain ⟨_, _, _, _, _, _, h⟩ := h
  exact h
set_option maxRecDepth 100000 in
theorem tree_New.ex (x0 x1 x2 x3 : AVal) (H : AHeap) : Ex fun K : AVal × AHeap → Prop => tree_New.w x0 x1 x2 x3 H fun r H => K (r, H) := by
  unfold tree_New.w
  repeat with_reducible first
    | exact Ex.pt _
    | exact Ex.fin
    | exact Ex.no
    | refine Ex.vb fun _ => ?_
    | refine Ex.hb fun _ _ => ?_
    | refine Ex.sb fun _ => ?_
    | refine Ex.cb fun _ _ => ?_
    | refine Ex.isB fun _ => ?_
    | refine Ex.cond ?_ ?_
    | refine Ex.onE ?_ ?_
    | refine Ex.join ?_ fun _ _ _ => ?_
    | refine Ex.loop (fun _ _ => ?_) fun _ _ _ => ?_

theorem tree_New.out {x0 x1 x2 x3 : AVal} {H : AHeap} {Q : AVal → AHeap → Prop} (h : tree_New.w x0 x1 x2 x3 H fun r H' => (H <+: H') ∧ Q r H') : ∃ r H', S_tree_New [x0, x1, x2, x3] H r H' ∧ Q r H' := by
  obtain ⟨r, H', h1, h2⟩ := (tree_New.ex x0 x1 x2 x3 H).out h
  exact ⟨r, H', ⟨_, _, _, _, rfl, h1, h2.1⟩, h2.2⟩

def tree_Tree_node_1.w (x0 : AVal) (x1 : AVal) (H : AHeap) (K : AVal → AHeap → Prop) : Prop :=
 hb (aAlloc H (List.replicate 32 (.int .u8 0))) fun v1 H2 =>
 vb (aLoad H2 false 1 x1) fun v3 =>
 vb (aNilCheck v3) fun v4 =>
 vb (aFieldAddr 1 v4) fun v5 =>
 vb (aLoad H2 false 1 v5) fun v6 =>
 cb (S_node_Node [v6, x0] H2) fun v7 H8 =>
 vb (aExtract v7 0) fun v9 =>
 vb (aExtract v7 1) fun v10 =>
 sb (aStore H8 32 v1 v9) fun H11 =>
 fin .ret [.c true 32 (v1), .v (v10)] H11 K

def S_tree_Tree_node_1 : Abs.Spec := fun args H r H' => ∃ x0 x1 : AVal, args = [x0, x1] ∧ (tree_Tree_node_1.w x0 x1 H fun r1 H1 => r1 = r ∧ H1 = H')
theorem tree_Tree_node_1.ok (args : List AVal) (H : AHeap) (r : AVal) (H' : AHeap) (h : S_tree_Tree_node_1 args H r H') : ∃ x0 x1 : AVal, args = [x0, x1] ∧ tree_Tree_node_1.w x0 x1 H fun r1 H1 => r1 = r ∧ H1 = H' := by
  obtain ⟨x0, x1, h1, h2⟩ := h
  exact ⟨x0, x1, h1, h2⟩
set_option maxRecDepth 100000 in
theorem tree_Tree_node_1.ex (x0 x1 : AVal) (H : AHeap) : Ex fun K : AVal × AHeap → Prop => tree_Tree_node_1.w x0 x1 H fun r H => K (r, H) := by
  unfold tree_Tree_node_1.w
  repeat with_reducible first
    | exact Ex.pt _
    | exact Ex.fin
    | exact Ex.no
    | refine Ex.vb fun _ => ?_
    | refine Ex.hb fun _ _ => ?_
    | refine Ex.sb fun _ => ?_
    | refine Ex.cb fun _ _ => ?_
    | refine Ex.isB fun _ => ?_
    | refine Ex.cond ?_ ?_
    | refine Ex.onE ?_ ?_
    | refine Ex.join ?_ fun _ _ _ => ?_
    | refine Ex.loop (fun _ _ => ?_) fun _ _ _ => ?_

theorem tree_Tree_node_1.out {x0 x1 : AVal} {H : AHeap} {Q : AVal → AHeap → Prop} (h : tree_Tree_node_1.w x0 x1 H fun r H' => Q r H') : ∃ r H', S_tree_Tree_node_1 [x0, x1] H r H' ∧ Q r H' := by
  obtain ⟨r, H', h1, h2⟩ := (tree_Tree_node_1.ex x0 x1 H).out h
  exact ⟨r, H', ⟨_, _, rfl, h1⟩, h2⟩

def tree_Tree_Get_1.w (x0 : AVal) (x1 : AVal) (H : AHeap) (K : AVal → AHeap → Prop) : Prop :=
 hb (aAlloc H (List.replicate 32 (.int .u8 0))) fun v1 H2 =>
 vb (aLoad H2 false 1 x1) fun v3 =>
 vb (aNilCheck v3) fun v4 =>
 vb (aFieldAddr 1 v4) fun v5 =>
 vb (aLoad H2 false 1 v5) fun v6 =>
 cb (S_node_Leaf [v6, x0] H2) fun v7 H8 =>
 vb (aExtract v7 0) fun v9 =>
 vb (aExtract v7 1) fun v10 =>
 sb (aStore H8 32 v1 v9) fun H11 =>
 fin .ret [.c true 32 (v1), .v (v10)] H11 K

def S_tree_Tree_Get_1 : Abs.Spec := fun args H r H' => ∃ x0 x1 : AVal, args = [x0, x1] ∧ (tree_Tree_Get_1.w x0 x1 H fun r1 H1 => r1 = r ∧ H1 = H')
theorem tree_Tree_Get_1.ok (args : List AVal) (H : AHeap) (r : AVal) (H' : AHeap) (h : S_tree_Tree_Get_1 args H r H') : ∃ x0 x1 : AVal, args = [x0, x1] ∧ tree_Tree_Get_1.w x0 x1 H fun r1 H1 => r1 = r ∧ H1 = H' := by
  obtain ⟨x0, x1, h1, h2⟩ := h
  exact ⟨x0, x1, h1, h2⟩
set_option maxRecDepth 100000 in
theorem tree_Tree_Get_1.ex (x0 x1 : AVal) (H : AHeap) : Ex fun K : AVal × AHeap → Prop => tree_Tree_Get_1.w x0 x1 H fun r H => K (r, H) := by
  unfold tree_Tree_Get_1.w
  repeat with_reducible first
    | exact Ex.pt _
    | exact Ex.fin
    | exact Ex.no
    | refine Ex.vb fun _ => ?_
    | refine Ex.hb fun _ _ => ?_
    | refine Ex.sb fun _ => ?_
    | refine Ex.cb fun _ _ => ?_
    | refine Ex.isB fun _ => ?_
    | refine Ex.cond ?_ ?_
    | refine Ex.onE ?_ ?_
    | refine Ex.join ?_ fun _ _ _ => ?_
    | refine Ex.loop (fun _ _ => ?_) fun _ _ _ => ?_

theorem tree_Tree_Get_1.out {x0 x1 : AVal} {H : AHeap} {Q : AVal → AHeap → Prop} (h : tree_Tree_Get_1.w x0 x1 H fun r H' => Q r H') : ∃ r H', S_tree_Tree_Get_1 [x0, x1] H r H' ∧ Q r H' := by
  obtain ⟨r, H', h1, h2⟩ := (tree_Tree_Get_1.ex x0 x1 H).out h
  exact ⟨r, H', ⟨_, _, rfl, h1⟩, h2⟩

/-- What function values come to. -/
def treeCP : CallsT := fun f a H r H' => (∃ cap, f = .func (.func TreeF.node1) [] cap ∧ S_tree_Tree_node_1 (a ++ cap) H r H') ∨ (∃ cap, f = .func (.func TreeF.get1) [] cap ∧ S_tree_Tree_Get_1 (a ++ cap) H r H')
def tree_Tree_read.w (CP : CallsT) (x0 : AVal) (x1 : AVal) (x2 : AVal) (x3 : AVal) (H : AHeap) (K : AVal → AHeap → Prop) : Prop :=
 hb (aBox H x3) fun v1 H2 =>
 vb (aNilCheck x0) fun v3 =>
 vb (aFieldAddr 0 v3) fun v4 =>
 vb (aLoad H2 false 1 v4) fun v5 =>
 vb (aNilCheck x0) fun v6 =>
 vb (aFieldAddr 2 v6) fun v7 =>
 vb (aLoad H2 false 1 v7) fun v8 =>
 cb (S_rig_Rig_Read [v5, v8, x1] H2) fun v9 H10 =>
 vb (aExtract v9 0) fun v11 =>
 vb (aExtract v9 1) fun v12 =>
 vb (aBin .neq v12 (.int .i64 0)) fun v13 =>
 isB v13 fun b14 => cond b14
 (fin .ret [.v (.str []), .v (v12)] H10 K)
 (cb (CP x2 [v11] H10) fun v15 H16 =>
 vb (aExtract v15 0) fun v17 =>
 vb (aExtract v15 1) fun v18 =>
 hb (aAlloc H16 (List.replicate 32 (.int .u8 0))) fun v19 H20 =>
 sb (aStore H20 32 v19 v17) fun H21 =>
 vb (aLoad H21 true 32 v19) fun v22 =>
 vb (aLoad H21 true 32 v1) fun v23 =>
 vb (aEql true (.agg (List.replicate 32 .int)) H21 v22 v23) fun v24 =>
 isB v24 fun b25 => cond b25
 (fin .ret [.v (.str []), .v (.int .i64 12)] H21 K)
 (fin .ret [.v (v11), .v (.int .i64 0)] H21 K))

set_option maxRecDepth 100000 in
theorem tree_Tree_read.im {CP' : CallsT} (hcp : CallsT.le treeCP CP') (x0 x1 x2 x3 : AVal) (H : AHeap) : Im (fun K : AVal × AHeap → Prop => tree_Tree_read.w treeCP x0 x1 x2 x3 H fun r H => K (r, H)) fun K => tree_Tree_read.w CP' x0 x1 x2 x3 H fun r H => K (r, H) := by
  unfold tree_Tree_read.w
  repeat with_reducible first
    | exact Im.pt _
    | exact Im.fin
    | exact Im.no
    | refine Im.vb fun _ => ?_
    | refine Im.hb fun _ _ => ?_
    | refine Im.sb fun _ => ?_
    | refine Im.cb (fun _ _ h => h) fun _ _ => ?_
    | refine Im.cb (fun _ _ h => hcp _ _ _ _ _ h) fun _ _ => ?_
    | refine Im.and ?_ ?_
    | refine Im.isB fun _ => ?_
    | refine Im.cond ?_ ?_
    | refine Im.onE ?_ ?_
    | refine Im.join ?_ fun _ _ _ => ?_
    | refine Im.loop (fun _ _ => ?_) fun _ _ _ => ?_

def S_tree_Tree_read : Abs.Spec := fun args H r H' => ∃ x0 x1 x2 x3 : AVal, args = [x0, x1, x2, x3] ∧ (tree_Tree_read.w treeCP x0 x1 x2 x3 H fun r1 H1 => r1 = r ∧ H1 = H')
theorem tree_Tree_read.okC {CP' : CallsT} (hcp : CallsT.le treeCP CP') (args : List AVal) (H : AHeap) (r : AVal) (H' : AHeap) (h : S_tree_Tree_read args H r H') : ∃ x0 x1 x2 x3 : AVal, args = [x0, x1, x2, x3] ∧ tree_Tree_read.w CP' x0 x1 x2 x3 H fun r1 H1 => r1 = r ∧ H1 = H' := by
  obtain ⟨x0, x1, x2, x3, h1, h2⟩ := h
  exact ⟨x0, x1, x2, x3, h1, Im.fn (F := fun K => tree_Tree_read.w treeCP x0 x1 x2 x3 H K) (G := fun K => tree_Tree_read.w CP' x0 x1 x2 x3 H K) (tree_Tree_read.im hcp x0 x1 x2 x3 H) h2⟩
set_option maxRecDepth 100000 in
theorem tree_Tree_read.ex (x0 x1 x2 x3 : AVal) (H : AHeap) : Ex fun K : AVal × AHeap → Prop => tree_Tree_read.w treeCP x0 x1 x2 x3 H fun r H => K (r, H) := by
  unfold tree_Tree_read.w
  repeat with_reducible first
    | exact Ex.pt _
    | exact Ex.fin
    | exact Ex.no
    | refine Ex.vb fun _ => ?_
    | refine Ex.hb fun _ _ => ?_
    | refine Ex.sb fun _ => ?_
    | refine Ex.cb fun _ _ => ?_
    | refine Ex.isB fun _ => ?_
    | refine Ex.cond ?_ ?_
    | refine Ex.onE ?_ ?_
    | refine Ex.join ?_ fun _ _ _ => ?_
    | refine Ex.loop (fun _ _ => ?_) fun _ _ _ => ?_

theorem tree_Tree_read.out {x0 x1 x2 x3 : AVal} {H : AHeap} {Q : AVal → AHeap → Prop} (h : tree_Tree_read.w treeCP x0 x1 x2 x3 H fun r H' => Q r H') : ∃ r H', S_tree_Tree_read [x0, x1, x2, x3] H r H' ∧ Q r H' := by
  obtain ⟨r, H', h1, h2⟩ := (tree_Tree_read.ex x0 x1 x2 x3 H).out h
  exact ⟨r, H', ⟨_, _, _, _, rfl, h1⟩, h2⟩

def tree_Tree_node.w (x0 : AVal) (x1 : AVal) (x2 : AVal) (H : AHeap) (K : AVal → AHeap → Prop) : Prop :=
 hb (aBox H x0) fun v1 H2 =>
 hb (aBox H2 x2) fun v3 H4 =>
 vb (aLoad H4 false 1 v1) fun v5 =>
 vb (aNilCheck v5) fun v6 =>
 vb (aFieldAddr 36 v6) fun v7 =>
 vb (aLoad H4 false 1 v7) fun v8 =>
 vb (aLookup H4 (.int .i64) (.str []) true v8 x1) fun v9 =>
 vb (aExtract v9 0) fun v10 =>
 vb (aExtract v9 1) fun v11 =>
 isB v11 fun b12 => cond b12
 (fin .ret [.v (v10), .v (.int .i64 0)] H4 K)
 (cb (S_geom_NodeAt [x1] H4) fun v13 H14 =>
 vb (aExtract v13 0) fun v15 =>
 vb (aExtract v13 1) fun v16 =>
 vb (aLoad H14 false 1 v1) fun v17 =>
 vb (aLoad H14 true 32 v3) fun v18 =>
 cb (S_tree_Tree_read [v17, v15, .func (.func TreeF.node1) [] [v1], v18] H14) fun v19 H20 =>
 vb (aExtract v19 0) fun v21 =>
 vb (aExtract v19 1) fun v22 =>
 JoinP (fun Kj23 => vb (aBin .eql v22 (.int .i64 0)) fun v24 =>
 isB v24 fun b25 => cond b25
 (vb (aLoad H20 false 1 v1) fun v26 =>
 vb (aNilCheck v26) fun v27 =>
 vb (aFieldAddr 36 v27) fun v28 =>
 vb (aLoad H20 false 1 v28) fun v29 =>
 sb (aMapUpdate H20 (.int .i64) v29 x1 v21) fun H30 =>
 Kj23 .normal [] H30)
 (Kj23 .normal [] H20))
 (fun e31 vs32 H33 =>
 onE e31 .normal
 (fin .ret [.v (v21), .v (v22)] H33 K)
 (False)))

def S_tree_Tree_node : Abs.Spec := fun args H r H' => ∃ x0 x1 x2 : AVal, args = [x0, x1, x2] ∧ (tree_Tree_node.w x0 x1 x2 H fun r1 H1 => r1 = r ∧ H1 = H') ∧ Keep33 H H'
theorem tree_Tree_node.ok (args : List AVal) (H : AHeap) (r : AVal) (H' : AHeap) (h : S_tree_Tree_node args H r H') : ∃ x0 x1 x2 : AVal, args = [x0, x1, x2] ∧ tree_Tree_node.w x0 x1 x2 H fun r1 H1 => r1 = r ∧ H1 = H' := by
  obtain ⟨x0, x1, x2, h1, h2, _⟩ := h
  exact ⟨x0, x1, x2, h1, h2⟩
set_option maxRecDepth 100000 in
theorem tree_Tree_node.ex (x0 x1 x2 : AVal) (H : AHeap) : Ex fun K : AVal × AHeap → Prop => tree_Tree_node.w x0 x1 x2 H fun r H => K (r, H) := by
  unfold tree_Tree_node.w
  repeat with_reducible first
    | exact Ex.pt _
    | exact Ex.fin
    | exact Ex.no
    | refine Ex.vb fun _ => ?_
    | refine Ex.hb fun _ _ => ?_
    | refine Ex.sb fun _ => ?_
    | refine Ex.cb fun _ _ => ?_
    | refine Ex.isB fun _ => ?_
    | refine Ex.cond ?_ ?_
    | refine Ex.onE ?_ ?_
    | refine Ex.join ?_ fun _ _ _ => ?_
    | refine Ex.loop (fun _ _ => ?_) fun _ _ _ => ?_

def tree_Tree_down.L9.b (v22 : AVal) (v9 : AVal) (x0 : AVal) (x1 : AVal) (x7_9 : AVal) (x10_9 : AVal) (H27 : AHeap) (Kn28 : List AVal → AHeap → Prop) (Ke29 : AExit → List AVal → AHeap → Prop) : Prop :=
 vb (aBin .geq x10_9 (.int .i64 0)) fun v30 =>
 isB v30 fun b31 => cond b31
 (JoinP (fun Kj32 => (vb (aFieldAddr 0 v22) fun v33 =>
 vb (aLoad H27 false 1 v33) fun v34 =>
 vb (aIndexAddr 1 v9 x10_9) fun v35 =>
 vb (aLoad H27 false 1 v35) fun v36 =>
 vb (aFieldAddr 1 v22) fun v37 =>
 vb (aLoad H27 true 32 v37) fun v38 =>
 cb (S_tree_Tree_node [x0, v36, v38] H27) fun v39 H40 =>
 vb (aExtract v39 0) fun v41 =>
 vb (aExtract v39 1) fun v42 =>
 vb (aIndexAddr 1 v34 x10_9) fun v43 =>
 sb (aStore H40 1 v43 v41) fun H44 =>
 Kj32 .normal [v42] H44) ∧
 (vb (aFieldAddr 0 v22) fun v45 =>
 vb (aIndexAddr 1 v9 x10_9) fun v46 =>
 vb (aLoad H27 false 1 v46) fun v47 =>
 vb (aFieldAddr 1 v22) fun v48 =>
 vb (aLoad H27 true 32 v48) fun v49 =>
 cb (S_tree_Tree_node [x0, v47, v49] H27) fun v50 H51 =>
 vb (aLoad H51 false 1 v45) fun v52 =>
 vb (aExtract v50 0) fun v53 =>
 vb (aExtract v50 1) fun v54 =>
 vb (aIndexAddr 1 v52 x10_9) fun v55 =>
 sb (aStore H51 1 v55 v53) fun H56 =>
 Kj32 .normal [v54] H56))
 (fun e57 vs58 H59 =>
 onE e57 .normal
 (vb (aBin .neq (vs58.getD 0 .undef) (.int .i64 0)) fun v60 =>
 isB v60 fun b61 => cond b61
 (Ke29 (.exit 0) [vs58.getD 0 .undef] H59)
 (vb (aIndexAddr 1 v9 x10_9) fun v62 =>
 vb (aLoad H59 false 1 v62) fun v63 =>
 cb (S_node_Side [x1, v63] H59) fun v64 H65 =>
 vb (aExtract v64 0) fun v66 =>
 vb (aExtract v64 1) fun v67 =>
 vb (aFieldAddr 0 v22) fun v68 =>
 vb (aLoad H65 false 1 v68) fun v69 =>
 vb (aIndexAddr 1 v69 x10_9) fun v70 =>
 vb (aLoad H65 false 1 v70) fun v71 =>
 cb (S_node_Split [v71, v66] H65) fun v72 H73 =>
 vb (aExtract v72 0) fun v74 =>
 vb (aExtract v72 1) fun v75 =>
 vb (aFieldAddr 1 v22) fun v76 =>
 sb (aStore H73 32 v76 v74) fun H77 =>
 vb (aBin .sub x10_9 (.int .i64 1)) fun v78 =>
 Kn28 [vs58.getD 0 .undef, v78] H77))
 (False)))
 (Ke29 (.exit 0) [x7_9] H27)

def tree_Tree_down.L9 (v22 : AVal) (v9 : AVal) (x0 : AVal) (x1 : AVal) : Body := fun vs H Kn Ke => tree_Tree_down.L9.b v22 v9 x0 x1 (vs.getD 0 .undef) (vs.getD 1 .undef) H Kn Ke

def tree_Tree_down.w (x0 : AVal) (x1 : AVal) (H : AHeap) (K : AVal → AHeap → Prop) : Prop :=
 hb (aAlloc H [.nils, .int .u8 0, .int .u8 0, .int .u8 0, .int .u8 0, .int .u8 0, .int .u8 0, .int .u8 0, .int .u8 0, .int .u8 0, .int .u8 0, .int .u8 0, .int .u8 0, .int .u8 0, .int .u8 0, .int .u8 0, .int .u8 0, .int .u8 0, .int .u8 0, .int .u8 0, .int .u8 0, .int .u8 0, .int .u8 0, .int .u8 0, .int .u8 0, .int .u8 0, .int .u8 0, .int .u8 0, .int .u8 0, .int .u8 0, .int .u8 0, .int .u8 0, .int .u8 0]) fun v1 H2 =>
 vb (aEql false .ptr H2 x0 .nilp) fun v3 =>
 isB v3 fun b4 => cond b4
 (vb (aBuild [.nils, .int .u8 0, .int .u8 0, .int .u8 0, .int .u8 0, .int .u8 0, .int .u8 0, .int .u8 0, .int .u8 0, .int .u8 0, .int .u8 0, .int .u8 0, .int .u8 0, .int .u8 0, .int .u8 0, .int .u8 0, .int .u8 0, .int .u8 0, .int .u8 0, .int .u8 0, .int .u8 0, .int .u8 0, .int .u8 0, .int .u8 0, .int .u8 0, .int .u8 0, .int .u8 0, .int .u8 0, .int .u8 0, .int .u8 0, .int .u8 0, .int .u8 0, .int .u8 0] (fun k => ([(0, 1), (1, 32)] : List (Nat × Nat))[k]?) []) fun v5 =>
 sb (aStore H2 33 v1 v5) fun H6 =>
 fin .ret [.c true 33 (v1), .v (.int .i64 1)] H6 K)
 (cb (S_node_Path [x1] H2) fun v7 H8 =>
 vb (aExtract v7 0) fun v9 =>
 vb (aExtract v7 1) fun v10 =>
 vb (aBin .neq v10 (.int .i64 0)) fun v11 =>
 isB v11 fun b12 => cond b12
 (vb (aBuild [.nils, .int .u8 0, .int .u8 0, .int .u8 0, .int .u8 0, .int .u8 0, .int .u8 0, .int .u8 0, .int .u8 0, .int .u8 0, .int .u8 0, .int .u8 0, .int .u8 0, .int .u8 0, .int .u8 0, .int .u8 0, .int .u8 0, .int .u8 0, .int .u8 0, .int .u8 0, .int .u8 0, .int .u8 0, .int .u8 0, .int .u8 0, .int .u8 0, .int .u8 0, .int .u8 0, .int .u8 0, .int .u8 0, .int .u8 0, .int .u8 0, .int .u8 0, .int .u8 0] (fun k => ([(0, 1), (1, 32)] : List (Nat × Nat))[k]?) []) fun v13 =>
 sb (aStore H8 33 v1 v13) fun H14 =>
 fin .ret [.c true 33 (v1), .v (v10)] H14 K)
 (vb (lenSl v9) fun v15 =>
 hb (aMakeSlice H8 16 [.str []] v15 v15) fun v16 H17 =>
 vb (aNilCheck x0) fun v18 =>
 vb (aFieldAddr 3 v18) fun v19 =>
 vb (aLoad H17 true 32 v19) fun v20 =>
 vb (aBuild [.nils, .int .u8 0, .int .u8 0, .int .u8 0, .int .u8 0, .int .u8 0, .int .u8 0, .int .u8 0, .int .u8 0, .int .u8 0, .int .u8 0, .int .u8 0, .int .u8 0, .int .u8 0, .int .u8 0, .int .u8 0, .int .u8 0, .int .u8 0, .int .u8 0, .int .u8 0, .int .u8 0, .int .u8 0, .int .u8 0, .int .u8 0, .int .u8 0, .int .u8 0, .int .u8 0, .int .u8 0, .int .u8 0, .int .u8 0, .int .u8 0, .int .u8 0, .int .u8 0] (fun k => ([(0, 1), (1, 32)] : List (Nat × Nat))[k]?) [(0, v16), (1, v20)]) fun v21 =>
 hb (aAlloc H17 [.nils, .int .u8 0, .int .u8 0, .int .u8 0, .int .u8 0, .int .u8 0, .int .u8 0, .int .u8 0, .int .u8 0, .int .u8 0, .int .u8 0, .int .u8 0, .int .u8 0, .int .u8 0, .int .u8 0, .int .u8 0, .int .u8 0, .int .u8 0, .int .u8 0, .int .u8 0, .int .u8 0, .int .u8 0, .int .u8 0, .int .u8 0, .int .u8 0, .int .u8 0, .int .u8 0, .int .u8 0, .int .u8 0, .int .u8 0, .int .u8 0, .int .u8 0, .int .u8 0]) fun v22 H23 =>
 sb (aStore H23 33 v22 v21) fun H24 =>
 vb (lenSl v9) fun v25 =>
 vb (aBin .sub v25 (.int .i64 1)) fun v26 =>
 LoopP (tree_Tree_down.L9 v22 v9 x0 x1) [v10, v26] H24 fun e79 vs80 H81 =>
 onE e79 (.exit 0)
 (vb (aBin .neq (vs80.getD 0 .undef) (.int .i64 0)) fun v82 =>
 isB v82 fun b83 => cond b83
 (vb (aBuild [.nils, .int .u8 0, .int .u8 0, .int .u8 0, .int .u8 0, .int .u8 0, .int .u8 0, .int .u8 0, .int .u8 0, .int .u8 0, .int .u8 0, .int .u8 0, .int .u8 0, .int .u8 0, .int .u8 0, .int .u8 0, .int .u8 0, .int .u8 0, .int .u8 0, .int .u8 0, .int .u8 0, .int .u8 0, .int .u8 0, .int .u8 0, .int .u8 0, .int .u8 0, .int .u8 0, .int .u8 0, .int .u8 0, .int .u8 0, .int .u8 0, .int .u8 0, .int .u8 0] (fun k => ([(0, 1), (1, 32)] : List (Nat × Nat))[k]?) []) fun v84 =>
 sb (aStore H81 33 v1 v84) fun H85 =>
 fin .ret [.c true 33 (v1), .v (vs80.getD 0 .undef)] H85 K)
 (vb (aLoad H81 true 33 v22) fun v86 =>
 sb (aStore H81 33 v1 v86) fun H87 =>
 fin .ret [.c true 33 (v1), .v (.int .i64 0)] H87 K))
 (False)))

def tree_Tree_downV.L9.b (v22 : AVal) (v9 : AVal) (x0 : AVal) (x1 : AVal) (x7_9 : AVal) (x10_9 : AVal) (H27 : AHeap) (Kn28 : List AVal → AHeap → Prop) (Ke29 : AExit → List AVal → AHeap → Prop) : Prop :=
 vb (aBin .geq x10_9 (.int .i64 0)) fun v30 =>
 isB v30 fun b31 => cond b31
 (JoinP (fun Kj32 => vb (aFieldAddr 0 v22) fun v33 =>
 vb (aLoad H27 false 1 v33) fun v34 =>
 vb (aIndexAddr 1 v9 x10_9) fun v35 =>
 vb (aLoad H27 false 1 v35) fun v36 =>
 vb (aFieldAddr 1 v22) fun v37 =>
 vb (aLoad H27 true 32 v37) fun v38 =>
 cb (S_tree_Tree_node [x0, v36, v38] H27) fun v39 H40 =>
 vb (aExtract v39 0) fun v41 =>
 vb (aExtract v39 1) fun v42 =>
 vb (aIndexAddr 1 v34 x10_9) fun v43 =>
 sb (aStore H40 1 v43 v41) fun H44 =>
 Kj32 .normal [v42] H44)
 (fun e45 vs46 H47 =>
 onE e45 .normal
 (vb (aBin .neq (vs46.getD 0 .undef) (.int .i64 0)) fun v48 =>
 isB v48 fun b49 => cond b49
 (Ke29 (.exit 0) [vs46.getD 0 .undef] H47)
 (vb (aIndexAddr 1 v9 x10_9) fun v50 =>
 vb (aLoad H47 false 1 v50) fun v51 =>
 cb (S_node_Side [x1, v51] H47) fun v52 H53 =>
 vb (aExtract v52 0) fun v54 =>
 vb (aExtract v52 1) fun v55 =>
 vb (aFieldAddr 0 v22) fun v56 =>
 vb (aLoad H53 false 1 v56) fun v57 =>
 vb (aIndexAddr 1 v57 x10_9) fun v58 =>
 vb (aLoad H53 false 1 v58) fun v59 =>
 cb (S_node_Split [v59, v54] H53) fun v60 H61 =>
 vb (aExtract v60 0) fun v62 =>
 vb (aExtract v60 1) fun v63 =>
 vb (aFieldAddr 1 v22) fun v64 =>
 sb (aStore H61 32 v64 v62) fun H65 =>
 vb (aBin .sub x10_9 (.int .i64 1)) fun v66 =>
 Kn28 [vs46.getD 0 .undef, v66] H65))
 (False)))
 (Ke29 (.exit 0) [x7_9] H27)

def tree_Tree_downV.L9 (v22 : AVal) (v9 : AVal) (x0 : AVal) (x1 : AVal) : Body := fun vs H Kn Ke => tree_Tree_downV.L9.b v22 v9 x0 x1 (vs.getD 0 .undef) (vs.getD 1 .undef) H Kn Ke

def tree_Tree_downV.w (x0 : AVal) (x1 : AVal) (H : AHeap) (K : AVal → AHeap → Prop) : Prop :=
 hb (aAlloc H [.nils, .int .u8 0, .int .u8 0, .int .u8 0, .int .u8 0, .int .u8 0, .int .u8 0, .int .u8 0, .int .u8 0, .int .u8 0, .int .u8 0, .int .u8 0, .int .u8 0, .int .u8 0, .int .u8 0, .int .u8 0, .int .u8 0, .int .u8 0, .int .u8 0, .int .u8 0, .int .u8 0, .int .u8 0, .int .u8 0, .int .u8 0, .int .u8 0, .int .u8 0, .int .u8 0, .int .u8 0, .int .u8 0, .int .u8 0, .int .u8 0, .int .u8 0, .int .u8 0]) fun v1 H2 =>
 vb (aEql false .ptr H2 x0 .nilp) fun v3 =>
 isB v3 fun b4 => cond b4
 (vb (aBuild [.nils, .int .u8 0, .int .u8 0, .int .u8 0, .int .u8 0, .int .u8 0, .int .u8 0, .int .u8 0, .int .u8 0, .int .u8 0, .int .u8 0, .int .u8 0, .int .u8 0, .int .u8 0, .int .u8 0, .int .u8 0, .int .u8 0, .int .u8 0, .int .u8 0, .int .u8 0, .int .u8 0, .int .u8 0, .int .u8 0, .int .u8 0, .int .u8 0, .int .u8 0, .int .u8 0, .int .u8 0, .int .u8 0, .int .u8 0, .int .u8 0, .int .u8 0, .int .u8 0] (fun k => ([(0, 1), (1, 32)] : List (Nat × Nat))[k]?) []) fun v5 =>
 sb (aStore H2 33 v1 v5) fun H6 =>
 fin .ret [.c true 33 (v1), .v (.int .i64 1)] H6 K)
 (cb (S_node_Path [x1] H2) fun v7 H8 =>
 vb (aExtract v7 0) fun v9 =>
 vb (aExtract v7 1) fun v10 =>
 vb (aBin .neq v10 (.int .i64 0)) fun v11 =>
 isB v11 fun b12 => cond b12
 (vb (aBuild [.nils, .int .u8 0, .int .u8 0, .int .u8 0, .int .u8 0, .int .u8 0, .int .u8 0, .int .u8 0, .int .u8 0, .int .u8 0, .int .u8 0, .int .u8 0, .int .u8 0, .int .u8 0, .int .u8 0, .int .u8 0, .int .u8 0, .int .u8 0, .int .u8 0, .int .u8 0, .int .u8 0, .int .u8 0, .int .u8 0, .int .u8 0, .int .u8 0, .int .u8 0, .int .u8 0, .int .u8 0, .int .u8 0, .int .u8 0, .int .u8 0, .int .u8 0, .int .u8 0] (fun k => ([(0, 1), (1, 32)] : List (Nat × Nat))[k]?) []) fun v13 =>
 sb (aStore H8 33 v1 v13) fun H14 =>
 fin .ret [.c true 33 (v1), .v (v10)] H14 K)
 (vb (lenSl v9) fun v15 =>
 hb (aMakeSlice H8 16 [.str []] v15 v15) fun v16 H17 =>
 vb (aNilCheck x0) fun v18 =>
 vb (aFieldAddr 3 v18) fun v19 =>
 vb (aLoad H17 true 32 v19) fun v20 =>
 vb (aBuild [.nils, .int .u8 0, .int .u8 0, .int .u8 0, .int .u8 0, .int .u8 0, .int .u8 0, .int .u8 0, .int .u8 0, .int .u8 0, .int .u8 0, .int .u8 0, .int .u8 0, .int .u8 0, .int .u8 0, .int .u8 0, .int .u8 0, .int .u8 0, .int .u8 0, .int .u8 0, .int .u8 0, .int .u8 0, .int .u8 0, .int .u8 0, .int .u8 0, .int .u8 0, .int .u8 0, .int .u8 0, .int .u8 0, .int .u8 0, .int .u8 0, .int .u8 0, .int .u8 0] (fun k => ([(0, 1), (1, 32)] : List (Nat × Nat))[k]?) [(0, v16), (1, v20)]) fun v21 =>
 hb (aAlloc H17 [.nils, .int .u8 0, .int .u8 0, .int .u8 0, .int .u8 0, .int .u8 0, .int .u8 0, .int .u8 0, .int .u8 0, .int .u8 0, .int .u8 0, .int .u8 0, .int .u8 0, .int .u8 0, .int .u8 0, .int .u8 0, .int .u8 0, .int .u8 0, .int .u8 0, .int .u8 0, .int .u8 0, .int .u8 0, .int .u8 0, .int .u8 0, .int .u8 0, .int .u8 0, .int .u8 0, .int .u8 0, .int .u8 0, .int .u8 0, .int .u8 0, .int .u8 0, .int .u8 0]) fun v22 H23 =>
 sb (aStore H23 33 v22 v21) fun H24 =>
 vb (lenSl v9) fun v25 =>
 vb (aBin .sub v25 (.int .i64 1)) fun v26 =>
 LoopP (tree_Tree_downV.L9 v22 v9 x0 x1) [v10, v26] H24 fun e67 vs68 H69 =>
 onE e67 (.exit 0)
 (vb (aBin .neq (vs68.getD 0 .undef) (.int .i64 0)) fun v70 =>
 isB v70 fun b71 => cond b71
 (vb (aBuild [.nils, .int .u8 0, .int .u8 0, .int .u8 0, .int .u8 0, .int .u8 0, .int .u8 0, .int .u8 0, .int .u8 0, .int .u8 0, .int .u8 0, .int .u8 0, .int .u8 0, .int .u8 0, .int .u8 0, .int .u8 0, .int .u8 0, .int .u8 0, .int .u8 0, .int .u8 0, .int .u8 0, .int .u8 0, .int .u8 0, .int .u8 0, .int .u8 0, .int .u8 0, .int .u8 0, .int .u8 0, .int .u8 0, .int .u8 0, .int .u8 0, .int .u8 0, .int .u8 0] (fun k => ([(0, 1), (1, 32)] : List (Nat × Nat))[k]?) []) fun v72 =>
 sb (aStore H69 33 v1 v72) fun H73 =>
 fin .ret [.c true 33 (v1), .v (vs68.getD 0 .undef)] H73 K)
 (vb (aLoad H69 true 33 v22) fun v74 =>
 sb (aStore H69 33 v1 v74) fun H75 =>
 fin .ret [.c true 33 (v1), .v (.int .i64 0)] H75 K))
 (False)))

def S_tree_Tree_down : Abs.Spec := fun args H r H' => ∃ x0 x1 : AVal, args = [x0, x1] ∧ (tree_Tree_downV.w x0 x1 H fun r1 H1 => r1 = r ∧ H1 = H')
set_option maxRecDepth 100000 in
theorem tree_Tree_downV.ex (x0 x1 : AVal) (H : AHeap) : Ex fun K : AVal × AHeap → Prop => tree_Tree_downV.w x0 x1 H fun r H => K (r, H) := by
  unfold tree_Tree_downV.w
  repeat with_reducible first
    | exact Ex.pt _
    | exact Ex.fin
    | exact Ex.no
    | refine Ex.vb fun _ => ?_
    | refine Ex.hb fun _ _ => ?_
    | refine Ex.sb fun _ => ?_
    | refine Ex.cb fun _ _ => ?_
    | refine Ex.isB fun _ => ?_
    | refine Ex.cond ?_ ?_
    | refine Ex.onE ?_ ?_
    | refine Ex.join ?_ fun _ _ _ => ?_
    | refine Ex.loop (fun _ _ => ?_) fun _ _ _ => ?_
    | (unfold tree_Tree_downV.L9; unfold tree_Tree_downV.L9.b)

theorem tree_Tree_down.out {x0 x1 : AVal} {H : AHeap} {Q : AVal → AHeap → Prop} (h : tree_Tree_downV.w x0 x1 H fun r H' => Q r H') : ∃ r H', S_tree_Tree_down [x0, x1] H r H' ∧ Q r H' := by
  obtain ⟨r, H', h1, h2⟩ := (tree_Tree_downV.ex x0 x1 H).out h
  exact ⟨r, H', ⟨_, _, rfl, h1⟩, h2⟩

def tree_Tree_Get.w (x0 : AVal) (x1 : AVal) (H : AHeap) (K : AVal → AHeap → Prop) : Prop :=
 hb (aBox H x0) fun v1 H2 =>
 vb (aLoad H2 false 1 v1) fun v3 =>
 cb (S_tree_Tree_down [v3, x1] H2) fun v4 H5 =>
 vb (aExtract v4 0) fun v6 =>
 vb (aExtract v4 1) fun v7 =>
 hb (aAlloc H5 [.nils, .int .u8 0, .int .u8 0, .int .u8 0, .int .u8 0, .int .u8 0, .int .u8 0, .int .u8 0, .int .u8 0, .int .u8 0, .int .u8 0, .int .u8 0, .int .u8 0, .int .u8 0, .int .u8 0, .int .u8 0, .int .u8 0, .int .u8 0, .int .u8 0, .int .u8 0, .int .u8 0, .int .u8 0, .int .u8 0, .int .u8 0, .int .u8 0, .int .u8 0, .int .u8 0, .int .u8 0, .int .u8 0, .int .u8 0, .int .u8 0, .int .u8 0, .int .u8 0]) fun v8 H9 =>
 sb (aStore H9 33 v8 v6) fun H10 =>
 vb (aBin .neq v7 (.int .i64 0)) fun v11 =>
 isB v11 fun b12 => cond b12
 (fin .ret [.v (.str []), .v (.bool false), .v (v7)] H10 K)
 (cb (S_geom_LeafAt [x1] H10) fun v13 H14 =>
 vb (aExtract v13 0) fun v15 =>
 vb (aExtract v13 1) fun v16 =>
 vb (aLoad H14 false 1 v1) fun v17 =>
 vb (aNilCheck v17) fun v18 =>
 vb (aFieldAddr 35 v18) fun v19 =>
 vb (aLoad H14 false 1 v19) fun v20 =>
 cb (S_over_Sheet_Get [v20, v15] H14) fun v21 H22 =>
 vb (aExtract v21 0) fun v23 =>
 vb (aExtract v21 1) fun v24 =>
 JoinP (fun Kj25 => vb (aUn .not v24) fun v26 =>
 isB v26 fun b27 => cond b27
 (vb (aLoad H22 false 1 v1) fun v28 =>
 vb (aFieldAddr 1 v8) fun v29 =>
 vb (aLoad H22 true 32 v29) fun v30 =>
 cb (S_tree_Tree_read [v28, v15, .func (.func TreeF.get1) [] [v1], v30] H22) fun v31 H32 =>
 vb (aExtract v31 0) fun v33 =>
 vb (aExtract v31 1) fun v34 =>
 Kj25 .normal [v34, v33] H32)
 (Kj25 .normal [v7, v23] H22))
 (fun e35 vs36 H37 =>
 onE e35 .normal
 (JoinP (fun Kj38 => vb (aBin .neq (vs36.getD 0 .undef) (.int .i64 0)) fun v39 =>
 isB v39 fun b40 => cond b40
 (Kj38 .ret [.str [], .bool false, vs36.getD 0 .undef] H37)
 (cb (S_tree_bare [] H37) fun v41 H42 =>
 vb (aBin .eql (vs36.getD 1 .undef) v41) fun v43 =>
 isB v43 fun b44 => cond b44
 (Kj38 .ret [.str [], .bool false, vs36.getD 0 .undef] H42)
 (Kj38 .normal [.str [], .bool false, .int .i64 0] H42)))
 (fun e45 vs46 H47 =>
 onE e45 .normal
 (fin .ret [.v (vs36.getD 1 .undef), .v (.bool true), .v (.int .i64 0)] H47 K)
 (onE e45 .ret
 (fin .ret [.v (vs46.getD 0 .undef), .v (vs46.getD 1 .undef), .v (vs46.getD 2 .undef)] H47 K)
 (False))))
 (False)))

def S_tree_Tree_Get : Abs.Spec := fun args H r H' => ∃ x0 x1 : AVal, args = [x0, x1] ∧ (tree_Tree_Get.w x0 x1 H fun r1 H1 => r1 = r ∧ H1 = H')
theorem tree_Tree_Get.ok (args : List AVal) (H : AHeap) (r : AVal) (H' : AHeap) (h : S_tree_Tree_Get args H r H') : ∃ x0 x1 : AVal, args = [x0, x1] ∧ tree_Tree_Get.w x0 x1 H fun r1 H1 => r1 = r ∧ H1 = H' := by
  obtain ⟨x0, x1, h1, h2⟩ := h
  exact ⟨x0, x1, h1, h2⟩
set_option maxRecDepth 100000 in
theorem tree_Tree_Get.ex (x0 x1 : AVal) (H : AHeap) : Ex fun K : AVal × AHeap → Prop => tree_Tree_Get.w x0 x1 H fun r H => K (r, H) := by
  unfold tree_Tree_Get.w
  repeat with_reducible first
    | exact Ex.pt _
    | exact Ex.fin
    | exact Ex.no
    | refine Ex.vb fun _ => ?_
    | refine Ex.hb fun _ _ => ?_
    | refine Ex.sb fun _ => ?_
    | refine Ex.cb fun _ _ => ?_
    | refine Ex.isB fun _ => ?_
    | refine Ex.cond ?_ ?_
    | refine Ex.onE ?_ ?_
    | refine Ex.join ?_ fun _ _ _ => ?_
    | refine Ex.loop (fun _ _ => ?_) fun _ _ _ => ?_

theorem tree_Tree_Get.out {x0 x1 : AVal} {H : AHeap} {Q : AVal → AHeap → Prop} (h : tree_Tree_Get.w x0 x1 H fun r H' => Q r H') : ∃ r H', S_tree_Tree_Get [x0, x1] H r H' ∧ Q r H' := by
  obtain ⟨r, H', h1, h2⟩ := (tree_Tree_Get.ex x0 x1 H).out h
  exact ⟨r, H', ⟨_, _, rfl, h1⟩, h2⟩

def tree_Tree_change.L3.b (v9 : AVal) (v7 : AVal) (x1 : AVal) (v1 : AVal) (v3 : AVal) (x0 : AVal) (x25_3 : AVal) (H10 : AHeap) (Kn11 : List AVal → AHeap → Prop) (Ke12 : AExit → List AVal → AHeap → Prop) : Prop :=
 vb (aBin .lss x25_3 v9) fun v13 =>
 isB v13 fun b14 => cond b14
 (vb (aIndexAddr 1 v7 x25_3) fun v15 =>
 vb (aLoad H10 false 1 v15) fun v16 =>
 cb (S_node_Side [x1, v16] H10) fun v17 H18 =>
 vb (aExtract v17 0) fun v19 =>
 vb (aExtract v17 1) fun v20 =>
 vb (aFieldAddr 0 v1) fun v21 =>
 vb (aLoad H18 false 1 v21) fun v22 =>
 vb (aIndexAddr 1 v22 x25_3) fun v23 =>
 vb (aLoad H18 false 1 v23) fun v24 =>
 vb (aLoad H18 true 32 v3) fun v25 =>
 cb (S_node_With [v24, v19, v25] H18) fun v26 H27 =>
 vb (aExtract v26 0) fun v28 =>
 vb (aExtract v26 1) fun v29 =>
 vb (aNilCheck x0) fun v30 =>
 vb (aFieldAddr 36 v30) fun v31 =>
 vb (aLoad H27 false 1 v31) fun v32 =>
 sb (aMapUpdate H27 (.int .i64) v32 v16 v28) fun H33 =>
 cb (S_geom_NodeAt [v16] H33) fun v34 H35 =>
 vb (aExtract v34 0) fun v36 =>
 vb (aExtract v34 1) fun v37 =>
 vb (aNilCheck x0) fun v38 =>
 vb (aFieldAddr 35 v38) fun v39 =>
 vb (aLoad H35 false 1 v39) fun v40 =>
 cb (S_over_Sheet_Set [v40, v36, v28] H35) fun v41 H42 =>
 vb (aNilCheck x0) fun v43 =>
 vb (aFieldAddr 1 v43) fun v44 =>
 vb (aLoad H42 false 1 v44) fun v45 =>
 cb (S_node_Node [v45, v28] H42) fun v46 H47 =>
 vb (aExtract v46 0) fun v48 =>
 vb (aExtract v46 1) fun v49 =>
 sb (aStore H47 32 v3 v48) fun H50 =>
 vb (aBin .add x25_3 (.int .i64 1)) fun v51 =>
 Kn11 [v51] H50)
 (Ke12 (.exit 0) [] H10)

def tree_Tree_change.L3 (v9 : AVal) (v7 : AVal) (x1 : AVal) (v1 : AVal) (v3 : AVal) (x0 : AVal) : Body := fun vs H Kn Ke => tree_Tree_change.L3.b v9 v7 x1 v1 v3 x0 (vs.getD 0 .undef) H Kn Ke

def tree_Tree_change.w (x0 : AVal) (x1 : AVal) (x2 : AVal) (x3 : AVal) (H : AHeap) (K : AVal → AHeap → Prop) : Prop :=
 hb (aBox H x2) fun v1 H2 =>
 hb (aBox H2 x3) fun v3 H4 =>
 cb (S_node_Path [x1] H4) fun v5 H6 =>
 vb (aExtract v5 0) fun v7 =>
 vb (aExtract v5 1) fun v8 =>
 vb (lenSl v7) fun v9 =>
 LoopP (tree_Tree_change.L3 v9 v7 x1 v1 v3 x0) [.int .i64 0] H6 fun e52 vs53 H54 =>
 onE e52 (.exit 0)
 (vb (aLoad H54 true 32 v3) fun v55 =>
 vb (aNilCheck x0) fun v56 =>
 vb (aFieldAddr 3 v56) fun v57 =>
 sb (aStore H54 32 v57 v55) fun H58 =>
 fin .normal [] H58 K)
 (False)

def S_tree_Tree_change : Abs.Spec := fun args H r H' => ∃ x0 x1 x2 x3 : AVal, args = [x0, x1, x2, x3] ∧ (tree_Tree_change.w x0 x1 x2 x3 H fun r1 H1 => r1 = r ∧ H1 = H')
theorem tree_Tree_change.ok (args : List AVal) (H : AHeap) (r : AVal) (H' : AHeap) (h : S_tree_Tree_change args H r H') : ∃ x0 x1 x2 x3 : AVal, args = [x0, x1, x2, x3] ∧ tree_Tree_change.w x0 x1 x2 x3 H fun r1 H1 => r1 = r ∧ H1 = H' := by
  obtain ⟨x0, x1, x2, x3, h1, h2⟩ := h
  exact ⟨x0, x1, x2, x3, h1, h2⟩
set_option maxRecDepth 100000 in
theorem tree_Tree_change.ex (x0 x1 x2 x3 : AVal) (H : AHeap) : Ex fun K : AVal × AHeap → Prop => tree_Tree_change.w x0 x1 x2 x3 H fun r H => K (r, H) := by
  unfold tree_Tree_change.w
  repeat with_reducible first
    | exact Ex.pt _
    | exact Ex.fin
    | exact Ex.no
    | refine Ex.vb fun _ => ?_
    | refine Ex.hb fun _ _ => ?_
    | refine Ex.sb fun _ => ?_
    | refine Ex.cb fun _ _ => ?_
    | refine Ex.isB fun _ => ?_
    | refine Ex.cond ?_ ?_
    | refine Ex.onE ?_ ?_
    | refine Ex.join ?_ fun _ _ _ => ?_
    | refine Ex.loop (fun _ _ => ?_) fun _ _ _ => ?_
    | (unfold tree_Tree_change.L3; unfold tree_Tree_change.L3.b)

theorem tree_Tree_change.out {x0 x1 x2 x3 : AVal} {H : AHeap} {Q : AVal → AHeap → Prop} (h : tree_Tree_change.w x0 x1 x2 x3 H fun r H' => Q r H') : ∃ r H', S_tree_Tree_change [x0, x1, x2, x3] H r H' ∧ Q r H' := by
  obtain ⟨r, H', h1, h2⟩ := (tree_Tree_change.ex x0 x1 x2 x3 H).out h
  exact ⟨r, H', ⟨_, _, _, _, rfl, h1⟩, h2⟩

def tree_Tree_Put.w (x0 : AVal) (x1 : AVal) (x2 : AVal) (H : AHeap) (K : AVal → AHeap → Prop) : Prop :=
 cb (S_geom_LeafAt [x1] H) fun v1 H2 =>
 vb (aExtract v1 0) fun v3 =>
 vb (aExtract v1 1) fun v4 =>
 vb (aEql false .ptr H2 x0 .nilp) fun v5 =>
 isB v5 fun b6 => cond b6
 (fin .ret [.v (.int .i64 1)] H2 K)
 (vb (aBin .neq v4 (.int .i64 0)) fun v7 =>
 isB v7 fun b8 => cond b8
 (fin .ret [.v (v4)] H2 K)
 (vb (lenSt x2) fun v9 =>
 vb (aBin .neq v9 (.int .i64 64)) fun v10 =>
 isB v10 fun b11 => cond b11
 (fin .ret [.v (.int .i64 6)] H2 K)
 (cb (S_tree_Tree_down [x0, x1] H2) fun v12 H13 =>
 vb (aExtract v12 0) fun v14 =>
 vb (aExtract v12 1) fun v15 =>
 hb (aAlloc H13 [.nils, .int .u8 0, .int .u8 0, .int .u8 0, .int .u8 0, .int .u8 0, .int .u8 0, .int .u8 0, .int .u8 0, .int .u8 0, .int .u8 0, .int .u8 0, .int .u8 0, .int .u8 0, .int .u8 0, .int .u8 0, .int .u8 0, .int .u8 0, .int .u8 0, .int .u8 0, .int .u8 0, .int .u8 0, .int .u8 0, .int .u8 0, .int .u8 0, .int .u8 0, .int .u8 0, .int .u8 0, .int .u8 0, .int .u8 0, .int .u8 0, .int .u8 0, .int .u8 0]) fun v16 H17 =>
 sb (aStore H17 33 v16 v14) fun H18 =>
 vb (aBin .neq v15 (.int .i64 0)) fun v19 =>
 isB v19 fun b20 => cond b20
 (fin .ret [.v (v15)] H18 K)
 (vb (aNilCheck x0) fun v21 =>
 vb (aFieldAddr 1 v21) fun v22 =>
 vb (aLoad H18 false 1 v22) fun v23 =>
 cb (S_node_Leaf [v23, x2] H18) fun v24 H25 =>
 vb (aExtract v24 0) fun v26 =>
 vb (aExtract v24 1) fun v27 =>
 hb (aAlloc H25 (List.replicate 32 (.int .u8 0))) fun v28 H29 =>
 sb (aStore H29 32 v28 v26) fun H30 =>
 vb (aLoad H30 true 33 v16) fun v31 =>
 vb (aLoad H30 true 32 v28) fun v32 =>
 cb (S_tree_Tree_change [x0, x1, v31, v32] H30) fun v33 H34 =>
 vb (aNilCheck x0) fun v35 =>
 vb (aFieldAddr 35 v35) fun v36 =>
 vb (aLoad H34 false 1 v36) fun v37 =>
 cb (S_over_Sheet_Set [v37, v3, x2] H34) fun v38 H39 =>
 fin .ret [.v (.int .i64 0)] H39 K))))

def S_tree_Tree_Put : Abs.Spec := fun args H r H' => ∃ x0 x1 x2 : AVal, args = [x0, x1, x2] ∧ (tree_Tree_Put.w x0 x1 x2 H fun r1 H1 => r1 = r ∧ H1 = H')
theorem tree_Tree_Put.ok (args : List AVal) (H : AHeap) (r : AVal) (H' : AHeap) (h : S_tree_Tree_Put args H r H') : ∃ x0 x1 x2 : AVal, args = [x0, x1, x2] ∧ tree_Tree_Put.w x0 x1 x2 H fun r1 H1 => r1 = r ∧ H1 = H' := by
  obtain ⟨x0, x1, x2, h1, h2⟩ := h
  exact ⟨x0, x1, x2, h1, h2⟩
set_option maxRecDepth 100000 in
theorem tree_Tree_Put.ex (x0 x1 x2 : AVal) (H : AHeap) : Ex fun K : AVal × AHeap → Prop => tree_Tree_Put.w x0 x1 x2 H fun r H => K (r, H) := by
  unfold tree_Tree_Put.w
  repeat with_reducible first
    | exact Ex.pt _
    | exact Ex.fin
    | exact Ex.no
    | refine Ex.vb fun _ => ?_
    | refine Ex.hb fun _ _ => ?_
    | refine Ex.sb fun _ => ?_
    | refine Ex.cb fun _ _ => ?_
    | refine Ex.isB fun _ => ?_
    | refine Ex.cond ?_ ?_
    | refine Ex.onE ?_ ?_
    | refine Ex.join ?_ fun _ _ _ => ?_
    | refine Ex.loop (fun _ _ => ?_) fun _ _ _ => ?_

theorem tree_Tree_Put.out {x0 x1 x2 : AVal} {H : AHeap} {Q : AVal → AHeap → Prop} (h : tree_Tree_Put.w x0 x1 x2 H fun r H' => Q r H') : ∃ r H', S_tree_Tree_Put [x0, x1, x2] H r H' ∧ Q r H' := by
  obtain ⟨r, H', h1, h2⟩ := (tree_Tree_Put.ex x0 x1 x2 H).out h
  exact ⟨r, H', ⟨_, _, _, rfl, h1⟩, h2⟩

def tree_Tree_Clear.w (x0 : AVal) (x1 : AVal) (H : AHeap) (K : AVal → AHeap → Prop) : Prop :=
 cb (S_tree_bare [] H) fun v1 H2 =>
 cb (S_tree_Tree_Put [x0, x1, v1] H2) fun v3 H4 =>
 fin .ret [.v (v3)] H4 K

def S_tree_Tree_Clear : Abs.Spec := fun args H r H' => ∃ x0 x1 : AVal, args = [x0, x1] ∧ (tree_Tree_Clear.w x0 x1 H fun r1 H1 => r1 = r ∧ H1 = H')
theorem tree_Tree_Clear.ok (args : List AVal) (H : AHeap) (r : AVal) (H' : AHeap) (h : S_tree_Tree_Clear args H r H') : ∃ x0 x1 : AVal, args = [x0, x1] ∧ tree_Tree_Clear.w x0 x1 H fun r1 H1 => r1 = r ∧ H1 = H' := by
  obtain ⟨x0, x1, h1, h2⟩ := h
  exact ⟨x0, x1, h1, h2⟩
set_option maxRecDepth 100000 in
theorem tree_Tree_Clear.ex (x0 x1 : AVal) (H : AHeap) : Ex fun K : AVal × AHeap → Prop => tree_Tree_Clear.w x0 x1 H fun r H => K (r, H) := by
  unfold tree_Tree_Clear.w
  repeat with_reducible first
    | exact Ex.pt _
    | exact Ex.fin
    | exact Ex.no
    | refine Ex.vb fun _ => ?_
    | refine Ex.hb fun _ _ => ?_
    | refine Ex.sb fun _ => ?_
    | refine Ex.cb fun _ _ => ?_
    | refine Ex.isB fun _ => ?_
    | refine Ex.cond ?_ ?_
    | refine Ex.onE ?_ ?_
    | refine Ex.join ?_ fun _ _ _ => ?_
    | refine Ex.loop (fun _ _ => ?_) fun _ _ _ => ?_

theorem tree_Tree_Clear.out {x0 x1 : AVal} {H : AHeap} {Q : AVal → AHeap → Prop} (h : tree_Tree_Clear.w x0 x1 H fun r H' => Q r H') : ∃ r H', S_tree_Tree_Clear [x0, x1] H r H' ∧ Q r H' := by
  obtain ⟨r, H', h1, h2⟩ := (tree_Tree_Clear.ex x0 x1 H).out h
  exact ⟨r, H', ⟨_, _, rfl, h1⟩, h2⟩

def tree_Tree_Root.w (x0 : AVal) (H : AHeap) (K : AVal → AHeap → Prop) : Prop :=
 hb (aAlloc H (List.replicate 32 (.int .u8 0))) fun v1 H2 =>
 vb (aEql false .ptr H2 x0 .nilp) fun v3 =>
 isB v3 fun b4 => cond b4
 (vb (aBuild (List.replicate 32 (.int .u8 0)) (fun k => some (k * 1, 1)) []) fun v5 =>
 sb (aStore H2 32 v1 v5) fun H6 =>
 fin .ret [.c true 32 (v1)] H6 K)
 (vb (aNilCheck x0) fun v7 =>
 vb (aFieldAddr 3 v7) fun v8 =>
 vb (aLoad H2 true 32 v8) fun v9 =>
 sb (aStore H2 32 v1 v9) fun H10 =>
 fin .ret [.c true 32 (v1)] H10 K)

def S_tree_Tree_Root : Abs.Spec := fun args H r H' => ∃ x0 : AVal, args = [x0] ∧ (tree_Tree_Root.w x0 H fun r1 H1 => r1 = r ∧ H1 = H') ∧ H <+: H'
theorem tree_Tree_Root.ok (args : List AVal) (H : AHeap) (r : AVal) (H' : AHeap) (h : S_tree_Tree_Root args H r H') : ∃ x0 : AVal, args = [x0] ∧ tree_Tree_Root.w x0 H fun r1 H1 => r1 = r ∧ H1 = H' := by
  obtain ⟨x0, h1, h2, _⟩ := h
  exact ⟨x0, h1, h2⟩
theorem tree_Tree_Root.quiet {args : List AVal} {H : AHeap} {r : AVal} {H' : AHeap} (h : S_tree_Tree_Root args H r H') : H <+: H' := by
  obtain ⟨_, _, _, h⟩ := h
  exact h
set_option maxRecDepth 100000 in
theorem tree_Tree_Root.ex (x0 : AVal) (H : AHeap) : Ex fun K : AVal × AHeap → Prop => tree_Tree_Root.w x0 H fun r H => K (r, H) := by
  unfold tree_Tree_Root.w
  repeat with_reducible first
    | exact Ex.pt _
    | exact Ex.fin
    | exact Ex.no
    | refine Ex.vb fun _ => ?_
    | refine Ex.hb fun _ _ => ?_
    | refine Ex.sb fun _ => ?_
    | refine Ex.cb fun _ _ => ?_
    | refine Ex.isB fun _ => ?_
    | refine Ex.cond ?_ ?_
    | refine Ex.onE ?_ ?_
    | refine Ex.join ?_ fun _ _ _ => ?_
    | refine Ex.loop (fun _ _ => ?_) fun _ _ _ => ?_

theorem tree_Tree_Root.out {x0 : AVal} {H : AHeap} {Q : AVal → AHeap → Prop} (h : tree_Tree_Root.w x0 H fun r H' => (H <+: H') ∧ Q r H') : ∃ r H', S_tree_Tree_Root [x0] H r H' ∧ Q r H' := by
  obtain ⟨r, H', h1, h2⟩ := (tree_Tree_Root.ex x0 H).out h
  exact ⟨r, H', ⟨_, rfl, h1, h2.1⟩, h2.2⟩

def tree_Tree_Sheet.w (x0 : AVal) (H : AHeap) (K : AVal → AHeap → Prop) : Prop :=
 vb (aEql false .ptr H x0 .nilp) fun v1 =>
 isB v1 fun b2 => cond b2
 (fin .ret [.v (.nilp)] H K)
 (vb (aNilCheck x0) fun v3 =>
 vb (aFieldAddr 35 v3) fun v4 =>
 vb (aLoad H false 1 v4) fun v5 =>
 fin .ret [.v (v5)] H K)

def S_tree_Tree_Sheet : Abs.Spec := fun args H r H' => ∃ x0 : AVal, args = [x0] ∧ (tree_Tree_Sheet.w x0 H fun r1 H1 => r1 = r ∧ H1 = H') ∧ H <+: H'
theorem tree_Tree_Sheet.ok (args : List AVal) (H : AHeap) (r : AVal) (H' : AHeap) (h : S_tree_Tree_Sheet args H r H') : ∃ x0 : AVal, args = [x0] ∧ tree_Tree_Sheet.w x0 H fun r1 H1 => r1 = r ∧ H1 = H' := by
  obtain ⟨x0, h1, h2, _⟩ := h
  exact ⟨x0, h1, h2⟩
theorem tree_Tree_Sheet.quiet {args : List AVal} {H : AHeap} {r : AVal} {H' : AHeap} (h : S_tree_Tree_Sheet args H r H') : H <+: H' := by
  obtain ⟨_, _, _, h⟩ := h
  exact h
set_option maxRecDepth 100000 in
theorem tree_Tree_Sheet.ex (x0 : AVal) (H : AHeap) : Ex fun K : AVal × AHeap → Prop => tree_Tree_Sheet.w x0 H fun r H => K (r, H) := by
  unfold tree_Tree_Sheet.w
  repeat with_reducible first
    | exact Ex.pt _
    | exact Ex.fin
    | exact Ex.no
    | refine Ex.vb fun _ => ?_
    | refine Ex.hb fun _ _ => ?_
    | refine Ex.sb fun _ => ?_
    | refine Ex.cb fun _ _ => ?_
    | refine Ex.isB fun _ => ?_
    | refine Ex.cond ?_ ?_
    | refine Ex.onE ?_ ?_
    | refine Ex.join ?_ fun _ _ _ => ?_
    | refine Ex.loop (fun _ _ => ?_) fun _ _ _ => ?_

theorem tree_Tree_Sheet.out {x0 : AVal} {H : AHeap} {Q : AVal → AHeap → Prop} (h : tree_Tree_Sheet.w x0 H fun r H' => (H <+: H') ∧ Q r H') : ∃ r H', S_tree_Tree_Sheet [x0] H r H' ∧ Q r H' := by
  obtain ⟨r, H', h1, h2⟩ := (tree_Tree_Sheet.ex x0 H).out h
  exact ⟨r, H', ⟨_, rfl, h1, h2.1⟩, h2.2⟩

def tree_Tree_Done.w (x0 : AVal) (H : AHeap) (K : AVal → AHeap → Prop) : Prop :=
 vb (aEql true .ptr H x0 .nilp) fun v1 =>
 isB v1 fun b2 => cond b2
 (vb (aNilCheck x0) fun v3 =>
 vb (aFieldAddr 35 v3) fun v4 =>
 vb (aLoad H false 1 v4) fun v5 =>
 cb (S_over_Sheet_Clear [v5] H) fun v6 H7 =>
 fin .normal [] H7 K)
 (fin .normal [] H K)

def S_tree_Tree_Done : Abs.Spec := fun args H r H' => ∃ x0 : AVal, args = [x0] ∧ (tree_Tree_Done.w x0 H fun r1 H1 => r1 = r ∧ H1 = H')
theorem tree_Tree_Done.ok (args : List AVal) (H : AHeap) (r : AVal) (H' : AHeap) (h : S_tree_Tree_Done args H r H') : ∃ x0 : AVal, args = [x0] ∧ tree_Tree_Done.w x0 H fun r1 H1 => r1 = r ∧ H1 = H' := by
  obtain ⟨x0, h1, h2⟩ := h
  exact ⟨x0, h1, h2⟩
set_option maxRecDepth 100000 in
theorem tree_Tree_Done.ex (x0 : AVal) (H : AHeap) : Ex fun K : AVal × AHeap → Prop => tree_Tree_Done.w x0 H fun r H => K (r, H) := by
  unfold tree_Tree_Done.w
  repeat with_reducible first
    | exact Ex.pt _
    | exact Ex.fin
    | exact Ex.no
    | refine Ex.vb fun _ => ?_
    | refine Ex.hb fun _ _ => ?_
    | refine Ex.sb fun _ => ?_
    | refine Ex.cb fun _ _ => ?_
    | refine Ex.isB fun _ => ?_
    | refine Ex.cond ?_ ?_
    | refine Ex.onE ?_ ?_
    | refine Ex.join ?_ fun _ _ _ => ?_
    | refine Ex.loop (fun _ _ => ?_) fun _ _ _ => ?_

theorem tree_Tree_Done.out {x0 : AVal} {H : AHeap} {Q : AVal → AHeap → Prop} (h : tree_Tree_Done.w x0 H fun r H' => Q r H') : ∃ r H', S_tree_Tree_Done [x0] H r H' ∧ Q r H' := by
  obtain ⟨r, H', h1, h2⟩ := (tree_Tree_Done.ex x0 H).out h
  exact ⟨r, H', ⟨_, rfl, h1⟩, h2⟩

def tree_Tree_Forget.w (x0 : AVal) (H : AHeap) (K : AVal → AHeap → Prop) : Prop :=
 vb (aEql true .ptr H x0 .nilp) fun v1 =>
 isB v1 fun b2 => cond b2
 (hb (aMakeMap H) fun v3 H4 =>
 vb (aNilCheck x0) fun v5 =>
 vb (aFieldAddr 36 v5) fun v6 =>
 sb (aStore H4 1 v6 v3) fun H7 =>
 fin .normal [] H7 K)
 (fin .normal [] H K)

def S_tree_Tree_Forget : Abs.Spec := fun args H r H' => ∃ x0 : AVal, args = [x0] ∧ (tree_Tree_Forget.w x0 H fun r1 H1 => r1 = r ∧ H1 = H')
theorem tree_Tree_Forget.ok (args : List AVal) (H : AHeap) (r : AVal) (H' : AHeap) (h : S_tree_Tree_Forget args H r H') : ∃ x0 : AVal, args = [x0] ∧ tree_Tree_Forget.w x0 H fun r1 H1 => r1 = r ∧ H1 = H' := by
  obtain ⟨x0, h1, h2⟩ := h
  exact ⟨x0, h1, h2⟩
set_option maxRecDepth 100000 in
theorem tree_Tree_Forget.ex (x0 : AVal) (H : AHeap) : Ex fun K : AVal × AHeap → Prop => tree_Tree_Forget.w x0 H fun r H => K (r, H) := by
  unfold tree_Tree_Forget.w
  repeat with_reducible first
    | exact Ex.pt _
    | exact Ex.fin
    | exact Ex.no
    | refine Ex.vb fun _ => ?_
    | refine Ex.hb fun _ _ => ?_
    | refine Ex.sb fun _ => ?_
    | refine Ex.cb fun _ _ => ?_
    | refine Ex.isB fun _ => ?_
    | refine Ex.cond ?_ ?_
    | refine Ex.onE ?_ ?_
    | refine Ex.join ?_ fun _ _ _ => ?_
    | refine Ex.loop (fun _ _ => ?_) fun _ _ _ => ?_

theorem tree_Tree_Forget.out {x0 : AVal} {H : AHeap} {Q : AVal → AHeap → Prop} (h : tree_Tree_Forget.w x0 H fun r H' => Q r H') : ∃ r H', S_tree_Tree_Forget [x0] H r H' ∧ Q r H' := by
  obtain ⟨r, H', h1, h2⟩ := (tree_Tree_Forget.ex x0 H).out h
  exact ⟨r, H', ⟨_, rfl, h1⟩, h2⟩

def tree_Tree_Known.w (x0 : AVal) (H : AHeap) (K : AVal → AHeap → Prop) : Prop :=
 vb (aEql false .ptr H x0 .nilp) fun v1 =>
 isB v1 fun b2 => cond b2
 (fin .ret [.v (.int .i64 0)] H K)
 (vb (aNilCheck x0) fun v3 =>
 vb (aFieldAddr 36 v3) fun v4 =>
 vb (aLoad H false 1 v4) fun v5 =>
 vb (lenMp H v5) fun v6 =>
 fin .ret [.v (v6)] H K)

def S_tree_Tree_Known : Abs.Spec := fun args H r H' => ∃ x0 : AVal, args = [x0] ∧ (tree_Tree_Known.w x0 H fun r1 H1 => r1 = r ∧ H1 = H') ∧ H <+: H'
theorem tree_Tree_Known.ok (args : List AVal) (H : AHeap) (r : AVal) (H' : AHeap) (h : S_tree_Tree_Known args H r H') : ∃ x0 : AVal, args = [x0] ∧ tree_Tree_Known.w x0 H fun r1 H1 => r1 = r ∧ H1 = H' := by
  obtain ⟨x0, h1, h2, _⟩ := h
  exact ⟨x0, h1, h2⟩
theorem tree_Tree_Known.quiet {args : List AVal} {H : AHeap} {r : AVal} {H' : AHeap} (h : S_tree_Tree_Known args H r H') : H <+: H' := by
  obtain ⟨_, _, _, h⟩ := h
  exact h
set_option maxRecDepth 100000 in
theorem tree_Tree_Known.ex (x0 : AVal) (H : AHeap) : Ex fun K : AVal × AHeap → Prop => tree_Tree_Known.w x0 H fun r H => K (r, H) := by
  unfold tree_Tree_Known.w
  repeat with_reducible first
    | exact Ex.pt _
    | exact Ex.fin
    | exact Ex.no
    | refine Ex.vb fun _ => ?_
    | refine Ex.hb fun _ _ => ?_
    | refine Ex.sb fun _ => ?_
    | refine Ex.cb fun _ _ => ?_
    | refine Ex.isB fun _ => ?_
    | refine Ex.cond ?_ ?_
    | refine Ex.onE ?_ ?_
    | refine Ex.join ?_ fun _ _ _ => ?_
    | refine Ex.loop (fun _ _ => ?_) fun _ _ _ => ?_

theorem tree_Tree_Known.out {x0 : AVal} {H : AHeap} {Q : AVal → AHeap → Prop} (h : tree_Tree_Known.w x0 H fun r H' => (H <+: H') ∧ Q r H') : ∃ r H', S_tree_Tree_Known [x0] H r H' ∧ Q r H' := by
  obtain ⟨r, H', h1, h2⟩ := (tree_Tree_Known.ex x0 H).out h
  exact ⟨r, H', ⟨_, rfl, h1, h2.1⟩, h2.2⟩

end Go.Sh

/- One text comes to what another one comes to: step by step. -/
namespace Go.Imp
open Go Go.Abs
theorem vb_imp {r : Option AVal} {F G : AVal → Prop} (h : vb r F) (k : ∀ v, r = some v → F v → G v) : vb r G := by
  cases r with
  | none => exact h
  | some v => exact k v rfl h
theorem hb_imp {r : Option (AVal × AHeap)} {F G : AVal → AHeap → Prop} (h : hb r F) (k : ∀ v H, F v H → G v H) : hb r G := by
  rcases r with _ | ⟨v, H⟩
  · exact h
  · exact k v H h
theorem sb_imp {r : Option AHeap} {F G : AHeap → Prop} (h : sb r F) (k : ∀ H, r = some H → F H → G H) : sb r G := by
  cases r with
  | none => exact h
  | some v => exact k v rfl h
theorem cb_imp {R : AVal → AHeap → Prop} {F G : AVal → AHeap → Prop} (h : cb R F) (k : ∀ v H, R v H → F v H → G v H) : cb R G := by
  obtain ⟨v, H, h1, h2⟩ := h
  exact ⟨v, H, h1, k v H h1 h2⟩
theorem isB_imp {x : AVal} {F G : Bool → Prop} (h : isB x F) (k : ∀ b, F b → G b) : isB x G := by
  cases x <;> first | exact k _ h | exact h
theorem cond_imp {b : Bool} {A B A' B' : Prop} (h : cond b A B) (k1 : A → A') (k2 : B → B') : cond b A' B' := by
  cases b
  · exact k2 h
  · exact k1 h
theorem onE_imp {e x : AExit} {A B A' B' : Prop} (h : onE e x A B) (k1 : A → A') (k2 : B → B') : onE e x A' B' := by
  by_cases q : e = x
  · subst q
    have s : ∀ X Y, onE e e X Y = X := fun X Y => if_pos rfl
    rw [s] at h ⊢
    exact k1 h
  · have : ∀ X Y, onE e x X Y = Y := fun X Y => if_neg q
    rw [this] at h ⊢
    exact k2 h
/-- Loops whose bodies come to the same while something stays so. -/
theorem LoopP.subI {A B : Body} (I : AHeap → Prop) (h : ∀ vs H (Kn Kn' : List AVal → AHeap → Prop) Ke, I H → (∀ v H, I H → Kn v H → Kn' v H) → A vs H Kn Ke → B vs H Kn' Ke) {vs : List AVal} {H : AHeap} {K : AExit → List AVal → AHeap → Prop}
    (h0 : I H) (k : Go.Abs.LoopP A vs H K) : Go.Abs.LoopP B vs H K := by
  obtain ⟨n, k⟩ := k
  refine ⟨n, ?_⟩
  induction n generalizing vs H with
  | zero => exact k
  | succ n ih => exact h _ _ _ _ _ h0 (fun v H i kk => ih i kk) k
/-- There are cells of this number. -/
def Has (q n : Nat) (H : AHeap) : Prop := ∃ cs, H[q]? = some (.cells 0 .exact cs) ∧ cs.length = n
theorem Has.pre {q n : Nat} {H K : AHeap} (h : Has q n H) (p : H <+: K) : Has q n K := by
  obtain ⟨cs, h1, h2⟩ := h
  exact ⟨cs, by rw [pre_get p (lt_of_some h1)]; exact h1, h2⟩
theorem Has.store {q n m : Nat} {H K : AHeap} {x y : AVal} (h : Has q n H) (e : aStore H m x y = some K) : Has q n K := by
  obtain ⟨cs, h1, h2⟩ := h
  unfold aStore at e
  split at e
  · rename_i r
    split at e
    · unfold wrCells at e
      split at e
      · rename_i v kd cs' hg
        split at e
        · rename_i hc
          cases e
          by_cases hq : r.id = q
          · rw [hq] at hg ⊢
            rw [h1] at hg
            cases hg
            refine ⟨_, List.getElem?_set_self (lt_of_some h1), ?_⟩
            have := hc.2.2.1
            simp only [splice, List.length_append, List.length_take, List.length_drop]
            omega
          · exact ⟨cs, by rw [List.getElem?_set_ne hq]; exact h1, h2⟩
        · cases e
      · cases e
    · cases e
  · cases e
theorem load_same {H C : AHeap} {q v off n : Nat} {b : Bool} (e : C[q]? = H[q]?) : aLoad C b n (.ptr ⟨q, v, off⟩) = aLoad H b n (.ptr ⟨q, v, off⟩) := by
  simp only [aLoad, rdCells]
  rw [e]
end Go.Imp

/- Trees: places, closures, reading a block. -/
namespace Go.Sh
open Go Go.Abs

section
variable {H0 B : AHeap} {own : Nat → Prop} {R : List Part} {L : RL} {v : RV} {n : Int} {i m : Nat} {lv : AVal} {T : List (List UInt8)} {t b : Nat} {d : Int} {root : List UInt8} {s km : AVal}
theorem nodeAt_spec (k : Int) : S_geom_NodeAt [.int .i64 k] B (.tup [.int .i64 (if 0 ≤ k ∧ k < 63 then 161 + k else 0), .int .i64 (if 0 ≤ k ∧ k < 63 then 0 else 3)]) B := by
  refine ⟨_, rfl, ?_, List.prefix_refl _⟩
  unfold geom_NodeAt.w
  refine JoinP.mk (fun e vs D => B = D ∧ ((e = .ret ∧ vs = [.int .i64 0, .int .i64 3] ∧ ¬ (0 ≤ k ∧ k < 63)) ∨ (e = .normal ∧ (0 ≤ k ∧ k < 63)))) ?_ ?_
  · repeat first
    | with_reducible refine vb_i (lss64 _ _ _) ?_
    refine isB_c (fun h1 => ⟨rfl, .inl ⟨rfl, rfl, by omega⟩⟩) (fun h1 => ?_)
    repeat first
    | with_reducible refine vb_i (geq64 _ _ _) ?_
    refine isB_c (fun h2 => ⟨rfl, .inl ⟨rfl, rfl, by omega⟩⟩) (fun h2 => ⟨rfl, .inr ⟨rfl, by omega⟩⟩)
  rintro e vs D ⟨rfl, ⟨rfl, rfl, h⟩ | ⟨rfl, h⟩⟩
  · repeat first
    | with_reducible refine onE_i ?_
    | ((with_reducible refine onE_s ?_ ?_); (· decide))
    rw [if_neg h, if_neg h]
    exact fin_ret (rvs_v (rvs_v (rvs_nil _))) ⟨rfl, rfl⟩
  · repeat first
    | with_reducible refine onE_i ?_
    | ((with_reducible refine vb_i (add64 ?_ ?_) ?_); (· omega); (· omega))
    rw [if_pos h, if_pos h]
    exact fin_ret (rvs_v (rvs_v (rvs_nil _))) ⟨rfl, rfl⟩
theorem leafAt_spec (k : Int) : S_geom_LeafAt [.int .i64 k] B (.tup [.int .i64 (if 0 ≤ k ∧ k < 64 then 224 + k else 0), .int .i64 (if 0 ≤ k ∧ k < 64 then 0 else 3)]) B := by
  refine ⟨_, rfl, ?_, List.prefix_refl _⟩
  unfold geom_LeafAt.w
  refine JoinP.mk (fun e vs D => B = D ∧ ((e = .ret ∧ vs = [.int .i64 0, .int .i64 3] ∧ ¬ (0 ≤ k ∧ k < 64)) ∨ (e = .normal ∧ (0 ≤ k ∧ k < 64)))) ?_ ?_
  · repeat first
    | with_reducible refine vb_i (lss64 _ _ _) ?_
    refine isB_c (fun h1 => ⟨rfl, .inl ⟨rfl, rfl, by omega⟩⟩) (fun h1 => ?_)
    repeat first
    | with_reducible refine vb_i (geq64 _ _ _) ?_
    refine isB_c (fun h2 => ⟨rfl, .inl ⟨rfl, rfl, by omega⟩⟩) (fun h2 => ⟨rfl, .inr ⟨rfl, by omega⟩⟩)
  rintro e vs D ⟨rfl, ⟨rfl, rfl, h⟩ | ⟨rfl, h⟩⟩
  · repeat first
    | with_reducible refine onE_i ?_
    | ((with_reducible refine onE_s ?_ ?_); (· decide))
    rw [if_neg h, if_neg h]
    exact fin_ret (rvs_v (rvs_v (rvs_nil _))) ⟨rfl, rfl⟩
  · repeat first
    | with_reducible refine onE_i ?_
    | ((with_reducible refine vb_i (add64 ?_ ?_) ?_); (· omega); (· omega))
    rw [if_pos h, if_pos h]
    exact fin_ret (rvs_v (rvs_v (rvs_nil _))) ⟨rfl, rfl⟩
theorem bare18 : ∃ C, S_tree_bare [] B (.str (zs 64)) C ∧ B <+: C := by
  obtain ⟨r, C, h, rfl, k⟩ := tree_bare.out (H := B) (Q := fun r C => r = .str (zs 64) ∧ B <+: C) (by
    unfold tree_bare.w
    refine hb_i (make64 _) ?_
    have hs := (Sep.start B (own := fun _ => False)).new (.cells 0 .exact ((bw 0).map ofByte))
    refine vb_i (bytes_str (view_row hs.g0 (by rw [List.length_map, bw_len]))) ?_
    rw [bw0]
    exact fin_ret (rvs_v (rvs_nil _)) ⟨pre_app _ _, rfl, pre_app _ _⟩)
  exact ⟨C, h, k⟩
/-- A node's sum, a leaf's sum, kept. -/
theorem Node_spec (h : Sep H0 own B (Part.orc i m lv T :: R)) (hT : T.length ≤ 1000000) {x : List UInt8} (hx : x.length = 64) :
    ∃ C lv', S_node_Node [.ptr ⟨i, 0, 0⟩, .str x] B (.tup [.agg ((sum (1 :: x)).map ofByte), .int .i64 0]) C ∧ Sep H0 own C (Part.orc i m lv' (keepT T (1 :: x)) :: R) := by
  obtain ⟨C, lv', h1, h2⟩ := orc_sums h (ss := [1 :: x]) (by simp; omega) (fun y hy => by simp at hy; subst hy; rw [List.length_cons]; omega)
  exact ⟨C, lv', ⟨_, _, rfl, .inr ⟨hx, rfl, h1⟩⟩, h2⟩
theorem Leaf_spec (h : Sep H0 own B (Part.orc i m lv T :: R)) (hT : T.length ≤ 1000000) {x : List UInt8} (hx : x.length = 64) :
    ∃ C lv', S_node_Leaf [.ptr ⟨i, 0, 0⟩, .str x] B (.tup [.agg ((sum (0 :: x)).map ofByte), .int .i64 0]) C ∧ Sep H0 own C (Part.orc i m lv' (keepT T (0 :: x)) :: R) := by
  obtain ⟨C, lv', h1, h2⟩ := orc_sums h (ss := [0 :: x]) (by simp; omega) (fun y hy => by simp at hy; subst hy; rw [List.length_cons]; omega)
  exact ⟨C, lv', ⟨_, _, rfl, .inr ⟨hx, rfl, h1⟩⟩, h2⟩
theorem node1_spec {ro : AVal} (h : Sep H0 own B (Part.orc i m lv T :: .obj t (.cells 0 .exact (tcells ro (.ptr ⟨i, 0, 0⟩) d root s km)) :: .obj b (.cells 0 .exact [.ptr ⟨t, 0, 0⟩]) :: R)) (hT : T.length ≤ 1000000) {x : List UInt8} (hx : x.length = 64) :
    ∃ C lv', S_tree_Tree_node_1 [.str x, .ptr ⟨b, 0, 0⟩] B (.tup [.agg ((sum (1 :: x)).map ofByte), .int .i64 0]) C ∧
      Sep H0 own C (Part.orc i m lv' (keepT T (1 :: x)) :: .obj t (.cells 0 .exact (tcells ro (.ptr ⟨i, 0, 0⟩) d root s km)) :: .obj b (.cells 0 .exact [.ptr ⟨t, 0, 0⟩]) :: R) := by
  have hl := sum_len (1 :: x)
  obtain ⟨r, C, h1, lv', rfl, h2⟩ := tree_Tree_node_1.out (x0 := .str x) (x1 := .ptr ⟨b, 0, 0⟩) (H := B) (Q := fun r C => ∃ lv', r = .tup [.agg ((sum (1 :: x)).map ofByte), .int .i64 0] ∧
      Sep H0 own C (Part.orc i m lv' (keepT T (1 :: x)) :: .obj t (.cells 0 .exact (tcells ro (.ptr ⟨i, 0, 0⟩) d root s km)) :: .obj b (.cells 0 .exact [.ptr ⟨t, 0, 0⟩]) :: R)) (by
    unfold tree_Tree_node_1.w
    refine s_alloc h fun a C1 _ hs => ?_
    refine vb_ld hs.g3 rfl ?_
    refine vb_i (e_nilCheck _) ?_
    refine vb_i (e_fieldAddr _ _) ?_
    refine vb_ld hs.g2 rfl ?_
    obtain ⟨C2, lv', hc, hs⟩ := Node_spec hs.f1 hT hx
    refine cb_i _ _ hc ?_
    refine vb_i e_ext0 ?_
    refine vb_i e_ext1 ?_
    refine s_storeA hs.f1 rfl (by simp [hl]) rfl (cells_byte _) fun C3 hs => ?_
    exact fin_ret (rvs_c (e_loadAll hs.g0 (by simp [hl])) (rvs_v (rvs_nil _))) ⟨lv', rfl, hs.tail⟩)
  exact ⟨C, lv', h1, h2⟩
theorem get1_spec {ro : AVal} (h : Sep H0 own B (Part.orc i m lv T :: .obj t (.cells 0 .exact (tcells ro (.ptr ⟨i, 0, 0⟩) d root s km)) :: .obj b (.cells 0 .exact [.ptr ⟨t, 0, 0⟩]) :: R)) (hT : T.length ≤ 1000000) {x : List UInt8} (hx : x.length = 64) :
    ∃ C lv', S_tree_Tree_Get_1 [.str x, .ptr ⟨b, 0, 0⟩] B (.tup [.agg ((sum (0 :: x)).map ofByte), .int .i64 0]) C ∧
      Sep H0 own C (Part.orc i m lv' (keepT T (0 :: x)) :: .obj t (.cells 0 .exact (tcells ro (.ptr ⟨i, 0, 0⟩) d root s km)) :: .obj b (.cells 0 .exact [.ptr ⟨t, 0, 0⟩]) :: R) := by
  have hl := sum_len (0 :: x)
  obtain ⟨r, C, h1, lv', rfl, h2⟩ := tree_Tree_Get_1.out (x0 := .str x) (x1 := .ptr ⟨b, 0, 0⟩) (H := B) (Q := fun r C => ∃ lv', r = .tup [.agg ((sum (0 :: x)).map ofByte), .int .i64 0] ∧
      Sep H0 own C (Part.orc i m lv' (keepT T (0 :: x)) :: .obj t (.cells 0 .exact (tcells ro (.ptr ⟨i, 0, 0⟩) d root s km)) :: .obj b (.cells 0 .exact [.ptr ⟨t, 0, 0⟩]) :: R)) (by
    unfold tree_Tree_Get_1.w
    refine s_alloc h fun a C1 _ hs => ?_
    refine vb_ld hs.g3 rfl ?_
    refine vb_i (e_nilCheck _) ?_
    refine vb_i (e_fieldAddr _ _) ?_
    refine vb_ld hs.g2 rfl ?_
    obtain ⟨C2, lv', hc, hs⟩ := Leaf_spec hs.f1 hT hx
    refine cb_i _ _ hc ?_
    refine vb_i e_ext0 ?_
    refine vb_i e_ext1 ?_
    refine s_storeA hs.f1 rfl (by simp [hl]) rfl (cells_byte _) fun C3 hs => ?_
    exact fin_ret (rvs_c (e_loadAll hs.g0 (by simp [hl])) (rvs_v (rvs_nil _))) ⟨lv', rfl, hs.tail⟩)
  exact ⟨C, lv', h1, h2⟩
/-- The first byte of what is summed, by the closure. -/
def pfx (g : Nat) : UInt8 := if g = TreeF.node1 then 1 else 0
/-- A block is read, and must have a sum. -/
theorem tread_spec {want : List UInt8} {at_ : Int} {g : Nat} (hg : g = TreeF.node1 ∨ g = TreeF.get1)
    (h : Sep H0 own B (rparts L v (Part.orc i m lv T :: .obj t (.cells 0 .exact (tcells (.ptr ⟨L.p, 0, 0⟩) (.ptr ⟨i, 0, 0⟩) d root s km)) :: .obj b (.cells 0 .exact [.ptr ⟨t, 0, 0⟩]) :: R)))
    (c : Calm v n) (hf : v.fault = 0) (hn : n ≤ 1000000) (hT : T.length ≤ 1000000) (hm : mayG d at_ = 0) (hw : want.length = 32) :
    ∃ C v' lv', S_tree_Tree_read [.ptr ⟨t, 0, 0⟩, .int .i64 at_, .func (.func g) [] [.ptr ⟨b, 0, 0⟩], .agg (want.map ofByte)] B
        (if sum (pfx g :: nowAt v d at_) = want then .tup [.str (nowAt v d at_), .int .i64 0] else .tup [.str [], .int .i64 12]) C ∧
      Calm v' (n + 1) ∧ v'.fault = 0 ∧ (∀ e, v'.dev e = v.dev e) ∧
      Sep H0 own C (rparts L v' (Part.orc i m lv' (keepT T (pfx g :: nowAt v d at_)) :: .obj t (.cells 0 .exact (tcells (.ptr ⟨L.p, 0, 0⟩) (.ptr ⟨i, 0, 0⟩) d root s km)) :: .obj b (.cells 0 .exact [.ptr ⟨t, 0, 0⟩]) :: R)) := by
  obtain ⟨hd, hi0, hi1⟩ := mayG_ok hm
  obtain ⟨a1, a2, a3, a4, a5⟩ := ask_calm c hm
  rw [if_neg (by omega)] at a3 a5
  have hx := now_len (d := d) c hi0 hi1
  have cl := c.calls
  obtain ⟨r, C, h1, v', lv', h2⟩ := tree_Tree_read.out (x0 := .ptr ⟨t, 0, 0⟩) (x1 := .int .i64 at_) (x2 := .func (.func g) [] [.ptr ⟨b, 0, 0⟩]) (x3 := .agg (want.map ofByte)) (H := B) (Q := fun r C => ∃ v' lv',
      r = (if sum (pfx g :: nowAt v d at_) = want then .tup [.str (nowAt v d at_), .int .i64 0] else .tup [.str [], .int .i64 12]) ∧ Calm v' (n + 1) ∧ v'.fault = 0 ∧ (∀ e, v'.dev e = v.dev e) ∧
      Sep H0 own C (rparts L v' (Part.orc i m lv' (keepT T (pfx g :: nowAt v d at_)) :: .obj t (.cells 0 .exact (tcells (.ptr ⟨L.p, 0, 0⟩) (.ptr ⟨i, 0, 0⟩) d root s km)) :: .obj b (.cells 0 .exact [.ptr ⟨t, 0, 0⟩]) :: R))) (by
    unfold tree_Tree_read.w
    refine s_box h rfl fun w C1 _ hs => ?_
    simp only [AVal.cells] at hs
    have hs := rp_out (X := [_, _, _, _]) (rp_in (X := [_]) hs)
    refine vb_i (e_nilCheck _) ?_
    refine vb_i (e_fieldAddr _ _) ?_
    refine vb_ld hs.g2 rfl ?_
    refine vb_i (e_nilCheck _) ?_
    refine vb_i (e_fieldAddr _ _) ?_
    refine vb_ld hs.g2 rfl ?_
    obtain ⟨C2, hc, hs⟩ := rig_Read_spec (rp_in (X := [_, _, _, _]) hs) c.wr (by omega) d at_
    refine cb_i _ _ hc ?_
    rw [a3, a5]
    have hs := rp_out (X := [_, _, _, _]) hs
    generalize v.ask d at_ = v' at a1 a2 a4 hs
    rw [hf] at a2
    generalize nowAt v d at_ = x at hx
    refine vb_i e_ext0 ?_
    refine vb_i e_ext1 ?_
    refine vb_i (neq64 _ _ _) ?_
    refine isB_cf (by decide) ?_
    have key : ∃ C3 lv', treeCP (.func (.func g) [] [.ptr ⟨b, 0, 0⟩]) [.str x] C2 (.tup [.agg ((sum (pfx g :: x)).map ofByte), .int .i64 0]) C3 ∧
        Sep H0 own C3 (Part.orc i m lv' (keepT T (pfx g :: x)) :: .obj t (.cells 0 .exact (tcells (.ptr ⟨L.p, 0, 0⟩) (.ptr ⟨i, 0, 0⟩) d root s km)) :: .obj b (.cells 0 .exact [.ptr ⟨t, 0, 0⟩]) :: .obj w (.cells 0 .exact (want.map ofByte)) :: rparts L v' R) := by
      rcases hg with rfl | rfl
      · obtain ⟨C3, lv', h1, h2⟩ := node1_spec hs.b3 hT hx
        exact ⟨C3, lv', .inl ⟨_, rfl, h1⟩, h2⟩
      · obtain ⟨C3, lv', h1, h2⟩ := get1_spec hs.b3 hT hx
        exact ⟨C3, lv', .inr ⟨_, rfl, h1⟩, h2⟩
    obtain ⟨C3, lv', hc, hs⟩ := key
    have hl := sum_len (pfx g :: x)
    generalize sum (pfx g :: x) = D at hl hc
    refine cb_i _ _ hc ?_
    refine vb_i e_ext0 ?_
    refine vb_i e_ext1 ?_
    refine s_alloc hs fun a C4 _ hs => ?_
    refine s_storeA hs rfl (by simp [hl]) rfl (cells_byte _) fun C5 hs => ?_
    refine vb_ldA hs.g0 (by simp [hl]) ?_
    refine vb_ldA hs.g4 (by simp [hw]) ?_
    refine vb_i (e_neBytes hl hw) ?_
    have hs := rp_in (X := [_, _, _]) (hs.tail.f3.tail : Sep H0 own C5 ([_, _, _] ++ rparts L v' R))
    refine isB_c (fun h1 => ?_) (fun h1 => ?_)
    · rw [if_neg h1]
      exact fin_ret (rvs_v (rvs_v (rvs_nil _))) ⟨v', lv', rfl, a1, a2, a4, hs⟩
    · rw [if_pos (Classical.not_not.1 h1)]
      exact fin_ret (rvs_v (rvs_v (rvs_nil _))) ⟨v', lv', rfl, a1, a2, a4, hs⟩)
  exact ⟨C, v', lv', h2.1 ▸ h1, h2.2⟩
end
end Go.Sh

/- Trees: the way down, whatever order its region takes. -/
namespace Go.Sh
open Go Go.Abs

theorem vb_ex {r : Option AVal} {F : AVal → Prop} (h : vb r F) : ∃ v, r = some v ∧ F v := by
  cases r with
  | none => exact h.elim
  | some v => exact ⟨v, rfl, h⟩
theorem keep_has {H H' : AHeap} {q : Nat} (i : Imp.Has q 33 H) (k : Keep33 H H') : Imp.Has q 33 H' ∧ H'[q]? = H[q]? := by
  obtain ⟨cs, h1, h2⟩ := i
  have := k q cs h1 h2
  exact ⟨⟨cs, by rw [this]; exact h1, h2⟩, this⟩
theorem node_keep {args : List AVal} {H H' : AHeap} {r : AVal} (h : S_tree_Tree_node args H r H') : Keep33 H H' := by
  obtain ⟨_, _, _, _, _, h⟩ := h
  exact h
theorem down_body {q : Nat} {v9 x0 x1 a b : AVal} {H : AHeap} {Kn Kn' : List AVal → AHeap → Prop} {Ke : AExit → List AVal → AHeap → Prop} (i : Imp.Has q 33 H) (hk : ∀ v H, Imp.Has q 33 H → Kn v H → Kn' v H)
    (h : tree_Tree_downV.L9.b (.ptr ⟨q, 0, 0⟩) v9 x0 x1 a b H Kn Ke) : tree_Tree_down.L9.b (.ptr ⟨q, 0, 0⟩) v9 x0 x1 a b H Kn' Ke := by
  unfold tree_Tree_downV.L9.b at h
  unfold tree_Tree_down.L9.b
  refine Imp.vb_imp h fun v30 _ h => Imp.isB_imp h fun b31 h => Imp.cond_imp h (fun h => ?_) (fun h => h)
  obtain ⟨Q, hA, hK⟩ := h
  refine ⟨fun e vs H => Q e vs H ∧ Imp.Has q 33 H, ⟨?_, ?_⟩, ?_⟩
  · exact Imp.vb_imp hA fun v33 _ h => Imp.vb_imp h fun v34 _ h => Imp.vb_imp h fun v35 _ h => Imp.vb_imp h fun v36 _ h => Imp.vb_imp h fun v37 _ h => Imp.vb_imp h fun v38 _ h => Imp.cb_imp h fun v39 H40 hS h =>
      Imp.vb_imp h fun v41 _ h => Imp.vb_imp h fun v42 _ h => Imp.vb_imp h fun v43 _ h => Imp.sb_imp h fun H44 e h => ⟨h, (keep_has i (node_keep hS)).1.store e⟩
  · refine Imp.vb_imp hA fun v33 e33 h => ?_
    cases e33
    obtain ⟨v34, e34, h⟩ := vb_ex h
    refine Imp.vb_imp h fun v35 _ h => Imp.vb_imp h fun v36 _ h => Imp.vb_imp h fun v37 _ h => Imp.vb_imp h fun v38 _ h => Imp.cb_imp h fun v39 H40 hS h => ?_
    obtain ⟨k1, k2⟩ := keep_has i (node_keep hS)
    refine vb_i ((Imp.load_same k2).trans e34) ?_
    exact Imp.vb_imp h fun v41 _ h => Imp.vb_imp h fun v42 _ h => Imp.vb_imp h fun v43 _ h => Imp.sb_imp h fun H44 e h => ⟨h, k1.store e⟩
  · rintro e vs H ⟨hq, iH⟩
    refine Imp.onE_imp (hK e vs H hq) (fun h => ?_) (fun h => h)
    exact Imp.vb_imp h fun v48 _ h => Imp.isB_imp h fun b h => Imp.cond_imp h (fun h => h) fun h => Imp.vb_imp h fun v50 _ h => Imp.vb_imp h fun v51 _ h => Imp.cb_imp h fun v52 H53 hS h =>
      Imp.vb_imp h fun v54 _ h => Imp.vb_imp h fun v55 _ h => Imp.vb_imp h fun v56 _ h => Imp.vb_imp h fun v57 _ h => Imp.vb_imp h fun v58 _ h => Imp.vb_imp h fun v59 _ h => Imp.cb_imp h fun v60 H61 hS2 h =>
      Imp.vb_imp h fun v62 _ h => Imp.vb_imp h fun v63 _ h => Imp.vb_imp h fun v64 _ h => Imp.sb_imp h fun H65 e h => Imp.vb_imp h fun v66 _ h =>
      hk _ _ (((iH.pre (node_Side.quiet hS)).pre (node_Split.quiet hS2)).store e) h
set_option maxRecDepth 20000 in
theorem tree_Tree_down.ok (args : List AVal) (H : AHeap) (r : AVal) (H' : AHeap) (h : S_tree_Tree_down args H r H') : ∃ x0 x1 : AVal, args = [x0, x1] ∧ tree_Tree_down.w x0 x1 H fun r1 H1 => r1 = r ∧ H1 = H' := by
  obtain ⟨x0, x1, h1, h⟩ := h
  refine ⟨x0, x1, h1, ?_⟩
  unfold tree_Tree_downV.w at h
  unfold tree_Tree_down.w
  refine Imp.hb_imp h fun v1 H2 h => Imp.vb_imp h fun v3 _ h => Imp.isB_imp h fun b4 h => Imp.cond_imp h (fun h => h) fun h => Imp.cb_imp h fun v7 H8 _ h => Imp.vb_imp h fun v9 _ h => Imp.vb_imp h fun v10 _ h => Imp.vb_imp h fun v11 _ h =>
    Imp.isB_imp h fun b12 h => Imp.cond_imp h (fun h => h) fun h => Imp.vb_imp h fun v15 _ h => Imp.hb_imp h fun v16 H17 h => Imp.vb_imp h fun v18 _ h => Imp.vb_imp h fun v19 _ h => Imp.vb_imp h fun v20 _ h => Imp.vb_imp h fun v21 _ h => ?_
  have hh : Imp.Has H17.length 33 (H17 ++ [AObj.cells 0 .exact (.nils :: (zs 32).map ofByte)]) := ⟨_, by rw [app_get0]; rfl, rfl⟩
  refine hb_i (e_alloc _ _) ?_
  have h := h
  refine Imp.sb_imp (r := aStore (H17 ++ [AObj.cells 0 .exact (.nils :: (zs 32).map ofByte)]) 33 (.ptr ⟨H17.length, 0, 0⟩) v21) h fun H24 e h => Imp.vb_imp h fun v25 _ h => Imp.vb_imp h fun v26 _ h => ?_
  exact Imp.LoopP.subI (A := tree_Tree_downV.L9 (.ptr ⟨H17.length, 0, 0⟩) v9 x0 x1) (B := tree_Tree_down.L9 (.ptr ⟨H17.length, 0, 0⟩) v9 x0 x1) (Imp.Has H17.length 33) (fun vs H Kn Kn' Ke i hk h => down_body i hk h) (hh.store e) h
end Go.Sh

/- Trees: a node's block. -/
namespace Go.Sh
open Go Go.Abs

section
variable {H0 B : AHeap} {own : Nat → Prop} {R : List Part} {L : RL} {v : RV} {n : Int} {i m : Nat} {lv : AVal} {T : List (List UInt8)} {t b km : Nat} {d : Int} {root : List UInt8} {s : AVal} {K : List PutV}
/-- No object of 33 cells. -/
def no33 (P : Part) (B : AHeap) : Prop := ∀ q ∈ P.ids, ∀ cs, B[q]? = some (.cells 0 .exact cs) → cs.length ≠ 33
theorem no33_obj {q : Nat} {cs : List AVal} (h : (Part.obj q (.cells 0 .exact cs)).ok B) (hl : cs.length ≠ 33) : no33 (Part.obj q (.cells 0 .exact cs)) B := by
  intro j hj cs' hc
  simp [Part.obj] at hj
  subst hj
  have h : B[j]? = some (.cells 0 .exact cs) := h
  rw [h] at hc; cases hc; exact hl
theorem no33_sl {sv : AVal} {es k : Nat} {cs : List AVal} (h : (Part.sl sv es k cs).ok B) (hl : k * es ≠ 33) : no33 (Part.sl sv es k cs) B := by
  intro j hj cs' hc
  have h : Own B sv es k cs := h
  obtain ⟨h1, h2⟩ := h
  rcases h2 with ⟨rfl, _⟩ | ⟨q, w, rfl, h3⟩ | ⟨q, w, rfl, h3⟩
  · simp [Part.sl, slId] at hj
  · simp [Part.sl, slId] at hj
    subst hj
    rw [h3] at hc; cases hc; omega
  · simp [Part.sl, slId] at hj
    subst hj
    rw [h3] at hc; cases hc
theorem no33_dev {q : Nat} {sv : AVal} {l : List Bk} (h : (Part.dev q sv l).ok B) (hl : l.length = 288) : no33 (Part.dev q sv l) B := by
  obtain ⟨h1, h2, _⟩ := h
  intro j hj
  rcases List.mem_append.1 hj with hj | hj
  · exact no33_obj h1 (by simp) j hj
  · exact no33_sl h2 (by rw [hl]; decide) j hj
theorem no33_orc (h : (Part.orc i m lv T).ok B) : no33 (Part.orc i m lv T) B := by
  obtain ⟨mv, h⟩ := h
  intro j hj cs hc
  simp only [Part.orc, List.mem_cons, Option.mem_toList] at hj
  rcases hj with rfl | rfl | hj
  · have h1 := h.cell
    rw [h1] at hc; cases hc; simp
  · have h1 := h.mp
    rw [h1] at hc; cases hc
  · rcases h.lst with ⟨rfl, _⟩ | ⟨q, u, rfl, h2, _⟩
    · cases hj
    · cases hj
      have hc : B[q]? = some (.cells 0 .exact cs) := hc
      rw [h2] at hc; cases hc
theorem no33_km (h : (kmP km K).ok B) : no33 (kmP km K) B := by
  obtain ⟨_, w, es, h2, _⟩ := h
  intro j hj cs hc
  simp [kmP] at hj
  subst hj
  rw [h2] at hc; cases hc
/-- What a node's look-up comes to. -/
def nodeQ (v : RV) (d : Int) (K K' : List PutV) (T' : List (List UInt8)) (k : Nat) (want : List UInt8) (r : AVal) : Prop :=
  (∃ x, getL K k = some x ∧ K' = K ∧ r = .tup [.str x, .int .i64 0]) ∨
  (getL K k = none ∧ sum (1 :: nowAt v d (161 + k)) = want ∧ (1 :: nowAt v d (161 + k)) ∈ T' ∧ K' = setL K ((k : Int), nowAt v d (161 + k)) ∧ r = .tup [.str (nowAt v d (161 + k)), .int .i64 0]) ∨
  (getL K k = none ∧ sum (1 :: nowAt v d (161 + k)) ≠ want ∧ K' = K ∧ r = .tup [.str [], .int .i64 12])
theorem tnode_run {want : List UInt8} {k : Nat} (h : Sep H0 own B (rparts L v (Part.orc i m lv T :: .obj t (.cells 0 .exact (tcells (.ptr ⟨L.p, 0, 0⟩) (.ptr ⟨i, 0, 0⟩) d root s (.map km))) :: kmP km K :: R)))
    (c : Calm v n) (hf : v.fault = 0) (hn : n ≤ 1000000) (hT : T.length ≤ 1000000) (hk : k < 63) (hd : d = 0 ∨ d = 1) (hw : want.length = 32) (hr : root.length = 32) :
    tree_Tree_node.w (.ptr ⟨t, 0, 0⟩) (.int .i64 k) (.agg (want.map ofByte)) B fun r C => ∃ v' lv' T' K', Calm v' (n + 1) ∧ v'.fault = 0 ∧ (∀ e, v'.dev e = v.dev e) ∧ (∀ x ∈ T, x ∈ T') ∧ T'.length ≤ T.length + 1 ∧ nodeQ v d K K' T' k want r ∧
      Sep H0 own C (rparts L v' (Part.orc i m lv' T' :: .obj t (.cells 0 .exact (tcells (.ptr ⟨L.p, 0, 0⟩) (.ptr ⟨i, 0, 0⟩) d root s (.map km))) :: kmP km K' :: R)) := by
  unfold tree_Tree_node.w
  refine s_boxS h rfl fun b C1 hs => ?_
  refine s_box hs rfl fun w C2 _ hs => ?_
  simp only [AVal.cells] at hs
  have hs := rp_out (X := [_, _, _, _, _]) (rp_in (X := [_, _]) hs)
  refine vb_ld hs.g1 rfl ?_
  refine vb_i (e_nilCheck _) ?_
  refine vb_i (e_fieldAddr _ _) ?_
  refine tc_k hs.g3 hr ?_
  refine vb_i (km_look hs.tail.tail.tail.tail.head k) ?_
  refine vb_i e_ext0 ?_
  refine vb_i e_ext1 ?_
  cases hg : getL K k with
  | some x =>
    refine isB_T ?_
    have hs := rp_in (X := [_, _, _]) (hs.tail.tail : Sep H0 own C2 ([_, _, _] ++ rparts L v R))
    exact fin_ret (rvs_v (rvs_v (rvs_nil _))) ⟨v, lv, T, K, calm_le c (by omega), hf, fun _ => rfl, fun _ h => h, by omega, .inl ⟨x, hg, rfl, rfl⟩, hs⟩
  | none =>
    refine isB_F ?_
    refine cb_i _ _ (nodeAt_spec k) ?_
    rw [if_pos (by omega), if_pos (by omega)]
    refine vb_i e_ext0 ?_
    refine vb_i e_ext1 ?_
    refine vb_ld hs.g1 rfl ?_
    refine vb_ldA hs.g0 (by simp [hw]) ?_
    have hm : mayG d (161 + (k : Int)) = 0 := by
      unfold mayG
      rw [if_neg (by omega), if_neg (by omega)]
    obtain ⟨C3, v', lv', hc, c', f', hdev, hs⟩ := tread_spec (g := TreeF.node1) (b := b) (.inl rfl) (rp_in (X := [_, _, _, _, _]) (hs.f1.f3.f3 : Sep H0 own C2 ([_, _, _, _, _] ++ rparts L v R))) c hf hn hT hm hw
    have hpf : pfx TreeF.node1 = 1 := if_pos rfl
    rw [hpf] at hc hs
    have hs := rp_out (X := [_, _, _, _, _]) hs
    have hkl := (keepT_len T (1 :: nowAt v d (161 + k))).2
    have hkm : (1 :: nowAt v d (161 + k)) ∈ keepT T (1 :: nowAt v d (161 + k)) := by unfold keepT; split <;> simp_all
    have hks : ∀ x ∈ T, x ∈ keepT T (1 :: nowAt v d (161 + k)) := fun x hx => by unfold keepT; split <;> simp [hx]
    by_cases hsum : sum (1 :: nowAt v d (161 + k)) = want
    · rw [if_pos hsum] at hc
      refine cb_i _ _ hc ?_
      refine vb_i e_ext0 ?_
      refine vb_i e_ext1 ?_
      refine JoinP.mk (fun e vs D => e = .normal ∧ Sep H0 own D ([Part.orc i m lv' (keepT T (1 :: nowAt v d (161 + k))), .obj t (.cells 0 .exact (tcells (.ptr ⟨L.p, 0, 0⟩) (.ptr ⟨i, 0, 0⟩) d root s (.map km))), .obj b (.cells 0 .exact [.ptr ⟨t, 0, 0⟩]), .obj w (.cells 0 .exact (want.map ofByte)), kmP km (setL K ((k : Int), nowAt v d (161 + k)))] ++ rparts L v' R)) ?_ ?_
      · refine vb_i (eql64 _ _ _) ?_
        refine isB_ct rfl ?_
        refine vb_ld hs.g2 rfl ?_
        refine vb_i (e_nilCheck _) ?_
        refine vb_i (e_fieldAddr _ _) ?_
        refine tc_k hs.g1 hr ?_
        refine km_put hs.f4 _ _ fun C4 hs => ?_
        exact ⟨rfl, hs.b4⟩
      rintro e vs D ⟨rfl, hs⟩
      refine onE_i ?_
      have hs := rp_in (X := [_, _, _]) (hs.f2.tail.f2.tail : Sep H0 own D ([_, _, _] ++ rparts L v' R))
      exact fin_ret (rvs_v (rvs_v (rvs_nil _))) ⟨v', lv', _, _, c', f', hdev, hks, hkl, .inr (.inl ⟨hg, hsum, hkm, rfl, rfl⟩), hs⟩
    · rw [if_neg hsum] at hc
      refine cb_i _ _ hc ?_
      refine vb_i e_ext0 ?_
      refine vb_i e_ext1 ?_
      refine JoinP.mk (fun e vs D => e = .normal ∧ C3 = D) ?_ ?_
      · refine vb_i (eql64 _ _ _) ?_
        refine isB_cf (by decide) ?_
        exact ⟨rfl, rfl⟩
      rintro e vs D ⟨rfl, rfl⟩
      refine onE_i ?_
      have hs := rp_in (X := [_, _, _]) (hs.f2.tail.f2.tail : Sep H0 own C3 ([_, _, _] ++ rparts L v' R))
      exact fin_ret (rvs_v (rvs_v (rvs_nil _))) ⟨v', lv', _, _, c', f', hdev, hks, hkl, .inr (.inr ⟨hg, hsum, rfl, rfl⟩), hs⟩
theorem tnode_spec {want : List UInt8} {k : Nat} (h : Sep H0 own B (rparts L v (Part.orc i m lv T :: .obj t (.cells 0 .exact (tcells (.ptr ⟨L.p, 0, 0⟩) (.ptr ⟨i, 0, 0⟩) d root s (.map km))) :: kmP km K :: R)))
    (c : Calm v n) (hf : v.fault = 0) (hn : n ≤ 1000000) (hT : T.length ≤ 1000000) (hk : k < 63) (hd : d = 0 ∨ d = 1) (hw : want.length = 32) (hr : root.length = 32) :
    ∃ r C v' lv' T' K', S_tree_Tree_node [.ptr ⟨t, 0, 0⟩, .int .i64 k, .agg (want.map ofByte)] B r C ∧ Calm v' (n + 1) ∧ v'.fault = 0 ∧ (∀ e, v'.dev e = v.dev e) ∧ (∀ x ∈ T, x ∈ T') ∧ T'.length ≤ T.length + 1 ∧ nodeQ v d K K' T' k want r ∧
      Sep H0 own C (rparts L v' (Part.orc i m lv' T' :: .obj t (.cells 0 .exact (tcells (.ptr ⟨L.p, 0, 0⟩) (.ptr ⟨i, 0, 0⟩) d root s (.map km))) :: kmP km K' :: R)) := by
  have hh : Sep H0 own B ((rparts L v [Part.orc i m lv T, .obj t (.cells 0 .exact (tcells (.ptr ⟨L.p, 0, 0⟩) (.ptr ⟨i, 0, 0⟩) d root s (.map km))), kmP km K]) ++ R) := h
  have hsub := hh.sub
  obtain ⟨r, C, h1, v', lv', T', K', e1, e2, e3, e4, e5, e6, e7⟩ := (tree_Tree_node.ex _ _ _ _).out (tnode_run hsub c hf hn hT hk hd hw hr)
  refine ⟨r, C, v', lv', T', K', ⟨_, _, _, rfl, h1, fun q cs hq hl => ?_⟩, e1, e2, e3, e4, e5, e6, hh.call e7⟩
  refine e7.frame q (lt_of_some hq) ?_
  rintro ⟨P, hP, hqP⟩
  have hok := hsub.ok P hP
  simp only [rparts, List.mem_cons, List.not_mem_nil, or_false] at hP
  rcases hP with rfl | rfl | rfl | rfl | rfl | rfl
  · exact no33_obj hok (by simp [gcells]) q hqP cs hq hl
  · exact no33_dev hok c.wr.l0 q hqP cs hq hl
  · exact no33_dev hok c.wr.l1 q hqP cs hq hl
  · exact no33_orc hok q hqP cs hq hl
  · exact no33_obj hok (by rw [tc_len hr]; decide) q hqP cs hq hl
  · exact no33_km hok q hqP cs hq hl
end
end Go.Sh

/- Trees: the way down to a leaf. -/
namespace Go.Sh
open Go Go.Abs

def wayV (x : AVal) (D : List UInt8) : AVal := .agg (x :: D.map ofByte)
def blkL (dd : List D32) (k : Nat) : List (List UInt8) := (List.range 6).map fun i => nblk dd i (k / 2 ^ (i + 1))
/-- What is known of known nodes. -/
structure TI (dd : List D32) (K : List PutV) (T : List (List UInt8)) : Prop where
  len : ∀ p ∈ K, (0 ≤ p.1 ∧ p.1 < 63) ∧ p.2.length = 64
  right : NoClash T → ∀ p ∈ K, p.2 = ndB dd p.1.toNat
  texts : ∀ j, j < 63 → (1 :: ndB dd j) ∈ T
/-- Nobody has changed a node. -/
structure HO (dd : List D32) (K : List PutV) (v : RV) (d : Int) : Prop where
  known : ∀ p ∈ K, p.2 = ndB dd p.1.toNat
  dev : ∀ j : Nat, j < 63 → getL K j = none → nowAt v d (161 + j) = ndB dd j
theorem NoClash.sub {T T' : List (List UInt8)} (h : NoClash T') (hs : ∀ x ∈ T, x ∈ T') : NoClash T := fun a b ha hb e => h a b (hs a ha) (hs b hb) e
theorem mem_set {K : List PutV} {a : Int} {x : List UInt8} {p : PutV} (h : p ∈ setL K (a, x)) : p = (a, x) ∨ p ∈ K := by
  rcases List.mem_cons.1 ((set_perm K (a, x)).mem_iff.1 h) with h | h
  · exact .inl h
  · exact .inr (List.mem_filter.1 h).1
/-- A node's look-up: what was told of known nodes stays so, and what comes is right where it can be known. -/
theorem node_step {dd : List D32} {K K' : List PutV} {T T' : List (List UInt8)} {v : RV} {d n : Int} {k : Nat} {want : List UInt8} {r : AVal} {P : Prop} (hP : P → HO dd K v d) (c : Calm v n) (hr : Rising K) (ti : TI dd K T) (hk : k < 63) (hT : ∀ x ∈ T, x ∈ T') (hq : nodeQ v d K K' T' k want r)
    (hw : NoClash T' ∨ P → want = sum (1 :: ndB dd k)) :
    TI dd K' T' ∧ (P → HO dd K' v d) ∧ ((r = .tup [.str [], .int .i64 12] ∧ ¬ P) ∨ ∃ x, r = .tup [.str x, .int .i64 0] ∧ x.length = 64 ∧ (NoClash T' ∨ P → x = ndB dd k) ∧ getL K' k ≠ none ∧ ∀ a, getL K a ≠ none → getL K' a ≠ none) := by
  rcases hq with ⟨x, hg, rfl, rfl⟩ | ⟨hg, hsum, hin, rfl, rfl⟩ | ⟨hg, hsum, rfl, rfl⟩
  · have hx := getL_mem hg
    refine ⟨⟨ti.len, fun h => ti.right (h.sub hT), fun j hj => hT _ (ti.texts j hj)⟩, hP, .inr ⟨x, rfl, (ti.len _ hx).2, fun h => ?_, by rw [hg]; simp, fun a h => h⟩⟩
    have : ((k : Int)).toNat = k := Int.toNat_natCast k
    rcases h with h | h
    · have := ti.right (h.sub hT) _ hx
      simpa using this
    · have := (hP h).known _ hx
      simpa using this
  · have hl := now_len (d := d) c (i := 161 + (k : Int)) (by omega) (by omega)
    have hx : NoClash T' ∨ P → nowAt v d (161 + (k : Int)) = ndB dd k := by
      intro h
      rcases h with h | h
      · have e := hw (.inl h)
        rw [← hsum] at e
        have := h _ _ hin (hT _ (ti.texts k hk)) e
        exact (List.cons.inj this).2
      · exact (hP h).dev k hk hg
    refine ⟨⟨fun p hp => ?_, fun h p hp => ?_, fun j hj => hT _ (ti.texts j hj)⟩, fun h => ⟨fun p hp => ?_, fun j hj hn => ?_⟩, .inr ⟨_, rfl, hl, hx, ?_, fun a h => ?_⟩⟩
    · rcases mem_set hp with e | h
      · rw [e]; exact ⟨⟨by dsimp only; omega, by dsimp only; omega⟩, hl⟩
      · exact ti.len p h
    · rcases mem_set hp with e | h'
      · rw [e]; simpa using hx (.inl h)
      · exact ti.right (h.sub hT) p h'
    · rcases mem_set hp with e | h'
      · rw [e]; simpa using hx (.inr h)
      · exact (hP h).known p h'
    · rw [getL_set _ _ _ _ hr] at hn
      split at hn
      · cases hn
      · exact (hP h).dev j hj hn
    · rw [getL_set _ _ _ _ hr, if_pos rfl]; simp
    · rw [getL_set _ _ _ _ hr]
      split
      · simp
      · exact h
  · refine ⟨⟨ti.len, fun h => ti.right (h.sub hT), fun j hj => hT _ (ti.texts j hj)⟩, hP, .inl ⟨rfl, fun h => hsum ?_⟩⟩
    rw [hw (.inr h), (hP h).dev k hk hg]
theorem wfill {x : AVal} (hx : x.sc = true) {D : List UInt8} (hD : D.length = 32) : fillA (fun k => ([(0, 1), (1, 32)] : List (Nat × Nat))[k]?) (.nils :: (zs 32).map ofByte) [(0, x), (1, .agg (D.map ofByte))] = some (x :: D.map ofByte) := by
  have hc : (AVal.agg (D.map ofByte)).cells = D.map ofByte := rfl
  have hd : x.defd = true := by cases x <;> first | rfl | cases hx
  simp only [fillA, List.getElem?_cons_zero, List.getElem?_cons_succ, sc_cells hx, hd, hc, List.length_singleton]
  rw [if_pos (by simp [zs])]
  simp only [splice, List.take_zero, List.nil_append, List.length_singleton, Nat.zero_add, List.drop_succ_cons, List.drop_zero, List.singleton_append]
  rw [if_pos (by simp [hD, zs]; rfl)]
  simp [hD, zs]
theorem path_at {k i : Nat} (hi : i < 6) : (ints (path k))[i]? = some (.int .i64 (up k (i + 1) : Nat)) := by
  have : i = 0 ∨ i = 1 ∨ i = 2 ∨ i = 3 ∨ i = 4 ∨ i = 5 := by omega
  rcases this with rfl | rfl | rfl | rfl | rfl | rfl <;> rfl
section
variable {H0 B : AHeap} {own : Nat → Prop} {R : List Part} {L : RL} {v : RV} {n : Int} {i m : Nat} {lv : AVal} {T : List (List UInt8)} {t b km : Nat} {d : Int} {root : List UInt8} {s : AVal} {K : List PutV} {dd : List D32}
theorem s_put1 {sv x : AVal} {k j : Nat} {cs : List AVal} {K3 : AHeap → Prop} (h : Sep H0 own B (.sl sv 1 k cs :: R)) (hj : j < k) (hl : cs.length = k) (hx : x.sc = true) (kk : ∀ C, Sep H0 own C (.sl sv 1 k (cs.set j x) :: R) → K3 C) :
    vb (aIndexAddr 1 sv (.int .i64 (j : Int))) fun p => sb (aStore B 1 p x) K3 := by
  obtain ⟨i1, u1, kd, e1, hkk, hg1, hback⟩ := s_place (kd := .i64) (j := (j : Int)) h (by omega) (by omega)
  refine vb_i e1 ?_
  rw [Int.toNat_natCast, Nat.mul_one]
  have e2 : aStore B 1 (.ptr ⟨i1, u1, j⟩) x = some (B.set i1 (.cells u1 kd (cs.set j x))) := by rw [x_store1 hx, hg1]; exact x_st1 hkk (by omega)
  exact sb_i e2 (kk _ (hback _ _ rfl (by rw [List.length_set])))
theorem strs_set (l : List (List UInt8)) (j : Nat) (y : List UInt8) : (strs l).set j (.str y) = strs (l.set j y) := by simp [strs, List.map_set]
structure DS where
  j : Nat
  e : Int
  bl : List (List UInt8)
  D : List UInt8
  v : RV
  lv : AVal
  T : List (List UInt8)
  K : List PutV
set_option maxRecDepth 20000 in
theorem tdown_spec {k : Nat} (h : Sep H0 own B (rparts L v (Part.orc i m lv T :: .obj t (.cells 0 .exact (tcells (.ptr ⟨L.p, 0, 0⟩) (.ptr ⟨i, 0, 0⟩) d root s (.map km))) :: kmP km K :: R)))
    (c : Calm v n) (hf : v.fault = 0) (hn : n ≤ 900000) (hT : T.length ≤ 900000) (hk : k < 64) (hd : d = 0 ∨ d = 1) (hr : root.length = 32) (ti : TI dd K T) (hroot : root = (val dd 6 0).1) :
    ∃ r C v' lv' T' K', S_tree_Tree_down [.ptr ⟨t, 0, 0⟩, .int .i64 k] B r C ∧ Calm v' (n + 6) ∧ v'.fault = 0 ∧ (∀ e, v'.dev e = v.dev e) ∧ (∀ x ∈ T, x ∈ T') ∧ T'.length ≤ T.length + 6 ∧ TI dd K' T' ∧ (HO dd K v d → HO dd K' v d) ∧
      ((r = .tup [wayV .nils (zs 32), .int .i64 12] ∧ ¬ HO dd K v d ∧ Sep H0 own C (rparts L v' (Part.orc i m lv' T' :: .obj t (.cells 0 .exact (tcells (.ptr ⟨L.p, 0, 0⟩) (.ptr ⟨i, 0, 0⟩) d root s (.map km))) :: kmP km K' :: R))) ∨
       (∃ x bl D, r = .tup [wayV x D, .int .i64 0] ∧ bl.length = 6 ∧ (∀ y ∈ bl, y.length = 64) ∧ D.length = 32 ∧ (NoClash T' ∨ HO dd K v d → bl = blkL dd k ∧ D = (val dd 0 k).1) ∧ ((∀ j, j < 6 → getL K' (up k (j + 1)) ≠ none) ∧ ∀ a, getL K a ≠ none → getL K' a ≠ none) ∧
         Sep H0 own C (.sl x 1 6 (strs bl) :: rparts L v' (Part.orc i m lv' T' :: .obj t (.cells 0 .exact (tcells (.ptr ⟨L.p, 0, 0⟩) (.ptr ⟨i, 0, 0⟩) d root s (.map km))) :: kmP km K' :: R)))) := by
  obtain ⟨r, C, h1, v', lv', T', K', h2⟩ := tree_Tree_down.out (x0 := .ptr ⟨t, 0, 0⟩) (x1 := .int .i64 k) (H := B) (Q := fun r C => ∃ v' lv' T' K', Calm v' (n + 6) ∧ v'.fault = 0 ∧ (∀ e, v'.dev e = v.dev e) ∧ (∀ x ∈ T, x ∈ T') ∧ T'.length ≤ T.length + 6 ∧ TI dd K' T' ∧ (HO dd K v d → HO dd K' v d) ∧
      ((r = .tup [wayV .nils (zs 32), .int .i64 12] ∧ ¬ HO dd K v d ∧ Sep H0 own C (rparts L v' (Part.orc i m lv' T' :: .obj t (.cells 0 .exact (tcells (.ptr ⟨L.p, 0, 0⟩) (.ptr ⟨i, 0, 0⟩) d root s (.map km))) :: kmP km K' :: R))) ∨
       (∃ x bl D, r = .tup [wayV x D, .int .i64 0] ∧ bl.length = 6 ∧ (∀ y ∈ bl, y.length = 64) ∧ D.length = 32 ∧ (NoClash T' ∨ HO dd K v d → bl = blkL dd k ∧ D = (val dd 0 k).1) ∧ ((∀ j, j < 6 → getL K' (up k (j + 1)) ≠ none) ∧ ∀ a, getL K a ≠ none → getL K' a ≠ none) ∧
         Sep H0 own C (.sl x 1 6 (strs bl) :: rparts L v' (Part.orc i m lv' T' :: .obj t (.cells 0 .exact (tcells (.ptr ⟨L.p, 0, 0⟩) (.ptr ⟨i, 0, 0⟩) d root s (.map km))) :: kmP km K' :: R))))) (by
    unfold tree_Tree_downV.w
    refine s_alloc h fun b1 C1 _ hs => ?_
    refine vb_i (e_ptrNil _ _) ?_
    refine isB_F ?_
    refine cb_i _ _ ⟨k, rfl, .inr ⟨by omega, by omega, rfl, rfl⟩⟩ ?_
    rw [Int.toNat_natCast]
    have hs := hs.new (.cells 0 .opn (ints (path k)))
    have hs : Sep H0 own (C1 ++ [AObj.cells 0 .opn (ints (path k))]) (.sl (.slice ⟨C1.length, 0, 0⟩ 6 (.op 1)) 1 6 (ints (path k)) :: _) := hs.as rfl fun h => ⟨rfl, .inr (.inr ⟨_, 0, rfl, h⟩)⟩
    generalize (.slice ⟨C1.length, 0, 0⟩ 6 (.op 1) : AVal) = pv at *
    generalize C1 ++ [AObj.cells 0 .opn (ints (path k))] = C2 at hs
    refine vb_i e_ext0 ?_
    refine vb_i e_ext1 ?_
    refine vb_i (neq64 _ _ _) ?_
    refine isB_cf (by decide) ?_
    refine vb_len hs.o0.view ?_
    refine s_make hs (n := 6) rfl rfl (by decide) (by decide) fun x C3 _ _ hs => ?_
    have hs : Sep H0 own C3 (.sl x 1 6 (strs (List.replicate 6 [])) :: _) := hs
    have hxs : x.sc = true := Own.sc hs.head
    have hs := rp_out (X := [_, _, _, _, _, _]) (rp_in (X := [_, _, _]) hs)
    refine vb_i (e_nilCheck _) ?_
    refine vb_i (e_fieldAddr _ _) ?_
    refine tc_root hs.g4 hr ?_
    refine vb_bld (wfill hxs hr) ?_
    refine s_alloc hs fun q C4 _ hs => ?_
    refine s_storeA hs rfl (by simp [hr]) rfl (by rw [List.all_cons, cells_byte root, sc_cell hxs]; rfl) fun C5 hs => ?_
    refine vb_len hs.o2.view ?_
    refine vb_i (sub64 (by decide) (by decide)) ?_
    have hrise : Rising K := hs.tail.tail.tail.tail.tail.tail.head.1
    refine LoopP.ruleG (α := DS) (fun z => [.int .i64 z.e, .int .i64 ((z.j : Int) - 1)])
      (fun z E => (z.e = 0 ∧ z.j ≤ 6 ∧ z.bl.length = 6 ∧ (∀ y, z.j ≤ y → y < 6 → (z.bl.getD y []).length = 64) ∧ z.D.length = 32) ∧ (Calm z.v (n + (6 - (z.j : Int))) ∧ z.v.fault = 0 ∧ (∀ e, z.v.dev e = v.dev e) ∧ (∀ x ∈ T, x ∈ z.T) ∧ z.T.length + z.j ≤ T.length + 6 ∧ TI dd z.K z.T ∧ Rising z.K ∧ (HO dd K v d → HO dd z.K v d)) ∧
        ((NoClash z.T ∨ HO dd K v d → z.D = (val dd z.j (k / 2 ^ z.j)).1 ∧ ∀ y, z.j ≤ y → y < 6 → z.bl.getD y [] = nblk dd y (k / 2 ^ (y + 1))) ∧ ((∀ y, z.j ≤ y → y < 6 → getL z.K (up k (y + 1)) ≠ none) ∧ ∀ a, getL K a ≠ none → getL z.K a ≠ none)) ∧
        Sep H0 own E ([.obj q (.cells 0 .exact (x :: z.D.map ofByte)), .sl x 1 6 (strs z.bl), .sl pv 1 6 (ints (path k)), .obj b1 (.cells 0 .exact (.nils :: (zs 32).map ofByte)), Part.orc i m z.lv z.T, .obj t (.cells 0 .exact (tcells (.ptr ⟨L.p, 0, 0⟩) (.ptr ⟨i, 0, 0⟩) d root s (.map km))), kmP km z.K] ++ rparts L z.v R))
      (fun z => z.j) ⟨6, 0, List.replicate 6 [], root, v, lv, T, K⟩ (by simp)
      ⟨⟨rfl, Nat.le_refl _, rfl, fun y h1 h2 => by dsimp only at h1; omega, hr⟩, ⟨calm_le c (by dsimp only; omega), hf, fun _ => rfl, fun _ h => h, Nat.le_refl _, ti, hrise, id⟩,
        ⟨fun _ => ⟨by rw [hroot]; show _ = (val dd 6 (k / 64)).1; rw [show k / 64 = 0 by omega], fun y h1 h2 => by dsimp only at h1; omega⟩, fun y h1 h2 => by dsimp only at h1; omega, fun _ h => h⟩, hs⟩ ?_
    clear hs hxs hrise
    rintro ⟨j, e, bl, D, w, lw, T2, K2⟩ E Kn ⟨⟨rfl, hj, hbl, hb64, hD⟩, ⟨cw, fw, hdev, hT2, hTl, ti2, hrise, hho⟩, ⟨hgood, hgot, hsup⟩, hs⟩ hkk
    simp only at hj hbl hb64 hD cw fw hdev hT2 hTl ti2 hrise hho hgood hgot hsup hs
    unfold tree_Tree_downV.L9 tree_Tree_downV.L9.b
    try simp only [evB]
    refine vb_i (geq64 _ _ _) ?_
    by_cases hj0 : j = 0
    · subst hj0
      refine isB_cf (by decide) ?_
      try simp only [evB]
      refine onE_i ?_
      try simp only [evB]
      refine vb_i (neq64 _ _ _) ?_
      refine isB_cf (by decide) ?_
      have hxs : x.sc = true := Own.sc hs.tail.head
      refine vb_ldA hs.g0 (by simp [hD]) ?_
      refine s_storeA hs.f3 rfl (by simp [hD]) (by simp [zs]) (by rw [List.all_cons, cells_byte D, sc_cell hxs]; rfl) fun F hs => ?_
      have hs1 := rp_out (X := [_]) (rp_in (X := [_, _, _, _]) (hs.tail.tail.f1.tail : Sep H0 own F ([_, _, _, _] ++ rparts L w R)))
      have hbe : ∀ y ∈ bl, y.length = 64 := fun y hy => by
        obtain ⟨a, ha, rfl⟩ := List.getElem_of_mem hy
        have := hb64 a (Nat.zero_le _) (by omega)
        rwa [List.getD_eq_getElem?_getD, List.getElem?_eq_getElem ha] at this
      have hge : NoClash T2 ∨ HO dd K v d → bl = blkL dd k ∧ D = (val dd 0 k).1 := fun h => by
        obtain ⟨g1, g2⟩ := hgood h
        rw [Nat.pow_zero, Nat.div_one] at g1
        refine ⟨List.ext_getElem (by rw [hbl]; simp [blkL]) fun a h1 h2 => ?_, g1⟩
        have := g2 a (Nat.zero_le _) (by omega)
        rw [List.getD_eq_getElem?_getD, List.getElem?_eq_getElem h1] at this
        simp only [blkL, List.getElem_map, List.getElem_range]
        exact this
      exact fin_ret (rvs_c (e_loadAll hs.g0 (by simp [hD])) (rvs_v (rvs_nil _))) ⟨w, lw, T2, K2, calm_le cw (by omega), fw, hdev, hT2, by omega, ti2, hho, .inr ⟨x, bl, D, rfl, hbl, hbe, hD, hge, ⟨fun a ha => hgot a (Nat.zero_le _) ha, hsup⟩, hs1⟩⟩
    obtain ⟨j, rfl⟩ : ∃ j', j = j' + 1 := ⟨j - 1, by omega⟩
    refine isB_ct (by omega) ?_
    rw [show (((j + 1 : Nat) : Int) - 1) = (j : Int) by omega] at *
    obtain ⟨_, _, hside, hhit, hup⟩ := path_facts k hk j (by omega)
    refine JoinP.mk (fun e vs F => e = .normal ∧ ∃ w2 lw2 T3 K3, (Calm w2 (n + (6 - (j : Int))) ∧ w2.fault = 0 ∧ (∀ e, w2.dev e = v.dev e) ∧ (∀ x ∈ T, x ∈ T3) ∧ T3.length + j ≤ T.length + 6 ∧ TI dd K3 T3 ∧ Rising K3 ∧ (HO dd K v d → HO dd K3 v d)) ∧
      ((vs = [.int .i64 12] ∧ ¬ HO dd K v d ∧ ∃ bl2, Sep H0 own F ([.obj q (.cells 0 .exact (x :: D.map ofByte)), .sl x 1 6 (strs bl2), .sl pv 1 6 (ints (path k)), .obj b1 (.cells 0 .exact (.nils :: (zs 32).map ofByte)), Part.orc i m lw2 T3, .obj t (.cells 0 .exact (tcells (.ptr ⟨L.p, 0, 0⟩) (.ptr ⟨i, 0, 0⟩) d root s (.map km))), kmP km K3] ++ rparts L w2 R)) ∨
       (∃ y, vs = [.int .i64 0] ∧ y.length = 64 ∧ (NoClash T3 ∨ HO dd K v d → y = nblk dd j (k / 2 ^ (j + 1)) ∧ (NoClash T2 ∨ HO dd K v d)) ∧ getL K3 (up k (j + 1)) ≠ none ∧ (∀ a, getL K2 a ≠ none → getL K3 a ≠ none) ∧
         Sep H0 own F ([.obj q (.cells 0 .exact (x :: D.map ofByte)), .sl x 1 6 (strs (bl.set j y)), .sl pv 1 6 (ints (path k)), .obj b1 (.cells 0 .exact (.nils :: (zs 32).map ofByte)), Part.orc i m lw2 T3, .obj t (.cells 0 .exact (tcells (.ptr ⟨L.p, 0, 0⟩) (.ptr ⟨i, 0, 0⟩) d root s (.map km))), kmP km K3] ++ rparts L w2 R)))) ?_ ?_
    · refine vb_i (e_fieldAddr _ _) ?_
      refine vb_ld hs.g0 rfl ?_
      refine vb_addrN hs.o2.view (by omega) ?_
      refine vb_el0 hs.o2.view (path_at (by omega)) ?_
      refine vb_i (e_fieldAddr _ _) ?_
      refine vb_ldP hs.g0 (by rw [List.length_cons, List.length_map, hD]; rfl) (by rw [List.drop_succ_cons, List.drop_zero, List.take_of_length_le (by rw [List.length_map, hD]; exact Nat.le_refl _)]) ?_
      obtain ⟨r, F, w2, lw2, T3, K3, hc, c2, f2, hdev2, hT3, hTl3, hq, hs⟩ := tnode_spec (rp_in (X := [_, _, _, _, _, _, _]) hs.b6.b6.b6.b6) cw fw (by omega) (by omega) hup hd hD hr
      refine cb_i _ _ hc ?_
      have hs := rp_out (X := [_, _, _, _, _, _, _]) hs
      have hP : HO dd K v d → HO dd K2 w d := fun h => ⟨(hho h).known, fun y hy hn => by rw [← (hho h).dev y hy hn]; unfold nowAt; rw [hdev]⟩
      have hgw : NoClash T3 ∨ HO dd K v d → D = sum (1 :: ndB dd (up k (j + 1))) := fun h => by
        rw [(hgood (h.imp (fun h => h.sub hT3) id)).1, ndB_up dd hk (by omega)]
        exact val_sum dd j _
      obtain ⟨ti3, ho3, hres⟩ := node_step hP cw hrise ti2 hup hT3 hq hgw
      have hrise3 : Rising K3 := hs.tail.tail.head.1
      have pack : Calm w2 (n + (6 - (j : Int))) ∧ w2.fault = 0 ∧ (∀ e, w2.dev e = v.dev e) ∧ (∀ x ∈ T, x ∈ T3) ∧ T3.length + j ≤ T.length + 6 ∧ TI dd K3 T3 ∧ Rising K3 ∧ (HO dd K v d → HO dd K3 v d) :=
        ⟨calm_le c2 (by omega), f2, fun e => (hdev2 e).trans (hdev e), fun x hx => hT3 x (hT2 x hx), by omega, ti3, hrise3, fun h => ⟨(ho3 h).known, fun y hy hn => by rw [← (ho3 h).dev y hy hn]; unfold nowAt; rw [hdev]⟩⟩
      rcases hres with ⟨rfl, hno⟩ | ⟨y, rfl, hy, hyg, hyk, hyo⟩
      · refine vb_i e_ext0 ?_
        refine vb_i e_ext1 ?_
        refine s_put1 hs.f4 (by omega) (by simp [strs, hbl]) rfl fun G hs => ?_
        rw [strs_set] at hs
        have hs := hs.f4.f6.f6.f3.f3
        refine ⟨rfl, w2, lw2, T3, K3, pack, .inl ⟨rfl, hno, bl.set j [], hs⟩⟩
      · refine vb_i e_ext0 ?_
        refine vb_i e_ext1 ?_
        refine s_put1 hs.f4 (by omega) (by simp [strs, hbl]) rfl fun G hs => ?_
        rw [strs_set] at hs
        have hs := hs.f4.f6.f6.f3.f3
        refine ⟨rfl, w2, lw2, T3, K3, pack, .inr ⟨y, rfl, hy, fun h => ⟨by rw [hyg h, ndB_up dd hk (by omega)], h.imp (fun h => h.sub hT3) id⟩, hyk, hyo, hs⟩⟩
    clear hs
    rintro e vs F ⟨rfl, w2, lw2, T3, K3, ⟨c2, f2, hdev2, hT3, hTl3, ti3, hrise3, hho3⟩, ⟨rfl, hno, bl2, hs⟩ | ⟨y, rfl, hy, hyg, hyk, hyo, hs⟩⟩
    · refine onE_i ?_
      try simp only [evB]
      refine vb_i (neq64 _ _ _) ?_
      refine isB_ct (by decide) ?_
      try simp only [evB]
      refine onE_i ?_
      try simp only [evB]
      refine vb_i (neq64 _ _ _) ?_
      refine isB_ct (by decide) ?_
      refine vb_bld (cs := .nils :: (zs 32).map ofByte) rfl ?_
      refine s_storeA hs.f3 rfl rfl rfl rfl fun G hs => ?_
      have hs1 := rp_in (X := [_, _, _]) (hs.tail.tail.tail.tail : Sep H0 own G ([_, _, _] ++ rparts L w2 R))
      exact fin_ret (rvs_c (e_loadAll hs.g0 rfl) (rvs_v (rvs_nil _))) ⟨w2, lw2, T3, K3, calm_le c2 (by omega), f2, hdev2, hT3, by omega, ti3, hho3, .inl ⟨rfl, hno, hs1⟩⟩
    · refine onE_i ?_
      try simp only [evB]
      refine vb_i (neq64 _ _ _) ?_
      refine isB_cf (by decide) ?_
      have hsd : sideR (k : Int) (up k (j + 1) : Nat) = [.int .i64 (((k / 2 ^ j) % 2 : Nat) : Int), .int .i64 0] := by
        unfold sideR
        rw [if_neg (by omega), Int.toNat_natCast, hhit, ← hside]
      have hs2 : (k / 2 ^ j) % 2 < 2 := Nat.mod_lt _ (by decide)
      refine vb_addrN hs.o2.view (by omega) ?_
      refine vb_el0 hs.o2.view (path_at (by omega)) ?_
      refine cb_i _ _ ⟨_, _, rfl, rfl, rfl⟩ ?_
      rw [hsd]
      refine vb_i e_ext0 ?_
      refine vb_i e_ext1 ?_
      refine vb_i (e_fieldAddr _ _) ?_
      refine vb_ld hs.g0 rfl ?_
      refine vb_addrN hs.o1.view (by omega) ?_
      refine vb_el0 hs.o1.view (x := .str y) (by rw [← strs_set, List.getElem?_set_self (by simp [strs, hbl]; omega)]) ?_
      have hmay : mayR y (((k / 2 ^ j) % 2 : Nat) : Int) = 0 := by
        unfold mayR
        rw [if_neg (by omega), if_neg (by omega)]
      refine cb_i _ _ ⟨_, _, rfl, rfl, .inr ⟨hmay, rfl⟩⟩ ?_
      refine vb_i e_ext0 ?_
      refine vb_i e_ext1 ?_
      refine vb_i (e_fieldAddr _ _) ?_
      have hhl : (half y (((k / 2 ^ j) % 2 : Nat) : Int)).length = 32 := by
        unfold half
        rw [Int.toNat_natCast, List.length_take, List.length_drop, hy]
        omega
      have hhe : NoClash T3 ∨ HO dd K v d → half y (((k / 2 ^ j) % 2 : Nat) : Int) = (val dd j (k / 2 ^ j)).1 := fun h => by
        rw [(hyg h).1]; exact nblk_half dd j k
      generalize half y (((k / 2 ^ j) % 2 : Nat) : Int) = D2 at hhl hhe
      refine s_storeN (n := 32) hs rfl (by simp [hhl]) (by simp [hD]) (cells_byte _) fun G hs => ?_
      have hs : Sep H0 own G (.obj q (.cells 0 .exact (x :: D2.map ofByte)) :: _) := (splice_tail (a := x) (l := D.map ofByte) (xs := D2.map ofByte) (by simp [hD, hhl])) ▸ hs
      refine vb_i (sub64 (by omega) (by omega)) ?_
      have hge : ∀ y', (bl.set j y).getD y' [] = if y' = j then y else bl.getD y' [] := fun y' => by
        rw [List.getD_eq_getElem?_getD, List.getD_eq_getElem?_getD]
        by_cases e : y' = j
        · rw [if_pos e, e, List.getElem?_set_self (by omega)]; rfl
        · rw [if_neg e, List.getElem?_set_ne (fun h => e h.symm)]
      refine hkk ⟨j, 0, bl.set j y, D2, w2, lw2, T3, K3⟩ G ⟨⟨rfl, by dsimp only; omega, by dsimp only; rw [List.length_set]; exact hbl, fun y' h1 h2 => ?_, hhl⟩, ⟨c2, f2, hdev2, hT3, hTl3, ti3, hrise3, hho3⟩, ⟨fun h => ⟨hhe h, fun y' h1 h2 => ?_⟩, fun y' h1 h2 => ?_, fun a h => hyo a (hsup a h)⟩, hs⟩ (by dsimp only; omega)
      · dsimp only at h1 ⊢
        rw [hge]
        split
        · exact hy
        · exact hb64 y' (by omega) h2
      · dsimp only at h1 ⊢
        rw [hge]
        split
        · rename_i e; rw [e]; exact (hyg h).1
        · exact (hgood (hyg h).2).2 y' (by omega) h2
      · dsimp only at h1 ⊢
        by_cases e : y' = j
        · rw [e]; exact hyk
        · exact hyo _ (hgot y' (by omega) h2))
  exact ⟨r, C, v', lv', T', K', h1, h2⟩
end
end Go.Sh
