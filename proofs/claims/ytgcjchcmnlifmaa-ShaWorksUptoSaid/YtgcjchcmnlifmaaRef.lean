/- One text of these: Ref0, RefW1, RefP1, RefP2, RefP3, RefK, RefP4, RefP5, RefP6, RefP7. -/
import Derived.Test.YtgcjchcmnlifmaaSha
import Derived.Test.YtgcjchcmnlifmaaAbsF

/- Words as rows of bits: what the document's words come to. -/
namespace Go.Sh
open Go Go.Abs

/-- The i-th bit of a word, the highest first. -/
def bitAt (a i : Nat) : Nat := a / 2 ^ (31 - i) % 2
def bitsL (a : Nat) : List Nat := (List.range 32).map (bitAt a)
def numL (l : List Nat) : Nat := l.foldl (fun n b => 2 * n + b) 0
def threeB (x a b c : Nat) (push : Bool) (i : Nat) : Nat := (bitAt x ((i + 32 - a) % 32) + bitAt x ((i + 32 - b) % 32) + if push = true ∧ i < c then 0 else bitAt x ((i + 32 - c) % 32)) % 2
def pickB (e f g : Nat) (i : Nat) : Nat := if bitAt e i = 1 then bitAt f i else bitAt g i
def mostB (a b c : Nat) (i : Nat) : Nat := (bitAt a i + bitAt b i + bitAt c i) / 2
def threeN (x a b c : Nat) (push : Bool) : Nat := numL ((List.range 32).map (threeB x a b c push))
def pickN (e f g : Nat) : Nat := numL ((List.range 32).map (pickB e f g))
def mostN (a b c : Nat) : Nat := numL ((List.range 32).map (mostB a b c))

theorem bitAt_lt (a i : Nat) : bitAt a i < 2 := Nat.mod_lt _ (by decide)
theorem numL_app (l : List Nat) (b : Nat) : numL (l ++ [b]) = 2 * numL l + b := by simp [numL]
theorem numL_bit (f : Nat → Nat) : ∀ (n : Nat), (∀ i, i < n → f i < 2) → ∀ j, (numL ((List.range n).map f)).testBit j = decide (j < n ∧ f (n - 1 - j) = 1)
  | 0, _, j => by simp [numL]
  | n + 1, hf, j => by
    rw [List.range_succ, List.map_append, List.map_singleton, numL_app]
    have hb := hf n (Nat.lt_succ_self n)
    cases j with
    | zero =>
      rw [Nat.testBit_zero]
      have : (2 * numL ((List.range n).map f) + f n) % 2 = f n := by omega
      rw [this]; simp
    | succ j =>
      rw [Nat.testBit_succ, show (2 * numL ((List.range n).map f) + f n) / 2 = numL ((List.range n).map f) by omega, numL_bit f n (fun i hi => hf i (by omega)) j]
      have : n + 1 - 1 - (j + 1) = n - 1 - j := by omega
      rw [this]; simp
theorem numL_word (f : Nat → Nat) (hf : ∀ i, f i < 2) (w : W32) (h : ∀ j, j < 32 → (w.getLsbD j = true ↔ f (31 - j) = 1)) : numL ((List.range 32).map f) = w.toNat := by
  apply Nat.eq_of_testBit_eq
  intro j
  rw [numL_bit f 32 (fun i _ => hf i) j]
  by_cases hj : j < 32
  · have := h j hj
    rw [BitVec.testBit_toNat]
    cases hw : w.getLsbD j
    · rw [hw] at this
      simp only [decide_eq_false_iff_not, not_and]
      intro _ h1
      exact absurd (this.2 h1) (by decide)
    · rw [hw] at this
      simp only [decide_eq_true_eq]
      exact ⟨hj, this.1 rfl⟩
  · have : w.toNat.testBit j = false := Nat.testBit_lt_two_pow (Nat.lt_of_lt_of_le w.isLt (Nat.pow_le_pow_right (by decide) (by omega)))
    rw [this]; simp [hj]
theorem bitAt_word (w : W32) (i : Nat) (hi : i < 32) : bitAt w.toNat i = (w.getLsbD (31 - i)).toNat := by
  rw [← BitVec.testBit_toNat, Nat.toNat_testBit]; rfl
theorem rot_bit (x : W32) {a b : Nat} (h : a + b = 32) (ha : 0 < a) (hb : 0 < b) {j : Nat} (hj : j < 32) : (x >>> a ||| x <<< b).getLsbD j = x.getLsbD ((j + a) % 32) := by
  rw [BitVec.getLsbD_or, BitVec.getLsbD_ushiftRight, BitVec.getLsbD_shiftLeft]
  by_cases h1 : j + a < 32
  · rw [Nat.mod_eq_of_lt h1, Nat.add_comm a j]
    have : j < b := by omega
    simp [this]
  · have e : (j + a) % 32 = j - b := by omega
    rw [e]
    have h2 : x.getLsbD (a + j) = false := BitVec.getLsbD_of_ge _ _ (by omega)
    have : ¬ j < b := by omega
    simp [h2, this, hj]
theorem three_bit (x : W32) {a : Nat} (ha : 0 < a) (h32 : a < 32) {j : Nat} (hj : j < 32) : bitAt x.toNat ((31 - j + 32 - a) % 32) = (x.getLsbD ((j + a) % 32)).toNat := by
  rw [bitAt_word _ _ (Nat.mod_lt _ (by decide))]
  congr 2
  omega
theorem three_rot (x : W32) {a b c a' b' c' : Nat} (ha : a + a' = 32) (hb : b + b' = 32) (hc : c + c' = 32) (h0 : 0 < a ∧ 0 < a' ∧ 0 < b ∧ 0 < b' ∧ 0 < c ∧ 0 < c') :
    threeN x.toNat a b c false = ((x >>> a ||| x <<< a') ^^^ (x >>> b ||| x <<< b') ^^^ (x >>> c ||| x <<< c')).toNat := by
  obtain ⟨h1, h2, h3, h4, h5, h6⟩ := h0
  refine numL_word _ (fun i => Nat.mod_lt _ (by decide)) _ fun j hj => ?_
  rw [BitVec.getLsbD_xor, BitVec.getLsbD_xor, rot_bit x ha h1 h2 hj, rot_bit x hb h3 h4 hj, rot_bit x hc h5 h6 hj]
  simp only [threeB, Bool.false_eq_true, false_and, if_false]
  rw [three_bit x h1 (by omega) hj, three_bit x h3 (by omega) hj, three_bit x h5 (by omega) hj]
  cases x.getLsbD ((j + a) % 32) <;> cases x.getLsbD ((j + b) % 32) <;> cases x.getLsbD ((j + c) % 32) <;> decide
theorem three_shr (x : W32) {a b c a' b' : Nat} (ha : a + a' = 32) (hb : b + b' = 32) (hc : c < 32) (h0 : 0 < a ∧ 0 < a' ∧ 0 < b ∧ 0 < b' ∧ 0 < c) :
    threeN x.toNat a b c true = ((x >>> a ||| x <<< a') ^^^ (x >>> b ||| x <<< b') ^^^ (x >>> c)).toNat := by
  obtain ⟨h1, h2, h3, h4, h5⟩ := h0
  refine numL_word _ (fun i => Nat.mod_lt _ (by decide)) _ fun j hj => ?_
  rw [BitVec.getLsbD_xor, BitVec.getLsbD_xor, rot_bit x ha h1 h2 hj, rot_bit x hb h3 h4 hj, BitVec.getLsbD_ushiftRight]
  simp only [threeB, true_and]
  rw [three_bit x h1 (by omega) hj, three_bit x h3 (by omega) hj]
  by_cases hp : 31 - j < c
  · rw [if_pos hp]
    have : x.getLsbD (c + j) = false := BitVec.getLsbD_of_ge _ _ (by omega)
    rw [this]
    cases x.getLsbD ((j + a) % 32) <;> cases x.getLsbD ((j + b) % 32) <;> decide
  · rw [if_neg hp, three_bit x h5 hc hj]
    have : (j + c) % 32 = c + j := by omega
    rw [this]
    cases x.getLsbD ((j + a) % 32) <;> cases x.getLsbD ((j + b) % 32) <;> cases x.getLsbD (c + j) <;> decide
theorem pick_word (e f g : W32) : pickN e.toNat f.toNat g.toNat = (chs e f g).toNat := by
  refine numL_word _ (fun i => by unfold pickB; split <;> exact bitAt_lt _ _) _ fun j hj => ?_
  have h31 : 31 - j < 32 := by omega
  have hj' : 31 - (31 - j) = j := by omega
  simp only [pickB, chs]
  rw [bitAt_word _ _ h31, bitAt_word _ _ h31, bitAt_word _ _ h31, hj']
  simp only [BitVec.getLsbD_xor, BitVec.getLsbD_and, BitVec.getLsbD_not, hj, decide_true, Bool.true_and]
  cases e.getLsbD j <;> cases f.getLsbD j <;> cases g.getLsbD j <;> decide
theorem most_word (a b c : W32) : mostN a.toNat b.toNat c.toNat = (maj a b c).toNat := by
  refine numL_word _ (fun i => by
    have := bitAt_lt a.toNat i; have := bitAt_lt b.toNat i; have := bitAt_lt c.toNat i
    unfold mostB; omega) _ fun j hj => ?_
  have h31 : 31 - j < 32 := by omega
  have hj' : 31 - (31 - j) = j := by omega
  simp only [mostB, maj]
  rw [bitAt_word _ _ h31, bitAt_word _ _ h31, bitAt_word _ _ h31, hj']
  simp only [BitVec.getLsbD_xor, BitVec.getLsbD_and]
  cases a.getLsbD j <;> cases b.getLsbD j <;> cases c.getLsbD j <;> decide
theorem s0_three (x : W32) : threeN x.toNat 7 18 3 true = (s0 x).toNat := three_shr x (a' := 25) (b' := 14) (by decide) (by decide) (by decide) (by decide)
theorem s1_three (x : W32) : threeN x.toNat 17 19 10 true = (s1 x).toNat := three_shr x (a' := 15) (b' := 13) (by decide) (by decide) (by decide) (by decide)
theorem S0_three (x : W32) : threeN x.toNat 2 13 22 false = (S0 x).toNat := three_rot x (a' := 30) (b' := 19) (c' := 10) (by decide) (by decide) (by decide) (by decide)
theorem S1_three (x : W32) : threeN x.toNat 6 11 25 false = (S1 x).toNat := three_rot x (a' := 26) (b' := 21) (c' := 7) (by decide) (by decide) (by decide) (by decide)
end Go.Sh

/- What Go functions come to over abstract values, printed by a program (wx.py); of each function its own text is what is told of it. -/
namespace Go.Sh
open Go Go.Abs

def cellaretref03_Add.w (x0 : AVal) (x1 : AVal) (H : AHeap) (K : AVal → AHeap → Prop) : Prop :=
  vb (aBin .add x0 x1) fun v1 =>
  vb (aBin .rem v1 (.int .i64 4294967296)) fun v2 =>
  fin .ret [.v (v2)] H K

def S_cellaretref03_Add : Abs.Spec := fun args H r H' => ∃ x0 x1 : AVal, args = [x0, x1] ∧ (cellaretref03_Add.w x0 x1 H fun r1 H1 => r1 = r ∧ H1 = H') ∧ H <+: H'
theorem cellaretref03_Add.ok (args : List AVal) (H : AHeap) (r : AVal) (H' : AHeap) (h : S_cellaretref03_Add args H r H') : ∃ x0 x1 : AVal, args = [x0, x1] ∧ cellaretref03_Add.w x0 x1 H fun r1 H1 => r1 = r ∧ H1 = H' := by
  obtain ⟨x0, x1, h1, h2, _⟩ := h
  exact ⟨x0, x1, h1, h2⟩
theorem cellaretref03_Add.quiet {args : List AVal} {H : AHeap} {r : AVal} {H' : AHeap} (h : S_cellaretref03_Add args H r H') : H <+: H' := by
  obtain ⟨_, _, _, _, h⟩ := h
  exact h
set_option maxRecDepth 100000 in
theorem cellaretref03_Add.ex (x0 x1 : AVal) (H : AHeap) : Ex fun K : AVal × AHeap → Prop => cellaretref03_Add.w x0 x1 H fun r H => K (r, H) := by
  unfold cellaretref03_Add.w
  repeat with_reducible first
    | exact Ex.pt _
    | exact Ex.fin
    | exact Ex.no
    | refine Ex.vb fun _ => ?_
    | refine Ex.hb fun _ _ => ?_
    | refine Ex.sb fun _ => ?_
    | refine Ex.cb fun _ _ => ?_
    | refine Ex.isB fun _ => ?_
    | refine Ex.cond ?_ ?_
    | refine Ex.onE ?_ ?_
    | refine Ex.join ?_ fun _ _ _ => ?_
    | refine Ex.loop (fun _ _ => ?_) fun _ _ _ => ?_

theorem cellaretref03_Add.out {x0 x1 : AVal} {H : AHeap} {Q : AVal → AHeap → Prop} (h : cellaretref03_Add.w x0 x1 H fun r H' => H <+: H' ∧ Q r H') : ∃ r H', S_cellaretref03_Add [x0, x1] H r H' ∧ Q r H' := by
  obtain ⟨r, H', h1, h2⟩ := (cellaretref03_Add.ex x0 x1 H).out h
  exact ⟨r, H', ⟨_, _, rfl, h1, h2.1⟩, h2.2⟩

def cellaretref03_bits.L3.b (v1 : AVal) (x0_3 : AVal) (x4_3 : AVal) (H3 : AHeap) (Kn4 : List AVal → AHeap → Prop) (Ke5 : AExit → List AVal → AHeap → Prop) : Prop :=
  vb (aBin .geq x4_3 (.int .i64 0)) fun v6 =>
  isB v6 fun b7 => cond b7
    (vb (aBin .rem x0_3 (.int .i64 2)) fun v8 =>
    vb (aIndexAddr 1 v1 x4_3) fun v9 =>
    sb (aStore H3 1 v9 v8) fun H10 =>
    vb (aBin .quo x0_3 (.int .i64 2)) fun v11 =>
    vb (aBin .sub x4_3 (.int .i64 1)) fun v12 =>
    Kn4 [v11, v12] H10)
    (Ke5 (.exit 0) [] H3)

def cellaretref03_bits.L3 (v1 : AVal) : Body := fun vs H Kn Ke => cellaretref03_bits.L3.b v1 (vs.getD 0 .undef) (vs.getD 1 .undef) H Kn Ke

def cellaretref03_bits.w (x0 : AVal) (H : AHeap) (K : AVal → AHeap → Prop) : Prop :=
  hb (aMakeSlice H 8 [.int .i64 0] (.int .i64 32) (.int .i64 32)) fun v1 H2 =>
  LoopP (cellaretref03_bits.L3 v1) [x0, .int .i64 31] H2 fun e13 vs14 H15 =>
    onE e13 (.exit 0)
      (fin .ret [.v (v1)] H15 K)
    (False)

def S_cellaretref03_bits : Abs.Spec := fun args H r H' => ∃ x0 : AVal, args = [x0] ∧ (cellaretref03_bits.w x0 H fun r1 H1 => r1 = r ∧ H1 = H') ∧ H <+: H'
theorem cellaretref03_bits.ok (args : List AVal) (H : AHeap) (r : AVal) (H' : AHeap) (h : S_cellaretref03_bits args H r H') : ∃ x0 : AVal, args = [x0] ∧ cellaretref03_bits.w x0 H fun r1 H1 => r1 = r ∧ H1 = H' := by
  obtain ⟨x0, h1, h2, _⟩ := h
  exact ⟨x0, h1, h2⟩
theorem cellaretref03_bits.quiet {args : List AVal} {H : AHeap} {r : AVal} {H' : AHeap} (h : S_cellaretref03_bits args H r H') : H <+: H' := by
  obtain ⟨_, _, _, h⟩ := h
  exact h
set_option maxRecDepth 100000 in
theorem cellaretref03_bits.ex (x0 : AVal) (H : AHeap) : Ex fun K : AVal × AHeap → Prop => cellaretref03_bits.w x0 H fun r H => K (r, H) := by
  unfold cellaretref03_bits.w
  repeat with_reducible first
    | exact Ex.pt _
    | exact Ex.fin
    | exact Ex.no
    | refine Ex.vb fun _ => ?_
    | refine Ex.hb fun _ _ => ?_
    | refine Ex.sb fun _ => ?_
    | refine Ex.cb fun _ _ => ?_
    | refine Ex.isB fun _ => ?_
    | refine Ex.cond ?_ ?_
    | refine Ex.onE ?_ ?_
    | refine Ex.join ?_ fun _ _ _ => ?_
    | refine Ex.loop (fun _ _ => ?_) fun _ _ _ => ?_
    | (unfold cellaretref03_bits.L3; unfold cellaretref03_bits.L3.b)

theorem cellaretref03_bits.out {x0 : AVal} {H : AHeap} {Q : AVal → AHeap → Prop} (h : cellaretref03_bits.w x0 H fun r H' => H <+: H' ∧ Q r H') : ∃ r H', S_cellaretref03_bits [x0] H r H' ∧ Q r H' := by
  obtain ⟨r, H', h1, h2⟩ := (cellaretref03_bits.ex x0 H).out h
  exact ⟨r, H', ⟨_, rfl, h1, h2.1⟩, h2.2⟩

def cellaretref03_num.L3.b (x0 : AVal) (x3_3 : AVal) (x4_3 : AVal) (H1 : AHeap) (Kn2 : List AVal → AHeap → Prop) (Ke3 : AExit → List AVal → AHeap → Prop) : Prop :=
  vb (lenSl x0) fun v4 =>
  vb (aBin .lss x4_3 v4) fun v5 =>
  isB v5 fun b6 => cond b6
    (vb (aBin .mul (.int .i64 2) x3_3) fun v7 =>
    vb (aIndexAddr 1 x0 x4_3) fun v8 =>
    vb (aLoad H1 false 1 v8) fun v9 =>
    vb (aBin .add v7 v9) fun v10 =>
    vb (aBin .add x4_3 (.int .i64 1)) fun v11 =>
    Kn2 [v10, v11] H1)
    (Ke3 (.exit 0) [x3_3] H1)

def cellaretref03_num.L3 (x0 : AVal) : Body := fun vs H Kn Ke => cellaretref03_num.L3.b x0 (vs.getD 0 .undef) (vs.getD 1 .undef) H Kn Ke

def cellaretref03_num.w (x0 : AVal) (H : AHeap) (K : AVal → AHeap → Prop) : Prop :=
  LoopP (cellaretref03_num.L3 x0) [.int .i64 0, .int .i64 0] H fun e12 vs13 H14 =>
    onE e12 (.exit 0)
      (fin .ret [.v (vs13.getD 0 .undef)] H14 K)
    (False)

def S_cellaretref03_num : Abs.Spec := fun args H r H' => ∃ x0 : AVal, args = [x0] ∧ (cellaretref03_num.w x0 H fun r1 H1 => r1 = r ∧ H1 = H') ∧ H <+: H'
theorem cellaretref03_num.ok (args : List AVal) (H : AHeap) (r : AVal) (H' : AHeap) (h : S_cellaretref03_num args H r H') : ∃ x0 : AVal, args = [x0] ∧ cellaretref03_num.w x0 H fun r1 H1 => r1 = r ∧ H1 = H' := by
  obtain ⟨x0, h1, h2, _⟩ := h
  exact ⟨x0, h1, h2⟩
theorem cellaretref03_num.quiet {args : List AVal} {H : AHeap} {r : AVal} {H' : AHeap} (h : S_cellaretref03_num args H r H') : H <+: H' := by
  obtain ⟨_, _, _, h⟩ := h
  exact h
set_option maxRecDepth 100000 in
theorem cellaretref03_num.ex (x0 : AVal) (H : AHeap) : Ex fun K : AVal × AHeap → Prop => cellaretref03_num.w x0 H fun r H => K (r, H) := by
  unfold cellaretref03_num.w
  repeat with_reducible first
    | exact Ex.pt _
    | exact Ex.fin
    | exact Ex.no
    | refine Ex.vb fun _ => ?_
    | refine Ex.hb fun _ _ => ?_
    | refine Ex.sb fun _ => ?_
    | refine Ex.cb fun _ _ => ?_
    | refine Ex.isB fun _ => ?_
    | refine Ex.cond ?_ ?_
    | refine Ex.onE ?_ ?_
    | refine Ex.join ?_ fun _ _ _ => ?_
    | refine Ex.loop (fun _ _ => ?_) fun _ _ _ => ?_
    | (unfold cellaretref03_num.L3; unfold cellaretref03_num.L3.b)

theorem cellaretref03_num.out {x0 : AVal} {H : AHeap} {Q : AVal → AHeap → Prop} (h : cellaretref03_num.w x0 H fun r H' => H <+: H' ∧ Q r H') : ∃ r H', S_cellaretref03_num [x0] H r H' ∧ Q r H' := by
  obtain ⟨r, H', h1, h2⟩ := (cellaretref03_num.ex x0 H).out h
  exact ⟨r, H', ⟨_, rfl, h1, h2.1⟩, h2.2⟩

def cellaretref03_three.L4.b (v1 : AVal) (v3 : AVal) (x2 : AVal) (v5 : AVal) (x9_4 : AVal) (H7 : AHeap) (Kn8 : List AVal → AHeap → Prop) (Ke9 : AExit → List AVal → AHeap → Prop) : Prop :=
  vb (aBin .lss x9_4 (.int .i64 32)) fun v10 =>
  isB v10 fun b11 => cond b11
    (vb (aBin .add x9_4 (.int .i64 32)) fun v12 =>
    vb (aIndexAddrArr 3 1 v1 (.int .i64 0)) fun v13 =>
    vb (aLoad H7 false 1 v13) fun v14 =>
    vb (aBin .sub v12 v14) fun v15 =>
    vb (aBin .rem v15 (.int .i64 32)) fun v16 =>
    vb (aIndexAddr 1 v3 v16) fun v17 =>
    vb (aLoad H7 false 1 v17) fun v18 =>
    vb (aBin .add x9_4 (.int .i64 32)) fun v19 =>
    vb (aIndexAddrArr 3 1 v1 (.int .i64 1)) fun v20 =>
    vb (aLoad H7 false 1 v20) fun v21 =>
    vb (aBin .sub v19 v21) fun v22 =>
    vb (aBin .rem v22 (.int .i64 32)) fun v23 =>
    vb (aIndexAddr 1 v3 v23) fun v24 =>
    vb (aLoad H7 false 1 v24) fun v25 =>
    vb (aBin .add v18 v25) fun v26 =>
    JoinP (fun Kj27 => vb (aUn .not x2) fun v28 =>
      isB v28 fun b29 => cond b29
        (vb (aBin .add x9_4 (.int .i64 32)) fun v30 =>
              vb (aIndexAddrArr 3 1 v1 (.int .i64 2)) fun v31 =>
              vb (aLoad H7 false 1 v31) fun v32 =>
              vb (aBin .sub v30 v32) fun v33 =>
              vb (aBin .rem v33 (.int .i64 32)) fun v34 =>
              vb (aIndexAddr 1 v3 v34) fun v35 =>
              vb (aLoad H7 false 1 v35) fun v36 =>
              vb (aBin .add v26 v36) fun v37 =>
              Kj27 .normal [v37] H7)
        (vb (aIndexAddrArr 3 1 v1 (.int .i64 2)) fun v38 =>
          vb (aLoad H7 false 1 v38) fun v39 =>
            vb (aBin .geq x9_4 v39) fun v40 =>
              isB v40 fun b41 => cond b41
                (vb (aBin .add x9_4 (.int .i64 32)) fun v42 =>
                vb (aIndexAddrArr 3 1 v1 (.int .i64 2)) fun v43 =>
                vb (aLoad H7 false 1 v43) fun v44 =>
                vb (aBin .sub v42 v44) fun v45 =>
                vb (aBin .rem v45 (.int .i64 32)) fun v46 =>
                vb (aIndexAddr 1 v3 v46) fun v47 =>
                vb (aLoad H7 false 1 v47) fun v48 =>
                vb (aBin .add v26 v48) fun v49 =>
                Kj27 .normal [v49] H7)
                (Kj27 .normal [v26] H7)))
    (fun e50 vs51 H52 =>
      onE e50 .normal
        (vb (aBin .rem (vs51.getD 0 .undef) (.int .i64 2)) fun v53 =>
        vb (aIndexAddr 1 v5 x9_4) fun v54 =>
        sb (aStore H52 1 v54 v53) fun H55 =>
        vb (aBin .add x9_4 (.int .i64 1)) fun v56 =>
        Kn8 [v56] H55)
      (False)))
    (Ke9 (.exit 0) [] H7)

def cellaretref03_three.L4 (v1 : AVal) (v3 : AVal) (x2 : AVal) (v5 : AVal) : Body := fun vs H Kn Ke => cellaretref03_three.L4.b v1 v3 x2 v5 (vs.getD 0 .undef) H Kn Ke

def cellaretref03_three.w (x0 : AVal) (x1 : AVal) (x2 : AVal) (H : AHeap) (K : AVal → AHeap → Prop) : Prop :=
  hb (aBox H x1) fun v1 H2 =>
  cb (S_cellaretref03_bits [x0] H2) fun v3 H4 =>
  hb (aMakeSlice H4 8 [.int .i64 0] (.int .i64 32) (.int .i64 32)) fun v5 H6 =>
  LoopP (cellaretref03_three.L4 v1 v3 x2 v5) [.int .i64 0] H6 fun e57 vs58 H59 =>
    onE e57 (.exit 0)
      (cb (S_cellaretref03_num [v5] H59) fun v60 H61 =>
      fin .ret [.v (v60)] H61 K)
    (False)

def S_cellaretref03_three : Abs.Spec := fun args H r H' => ∃ x0 x1 x2 : AVal, args = [x0, x1, x2] ∧ (cellaretref03_three.w x0 x1 x2 H fun r1 H1 => r1 = r ∧ H1 = H') ∧ H <+: H'
theorem cellaretref03_three.ok (args : List AVal) (H : AHeap) (r : AVal) (H' : AHeap) (h : S_cellaretref03_three args H r H') : ∃ x0 x1 x2 : AVal, args = [x0, x1, x2] ∧ cellaretref03_three.w x0 x1 x2 H fun r1 H1 => r1 = r ∧ H1 = H' := by
  obtain ⟨x0, x1, x2, h1, h2, _⟩ := h
  exact ⟨x0, x1, x2, h1, h2⟩
theorem cellaretref03_three.quiet {args : List AVal} {H : AHeap} {r : AVal} {H' : AHeap} (h : S_cellaretref03_three args H r H') : H <+: H' := by
  obtain ⟨_, _, _, _, _, h⟩ := h
  exact h
set_option maxRecDepth 100000 in
theorem cellaretref03_three.ex (x0 x1 x2 : AVal) (H : AHeap) : Ex fun K : AVal × AHeap → Prop => cellaretref03_three.w x0 x1 x2 H fun r H => K (r, H) := by
  unfold cellaretref03_three.w
  repeat with_reducible first
    | exact Ex.pt _
    | exact Ex.fin
    | exact Ex.no
    | refine Ex.vb fun _ => ?_
    | refine Ex.hb fun _ _ => ?_
    | refine Ex.sb fun _ => ?_
    | refine Ex.cb fun _ _ => ?_
    | refine Ex.isB fun _ => ?_
    | refine Ex.cond ?_ ?_
    | refine Ex.onE ?_ ?_
    | refine Ex.join ?_ fun _ _ _ => ?_
    | refine Ex.loop (fun _ _ => ?_) fun _ _ _ => ?_
    | (unfold cellaretref03_three.L4; unfold cellaretref03_three.L4.b)

theorem cellaretref03_three.out {x0 x1 x2 : AVal} {H : AHeap} {Q : AVal → AHeap → Prop} (h : cellaretref03_three.w x0 x1 x2 H fun r H' => H <+: H' ∧ Q r H') : ∃ r H', S_cellaretref03_three [x0, x1, x2] H r H' ∧ Q r H' := by
  obtain ⟨r, H', h1, h2⟩ := (cellaretref03_three.ex x0 x1 x2 H).out h
  exact ⟨r, H', ⟨_, _, _, rfl, h1, h2.1⟩, h2.2⟩

def cellaretref03_pick.L5.b (v1 : AVal) (v3 : AVal) (v5 : AVal) (x10_5 : AVal) (H7 : AHeap) (Kn8 : List AVal → AHeap → Prop) (Ke9 : AExit → List AVal → AHeap → Prop) : Prop :=
  vb (aBin .lss x10_5 (.int .i64 32)) fun v10 =>
  isB v10 fun b11 => cond b11
    (vb (aIndexAddr 1 v1 x10_5) fun v12 =>
    vb (aLoad H7 false 1 v12) fun v13 =>
    vb (aBin .eql v13 (.int .i64 1)) fun v14 =>
    isB v14 fun b15 => cond b15
      (vb (aIndexAddr 1 v3 x10_5) fun v16 =>
      vb (aLoad H7 false 1 v16) fun v17 =>
      vb (aIndexAddr 1 v5 x10_5) fun v18 =>
      sb (aStore H7 1 v18 v17) fun H19 =>
      vb (aBin .add x10_5 (.int .i64 1)) fun v20 =>
      Kn8 [v20] H19)
      (vb (aBin .add x10_5 (.int .i64 1)) fun v21 =>
      Kn8 [v21] H7))
    (Ke9 (.exit 0) [] H7)

def cellaretref03_pick.L5 (v1 : AVal) (v3 : AVal) (v5 : AVal) : Body := fun vs H Kn Ke => cellaretref03_pick.L5.b v1 v3 v5 (vs.getD 0 .undef) H Kn Ke

def cellaretref03_pick.w (x0 : AVal) (x1 : AVal) (x2 : AVal) (H : AHeap) (K : AVal → AHeap → Prop) : Prop :=
  cb (S_cellaretref03_bits [x0] H) fun v1 H2 =>
  cb (S_cellaretref03_bits [x1] H2) fun v3 H4 =>
  cb (S_cellaretref03_bits [x2] H4) fun v5 H6 =>
  LoopP (cellaretref03_pick.L5 v1 v3 v5) [.int .i64 0] H6 fun e22 vs23 H24 =>
    onE e22 (.exit 0)
      (cb (S_cellaretref03_num [v5] H24) fun v25 H26 =>
      fin .ret [.v (v25)] H26 K)
    (False)

def S_cellaretref03_pick : Abs.Spec := fun args H r H' => ∃ x0 x1 x2 : AVal, args = [x0, x1, x2] ∧ (cellaretref03_pick.w x0 x1 x2 H fun r1 H1 => r1 = r ∧ H1 = H') ∧ H <+: H'
theorem cellaretref03_pick.ok (args : List AVal) (H : AHeap) (r : AVal) (H' : AHeap) (h : S_cellaretref03_pick args H r H') : ∃ x0 x1 x2 : AVal, args = [x0, x1, x2] ∧ cellaretref03_pick.w x0 x1 x2 H fun r1 H1 => r1 = r ∧ H1 = H' := by
  obtain ⟨x0, x1, x2, h1, h2, _⟩ := h
  exact ⟨x0, x1, x2, h1, h2⟩
theorem cellaretref03_pick.quiet {args : List AVal} {H : AHeap} {r : AVal} {H' : AHeap} (h : S_cellaretref03_pick args H r H') : H <+: H' := by
  obtain ⟨_, _, _, _, _, h⟩ := h
  exact h
set_option maxRecDepth 100000 in
theorem cellaretref03_pick.ex (x0 x1 x2 : AVal) (H : AHeap) : Ex fun K : AVal × AHeap → Prop => cellaretref03_pick.w x0 x1 x2 H fun r H => K (r, H) := by
  unfold cellaretref03_pick.w
  repeat with_reducible first
    | exact Ex.pt _
    | exact Ex.fin
    | exact Ex.no
    | refine Ex.vb fun _ => ?_
    | refine Ex.hb fun _ _ => ?_
    | refine Ex.sb fun _ => ?_
    | refine Ex.cb fun _ _ => ?_
    | refine Ex.isB fun _ => ?_
    | refine Ex.cond ?_ ?_
    | refine Ex.onE ?_ ?_
    | refine Ex.join ?_ fun _ _ _ => ?_
    | refine Ex.loop (fun _ _ => ?_) fun _ _ _ => ?_
    | (unfold cellaretref03_pick.L5; unfold cellaretref03_pick.L5.b)

theorem cellaretref03_pick.out {x0 x1 x2 : AVal} {H : AHeap} {Q : AVal → AHeap → Prop} (h : cellaretref03_pick.w x0 x1 x2 H fun r H' => H <+: H' ∧ Q r H') : ∃ r H', S_cellaretref03_pick [x0, x1, x2] H r H' ∧ Q r H' := by
  obtain ⟨r, H', h1, h2⟩ := (cellaretref03_pick.ex x0 x1 x2 H).out h
  exact ⟨r, H', ⟨_, _, _, rfl, h1, h2.1⟩, h2.2⟩

def cellaretref03_most.L5.b (v1 : AVal) (v3 : AVal) (v5 : AVal) (x10_5 : AVal) (H7 : AHeap) (Kn8 : List AVal → AHeap → Prop) (Ke9 : AExit → List AVal → AHeap → Prop) : Prop :=
  vb (aBin .lss x10_5 (.int .i64 32)) fun v10 =>
  isB v10 fun b11 => cond b11
    (vb (aIndexAddr 1 v1 x10_5) fun v12 =>
    vb (aLoad H7 false 1 v12) fun v13 =>
    vb (aIndexAddr 1 v3 x10_5) fun v14 =>
    vb (aLoad H7 false 1 v14) fun v15 =>
    vb (aBin .add v13 v15) fun v16 =>
    vb (aIndexAddr 1 v5 x10_5) fun v17 =>
    vb (aLoad H7 false 1 v17) fun v18 =>
    vb (aBin .add v16 v18) fun v19 =>
    vb (aBin .quo v19 (.int .i64 2)) fun v20 =>
    vb (aIndexAddr 1 v5 x10_5) fun v21 =>
    sb (aStore H7 1 v21 v20) fun H22 =>
    vb (aBin .add x10_5 (.int .i64 1)) fun v23 =>
    Kn8 [v23] H22)
    (Ke9 (.exit 0) [] H7)

def cellaretref03_most.L5 (v1 : AVal) (v3 : AVal) (v5 : AVal) : Body := fun vs H Kn Ke => cellaretref03_most.L5.b v1 v3 v5 (vs.getD 0 .undef) H Kn Ke

def cellaretref03_most.w (x0 : AVal) (x1 : AVal) (x2 : AVal) (H : AHeap) (K : AVal → AHeap → Prop) : Prop :=
  cb (S_cellaretref03_bits [x0] H) fun v1 H2 =>
  cb (S_cellaretref03_bits [x1] H2) fun v3 H4 =>
  cb (S_cellaretref03_bits [x2] H4) fun v5 H6 =>
  LoopP (cellaretref03_most.L5 v1 v3 v5) [.int .i64 0] H6 fun e24 vs25 H26 =>
    onE e24 (.exit 0)
      (cb (S_cellaretref03_num [v5] H26) fun v27 H28 =>
      fin .ret [.v (v27)] H28 K)
    (False)

def S_cellaretref03_most : Abs.Spec := fun args H r H' => ∃ x0 x1 x2 : AVal, args = [x0, x1, x2] ∧ (cellaretref03_most.w x0 x1 x2 H fun r1 H1 => r1 = r ∧ H1 = H') ∧ H <+: H'
theorem cellaretref03_most.ok (args : List AVal) (H : AHeap) (r : AVal) (H' : AHeap) (h : S_cellaretref03_most args H r H') : ∃ x0 x1 x2 : AVal, args = [x0, x1, x2] ∧ cellaretref03_most.w x0 x1 x2 H fun r1 H1 => r1 = r ∧ H1 = H' := by
  obtain ⟨x0, x1, x2, h1, h2, _⟩ := h
  exact ⟨x0, x1, x2, h1, h2⟩
theorem cellaretref03_most.quiet {args : List AVal} {H : AHeap} {r : AVal} {H' : AHeap} (h : S_cellaretref03_most args H r H') : H <+: H' := by
  obtain ⟨_, _, _, _, _, h⟩ := h
  exact h
set_option maxRecDepth 100000 in
theorem cellaretref03_most.ex (x0 x1 x2 : AVal) (H : AHeap) : Ex fun K : AVal × AHeap → Prop => cellaretref03_most.w x0 x1 x2 H fun r H => K (r, H) := by
  unfold cellaretref03_most.w
  repeat with_reducible first
    | exact Ex.pt _
    | exact Ex.fin
    | exact Ex.no
    | refine Ex.vb fun _ => ?_
    | refine Ex.hb fun _ _ => ?_
    | refine Ex.sb fun _ => ?_
    | refine Ex.cb fun _ _ => ?_
    | refine Ex.isB fun _ => ?_
    | refine Ex.cond ?_ ?_
    | refine Ex.onE ?_ ?_
    | refine Ex.join ?_ fun _ _ _ => ?_
    | refine Ex.loop (fun _ _ => ?_) fun _ _ _ => ?_
    | (unfold cellaretref03_most.L5; unfold cellaretref03_most.L5.b)

theorem cellaretref03_most.out {x0 x1 x2 : AVal} {H : AHeap} {Q : AVal → AHeap → Prop} (h : cellaretref03_most.w x0 x1 x2 H fun r H' => H <+: H' ∧ Q r H') : ∃ r H', S_cellaretref03_most [x0, x1, x2] H r H' ∧ Q r H' := by
  obtain ⟨r, H', h1, h2⟩ := (cellaretref03_most.ex x0 x1 x2 H).out h
  exact ⟨r, H', ⟨_, _, _, rfl, h1, h2.1⟩, h2.2⟩

def cellaretref03_First.w (H : AHeap) (K : AVal → AHeap → Prop) : Prop :=
  hb (aBuildSlice H 1 [.int .i64 0] 8 [(0, .int .i64 1779033703), (1, .int .i64 3144134277), (2, .int .i64 1013904242), (3, .int .i64 2773480762), (4, .int .i64 1359893119), (5, .int .i64 2600822924), (6, .int .i64 528734635), (7, .int .i64 1541459225)]) fun v1 H2 =>
  fin .ret [.v (v1)] H2 K

def S_cellaretref03_First : Abs.Spec := fun args H r H' => args = [] ∧ (cellaretref03_First.w H fun r1 H1 => r1 = r ∧ H1 = H') ∧ H <+: H'
theorem cellaretref03_First.ok (args : List AVal) (H : AHeap) (r : AVal) (H' : AHeap) (h : S_cellaretref03_First args H r H') : args = [] ∧ cellaretref03_First.w H fun r1 H1 => r1 = r ∧ H1 = H' := by
  obtain ⟨h1, h2, _⟩ := h
  exact ⟨h1, h2⟩
theorem cellaretref03_First.quiet {args : List AVal} {H : AHeap} {r : AVal} {H' : AHeap} (h : S_cellaretref03_First args H r H') : H <+: H' := by
  obtain ⟨_, _, h⟩ := h
  exact h
set_option maxRecDepth 100000 in
theorem cellaretref03_First.ex (H : AHeap) : Ex fun K : AVal × AHeap → Prop => cellaretref03_First.w H fun r H => K (r, H) := by
  unfold cellaretref03_First.w
  repeat with_reducible first
    | exact Ex.pt _
    | exact Ex.fin
    | exact Ex.no
    | refine Ex.vb fun _ => ?_
    | refine Ex.hb fun _ _ => ?_
    | refine Ex.sb fun _ => ?_
    | refine Ex.cb fun _ _ => ?_
    | refine Ex.isB fun _ => ?_
    | refine Ex.cond ?_ ?_
    | refine Ex.onE ?_ ?_
    | refine Ex.join ?_ fun _ _ _ => ?_
    | refine Ex.loop (fun _ _ => ?_) fun _ _ _ => ?_

theorem cellaretref03_First.out {H : AHeap} {Q : AVal → AHeap → Prop} (h : cellaretref03_First.w H fun r H' => H <+: H' ∧ Q r H') : ∃ r H', S_cellaretref03_First [] H r H' ∧ Q r H' := by
  obtain ⟨r, H', h1, h2⟩ := (cellaretref03_First.ex H).out h
  exact ⟨r, H', ⟨rfl, h1, h2.1⟩, h2.2⟩

def cellaretref03_times.L7.b (x1 : AVal) (x6_3 : AVal) (v4 : AVal) (x0 : AVal) (x7_7 : AVal) (x8_7 : AVal) (H12 : AHeap) (Kn13 : List AVal → AHeap → Prop) (Ke14 : AExit → List AVal → AHeap → Prop) : Prop :=
  vb (lenSl x1) fun v15 =>
  vb (aBin .lss x8_7 v15) fun v16 =>
  isB v16 fun b17 => cond b17
    (vb (aBin .add x6_3 x8_7) fun v18 =>
    vb (aIndexAddr 1 v4 v18) fun v19 =>
    vb (aLoad H12 false 1 v19) fun v20 =>
    vb (aIndexAddr 1 x0 x6_3) fun v21 =>
    vb (aLoad H12 false 1 v21) fun v22 =>
    vb (aIndexAddr 1 x1 x8_7) fun v23 =>
    vb (aLoad H12 false 1 v23) fun v24 =>
    vb (aBin .mul v22 v24) fun v25 =>
    vb (aBin .add v20 v25) fun v26 =>
    vb (aBin .add v26 x7_7) fun v27 =>
    vb (aBin .add x6_3 x8_7) fun v28 =>
    vb (aBin .rem v27 (.int .i64 65536)) fun v29 =>
    vb (aIndexAddr 1 v4 v28) fun v30 =>
    sb (aStore H12 1 v30 v29) fun H31 =>
    vb (aBin .quo v27 (.int .i64 65536)) fun v32 =>
    vb (aBin .add x8_7 (.int .i64 1)) fun v33 =>
    Kn13 [v32, v33] H31)
    (Ke14 (.exit 2) [x7_7] H12)

def cellaretref03_times.L7 (x1 : AVal) (x6_3 : AVal) (v4 : AVal) (x0 : AVal) : Body := fun vs H Kn Ke => cellaretref03_times.L7.b x1 x6_3 v4 x0 (vs.getD 0 .undef) (vs.getD 1 .undef) H Kn Ke

def cellaretref03_times.L3.b (x0 : AVal) (x1 : AVal) (v4 : AVal) (x6_3 : AVal) (H6 : AHeap) (Kn7 : List AVal → AHeap → Prop) (Ke8 : AExit → List AVal → AHeap → Prop) : Prop :=
  vb (lenSl x0) fun v9 =>
  vb (aBin .lss x6_3 v9) fun v10 =>
  isB v10 fun b11 => cond b11
    (LoopP (cellaretref03_times.L7 x1 x6_3 v4 x0) [.int .i64 0, .int .i64 0] H6 fun e34 vs35 H36 =>
      onE e34 (.exit 2)
        (vb (lenSl x1) fun v37 =>
        vb (aBin .add x6_3 v37) fun v38 =>
        vb (lenSl x1) fun v39 =>
        vb (aBin .add x6_3 v39) fun v40 =>
        vb (aIndexAddr 1 v4 v40) fun v41 =>
        vb (aLoad H36 false 1 v41) fun v42 =>
        vb (aBin .add v42 (vs35.getD 0 .undef)) fun v43 =>
        vb (aIndexAddr 1 v4 v38) fun v44 =>
        sb (aStore H36 1 v44 v43) fun H45 =>
        vb (aBin .add x6_3 (.int .i64 1)) fun v46 =>
        Kn7 [v46] H45)
      (False))
    (Ke8 (.exit 0) [] H6)

def cellaretref03_times.L3 (x0 : AVal) (x1 : AVal) (v4 : AVal) : Body := fun vs H Kn Ke => cellaretref03_times.L3.b x0 x1 v4 (vs.getD 0 .undef) H Kn Ke

def cellaretref03_times.w (x0 : AVal) (x1 : AVal) (H : AHeap) (K : AVal → AHeap → Prop) : Prop :=
  vb (lenSl x0) fun v1 =>
  vb (lenSl x1) fun v2 =>
  vb (aBin .add v1 v2) fun v3 =>
  hb (aMakeSlice H 8 [.int .i64 0] v3 v3) fun v4 H5 =>
  LoopP (cellaretref03_times.L3 x0 x1 v4) [.int .i64 0] H5 fun e47 vs48 H49 =>
    onE e47 (.exit 0)
      (fin .ret [.v (v4)] H49 K)
    (False)

def S_cellaretref03_times : Abs.Spec := fun args H r H' => ∃ x0 x1 : AVal, args = [x0, x1] ∧ (cellaretref03_times.w x0 x1 H fun r1 H1 => r1 = r ∧ H1 = H') ∧ H <+: H'
theorem cellaretref03_times.ok (args : List AVal) (H : AHeap) (r : AVal) (H' : AHeap) (h : S_cellaretref03_times args H r H') : ∃ x0 x1 : AVal, args = [x0, x1] ∧ cellaretref03_times.w x0 x1 H fun r1 H1 => r1 = r ∧ H1 = H' := by
  obtain ⟨x0, x1, h1, h2, _⟩ := h
  exact ⟨x0, x1, h1, h2⟩
theorem cellaretref03_times.quiet {args : List AVal} {H : AHeap} {r : AVal} {H' : AHeap} (h : S_cellaretref03_times args H r H') : H <+: H' := by
  obtain ⟨_, _, _, _, h⟩ := h
  exact h
set_option maxRecDepth 100000 in
theorem cellaretref03_times.ex (x0 x1 : AVal) (H : AHeap) : Ex fun K : AVal × AHeap → Prop => cellaretref03_times.w x0 x1 H fun r H => K (r, H) := by
  unfold cellaretref03_times.w
  repeat with_reducible first
    | exact Ex.pt _
    | exact Ex.fin
    | exact Ex.no
    | refine Ex.vb fun _ => ?_
    | refine Ex.hb fun _ _ => ?_
    | refine Ex.sb fun _ => ?_
    | refine Ex.cb fun _ _ => ?_
    | refine Ex.isB fun _ => ?_
    | refine Ex.cond ?_ ?_
    | refine Ex.onE ?_ ?_
    | refine Ex.join ?_ fun _ _ _ => ?_
    | refine Ex.loop (fun _ _ => ?_) fun _ _ _ => ?_
    | (unfold cellaretref03_times.L7; unfold cellaretref03_times.L7.b)
    | (unfold cellaretref03_times.L3; unfold cellaretref03_times.L3.b)

theorem cellaretref03_times.out {x0 x1 : AVal} {H : AHeap} {Q : AVal → AHeap → Prop} (h : cellaretref03_times.w x0 x1 H fun r H' => H <+: H' ∧ Q r H') : ∃ r H', S_cellaretref03_times [x0, x1] H r H' ∧ Q r H' := by
  obtain ⟨r, H', h1, h2⟩ := (cellaretref03_times.ex x0 x1 H).out h
  exact ⟨r, H', ⟨_, _, rfl, h1, h2.1⟩, h2.2⟩

def cellaretref03_digits.w (x0 : AVal) (H : AHeap) (K : AVal → AHeap → Prop) : Prop :=
  vb (aBin .rem x0 (.int .i64 65536)) fun v1 =>
  vb (aBin .quo x0 (.int .i64 65536)) fun v2 =>
  vb (aBin .rem v2 (.int .i64 65536)) fun v3 =>
  vb (aBin .quo x0 (.int .i64 4294967296)) fun v4 =>
  hb (aBuildSlice H 1 [.int .i64 0] 3 [(0, v1), (1, v3), (2, v4)]) fun v5 H6 =>
  fin .ret [.v (v5)] H6 K

def S_cellaretref03_digits : Abs.Spec := fun args H r H' => ∃ x0 : AVal, args = [x0] ∧ (cellaretref03_digits.w x0 H fun r1 H1 => r1 = r ∧ H1 = H') ∧ H <+: H'
theorem cellaretref03_digits.ok (args : List AVal) (H : AHeap) (r : AVal) (H' : AHeap) (h : S_cellaretref03_digits args H r H') : ∃ x0 : AVal, args = [x0] ∧ cellaretref03_digits.w x0 H fun r1 H1 => r1 = r ∧ H1 = H' := by
  obtain ⟨x0, h1, h2, _⟩ := h
  exact ⟨x0, h1, h2⟩
theorem cellaretref03_digits.quiet {args : List AVal} {H : AHeap} {r : AVal} {H' : AHeap} (h : S_cellaretref03_digits args H r H') : H <+: H' := by
  obtain ⟨_, _, _, h⟩ := h
  exact h
set_option maxRecDepth 100000 in
theorem cellaretref03_digits.ex (x0 : AVal) (H : AHeap) : Ex fun K : AVal × AHeap → Prop => cellaretref03_digits.w x0 H fun r H => K (r, H) := by
  unfold cellaretref03_digits.w
  repeat with_reducible first
    | exact Ex.pt _
    | exact Ex.fin
    | exact Ex.no
    | refine Ex.vb fun _ => ?_
    | refine Ex.hb fun _ _ => ?_
    | refine Ex.sb fun _ => ?_
    | refine Ex.cb fun _ _ => ?_
    | refine Ex.isB fun _ => ?_
    | refine Ex.cond ?_ ?_
    | refine Ex.onE ?_ ?_
    | refine Ex.join ?_ fun _ _ _ => ?_
    | refine Ex.loop (fun _ _ => ?_) fun _ _ _ => ?_

theorem cellaretref03_digits.out {x0 : AVal} {H : AHeap} {Q : AVal → AHeap → Prop} (h : cellaretref03_digits.w x0 H fun r H' => H <+: H' ∧ Q r H') : ∃ r H', S_cellaretref03_digits [x0] H r H' ∧ Q r H' := by
  obtain ⟨r, H', h1, h2⟩ := (cellaretref03_digits.ex x0 H).out h
  exact ⟨r, H', ⟨_, rfl, h1, h2.1⟩, h2.2⟩

def cellaretref03_Below.L6.b (v5 : AVal) (v8 : AVal) (x8_6 : AVal) (H14 : AHeap) (Kn15 : List AVal → AHeap → Prop) (Ke16 : AExit → List AVal → AHeap → Prop) : Prop :=
  vb (aBin .geq x8_6 (.int .i64 0)) fun v17 =>
  isB v17 fun b18 => cond b18
    (vb (aIndexAddr 1 v5 x8_6) fun v19 =>
    vb (aLoad H14 false 1 v19) fun v20 =>
    vb (aIndexAddr 1 v8 x8_6) fun v21 =>
    vb (aLoad H14 false 1 v21) fun v22 =>
    vb (aBin .neq v20 v22) fun v23 =>
    isB v23 fun b24 => cond b24
      (vb (aIndexAddr 1 v5 x8_6) fun v25 =>
      vb (aLoad H14 false 1 v25) fun v26 =>
      vb (aIndexAddr 1 v8 x8_6) fun v27 =>
      vb (aLoad H14 false 1 v27) fun v28 =>
      vb (aBin .lss v26 v28) fun v29 =>
      Ke16 .ret [v29] H14)
      (vb (aBin .sub x8_6 (.int .i64 1)) fun v30 =>
      Kn15 [v30] H14))
    (Ke16 (.exit 0) [.undef] H14)

def cellaretref03_Below.L6 (v5 : AVal) (v8 : AVal) : Body := fun vs H Kn Ke => cellaretref03_Below.L6.b v5 v8 (vs.getD 0 .undef) H Kn Ke

def cellaretref03_Below.w (x0 : AVal) (x1 : AVal) (H : AHeap) (K : AVal → AHeap → Prop) : Prop :=
  cb (S_cellaretref03_digits [x0] H) fun v1 H2 =>
  cb (S_cellaretref03_times [v1, v1] H2) fun v3 H4 =>
  cb (S_cellaretref03_times [v3, v1] H4) fun v5 H6 =>
  vb (lenSl v5) fun v7 =>
  hb (aMakeSlice H6 8 [.int .i64 0] v7 v7) fun v8 H9 =>
  vb (aIndexAddr 1 v8 (.int .i64 6)) fun v10 =>
  sb (aStore H9 1 v10 x1) fun H11 =>
  vb (lenSl v5) fun v12 =>
  vb (aBin .sub v12 (.int .i64 1)) fun v13 =>
  LoopP (cellaretref03_Below.L6 v5 v8) [v13] H11 fun e31 vs32 H33 =>
    onE e31 (.exit 0)
      (fin .ret [.v (.bool true)] H33 K)
    (onE e31 .ret
      (fin .ret [.v (vs32.getD 0 .undef)] H33 K)
    (False))

def S_cellaretref03_Below : Abs.Spec := fun args H r H' => ∃ x0 x1 : AVal, args = [x0, x1] ∧ (cellaretref03_Below.w x0 x1 H fun r1 H1 => r1 = r ∧ H1 = H') ∧ H <+: H'
theorem cellaretref03_Below.ok (args : List AVal) (H : AHeap) (r : AVal) (H' : AHeap) (h : S_cellaretref03_Below args H r H') : ∃ x0 x1 : AVal, args = [x0, x1] ∧ cellaretref03_Below.w x0 x1 H fun r1 H1 => r1 = r ∧ H1 = H' := by
  obtain ⟨x0, x1, h1, h2, _⟩ := h
  exact ⟨x0, x1, h1, h2⟩
theorem cellaretref03_Below.quiet {args : List AVal} {H : AHeap} {r : AVal} {H' : AHeap} (h : S_cellaretref03_Below args H r H') : H <+: H' := by
  obtain ⟨_, _, _, _, h⟩ := h
  exact h
set_option maxRecDepth 100000 in
theorem cellaretref03_Below.ex (x0 x1 : AVal) (H : AHeap) : Ex fun K : AVal × AHeap → Prop => cellaretref03_Below.w x0 x1 H fun r H => K (r, H) := by
  unfold cellaretref03_Below.w
  repeat with_reducible first
    | exact Ex.pt _
    | exact Ex.fin
    | exact Ex.no
    | refine Ex.vb fun _ => ?_
    | refine Ex.hb fun _ _ => ?_
    | refine Ex.sb fun _ => ?_
    | refine Ex.cb fun _ _ => ?_
    | refine Ex.isB fun _ => ?_
    | refine Ex.cond ?_ ?_
    | refine Ex.onE ?_ ?_
    | refine Ex.join ?_ fun _ _ _ => ?_
    | refine Ex.loop (fun _ _ => ?_) fun _ _ _ => ?_
    | (unfold cellaretref03_Below.L6; unfold cellaretref03_Below.L6.b)

theorem cellaretref03_Below.out {x0 x1 : AVal} {H : AHeap} {Q : AVal → AHeap → Prop} (h : cellaretref03_Below.w x0 x1 H fun r H' => H <+: H' ∧ Q r H') : ∃ r H', S_cellaretref03_Below [x0, x1] H r H' ∧ Q r H' := by
  obtain ⟨r, H', h1, h2⟩ := (cellaretref03_Below.ex x0 x1 H).out h
  exact ⟨r, H', ⟨_, _, rfl, h1, h2.1⟩, h2.2⟩

def cellaretref03_Prime.L2.b (x0 : AVal) (x3_2 : AVal) (H1 : AHeap) (Kn2 : List AVal → AHeap → Prop) (Ke3 : AExit → List AVal → AHeap → Prop) : Prop :=
  vb (aBin .mul x3_2 x3_2) fun v4 =>
  vb (aBin .leq v4 x0) fun v5 =>
  isB v5 fun b6 => cond b6
    (vb (aBin .rem x0 x3_2) fun v7 =>
    vb (aBin .eql v7 (.int .i64 0)) fun v8 =>
    isB v8 fun b9 => cond b9
      (Ke3 .ret [.bool false] H1)
      (vb (aBin .add x3_2 (.int .i64 1)) fun v10 =>
      Kn2 [v10] H1))
    (Ke3 (.exit 0) [.undef] H1)

def cellaretref03_Prime.L2 (x0 : AVal) : Body := fun vs H Kn Ke => cellaretref03_Prime.L2.b x0 (vs.getD 0 .undef) H Kn Ke

def cellaretref03_Prime.w (x0 : AVal) (H : AHeap) (K : AVal → AHeap → Prop) : Prop :=
  LoopP (cellaretref03_Prime.L2 x0) [.int .i64 2] H fun e11 vs12 H13 =>
    onE e11 (.exit 0)
      (vb (aBin .geq x0 (.int .i64 2)) fun v14 =>
      fin .ret [.v (v14)] H13 K)
    (onE e11 .ret
      (fin .ret [.v (vs12.getD 0 .undef)] H13 K)
    (False))

def S_cellaretref03_Prime : Abs.Spec := fun args H r H' => ∃ x0 : AVal, args = [x0] ∧ (cellaretref03_Prime.w x0 H fun r1 H1 => r1 = r ∧ H1 = H') ∧ H <+: H'
theorem cellaretref03_Prime.ok (args : List AVal) (H : AHeap) (r : AVal) (H' : AHeap) (h : S_cellaretref03_Prime args H r H') : ∃ x0 : AVal, args = [x0] ∧ cellaretref03_Prime.w x0 H fun r1 H1 => r1 = r ∧ H1 = H' := by
  obtain ⟨x0, h1, h2, _⟩ := h
  exact ⟨x0, h1, h2⟩
theorem cellaretref03_Prime.quiet {args : List AVal} {H : AHeap} {r : AVal} {H' : AHeap} (h : S_cellaretref03_Prime args H r H') : H <+: H' := by
  obtain ⟨_, _, _, h⟩ := h
  exact h
set_option maxRecDepth 100000 in
theorem cellaretref03_Prime.ex (x0 : AVal) (H : AHeap) : Ex fun K : AVal × AHeap → Prop => cellaretref03_Prime.w x0 H fun r H => K (r, H) := by
  unfold cellaretref03_Prime.w
  repeat with_reducible first
    | exact Ex.pt _
    | exact Ex.fin
    | exact Ex.no
    | refine Ex.vb fun _ => ?_
    | refine Ex.hb fun _ _ => ?_
    | refine Ex.sb fun _ => ?_
    | refine Ex.cb fun _ _ => ?_
    | refine Ex.isB fun _ => ?_
    | refine Ex.cond ?_ ?_
    | refine Ex.onE ?_ ?_
    | refine Ex.join ?_ fun _ _ _ => ?_
    | refine Ex.loop (fun _ _ => ?_) fun _ _ _ => ?_
    | (unfold cellaretref03_Prime.L2; unfold cellaretref03_Prime.L2.b)

theorem cellaretref03_Prime.out {x0 : AVal} {H : AHeap} {Q : AVal → AHeap → Prop} (h : cellaretref03_Prime.w x0 H fun r H' => H <+: H' ∧ Q r H') : ∃ r H', S_cellaretref03_Prime [x0] H r H' ∧ Q r H' := by
  obtain ⟨r, H', h1, h2⟩ := (cellaretref03_Prime.ex x0 H).out h
  exact ⟨r, H', ⟨_, rfl, h1, h2.1⟩, h2.2⟩

def cellaretref03_Constants.L8.b (x2_3 : AVal) (x3_8 : AVal) (x4_8 : AVal) (H12 : AHeap) (Kn13 : List AVal → AHeap → Prop) (Ke14 : AExit → List AVal → AHeap → Prop) : Prop :=
  vb (aBin .gtr x4_8 (.int .i64 0)) fun v15 =>
  isB v15 fun b16 => cond b16
    (JoinP (fun Kj17 => vb (aBin .add x3_8 x4_8) fun v18 =>
      cb (S_cellaretref03_Below [v18, x2_3] H12) fun v19 H20 =>
      isB v19 fun b21 => cond b21
        (vb (aBin .add x3_8 x4_8) fun v22 =>
        Kj17 .normal [v22] H20)
        (Kj17 .normal [x3_8] H20))
    (fun e23 vs24 H25 =>
      onE e23 .normal
        (vb (aBin .quo x4_8 (.int .i64 2)) fun v26 =>
        Kn13 [vs24.getD 0 .undef, v26] H25)
      (False)))
    (Ke14 (.exit 2) [x3_8] H12)

def cellaretref03_Constants.L8 (x2_3 : AVal) : Body := fun vs H Kn Ke => cellaretref03_Constants.L8.b x2_3 (vs.getD 0 .undef) (vs.getD 1 .undef) H Kn Ke

def cellaretref03_Constants.L3.b (x1_3 : AVal) (x2_3 : AVal) (H1 : AHeap) (Kn2 : List AVal → AHeap → Prop) (Ke3 : AExit → List AVal → AHeap → Prop) : Prop :=
  vb (lenSl x1_3) fun v4 =>
  vb (aBin .lss v4 (.int .i64 64)) fun v5 =>
  isB v5 fun b6 => cond b6
    (cb (S_cellaretref03_Prime [x2_3] H1) fun v7 H8 =>
    vb (aUn .not v7) fun v9 =>
    isB v9 fun b10 => cond b10
      (vb (aBin .add x2_3 (.int .i64 1)) fun v11 =>
      Kn2 [x1_3, v11] H8)
      (LoopP (cellaretref03_Constants.L8 x2_3) [.int .i64 0, .int .i64 34359738368] H8 fun e27 vs28 H29 =>
        onE e27 (.exit 2)
          (vb (aBin .rem (vs28.getD 0 .undef) (.int .i64 4294967296)) fun v30 =>
          hb (aBuildSlice H29 1 [.int .i64 0] 1 [(0, v30)]) fun v31 H32 =>
          hb (aAppendS H32 1 8 x1_3 v31) fun v33 H34 =>
          vb (aBin .add x2_3 (.int .i64 1)) fun v35 =>
          Kn2 [v33, v35] H34)
        (False)))
    (Ke3 (.exit 0) [x1_3] H1)

def cellaretref03_Constants.L3 : Body := fun vs H Kn Ke => cellaretref03_Constants.L3.b (vs.getD 0 .undef) (vs.getD 1 .undef) H Kn Ke

def cellaretref03_Constants.w (H : AHeap) (K : AVal → AHeap → Prop) : Prop :=
  LoopP cellaretref03_Constants.L3 [.nils, .int .i64 2] H fun e36 vs37 H38 =>
    onE e36 (.exit 0)
      (fin .ret [.v (vs37.getD 0 .undef)] H38 K)
    (False)

def S_cellaretref03_Constants : Abs.Spec := fun args H r H' => args = [] ∧ (cellaretref03_Constants.w H fun r1 H1 => r1 = r ∧ H1 = H') ∧ H <+: H'
theorem cellaretref03_Constants.ok (args : List AVal) (H : AHeap) (r : AVal) (H' : AHeap) (h : S_cellaretref03_Constants args H r H') : args = [] ∧ cellaretref03_Constants.w H fun r1 H1 => r1 = r ∧ H1 = H' := by
  obtain ⟨h1, h2, _⟩ := h
  exact ⟨h1, h2⟩
theorem cellaretref03_Constants.quiet {args : List AVal} {H : AHeap} {r : AVal} {H' : AHeap} (h : S_cellaretref03_Constants args H r H') : H <+: H' := by
  obtain ⟨_, _, h⟩ := h
  exact h
set_option maxRecDepth 100000 in
theorem cellaretref03_Constants.ex (H : AHeap) : Ex fun K : AVal × AHeap → Prop => cellaretref03_Constants.w H fun r H => K (r, H) := by
  unfold cellaretref03_Constants.w
  repeat with_reducible first
    | exact Ex.pt _
    | exact Ex.fin
    | exact Ex.no
    | refine Ex.vb fun _ => ?_
    | refine Ex.hb fun _ _ => ?_
    | refine Ex.sb fun _ => ?_
    | refine Ex.cb fun _ _ => ?_
    | refine Ex.isB fun _ => ?_
    | refine Ex.cond ?_ ?_
    | refine Ex.onE ?_ ?_
    | refine Ex.join ?_ fun _ _ _ => ?_
    | refine Ex.loop (fun _ _ => ?_) fun _ _ _ => ?_
    | (unfold cellaretref03_Constants.L8; unfold cellaretref03_Constants.L8.b)
    | (unfold cellaretref03_Constants.L3; unfold cellaretref03_Constants.L3.b)

theorem cellaretref03_Constants.out {H : AHeap} {Q : AVal → AHeap → Prop} (h : cellaretref03_Constants.w H fun r H' => H <+: H' ∧ Q r H') : ∃ r H', S_cellaretref03_Constants [] H r H' ∧ Q r H' := by
  obtain ⟨r, H', h1, h2⟩ := (cellaretref03_Constants.ex H).out h
  exact ⟨r, H', ⟨rfl, h1, h2.1⟩, h2.2⟩

def cellaretref03_Block.L3.b (x1 : AVal) (x7_3 : AVal) (x8_3 : AVal) (H1 : AHeap) (Kn2 : List AVal → AHeap → Prop) (Ke3 : AExit → List AVal → AHeap → Prop) : Prop :=
  vb (aBin .lss x8_3 (.int .i64 64)) fun v4 =>
  isB v4 fun b5 => cond b5
    (vb (aBin .lss x8_3 (.int .i64 16)) fun v6 =>
    isB v6 fun b7 => cond b7
      (vb (aBin .mul (.int .i64 4) x8_3) fun v8 =>
      vb (aIndexStr x1 v8) fun v9 =>
      vb (aInt2 .i64 v9) fun v10 =>
      vb (aBin .mul v10 (.int .i64 16777216)) fun v11 =>
      vb (aBin .mul (.int .i64 4) x8_3) fun v12 =>
      vb (aBin .add v12 (.int .i64 1)) fun v13 =>
      vb (aIndexStr x1 v13) fun v14 =>
      vb (aInt2 .i64 v14) fun v15 =>
      vb (aBin .mul v15 (.int .i64 65536)) fun v16 =>
      vb (aBin .add v11 v16) fun v17 =>
      vb (aBin .mul (.int .i64 4) x8_3) fun v18 =>
      vb (aBin .add v18 (.int .i64 2)) fun v19 =>
      vb (aIndexStr x1 v19) fun v20 =>
      vb (aInt2 .i64 v20) fun v21 =>
      vb (aBin .mul v21 (.int .i64 256)) fun v22 =>
      vb (aBin .add v17 v22) fun v23 =>
      vb (aBin .mul (.int .i64 4) x8_3) fun v24 =>
      vb (aBin .add v24 (.int .i64 3)) fun v25 =>
      vb (aIndexStr x1 v25) fun v26 =>
      vb (aInt2 .i64 v26) fun v27 =>
      vb (aBin .add v23 v27) fun v28 =>
      hb (aBuildSlice H1 1 [.int .i64 0] 1 [(0, v28)]) fun v29 H30 =>
      hb (aAppendS H30 1 8 x7_3 v29) fun v31 H32 =>
      vb (aBin .add x8_3 (.int .i64 1)) fun v33 =>
      Kn2 [v31, v33] H32)
      (vb (aBin .sub x8_3 (.int .i64 2)) fun v34 =>
      vb (aIndexAddr 1 x7_3 v34) fun v35 =>
      vb (aLoad H1 false 1 v35) fun v36 =>
      vb (aBuild [.int .i64 0, .int .i64 0, .int .i64 0] (fun k => some (k * 1, 1)) [(0, .int .i64 17), (1, .int .i64 19), (2, .int .i64 10)]) fun v37 =>
      cb (S_cellaretref03_three [v36, v37, .bool true] H1) fun v38 H39 =>
      vb (aBin .sub x8_3 (.int .i64 7)) fun v40 =>
      vb (aIndexAddr 1 x7_3 v40) fun v41 =>
      vb (aLoad H39 false 1 v41) fun v42 =>
      cb (S_cellaretref03_Add [v38, v42] H39) fun v43 H44 =>
      vb (aBin .sub x8_3 (.int .i64 15)) fun v45 =>
      vb (aIndexAddr 1 x7_3 v45) fun v46 =>
      vb (aLoad H44 false 1 v46) fun v47 =>
      vb (aBuild [.int .i64 0, .int .i64 0, .int .i64 0] (fun k => some (k * 1, 1)) [(0, .int .i64 7), (1, .int .i64 18), (2, .int .i64 3)]) fun v48 =>
      cb (S_cellaretref03_three [v47, v48, .bool true] H44) fun v49 H50 =>
      cb (S_cellaretref03_Add [v43, v49] H50) fun v51 H52 =>
      vb (aBin .sub x8_3 (.int .i64 16)) fun v53 =>
      vb (aIndexAddr 1 x7_3 v53) fun v54 =>
      vb (aLoad H52 false 1 v54) fun v55 =>
      cb (S_cellaretref03_Add [v51, v55] H52) fun v56 H57 =>
      hb (aBuildSlice H57 1 [.int .i64 0] 1 [(0, v56)]) fun v58 H59 =>
      hb (aAppendS H59 1 8 x7_3 v58) fun v60 H61 =>
      vb (aBin .add x8_3 (.int .i64 1)) fun v62 =>
      Kn2 [v60, v62] H61))
    (Ke3 (.exit 0) [x7_3] H1)

def cellaretref03_Block.L3 (x1 : AVal) : Body := fun vs H Kn Ke => cellaretref03_Block.L3.b x1 (vs.getD 0 .undef) (vs.getD 1 .undef) H Kn Ke

def cellaretref03_Block.L12.b (x2 : AVal) (vs64 : List AVal) (x10_12 : AVal) (x11_12 : AVal) (H70 : AHeap) (Kn71 : List AVal → AHeap → Prop) (Ke72 : AExit → List AVal → AHeap → Prop) : Prop :=
  vb (aBin .lss x11_12 (.int .i64 64)) fun v73 =>
  isB v73 fun b74 => cond b74
    (vb (aIndexAddr 1 x10_12 (.int .i64 7)) fun v75 =>
    vb (aLoad H70 false 1 v75) fun v76 =>
    vb (aIndexAddr 1 x10_12 (.int .i64 4)) fun v77 =>
    vb (aLoad H70 false 1 v77) fun v78 =>
    vb (aBuild [.int .i64 0, .int .i64 0, .int .i64 0] (fun k => some (k * 1, 1)) [(0, .int .i64 6), (1, .int .i64 11), (2, .int .i64 25)]) fun v79 =>
    cb (S_cellaretref03_three [v78, v79, .bool false] H70) fun v80 H81 =>
    cb (S_cellaretref03_Add [v76, v80] H81) fun v82 H83 =>
    vb (aIndexAddr 1 x10_12 (.int .i64 4)) fun v84 =>
    vb (aLoad H83 false 1 v84) fun v85 =>
    vb (aIndexAddr 1 x10_12 (.int .i64 5)) fun v86 =>
    vb (aLoad H83 false 1 v86) fun v87 =>
    vb (aIndexAddr 1 x10_12 (.int .i64 6)) fun v88 =>
    vb (aLoad H83 false 1 v88) fun v89 =>
    cb (S_cellaretref03_pick [v85, v87, v89] H83) fun v90 H91 =>
    cb (S_cellaretref03_Add [v82, v90] H91) fun v92 H93 =>
    vb (aIndexAddr 1 x2 x11_12) fun v94 =>
    vb (aLoad H93 false 1 v94) fun v95 =>
    cb (S_cellaretref03_Add [v92, v95] H93) fun v96 H97 =>
    vb (aIndexAddr 1 (vs64.getD 0 .undef) x11_12) fun v98 =>
    vb (aLoad H97 false 1 v98) fun v99 =>
    cb (S_cellaretref03_Add [v96, v99] H97) fun v100 H101 =>
    vb (aIndexAddr 1 x10_12 (.int .i64 0)) fun v102 =>
    vb (aLoad H101 false 1 v102) fun v103 =>
    vb (aBuild [.int .i64 0, .int .i64 0, .int .i64 0] (fun k => some (k * 1, 1)) [(0, .int .i64 2), (1, .int .i64 13), (2, .int .i64 22)]) fun v104 =>
    cb (S_cellaretref03_three [v103, v104, .bool false] H101) fun v105 H106 =>
    vb (aIndexAddr 1 x10_12 (.int .i64 0)) fun v107 =>
    vb (aLoad H106 false 1 v107) fun v108 =>
    vb (aIndexAddr 1 x10_12 (.int .i64 1)) fun v109 =>
    vb (aLoad H106 false 1 v109) fun v110 =>
    vb (aIndexAddr 1 x10_12 (.int .i64 2)) fun v111 =>
    vb (aLoad H106 false 1 v111) fun v112 =>
    cb (S_cellaretref03_most [v108, v110, v112] H106) fun v113 H114 =>
    cb (S_cellaretref03_Add [v105, v113] H114) fun v115 H116 =>
    cb (S_cellaretref03_Add [v100, v115] H116) fun v117 H118 =>
    vb (aIndexAddr 1 x10_12 (.int .i64 0)) fun v119 =>
    vb (aLoad H118 false 1 v119) fun v120 =>
    vb (aIndexAddr 1 x10_12 (.int .i64 1)) fun v121 =>
    vb (aLoad H118 false 1 v121) fun v122 =>
    vb (aIndexAddr 1 x10_12 (.int .i64 2)) fun v123 =>
    vb (aLoad H118 false 1 v123) fun v124 =>
    vb (aIndexAddr 1 x10_12 (.int .i64 3)) fun v125 =>
    vb (aLoad H118 false 1 v125) fun v126 =>
    cb (S_cellaretref03_Add [v126, v100] H118) fun v127 H128 =>
    vb (aIndexAddr 1 x10_12 (.int .i64 4)) fun v129 =>
    vb (aLoad H128 false 1 v129) fun v130 =>
    vb (aIndexAddr 1 x10_12 (.int .i64 5)) fun v131 =>
    vb (aLoad H128 false 1 v131) fun v132 =>
    vb (aIndexAddr 1 x10_12 (.int .i64 6)) fun v133 =>
    vb (aLoad H128 false 1 v133) fun v134 =>
    hb (aBuildSlice H128 1 [.int .i64 0] 8 [(0, v117), (1, v120), (2, v122), (3, v124), (4, v127), (5, v130), (6, v132), (7, v134)]) fun v135 H136 =>
    vb (aBin .add x11_12 (.int .i64 1)) fun v137 =>
    Kn71 [v135, v137] H136)
    (Ke72 (.exit 2) [x10_12] H70)

def cellaretref03_Block.L12 (x2 : AVal) (vs64 : List AVal) : Body := fun vs H Kn Ke => cellaretref03_Block.L12.b x2 vs64 (vs.getD 0 .undef) (vs.getD 1 .undef) H Kn Ke

def cellaretref03_Block.L21.b (x0 : AVal) (vs139 : List AVal) (x14_21 : AVal) (x15_21 : AVal) (H141 : AHeap) (Kn142 : List AVal → AHeap → Prop) (Ke143 : AExit → List AVal → AHeap → Prop) : Prop :=
  vb (aBin .lss x15_21 (.int .i64 8)) fun v144 =>
  isB v144 fun b145 => cond b145
    (vb (aIndexAddr 1 x0 x15_21) fun v146 =>
    vb (aLoad H141 false 1 v146) fun v147 =>
    vb (aIndexAddr 1 (vs139.getD 0 .undef) x15_21) fun v148 =>
    vb (aLoad H141 false 1 v148) fun v149 =>
    cb (S_cellaretref03_Add [v147, v149] H141) fun v150 H151 =>
    hb (aBuildSlice H151 1 [.int .i64 0] 1 [(0, v150)]) fun v152 H153 =>
    hb (aAppendS H153 1 8 x14_21 v152) fun v154 H155 =>
    vb (aBin .add x15_21 (.int .i64 1)) fun v156 =>
    Kn142 [v154, v156] H155)
    (Ke143 (.exit 4) [x14_21] H141)

def cellaretref03_Block.L21 (x0 : AVal) (vs139 : List AVal) : Body := fun vs H Kn Ke => cellaretref03_Block.L21.b x0 vs139 (vs.getD 0 .undef) (vs.getD 1 .undef) H Kn Ke

def cellaretref03_Block.w (x0 : AVal) (x1 : AVal) (x2 : AVal) (H : AHeap) (K : AVal → AHeap → Prop) : Prop :=
  LoopP (cellaretref03_Block.L3 x1) [.nils, .int .i64 0] H fun e63 vs64 H65 =>
    onE e63 (.exit 0)
      (hb (aBuildSlice H65 1 [.int .i64 0] 0 []) fun v66 H67 =>
      hb (aAppendS H67 1 8 v66 x0) fun v68 H69 =>
      LoopP (cellaretref03_Block.L12 x2 vs64) [v68, .int .i64 0] H69 fun e138 vs139 H140 =>
        onE e138 (.exit 2)
          (LoopP (cellaretref03_Block.L21 x0 vs139) [.nils, .int .i64 0] H140 fun e157 vs158 H159 =>
            onE e157 (.exit 4)
              (fin .ret [.v (vs158.getD 0 .undef)] H159 K)
            (False))
        (False))
    (False)

def S_cellaretref03_Block : Abs.Spec := fun args H r H' => ∃ x0 x1 x2 : AVal, args = [x0, x1, x2] ∧ (cellaretref03_Block.w x0 x1 x2 H fun r1 H1 => r1 = r ∧ H1 = H') ∧ H <+: H'
theorem cellaretref03_Block.ok (args : List AVal) (H : AHeap) (r : AVal) (H' : AHeap) (h : S_cellaretref03_Block args H r H') : ∃ x0 x1 x2 : AVal, args = [x0, x1, x2] ∧ cellaretref03_Block.w x0 x1 x2 H fun r1 H1 => r1 = r ∧ H1 = H' := by
  obtain ⟨x0, x1, x2, h1, h2, _⟩ := h
  exact ⟨x0, x1, x2, h1, h2⟩
theorem cellaretref03_Block.quiet {args : List AVal} {H : AHeap} {r : AVal} {H' : AHeap} (h : S_cellaretref03_Block args H r H') : H <+: H' := by
  obtain ⟨_, _, _, _, _, h⟩ := h
  exact h
set_option maxRecDepth 100000 in
theorem cellaretref03_Block.ex (x0 x1 x2 : AVal) (H : AHeap) : Ex fun K : AVal × AHeap → Prop => cellaretref03_Block.w x0 x1 x2 H fun r H => K (r, H) := by
  unfold cellaretref03_Block.w
  repeat with_reducible first
    | exact Ex.pt _
    | exact Ex.fin
    | exact Ex.no
    | refine Ex.vb fun _ => ?_
    | refine Ex.hb fun _ _ => ?_
    | refine Ex.sb fun _ => ?_
    | refine Ex.cb fun _ _ => ?_
    | refine Ex.isB fun _ => ?_
    | refine Ex.cond ?_ ?_
    | refine Ex.onE ?_ ?_
    | refine Ex.join ?_ fun _ _ _ => ?_
    | refine Ex.loop (fun _ _ => ?_) fun _ _ _ => ?_
    | (unfold cellaretref03_Block.L3; unfold cellaretref03_Block.L3.b)
    | (unfold cellaretref03_Block.L12; unfold cellaretref03_Block.L12.b)
    | (unfold cellaretref03_Block.L21; unfold cellaretref03_Block.L21.b)

theorem cellaretref03_Block.out {x0 x1 x2 : AVal} {H : AHeap} {Q : AVal → AHeap → Prop} (h : cellaretref03_Block.w x0 x1 x2 H fun r H' => H <+: H' ∧ Q r H') : ∃ r H', S_cellaretref03_Block [x0, x1, x2] H r H' ∧ Q r H' := by
  obtain ⟨r, H', h1, h2⟩ := (cellaretref03_Block.ex x0 x1 x2 H).out h
  exact ⟨r, H', ⟨_, _, _, rfl, h1, h2.1⟩, h2.2⟩

def cellaretref03_Padded.L3.b (x0_3 : AVal) (H7 : AHeap) (Kn8 : List AVal → AHeap → Prop) (Ke9 : AExit → List AVal → AHeap → Prop) : Prop :=
  vb (lenSt x0_3) fun v10 =>
  vb (aBin .rem v10 (.int .i64 64)) fun v11 =>
  vb (aBin .neq v11 (.int .i64 56)) fun v12 =>
  isB v12 fun b13 => cond b13
    (hb (aBuildSlice H7 1 [.int .u8 0] 1 [(0, .int .u8 0)]) fun v14 H15 =>
    vb (aBytes2Str H15 v14) fun v16 =>
    vb (aBin .add x0_3 v16) fun v17 =>
    Kn8 [v17] H15)
    (Ke9 (.exit 0) [x0_3] H7)

def cellaretref03_Padded.L3 : Body := fun vs H Kn Ke => cellaretref03_Padded.L3.b (vs.getD 0 .undef) H Kn Ke

def cellaretref03_Padded.L7.b (x3_7 : AVal) (x4_7 : AVal) (x5_7 : AVal) (H21 : AHeap) (Kn22 : List AVal → AHeap → Prop) (Ke23 : AExit → List AVal → AHeap → Prop) : Prop :=
  vb (aBin .lss x5_7 (.int .i64 8)) fun v24 =>
  isB v24 fun b25 => cond b25
    (vb (aBin .rem x3_7 (.int .i64 256)) fun v26 =>
    vb (aInt2 .u8 v26) fun v27 =>
    hb (aBuildSlice H21 1 [.int .u8 0] 1 [(0, v27)]) fun v28 H29 =>
    vb (aBytes2Str H29 v28) fun v30 =>
    vb (aBin .add v30 x4_7) fun v31 =>
    vb (aBin .quo x3_7 (.int .i64 256)) fun v32 =>
    vb (aBin .add x5_7 (.int .i64 1)) fun v33 =>
    Kn22 [v32, v31, v33] H29)
    (Ke23 (.exit 2) [x4_7] H21)

def cellaretref03_Padded.L7 : Body := fun vs H Kn Ke => cellaretref03_Padded.L7.b (vs.getD 0 .undef) (vs.getD 1 .undef) (vs.getD 2 .undef) H Kn Ke

def cellaretref03_Padded.w (x0 : AVal) (H : AHeap) (K : AVal → AHeap → Prop) : Prop :=
  vb (lenSt x0) fun v1 =>
  vb (aBin .mul (.int .i64 8) v1) fun v2 =>
  hb (aBuildSlice H 1 [.int .u8 0] 1 [(0, .int .u8 128)]) fun v3 H4 =>
  vb (aBytes2Str H4 v3) fun v5 =>
  vb (aBin .add x0 v5) fun v6 =>
  LoopP cellaretref03_Padded.L3 [v6] H4 fun e18 vs19 H20 =>
    onE e18 (.exit 0)
      (LoopP cellaretref03_Padded.L7 [v2, .str [], .int .i64 0] H20 fun e34 vs35 H36 =>
        onE e34 (.exit 2)
          (vb (aBin .add (vs19.getD 0 .undef) (vs35.getD 0 .undef)) fun v37 =>
          fin .ret [.v (v37)] H36 K)
        (False))
    (False)

def S_cellaretref03_Padded : Abs.Spec := fun args H r H' => ∃ x0 : AVal, args = [x0] ∧ (cellaretref03_Padded.w x0 H fun r1 H1 => r1 = r ∧ H1 = H') ∧ H <+: H'
theorem cellaretref03_Padded.ok (args : List AVal) (H : AHeap) (r : AVal) (H' : AHeap) (h : S_cellaretref03_Padded args H r H') : ∃ x0 : AVal, args = [x0] ∧ cellaretref03_Padded.w x0 H fun r1 H1 => r1 = r ∧ H1 = H' := by
  obtain ⟨x0, h1, h2, _⟩ := h
  exact ⟨x0, h1, h2⟩
theorem cellaretref03_Padded.quiet {args : List AVal} {H : AHeap} {r : AVal} {H' : AHeap} (h : S_cellaretref03_Padded args H r H') : H <+: H' := by
  obtain ⟨_, _, _, h⟩ := h
  exact h
set_option maxRecDepth 100000 in
theorem cellaretref03_Padded.ex (x0 : AVal) (H : AHeap) : Ex fun K : AVal × AHeap → Prop => cellaretref03_Padded.w x0 H fun r H => K (r, H) := by
  unfold cellaretref03_Padded.w
  repeat with_reducible first
    | exact Ex.pt _
    | exact Ex.fin
    | exact Ex.no
    | refine Ex.vb fun _ => ?_
    | refine Ex.hb fun _ _ => ?_
    | refine Ex.sb fun _ => ?_
    | refine Ex.cb fun _ _ => ?_
    | refine Ex.isB fun _ => ?_
    | refine Ex.cond ?_ ?_
    | refine Ex.onE ?_ ?_
    | refine Ex.join ?_ fun _ _ _ => ?_
    | refine Ex.loop (fun _ _ => ?_) fun _ _ _ => ?_
    | (unfold cellaretref03_Padded.L3; unfold cellaretref03_Padded.L3.b)
    | (unfold cellaretref03_Padded.L7; unfold cellaretref03_Padded.L7.b)

theorem cellaretref03_Padded.out {x0 : AVal} {H : AHeap} {Q : AVal → AHeap → Prop} (h : cellaretref03_Padded.w x0 H fun r H' => H <+: H' ∧ Q r H') : ∃ r H', S_cellaretref03_Padded [x0] H r H' ∧ Q r H' := by
  obtain ⟨r, H', h1, h2⟩ := (cellaretref03_Padded.ex x0 H).out h
  exact ⟨r, H', ⟨_, rfl, h1, h2.1⟩, h2.2⟩

def cellaretref03_Sum.L4.b (v3 : AVal) (x0_4 : AVal) (x4_4 : AVal) (H9 : AHeap) (Kn10 : List AVal → AHeap → Prop) (Ke11 : AExit → List AVal → AHeap → Prop) : Prop :=
  vb (lenSt x0_4) fun v12 =>
  vb (aBin .gtr v12 (.int .i64 0)) fun v13 =>
  isB v13 fun b14 => cond b14
    (vb (aSliceStr x0_4 none (some (.int .i64 64))) fun v15 =>
    cb (S_cellaretref03_Block [x4_4, v15, v3] H9) fun v16 H17 =>
    vb (aSliceStr x0_4 (some (.int .i64 64)) none) fun v18 =>
    Kn10 [v18, v16] H17)
    (Ke11 (.exit 0) [x4_4] H9)

def cellaretref03_Sum.L4 (v3 : AVal) : Body := fun vs H Kn Ke => cellaretref03_Sum.L4.b v3 (vs.getD 0 .undef) (vs.getD 1 .undef) H Kn Ke

def cellaretref03_Sum.L13.b (x6_9 : AVal) (x7_13 : AVal) (x8_13 : AVal) (H34 : AHeap) (Kn35 : List AVal → AHeap → Prop) (Ke36 : AExit → List AVal → AHeap → Prop) : Prop :=
  vb (aBin .rem x6_9 (.int .i64 4)) fun v37 =>
  vb (aBin .gtr x8_13 v37) fun v38 =>
  isB v38 fun b39 => cond b39
    (vb (aBin .quo x7_13 (.int .i64 256)) fun v40 =>
    vb (aBin .sub x8_13 (.int .i64 1)) fun v41 =>
    Kn35 [v40, v41] H34)
    (Ke36 (.exit 4) [x7_13] H34)

def cellaretref03_Sum.L13 (x6_9 : AVal) : Body := fun vs H Kn Ke => cellaretref03_Sum.L13.b x6_9 (vs.getD 0 .undef) (vs.getD 1 .undef) H Kn Ke

def cellaretref03_Sum.L9.b (vs20 : List AVal) (v23 : AVal) (x6_9 : AVal) (H26 : AHeap) (Kn27 : List AVal → AHeap → Prop) (Ke28 : AExit → List AVal → AHeap → Prop) : Prop :=
  vb (aBin .lss x6_9 (.int .i64 32)) fun v29 =>
  isB v29 fun b30 => cond b30
    (vb (aBin .quo x6_9 (.int .i64 4)) fun v31 =>
    vb (aIndexAddr 1 (vs20.getD 0 .undef) v31) fun v32 =>
    vb (aLoad H26 false 1 v32) fun v33 =>
    LoopP (cellaretref03_Sum.L13 x6_9) [v33, .int .i64 3] H26 fun e42 vs43 H44 =>
      onE e42 (.exit 4)
        (vb (aBin .rem (vs43.getD 0 .undef) (.int .i64 256)) fun v45 =>
        vb (aInt2 .u8 v45) fun v46 =>
        vb (aIndexAddrArr 32 1 v23 x6_9) fun v47 =>
        sb (aStore H44 1 v47 v46) fun H48 =>
        vb (aBin .add x6_9 (.int .i64 1)) fun v49 =>
        Kn27 [v49] H48)
      (False))
    (Ke28 (.exit 2) [] H26)

def cellaretref03_Sum.L9 (vs20 : List AVal) (v23 : AVal) : Body := fun vs H Kn Ke => cellaretref03_Sum.L9.b vs20 v23 (vs.getD 0 .undef) H Kn Ke

def cellaretref03_Sum.w (x0 : AVal) (H : AHeap) (K : AVal → AHeap → Prop) : Prop :=
  hb (aAlloc H (List.replicate 32 (.int .u8 0))) fun v1 H2 =>
  cb (S_cellaretref03_Constants [] H2) fun v3 H4 =>
  cb (S_cellaretref03_First [] H4) fun v5 H6 =>
  cb (S_cellaretref03_Padded [x0] H6) fun v7 H8 =>
  LoopP (cellaretref03_Sum.L4 v3) [v7, v5] H8 fun e19 vs20 H21 =>
    onE e19 (.exit 0)
      (vb (aBuild (List.replicate 32 (.int .u8 0)) (fun k => some (k * 1, 1)) []) fun v22 =>
      hb (aAlloc H21 (List.replicate 32 (.int .u8 0))) fun v23 H24 =>
      sb (aStore H24 32 v23 v22) fun H25 =>
      LoopP (cellaretref03_Sum.L9 vs20 v23) [.int .i64 0] H25 fun e50 vs51 H52 =>
        onE e50 (.exit 2)
          (vb (aLoad H52 true 32 v23) fun v53 =>
          sb (aStore H52 32 v1 v53) fun H54 =>
          fin .ret [.c true 32 (v1)] H54 K)
        (False))
    (False)

def S_cellaretref03_Sum : Abs.Spec := fun args H r H' => ∃ x0 : AVal, args = [x0] ∧ (cellaretref03_Sum.w x0 H fun r1 H1 => r1 = r ∧ H1 = H') ∧ H <+: H'
theorem cellaretref03_Sum.ok (args : List AVal) (H : AHeap) (r : AVal) (H' : AHeap) (h : S_cellaretref03_Sum args H r H') : ∃ x0 : AVal, args = [x0] ∧ cellaretref03_Sum.w x0 H fun r1 H1 => r1 = r ∧ H1 = H' := by
  obtain ⟨x0, h1, h2, _⟩ := h
  exact ⟨x0, h1, h2⟩
theorem cellaretref03_Sum.quiet {args : List AVal} {H : AHeap} {r : AVal} {H' : AHeap} (h : S_cellaretref03_Sum args H r H') : H <+: H' := by
  obtain ⟨_, _, _, h⟩ := h
  exact h
set_option maxRecDepth 100000 in
theorem cellaretref03_Sum.ex (x0 : AVal) (H : AHeap) : Ex fun K : AVal × AHeap → Prop => cellaretref03_Sum.w x0 H fun r H => K (r, H) := by
  unfold cellaretref03_Sum.w
  repeat with_reducible first
    | exact Ex.pt _
    | exact Ex.fin
    | exact Ex.no
    | refine Ex.vb fun _ => ?_
    | refine Ex.hb fun _ _ => ?_
    | refine Ex.sb fun _ => ?_
    | refine Ex.cb fun _ _ => ?_
    | refine Ex.isB fun _ => ?_
    | refine Ex.cond ?_ ?_
    | refine Ex.onE ?_ ?_
    | refine Ex.join ?_ fun _ _ _ => ?_
    | refine Ex.loop (fun _ _ => ?_) fun _ _ _ => ?_
    | (unfold cellaretref03_Sum.L4; unfold cellaretref03_Sum.L4.b)
    | (unfold cellaretref03_Sum.L13; unfold cellaretref03_Sum.L13.b)
    | (unfold cellaretref03_Sum.L9; unfold cellaretref03_Sum.L9.b)

theorem cellaretref03_Sum.out {x0 : AVal} {H : AHeap} {Q : AVal → AHeap → Prop} (h : cellaretref03_Sum.w x0 H fun r H' => H <+: H' ∧ Q r H') : ∃ r H', S_cellaretref03_Sum [x0] H r H' ∧ Q r H' := by
  obtain ⟨r, H', h1, h2⟩ := (cellaretref03_Sum.ex x0 H).out h
  exact ⟨r, H', ⟨_, rfl, h1, h2.1⟩, h2.2⟩

def cellaretlaw03_ShaConstants.L4.b (v7 : AVal) (v9 : AVal) (x7_4 : AVal) (H12 : AHeap) (Kn13 : List AVal → AHeap → Prop) (Ke14 : AExit → List AVal → AHeap → Prop) : Prop :=
  JoinP (fun Kj15 => vb (aBin .lss x7_4 (.int .i64 8)) fun v16 =>
    isB v16 fun b17 => cond b17
      (vb (lenSl v7) fun v18 =>
          vb (aBin .lss x7_4 v18) fun v19 =>
            isB v19 fun b20 => cond b20
              (Kj15 .normal [] H12)
              (Kj15 (.exit 0) [] H12))
      (Kj15 (.exit 0) [] H12))
  (fun e21 vs22 H23 =>
    onE e21 (.exit 0)
      (Ke14 (.exit 0) [.undef] H23)
    (onE e21 .normal
      (vb (aIndexAddrArr 8 1 v9 x7_4) fun v24 =>
      vb (aLoad H23 false 1 v24) fun v25 =>
      vb (aInt2 .i64 v25) fun v26 =>
      vb (aIndexAddr 1 v7 x7_4) fun v27 =>
      vb (aLoad H23 false 1 v27) fun v28 =>
      vb (aBin .neq v26 v28) fun v29 =>
      isB v29 fun b30 => cond b30
        (Ke14 .ret [.bool false] H23)
        (vb (aBin .add x7_4 (.int .i64 1)) fun v31 =>
        Kn13 [v31] H23))
    (False)))

def cellaretlaw03_ShaConstants.L4 (v7 : AVal) (v9 : AVal) : Body := fun vs H Kn Ke => cellaretlaw03_ShaConstants.L4.b v7 v9 (vs.getD 0 .undef) H Kn Ke

def cellaretlaw03_ShaConstants.w (x0 : AVal) (H : AHeap) (K : AVal → AHeap → Prop) : Prop :=
  cb (S_sha_Constant [x0] H) fun v1 H2 =>
  vb (aExtract v1 0) fun v3 =>
  vb (aExtract v1 1) fun v4 =>
  cb (S_sha_Words [] H2) fun v5 H6 =>
  cb (S_cellaretref03_First [] H6) fun v7 H8 =>
  hb (aAlloc H8 (List.replicate 8 (.int .u32 0))) fun v9 H10 =>
  sb (aStore H10 8 v9 v5) fun H11 =>
  LoopP (cellaretlaw03_ShaConstants.L4 v7 v9) [.int .i64 0] H11 fun e32 vs33 H34 =>
    onE e32 (.exit 0)
      (JoinP (fun Kj35 => vb (aBin .lss x0 (.int .i64 0)) fun v36 =>
        isB v36 fun b37 => cond b37
          (cb (S_cellaretlaw03_awake [] H34) fun v38 H39 =>
            isB v38 fun b40 => cond b40
              (vb (aBin .eql v3 (.int .u32 0)) fun v41 =>
                isB v41 fun b42 => cond b42
                  (vb (aBin .eql v4 (.int .i64 3)) fun v43 =>
                    Kj35 .ret [v43] H39)
                  (Kj35 .ret [.bool false] H39))
              (Kj35 .ret [.bool false] H39))
          (vb (aBin .gtr x0 (.int .i64 63)) fun v44 =>
            isB v44 fun b45 => cond b45
              (cb (S_cellaretlaw03_awake [] H34) fun v46 H47 =>
              isB v46 fun b48 => cond b48
                (vb (aBin .eql v3 (.int .u32 0)) fun v49 =>
                  isB v49 fun b50 => cond b50
                    (vb (aBin .eql v4 (.int .i64 3)) fun v51 =>
                      Kj35 .ret [v51] H47)
                    (Kj35 .ret [.bool false] H47))
                (Kj35 .ret [.bool false] H47))
              (Kj35 .normal [vs33.getD 0 .undef] H34)))
      (fun e52 vs53 H54 =>
        onE e52 .normal
          (cb (S_cellaretref03_Constants [] H54) fun v55 H56 =>
          cb (S_cellaretlaw03_awake [] H56) fun v57 H58 =>
          isB v57 fun b59 => cond b59
            (vb (aBin .eql v4 (.int .i64 0)) fun v60 =>
              isB v60 fun b61 => cond b61
                (vb (lenSl v55) fun v62 =>
                  vb (aBin .eql v62 (.int .i64 64)) fun v63 =>
                    isB v63 fun b64 => cond b64
                      (vb (aInt2 .i64 v3) fun v65 =>
                        vb (aIndexAddr 1 v55 x0) fun v66 =>
                              vb (aLoad H58 false 1 v66) fun v67 =>
                                vb (aBin .eql v65 v67) fun v68 =>
                                  fin .ret [.v (v68)] H58 K)
                      (fin .ret [.v (.bool false)] H58 K))
                (fin .ret [.v (.bool false)] H58 K))
            (fin .ret [.v (.bool false)] H58 K))
        (onE e52 .ret
          (fin .ret [.v (vs53.getD 0 .undef)] H54 K)
        (False))))
    (onE e32 .ret
      (fin .ret [.v (vs33.getD 0 .undef)] H34 K)
    (False))

def S_cellaretlaw03_ShaConstants : Abs.Spec := fun args H r H' => ∃ x0 : AVal, args = [x0] ∧ (cellaretlaw03_ShaConstants.w x0 H fun r1 H1 => r1 = r ∧ H1 = H')
theorem cellaretlaw03_ShaConstants.ok (args : List AVal) (H : AHeap) (r : AVal) (H' : AHeap) (h : S_cellaretlaw03_ShaConstants args H r H') : ∃ x0 : AVal, args = [x0] ∧ cellaretlaw03_ShaConstants.w x0 H fun r1 H1 => r1 = r ∧ H1 = H' := by
  obtain ⟨x0, h1, h2⟩ := h
  exact ⟨x0, h1, h2⟩
set_option maxRecDepth 100000 in
theorem cellaretlaw03_ShaConstants.ex (x0 : AVal) (H : AHeap) : Ex fun K : AVal × AHeap → Prop => cellaretlaw03_ShaConstants.w x0 H fun r H => K (r, H) := by
  unfold cellaretlaw03_ShaConstants.w
  repeat with_reducible first
    | exact Ex.pt _
    | exact Ex.fin
    | exact Ex.no
    | refine Ex.vb fun _ => ?_
    | refine Ex.hb fun _ _ => ?_
    | refine Ex.sb fun _ => ?_
    | refine Ex.cb fun _ _ => ?_
    | refine Ex.isB fun _ => ?_
    | refine Ex.cond ?_ ?_
    | refine Ex.onE ?_ ?_
    | refine Ex.join ?_ fun _ _ _ => ?_
    | refine Ex.loop (fun _ _ => ?_) fun _ _ _ => ?_
    | (unfold cellaretlaw03_ShaConstants.L4; unfold cellaretlaw03_ShaConstants.L4.b)

theorem cellaretlaw03_ShaConstants.out {x0 : AVal} {H : AHeap} {Q : AVal → AHeap → Prop} (h : cellaretlaw03_ShaConstants.w x0 H fun r H' => Q r H') : ∃ r H', S_cellaretlaw03_ShaConstants [x0] H r H' ∧ Q r H' := by
  obtain ⟨r, H', h1, h2⟩ := (cellaretlaw03_ShaConstants.ex x0 H).out h
  exact ⟨r, H', ⟨_, rfl, h1⟩, h2⟩

def cellaretlaw03_ShaWorks.L6.b (v1 : AVal) (x7_6 : AVal) (x8_6 : AVal) (H22 : AHeap) (Kn23 : List AVal → AHeap → Prop) (Ke24 : AExit → List AVal → AHeap → Prop) : Prop :=
  vb (aBin .lss x8_6 (.int .i64 8)) fun v25 =>
  isB v25 fun b26 => cond b26
    (vb (aIndexAddrArr 8 1 v1 x8_6) fun v27 =>
    vb (aLoad H22 false 1 v27) fun v28 =>
    vb (aInt2 .i64 v28) fun v29 =>
    hb (aBuildSlice H22 1 [.int .i64 0] 1 [(0, v29)]) fun v30 H31 =>
    hb (aAppendS H31 1 8 x7_6 v30) fun v32 H33 =>
    vb (aBin .add x8_6 (.int .i64 1)) fun v34 =>
    Kn23 [v32, v34] H33)
    (Ke24 (.exit 0) [x7_6] H22)

def cellaretlaw03_ShaWorks.L6 (v1 : AVal) : Body := fun vs H Kn Ke => cellaretlaw03_ShaWorks.L6.b v1 (vs.getD 0 .undef) (vs.getD 1 .undef) H Kn Ke

def cellaretlaw03_ShaWorks.L11.b (v8 : AVal) (v40 : AVal) (x10_11 : AVal) (H42 : AHeap) (Kn43 : List AVal → AHeap → Prop) (Ke44 : AExit → List AVal → AHeap → Prop) : Prop :=
  vb (aBin .lss x10_11 (.int .i64 8)) fun v45 =>
  isB v45 fun b46 => cond b46
    (vb (aIndexAddrArr 8 1 v8 x10_11) fun v47 =>
    vb (aLoad H42 false 1 v47) fun v48 =>
    vb (aInt2 .i64 v48) fun v49 =>
    vb (aIndexAddr 1 v40 x10_11) fun v50 =>
    vb (aLoad H42 false 1 v50) fun v51 =>
    vb (aBin .neq v49 v51) fun v52 =>
    isB v52 fun b53 => cond b53
      (Ke44 .ret [.bool false] H42)
      (vb (aBin .add x10_11 (.int .i64 1)) fun v54 =>
      Kn43 [v54] H42))
    (Ke44 (.exit 2) [.undef] H42)

def cellaretlaw03_ShaWorks.L11 (v8 : AVal) (v40 : AVal) : Body := fun vs H Kn Ke => cellaretlaw03_ShaWorks.L11.b v8 v40 (vs.getD 0 .undef) H Kn Ke

def cellaretlaw03_ShaWorks.w (x0 : AVal) (x1 : AVal) (H : AHeap) (K : AVal → AHeap → Prop) : Prop :=
  hb (aBox H x0) fun v1 H2 =>
  vb (aLoad H2 true 8 v1) fun v3 =>
  cb (S_sha_Work [v3, x1] H2) fun v4 H5 =>
  vb (aExtract v4 0) fun v6 =>
  vb (aExtract v4 1) fun v7 =>
  hb (aAlloc H5 (List.replicate 8 (.int .u32 0))) fun v8 H9 =>
  sb (aStore H9 8 v8 v6) fun H10 =>
  vb (lenSt x1) fun v11 =>
  vb (aBin .neq v11 (.int .i64 64)) fun v12 =>
  isB v12 fun b13 => cond b13
    (cb (S_cellaretlaw03_awake [] H10) fun v14 H15 =>
    isB v14 fun b16 => cond b16
      (vb (aLoad H15 true 8 v8) fun v17 =>
      vb (aBuild (List.replicate 8 (.int .u32 0)) (fun k => some (k * 1, 1)) []) fun v18 =>
        vb (aEql false (.agg (List.replicate 8 .int)) H15 v17 v18) fun v19 =>
          isB v19 fun b20 => cond b20
            (vb (aBin .eql v7 (.int .i64 6)) fun v21 =>
              fin .ret [.v (v21)] H15 K)
            (fin .ret [.v (.bool false)] H15 K))
      (fin .ret [.v (.bool false)] H15 K))
    (LoopP (cellaretlaw03_ShaWorks.L6 v1) [.nils, .int .i64 0] H10 fun e35 vs36 H37 =>
      onE e35 (.exit 0)
        (cb (S_cellaretref03_Constants [] H37) fun v38 H39 =>
        cb (S_cellaretref03_Block [vs36.getD 0 .undef, x1, v38] H39) fun v40 H41 =>
        LoopP (cellaretlaw03_ShaWorks.L11 v8 v40) [.int .i64 0] H41 fun e55 vs56 H57 =>
          onE e55 (.exit 2)
            (cb (S_cellaretlaw03_awake [] H57) fun v58 H59 =>
            isB v58 fun b60 => cond b60
              (vb (aBin .eql v7 (.int .i64 0)) fun v61 =>
                fin .ret [.v (v61)] H59 K)
              (fin .ret [.v (.bool false)] H59 K))
          (onE e55 .ret
            (fin .ret [.v (vs56.getD 0 .undef)] H57 K)
          (False)))
      (False))

def S_cellaretlaw03_ShaWorks : Abs.Spec := fun args H r H' => ∃ x0 x1 : AVal, args = [x0, x1] ∧ (cellaretlaw03_ShaWorks.w x0 x1 H fun r1 H1 => r1 = r ∧ H1 = H')
theorem cellaretlaw03_ShaWorks.ok (args : List AVal) (H : AHeap) (r : AVal) (H' : AHeap) (h : S_cellaretlaw03_ShaWorks args H r H') : ∃ x0 x1 : AVal, args = [x0, x1] ∧ cellaretlaw03_ShaWorks.w x0 x1 H fun r1 H1 => r1 = r ∧ H1 = H' := by
  obtain ⟨x0, x1, h1, h2⟩ := h
  exact ⟨x0, x1, h1, h2⟩
set_option maxRecDepth 100000 in
theorem cellaretlaw03_ShaWorks.ex (x0 x1 : AVal) (H : AHeap) : Ex fun K : AVal × AHeap → Prop => cellaretlaw03_ShaWorks.w x0 x1 H fun r H => K (r, H) := by
  unfold cellaretlaw03_ShaWorks.w
  repeat with_reducible first
    | exact Ex.pt _
    | exact Ex.fin
    | exact Ex.no
    | refine Ex.vb fun _ => ?_
    | refine Ex.hb fun _ _ => ?_
    | refine Ex.sb fun _ => ?_
    | refine Ex.cb fun _ _ => ?_
    | refine Ex.isB fun _ => ?_
    | refine Ex.cond ?_ ?_
    | refine Ex.onE ?_ ?_
    | refine Ex.join ?_ fun _ _ _ => ?_
    | refine Ex.loop (fun _ _ => ?_) fun _ _ _ => ?_
    | (unfold cellaretlaw03_ShaWorks.L6; unfold cellaretlaw03_ShaWorks.L6.b)
    | (unfold cellaretlaw03_ShaWorks.L11; unfold cellaretlaw03_ShaWorks.L11.b)

theorem cellaretlaw03_ShaWorks.out {x0 x1 : AVal} {H : AHeap} {Q : AVal → AHeap → Prop} (h : cellaretlaw03_ShaWorks.w x0 x1 H fun r H' => Q r H') : ∃ r H', S_cellaretlaw03_ShaWorks [x0, x1] H r H' ∧ Q r H' := by
  obtain ⟨r, H', h1, h2⟩ := (cellaretlaw03_ShaWorks.ex x0 x1 H).out h
  exact ⟨r, H', ⟨_, _, rfl, h1⟩, h2⟩

def cellaretlaw03_ShaSums.w (x0 : AVal) (H : AHeap) (K : AVal → AHeap → Prop) : Prop :=
  vb (lenSt x0) fun v1 =>
  vb (aBin .gtr v1 (.int .i64 300)) fun v2 =>
  isB v2 fun b3 => cond b3
    (cb (S_cellaretlaw03_awake [] H) fun v4 H5 =>
    fin .ret [.v (v4)] H5 K)
    (cb (S_cellaretlaw03_awake [] H) fun v6 H7 =>
    isB v6 fun b8 => cond b8
      (cb (S_sha_Sum [x0] H7) fun v9 H10 =>
        cb (S_cellaretref03_Sum [x0] H10) fun v11 H12 =>
            vb (aEql false (.agg (List.replicate 32 .int)) H12 v9 v11) fun v13 =>
              isB v13 fun b14 => cond b14
                (cb (S_sha_Pad [x0] H12) fun v15 H16 =>
                  cb (S_cellaretref03_Padded [x0] H16) fun v17 H18 =>
                      vb (aBin .eql v15 v17) fun v19 =>
                        fin .ret [.v (v19)] H18 K)
                (fin .ret [.v (.bool false)] H12 K))
      (fin .ret [.v (.bool false)] H7 K))

def S_cellaretlaw03_ShaSums : Abs.Spec := fun args H r H' => ∃ x0 : AVal, args = [x0] ∧ (cellaretlaw03_ShaSums.w x0 H fun r1 H1 => r1 = r ∧ H1 = H')
theorem cellaretlaw03_ShaSums.ok (args : List AVal) (H : AHeap) (r : AVal) (H' : AHeap) (h : S_cellaretlaw03_ShaSums args H r H') : ∃ x0 : AVal, args = [x0] ∧ cellaretlaw03_ShaSums.w x0 H fun r1 H1 => r1 = r ∧ H1 = H' := by
  obtain ⟨x0, h1, h2⟩ := h
  exact ⟨x0, h1, h2⟩
set_option maxRecDepth 100000 in
theorem cellaretlaw03_ShaSums.ex (x0 : AVal) (H : AHeap) : Ex fun K : AVal × AHeap → Prop => cellaretlaw03_ShaSums.w x0 H fun r H => K (r, H) := by
  unfold cellaretlaw03_ShaSums.w
  repeat with_reducible first
    | exact Ex.pt _
    | exact Ex.fin
    | exact Ex.no
    | refine Ex.vb fun _ => ?_
    | refine Ex.hb fun _ _ => ?_
    | refine Ex.sb fun _ => ?_
    | refine Ex.cb fun _ _ => ?_
    | refine Ex.isB fun _ => ?_
    | refine Ex.cond ?_ ?_
    | refine Ex.onE ?_ ?_
    | refine Ex.join ?_ fun _ _ _ => ?_
    | refine Ex.loop (fun _ _ => ?_) fun _ _ _ => ?_

theorem cellaretlaw03_ShaSums.out {x0 : AVal} {H : AHeap} {Q : AVal → AHeap → Prop} (h : cellaretlaw03_ShaSums.w x0 H fun r H' => Q r H') : ∃ r H', S_cellaretlaw03_ShaSums [x0] H r H' ∧ Q r H' := by
  obtain ⟨r, H', h1, h2⟩ := (cellaretlaw03_ShaSums.ex x0 H).out h
  exact ⟨r, H', ⟨_, rfl, h1⟩, h2⟩

end Go.Sh

/- The document's words: bits. -/
namespace Go.Sh
open Go Go.Abs

section
variable {B : AHeap}
theorem Ref.add_spec {a b : Nat} (ha : a < 4294967296) (hb : b < 4294967296) : ∃ C, S_cellaretref03_Add [.int .i64 a, .int .i64 b] B (.int .i64 ((a + b) % 4294967296 : Nat)) C ∧ B <+: C := by
  obtain ⟨r, C, h, rfl, k⟩ := cellaretref03_Add.out (x0 := .int .i64 a) (x1 := .int .i64 b) (H := B) (Q := fun r C => r = .int .i64 ((a + b) % 4294967296 : Nat) ∧ B <+: C) (by
    unfold cellaretref03_Add.w
    have hs : Sep B (fun _ => False) B [] := Sep.start B
    repeat first
    | ((with_reducible refine vb_i (add64 ?_ ?_) ?_); (· omega); (· omega))
    | ((with_reducible refine vb_i (rem64 ?_ ?_) ?_); (· omega); (· omega))
    exact fin_ret (rvs_v (rvs_nil _)) ⟨hs.pre fun _ x => x, by simp [tup1], hs.pre fun _ x => x⟩)
  exact ⟨C, h, k⟩
def bitsTo (a j : Nat) : List Nat := (List.range 32).map fun i => if 32 ≤ i + j then bitAt a i else 0
theorem bitsTo_set (a : Nat) {j : Nat} (hj : j < 32) : (bitsTo a j).set (31 - j) (a / 2 ^ j % 2) = bitsTo a (j + 1) := by
  apply List.ext_getElem?; intro k
  have hl : (bitsTo a j).length = 32 := by simp [bitsTo]
  have hg : ∀ m, k < 32 → (bitsTo a m)[k]? = some (if 32 ≤ k + m then bitAt a k else 0) := fun m hk => by simp [bitsTo, List.getElem?_map, List.getElem?_range hk]
  by_cases hk : k < 32
  · by_cases e : k = 31 - j
    · rw [e, List.getElem?_set_self (by omega), ← e, hg _ hk, if_pos (by omega), e]
      unfold bitAt
      rw [show 31 - (31 - j) = j by omega]
    · rw [List.getElem?_set_ne (by omega), hg _ hk, hg _ hk]
      by_cases h1 : 32 ≤ k + j
      · rw [if_pos h1, if_pos (by omega)]
      · rw [if_neg h1, if_neg (by omega)]
  · rw [List.getElem?_eq_none (by simp [bitsTo]; omega), List.getElem?_eq_none (by simp [bitsTo]; omega)]
theorem Ref.bits_spec {a : Nat} (ha : a < 4294967296) : ∃ r C, S_cellaretref03_bits [.int .i64 a] B r C ∧ Sep B (fun _ => False) C [.sl r 1 32 (nums (bitsL a))] := by
  obtain ⟨r, C, h, k⟩ := cellaretref03_bits.out (x0 := .int .i64 a) (H := B) (Q := fun r C => Sep B (fun _ => False) C [.sl r 1 32 (nums (bitsL a))]) (by
    unfold cellaretref03_bits.w
    have hs : Sep B (fun _ => False) B [] := Sep.start B
    refine s_make (n := 32) hs rfl rfl (by decide) (by decide) fun sv C _ _ hs => ?_
    rw [fill_nums] at hs
    refine LoopP.ruleG (α := Nat) (fun j => [.int .i64 (a / 2 ^ j : Nat), .int .i64 (31 - (j : Int))]) (fun j C => j ≤ 32 ∧ Sep B (fun _ => False) C [.sl sv 1 32 (nums (bitsTo a j))]) (fun j => 32 - j) 0 (by simp)
      ⟨by decide, by
        have : bitsTo a 0 = (List.range 32).map fun _ => 0 := by
          apply List.map_congr_left; intro k hk; rw [if_neg (by have := List.mem_range.1 hk; omega)]
        rw [this]; exact hs⟩ ?_
    clear hs
    rintro j C Kn ⟨hj, hs⟩ hk
    unfold cellaretref03_bits.L3 cellaretref03_bits.L3.b
    try simp only [evB]
    by_cases hjn : j < 32
    · have hq : a / 2 ^ j < 4294967296 := Nat.lt_of_le_of_lt (Nat.div_le_self _ _) ha
      have hset := bitsTo_set a hjn
      have e3 : ((a / 2 ^ j : Nat) : Int) / 2 = ((a / 2 ^ (j + 1) : Nat) : Int) := by rw [Nat.pow_succ, ← Nat.div_div_eq_div_mul]; omega
      generalize a / 2 ^ j = q at *
      repeat first
      | ((with_reducible refine isB_ct ?_ ?_); (· omega))
      | with_reducible refine vb_i (geq64 _ _ _) ?_
      | ((with_reducible refine vb_i (rem64 ?_ ?_) ?_); (· omega); (· omega))
      | ((with_reducible apply vb_addr); (· first | exact hs.o0.view | exact hs.o1.view | exact hs.o2.view | exact hs.o3.view | exact hs.o4.view | exact hs.o5.view | exact hs.o6.view | exact hs.rv hv | exact hs.rv hv2 | exact hs.rv hv3 | exact hs.rv hv4 | exact hs.view hkv hko | assumption); (· omega); (· omega))
      have e1 : (31 - (j : Int)).toNat = 31 - j := by omega
      have e2 : ((q : Nat) : Int) % 2 = ((q % 2 : Nat) : Int) := by omega
      rw [e1, e2]
      refine s_el0 hs (by omega) rfl fun _ hs => ?_
      rw [nums_set, hset] at hs
      repeat first
      | ((with_reducible refine vb_i (sub64 ?_ ?_) ?_); (· omega); (· omega))
      | ((with_reducible refine vb_i (quo64 ?_ ?_ ?_) ?_); (· omega); (· omega); (· omega))
      rw [e3, show 31 - (j : Int) - 1 = 31 - ((j + 1 : Nat) : Int) by omega]
      exact hk (j + 1) _ ⟨by omega, hs⟩ (by omega)
    · obtain rfl : j = 32 := by omega
      repeat first
      | ((with_reducible refine isB_cf ?_ ?_); (· omega))
      | with_reducible refine onE_i ?_
      | with_reducible refine vb_i (geq64 _ _ _) ?_
      try simp only [evB]
      have : bitsTo a 32 = bitsL a := by
        apply List.map_congr_left; intro k hk; rw [if_pos (by omega)]
      rw [this] at hs
      exact fin_ret (rvs_v (rvs_nil _)) ⟨hs.pre fun _ x => x, hs⟩)
  exact ⟨r, C, h, k⟩
theorem numL_le : ∀ (l : List Nat) (n : Nat), (∀ x ∈ l, x < 2) → l.foldl (fun n b => 2 * n + b) n < (n + 1) * 2 ^ l.length
  | [], n, _ => by simp
  | b :: l, n, h => by
    have h2 := h b (by simp)
    have h1 := numL_le l (2 * n + b) fun x hx => h x (by simp [hx])
    rw [List.foldl_cons, List.length_cons, Nat.pow_succ]
    refine Nat.lt_of_lt_of_le h1 ?_
    rw [Nat.mul_comm (2 ^ l.length) 2, ← Nat.mul_assoc]
    exact Nat.mul_le_mul_right _ (by omega)
theorem numL_lt (l : List Nat) (h : ∀ x ∈ l, x < 2) : numL l < 2 ^ l.length := by
  have := numL_le l 0 h
  simpa [numL] using this
theorem Ref.num_spec {sv : AVal} {l : List Nat} (hv : View B sv 1 32 (nums l)) (hl : l.length = 32) (hb : ∀ x ∈ l, x < 2) : ∃ C, S_cellaretref03_num [sv] B (.int .i64 (numL l)) C ∧ B <+: C := by
  obtain ⟨r, C, h, rfl, k⟩ := cellaretref03_num.out (x0 := sv) (H := B) (Q := fun r C => r = .int .i64 (numL l) ∧ B <+: C) (by
    unfold cellaretref03_num.w
    have hs : Sep B (fun _ => False) B [] := Sep.start B
    refine LoopP.ruleG (α := Nat) (fun i => [.int .i64 (numL (l.take i)), .int .i64 i]) (fun i C => i ≤ 32 ∧ B = C) (fun i => 32 - i) 0 (by simp [numL]) ⟨by decide, rfl⟩ ?_
    rintro i C Kn ⟨hi, rfl⟩ hk
    unfold cellaretref03_num.L3 cellaretref03_num.L3.b
    try simp only [evB]
    by_cases hin : i < 32
    · have hlt := numL_lt (l.take i) fun x hx => hb x (List.mem_of_mem_take hx)
      have hp : 2 ^ (l.take i).length ≤ 2 ^ 32 := Nat.pow_le_pow_right (by decide) (by rw [List.length_take]; omega)
      have hg : l[i]? = some l[i] := List.getElem?_eq_getElem (by omega)
      have hx := nums_get hg
      have hb2 : l[i] < 2 := hb _ (List.getElem_mem _)
      generalize l[i] = b at *
      repeat first
      | ((with_reducible refine isB_ct ?_ ?_); (· omega))
      | with_reducible refine vb_i (lss64 _ _ _) ?_
      | ((with_reducible refine vb_i (add64 ?_ ?_) ?_); (· omega); (· omega))
      | ((with_reducible refine vb_i (mul64 ?_ ?_) ?_); (· omega); (· omega))
      | ((with_reducible apply vb_addrN); (· first | exact hs.o0.view | exact hs.o1.view | exact hs.o2.view | exact hs.o3.view | exact hs.o4.view | exact hs.o5.view | exact hs.o6.view | exact hs.rv hv | exact hs.rv hv2 | exact hs.rv hv3 | exact hs.rv hv4 | exact hs.view hkv hko | assumption); (· omega))
      | ((with_reducible apply vb_el0); (· first | exact hs.o0.view | exact hs.o1.view | exact hs.o2.view | exact hs.o3.view | exact hs.o4.view | exact hs.o5.view | exact hs.o6.view | exact hs.rv hv | exact hs.rv hv2 | exact hs.rv hv3 | exact hs.rv hv4 | exact hs.view hkv hko | assumption); (· first | exact hx | exact hx2 | assumption))
      | ((with_reducible apply vb_len); (· first | exact hs.o0.view | exact hs.o1.view | exact hs.o2.view | exact hs.o3.view | exact hs.o4.view | exact hs.o5.view | exact hs.o6.view | exact hs.rv hv | exact hs.rv hv2 | exact hs.rv hv3 | exact hs.rv hv4 | exact hs.view hkv hko | assumption))
      have e : (2 * (numL (l.take i) : Int) + b) = ((numL (l.take (i + 1)) : Nat) : Int) := by
        rw [List.take_add_one, hg, Option.toList_some, numL_app]; omega
      rw [e]
      exact hk (i + 1) _ ⟨by omega, rfl⟩ (by omega)
    · obtain rfl : i = 32 := by omega
      repeat first
      | ((with_reducible refine isB_cf ?_ ?_); (· omega))
      | with_reducible refine onE_i ?_
      | with_reducible refine vb_i (lss64 _ _ _) ?_
      | ((with_reducible apply vb_len); (· first | exact hs.o0.view | exact hs.o1.view | exact hs.o2.view | exact hs.o3.view | exact hs.o4.view | exact hs.o5.view | exact hs.o6.view | exact hs.rv hv | exact hs.rv hv2 | exact hs.rv hv3 | exact hs.rv hv4 | exact hs.view hkv hko | assumption))
      try simp only [evB]
      rw [List.take_of_length_le (by omega)]
      exact fin_ret (rvs_v (rvs_nil _)) ⟨List.prefix_refl _, rfl, List.prefix_refl _⟩)
  exact ⟨C, h, k⟩
end
end Go.Sh

/- The document's words: turned, picked, counted. -/
namespace Go.Sh
open Go Go.Abs

theorem bits_get (a : Nat) {k : Nat} (hk : k < 32) : (nums (bitsL a))[k]? = some (.int .i64 (bitAt a k)) := nums_get (by simp [bitsL, List.getElem?_map, List.getElem?_range hk])
theorem add_bb (x y k m : Nat) : aBin .add (.int .i64 (bitAt x k)) (.int .i64 (bitAt y m)) = some (.int .i64 ((bitAt x k + bitAt y m : Nat) : Int)) := by
  have := bitAt_lt x k; have := bitAt_lt y m
  rw [add64 (by omega) (by omega)]; rfl
theorem add_bbb (x y z k m n : Nat) : aBin .add (.int .i64 ((bitAt x k + bitAt y m : Nat) : Int)) (.int .i64 (bitAt z n)) = some (.int .i64 ((bitAt x k + bitAt y m + bitAt z n : Nat) : Int)) := by
  have := bitAt_lt x k; have := bitAt_lt y m; have := bitAt_lt z n
  rw [add64 (by omega) (by omega)]; rfl
theorem all_bits {g : Nat → Nat} (hg : ∀ i, g i < 2) : ∀ x ∈ (List.range 32).map g, x < 2 := by
  intro x hx; obtain ⟨i, _, rfl⟩ := List.mem_map.1 hx; exact hg i
theorem numL_32 {g : Nat → Nat} (hg : ∀ i, g i < 2) : numL ((List.range 32).map g) < 4294967296 := by
  have := numL_lt _ (all_bits hg)
  simpa using this
section
variable {B : AHeap}
theorem Ref.three_spec {x a b c : Nat} (push : Bool) (hx : x < 4294967296) (ha : a ≤ 32) (hb : b ≤ 32) (hc : c ≤ 32) :
    ∃ C, S_cellaretref03_three [.int .i64 x, .agg [.int .i64 a, .int .i64 b, .int .i64 c], .bool push] B (.int .i64 (threeN x a b c push)) C ∧ B <+: C := by
  obtain ⟨r, C, h, rfl, k⟩ := cellaretref03_three.out (x0 := .int .i64 x) (x1 := .agg [.int .i64 a, .int .i64 b, .int .i64 c]) (x2 := .bool push) (H := B) (Q := fun r C => r = .int .i64 (threeN x a b c push) ∧ B <+: C) (by
    unfold cellaretref03_three.w
    have hs : Sep B (fun _ => False) B [] := Sep.start B
    refine s_box hs rfl fun q _ _ hs => ?_
    simp only [AVal.cells] at hs
    obtain ⟨bv, C, hcb, k⟩ := Ref.bits_spec hx
    refine cb_i _ _ hcb ?_
    have hs : Sep B (fun _ => False) C [.sl bv 1 32 (nums (bitsL x)), .obj q (.cells 0 .exact [.int .i64 a, .int .i64 b, .int .i64 c])] := hs.call0 (k.own_of fun _ x => x.elim)
    refine s_make (n := 32) hs rfl rfl (by decide) (by decide) fun ov D _ _ hs => ?_
    rw [fill_nums, ← mix_zero (threeB x a b c push)] at hs
    refine LoopP.ruleG (α := Nat) (fun i => [.int .i64 i]) (fun i C => i ≤ 32 ∧ Sep B (fun _ => False) C [.sl ov 1 32 (nums (mixN (threeB x a b c push) (fun _ => 0) 32 i)), .sl bv 1 32 (nums (bitsL x)), .obj q (.cells 0 .exact [.int .i64 a, .int .i64 b, .int .i64 c])]) (fun i => 32 - i) 0 rfl ⟨by decide, hs⟩ ?_
    clear hs
    rintro i C Kn ⟨hi, hs⟩ hk
    unfold cellaretref03_three.L4 cellaretref03_three.L4.b
    try simp only [evB]
    by_cases hin : i < 32
    · have t1 : (((i : Int) + 32 - a) % 32).toNat = (i + 32 - a) % 32 := by omega
      have t2 : (((i : Int) + 32 - b) % 32).toNat = (i + 32 - b) % 32 := by omega
      have t3 : (((i : Int) + 32 - c) % 32).toNat = (i + 32 - c) % 32 := by omega
      repeat first
      | ((with_reducible apply vb_el0); (· exact hs.o1.view); (· exact bits_get x (by omega)))
      | (with_reducible refine vb_i (add_bb _ _ _ _) ?_)
      | ((with_reducible refine isB_ct ?_ ?_); (· omega))
      | with_reducible refine vb_i (lss64 _ _ _) ?_
      | ((with_reducible refine vb_i (add64 ?_ ?_) ?_); (· omega); (· omega))
      | ((with_reducible refine vb_i (sub64 ?_ ?_) ?_); (· omega); (· omega))
      | ((with_reducible refine vb_i (rem64 ?_ ?_) ?_); (· omega); (· omega))
      | ((with_reducible apply vb_ld); (· first | exact hs.g0 | exact hs.g1 | exact hs.g2 | exact hs.g3 | exact hs.g4 | exact hs.g5 | exact hs.g6 | exact hs.rd hg | exact hs.rd hg2 | exact hs.rd hg3 | exact hs.rd hg4 | assumption); (· rfl))
      | ((with_reducible refine vb_i (e_idxAddrArr ?_ ?_) ?_); (· omega); (· omega))
      | ((with_reducible apply vb_addr); (· first | exact hs.o0.view | exact hs.o1.view | exact hs.o2.view | exact hs.o3.view | exact hs.o4.view | exact hs.o5.view | exact hs.o6.view | exact hs.rv hv | exact hs.rv hv2 | exact hs.rv hv3 | exact hs.rv hv4 | exact hs.view hkv hko | assumption); (· omega); (· omega))
      rw [t1, t2]
      refine JoinP.mk (fun e vs D => C = D ∧ e = .normal ∧ vs = [.int .i64 ((bitAt x ((i + 32 - a) % 32) + bitAt x ((i + 32 - b) % 32) + if push = true ∧ i < c then 0 else bitAt x ((i + 32 - c) % 32) : Nat) : Int)]) ?_ ?_
      · cases push
        · repeat first
          | ((with_reducible apply vb_el0); (· exact hs.o1.view); (· exact bits_get x (by omega)))
          | (with_reducible refine vb_i (add_bbb _ _ _ _ _ _) ?_)
          | ((with_reducible refine vb_i (add64 ?_ ?_) ?_); (· omega); (· omega))
          | ((with_reducible refine vb_i (sub64 ?_ ?_) ?_); (· omega); (· omega))
          | ((with_reducible refine vb_i (rem64 ?_ ?_) ?_); (· omega); (· omega))
          | with_reducible refine vb_i (e_not _) ?_
          | ((with_reducible refine isB_Tr ?_ ?_); (· rfl))
          | ((with_reducible apply vb_ld); (· first | exact hs.g0 | exact hs.g1 | exact hs.g2 | exact hs.g3 | exact hs.g4 | exact hs.g5 | exact hs.g6 | exact hs.rd hg | exact hs.rd hg2 | exact hs.rd hg3 | exact hs.rd hg4 | assumption); (· rfl))
          | ((with_reducible refine vb_i (e_idxAddrArr ?_ ?_) ?_); (· omega); (· omega))
          | ((with_reducible apply vb_addr); (· first | exact hs.o0.view | exact hs.o1.view | exact hs.o2.view | exact hs.o3.view | exact hs.o4.view | exact hs.o5.view | exact hs.o6.view | exact hs.rv hv | exact hs.rv hv2 | exact hs.rv hv3 | exact hs.rv hv4 | exact hs.view hkv hko | assumption); (· omega); (· omega))
          rw [t3]
          exact ⟨rfl, rfl, by simp⟩
        · repeat first
          | with_reducible refine vb_i (geq64 _ _ _) ?_
          | with_reducible refine vb_i (e_not _) ?_
          | ((with_reducible refine isB_Fa ?_ ?_); (· rfl))
          | ((with_reducible apply vb_ld); (· first | exact hs.g0 | exact hs.g1 | exact hs.g2 | exact hs.g3 | exact hs.g4 | exact hs.g5 | exact hs.g6 | exact hs.rd hg | exact hs.rd hg2 | exact hs.rd hg3 | exact hs.rd hg4 | assumption); (· rfl))
          | ((with_reducible refine vb_i (e_idxAddrArr ?_ ?_) ?_); (· omega); (· omega))
          refine isB_c (fun h1 => ?_) (fun h1 => ?_)
          · repeat first
            | ((with_reducible apply vb_el0); (· exact hs.o1.view); (· exact bits_get x (by omega)))
            | (with_reducible refine vb_i (add_bbb _ _ _ _ _ _) ?_)
            | ((with_reducible refine vb_i (add64 ?_ ?_) ?_); (· omega); (· omega))
            | ((with_reducible refine vb_i (sub64 ?_ ?_) ?_); (· omega); (· omega))
            | ((with_reducible refine vb_i (rem64 ?_ ?_) ?_); (· omega); (· omega))
            | ((with_reducible apply vb_ld); (· first | exact hs.g0 | exact hs.g1 | exact hs.g2 | exact hs.g3 | exact hs.g4 | exact hs.g5 | exact hs.g6 | exact hs.rd hg | exact hs.rd hg2 | exact hs.rd hg3 | exact hs.rd hg4 | assumption); (· rfl))
            | ((with_reducible refine vb_i (e_idxAddrArr ?_ ?_) ?_); (· omega); (· omega))
            | ((with_reducible apply vb_addr); (· first | exact hs.o0.view | exact hs.o1.view | exact hs.o2.view | exact hs.o3.view | exact hs.o4.view | exact hs.o5.view | exact hs.o6.view | exact hs.rv hv | exact hs.rv hv2 | exact hs.rv hv3 | exact hs.rv hv4 | exact hs.view hkv hko | assumption); (· omega); (· omega))
            rw [t3]
            exact ⟨rfl, rfl, by rw [if_neg fun hh => by have := hh.2; omega]⟩
          · exact ⟨rfl, rfl, by rw [if_pos ⟨rfl, by omega⟩]; rfl⟩
      rintro _ _ _ ⟨rfl, rfl, rfl⟩
      have hlt : (bitAt x ((i + 32 - a) % 32) + bitAt x ((i + 32 - b) % 32) + if push = true ∧ i < c then 0 else bitAt x ((i + 32 - c) % 32)) < 6 := by
        have := bitAt_lt x ((i + 32 - a) % 32); have := bitAt_lt x ((i + 32 - b) % 32); have := bitAt_lt x ((i + 32 - c) % 32)
        split <;> omega
      have hB : (bitAt x ((i + 32 - a) % 32) + bitAt x ((i + 32 - b) % 32) + if push = true ∧ i < c then 0 else bitAt x ((i + 32 - c) % 32)) % 2 = threeB x a b c push i := rfl
      generalize (bitAt x ((i + 32 - a) % 32) + bitAt x ((i + 32 - b) % 32) + if push = true ∧ i < c then 0 else bitAt x ((i + 32 - c) % 32)) = s at *
      try simp only [evB]
      repeat first
      | with_reducible refine onE_i ?_
      | ((with_reducible refine vb_i (rem64 ?_ ?_) ?_); (· omega); (· omega))
      | ((with_reducible apply vb_addrN); (· first | exact hs.o0.view | exact hs.o1.view | exact hs.o2.view | exact hs.o3.view | exact hs.o4.view | exact hs.o5.view | exact hs.o6.view | exact hs.rv hv | exact hs.rv hv2 | exact hs.rv hv3 | exact hs.rv hv4 | exact hs.view hkv hko | assumption); (· omega))
      rw [show ((s : Int) % 2) = ((s % 2 : Nat) : Int) by omega, hB]
      refine s_el0 hs hin rfl fun _ hs => ?_
      rw [nums_set, mix_set _ _ hin] at hs
      repeat first
      | ((with_reducible refine vb_i (add64 ?_ ?_) ?_); (· omega); (· omega))
      exact hk (i + 1) _ ⟨by omega, hs⟩ (by omega)
    · obtain rfl : i = 32 := by omega
      repeat first
      | ((with_reducible refine isB_cf ?_ ?_); (· omega))
      | with_reducible refine onE_i ?_
      | with_reducible refine vb_i (lss64 _ _ _) ?_
      try simp only [evB]
      rw [mix_all] at hs
      obtain ⟨C, hcn, hp⟩ := Ref.num_spec hs.o0.view (by simp) (all_bits fun i => Nat.mod_lt _ (by decide))
      refine cb_i _ _ hcn ?_
      have hs := hs.quiet hp
      exact fin_ret (rvs_v (rvs_nil _)) ⟨hs.pre fun _ x => x, rfl, hs.pre fun _ x => x⟩)
  exact ⟨C, h, k⟩
theorem Ref.pick_spec {e f g : Nat} (he : e < 4294967296) (hf : f < 4294967296) (hg : g < 4294967296) : ∃ C, S_cellaretref03_pick [.int .i64 e, .int .i64 f, .int .i64 g] B (.int .i64 (pickN e f g)) C ∧ B <+: C := by
  obtain ⟨r, C, h, rfl, k⟩ := cellaretref03_pick.out (x0 := .int .i64 e) (x1 := .int .i64 f) (x2 := .int .i64 g) (H := B) (Q := fun r C => r = .int .i64 (pickN e f g) ∧ B <+: C) (by
    unfold cellaretref03_pick.w
    have hs : Sep B (fun _ => False) B [] := Sep.start B
    obtain ⟨xv, C, hcb, k⟩ := Ref.bits_spec he
    refine cb_i _ _ hcb ?_
    have hs : Sep B (fun _ => False) C [.sl xv 1 32 (nums (bitsL e))] := hs.call0 (k.own_of fun _ x => x.elim)
    obtain ⟨yv, C, hcb, k⟩ := Ref.bits_spec hf
    refine cb_i _ _ hcb ?_
    have hs : Sep B (fun _ => False) C [.sl yv 1 32 (nums (bitsL f)), .sl xv 1 32 (nums (bitsL e))] := hs.call0 (k.own_of fun _ x => x.elim)
    obtain ⟨zv, C, hcb, k⟩ := Ref.bits_spec hg
    refine cb_i _ _ hcb ?_
    have hs : Sep B (fun _ => False) C [.sl zv 1 32 (nums (bitsL g)), .sl yv 1 32 (nums (bitsL f)), .sl xv 1 32 (nums (bitsL e))] := hs.call0 (k.own_of fun _ x => x.elim)
    rw [show bitsL g = mixN (pickB e f g) (bitAt g) 32 0 from (mix_zero _ _ _).symm] at hs
    refine LoopP.ruleG (α := Nat) (fun i => [.int .i64 i]) (fun i C => i ≤ 32 ∧ Sep B (fun _ => False) C [.sl zv 1 32 (nums (mixN (pickB e f g) (bitAt g) 32 i)), .sl yv 1 32 (nums (bitsL f)), .sl xv 1 32 (nums (bitsL e))]) (fun i => 32 - i) 0 rfl ⟨by decide, hs⟩ ?_
    clear hs
    rintro i C Kn ⟨hi, hs⟩ hk
    unfold cellaretref03_pick.L5 cellaretref03_pick.L5.b
    try simp only [evB]
    by_cases hin : i < 32
    · repeat first
      | ((with_reducible apply vb_el0); (· exact hs.o2.view); (· exact bits_get e (by omega)))
      | ((with_reducible refine isB_ct ?_ ?_); (· omega))
      | with_reducible refine vb_i (lss64 _ _ _) ?_
      | with_reducible refine vb_i (eql64 _ _ _) ?_
      | ((with_reducible apply vb_addrN); (· first | exact hs.o0.view | exact hs.o1.view | exact hs.o2.view | exact hs.o3.view | exact hs.o4.view | exact hs.o5.view | exact hs.o6.view | exact hs.rv hv | exact hs.rv hv2 | exact hs.rv hv3 | exact hs.rv hv4 | exact hs.view hkv hko | assumption); (· omega))
      refine isB_c (fun h1 => ?_) (fun h1 => ?_)
      · repeat first
        | ((with_reducible apply vb_el0); (· exact hs.o1.view); (· exact bits_get f (by omega)))
        | ((with_reducible apply vb_addrN); (· first | exact hs.o0.view | exact hs.o1.view | exact hs.o2.view | exact hs.o3.view | exact hs.o4.view | exact hs.o5.view | exact hs.o6.view | exact hs.rv hv | exact hs.rv hv2 | exact hs.rv hv3 | exact hs.rv hv4 | exact hs.view hkv hko | assumption); (· omega))
        have hB : bitAt f i = pickB e f g i := by unfold pickB; rw [if_pos (by omega)]
        rw [hB]
        refine s_el0 hs hin rfl fun _ hs => ?_
        rw [nums_set, mix_set _ _ hin] at hs
        repeat first
        | ((with_reducible refine vb_i (add64 ?_ ?_) ?_); (· omega); (· omega))
        exact hk (i + 1) _ ⟨by omega, hs⟩ (by omega)
      · repeat first
        | ((with_reducible refine vb_i (add64 ?_ ?_) ?_); (· omega); (· omega))
        have hB : bitAt g i = pickB e f g i := by unfold pickB; rw [if_neg (by omega)]
        refine hk (i + 1) _ ⟨by omega, ?_⟩ (by omega)
        rw [← mix_set _ _ hin, ← hB]
        have e2 : (mixN (pickB e f g) (bitAt g) 32 i).set i (bitAt g i) = mixN (pickB e f g) (bitAt g) 32 i := by
          apply List.ext_getElem?; intro m
          by_cases hm : m = i
          · rw [hm, List.getElem?_set_self (by rw [mix_len]; exact hin), mix_get _ _ _ hin, if_neg (by omega)]
          · rw [List.getElem?_set_ne (by omega)]
        rw [e2]; exact hs
    · obtain rfl : i = 32 := by omega
      repeat first
      | ((with_reducible refine isB_cf ?_ ?_); (· omega))
      | with_reducible refine onE_i ?_
      | with_reducible refine vb_i (lss64 _ _ _) ?_
      try simp only [evB]
      rw [mix_all] at hs
      obtain ⟨C, hcn, hp⟩ := Ref.num_spec hs.o0.view (by simp) (all_bits fun i => by unfold pickB; split <;> exact bitAt_lt _ _)
      refine cb_i _ _ hcn ?_
      have hs := hs.quiet hp
      exact fin_ret (rvs_v (rvs_nil _)) ⟨hs.pre fun _ x => x, rfl, hs.pre fun _ x => x⟩)
  exact ⟨C, h, k⟩
theorem Ref.most_spec {e f g : Nat} (he : e < 4294967296) (hf : f < 4294967296) (hg : g < 4294967296) : ∃ C, S_cellaretref03_most [.int .i64 e, .int .i64 f, .int .i64 g] B (.int .i64 (mostN e f g)) C ∧ B <+: C := by
  obtain ⟨r, C, h, rfl, k⟩ := cellaretref03_most.out (x0 := .int .i64 e) (x1 := .int .i64 f) (x2 := .int .i64 g) (H := B) (Q := fun r C => r = .int .i64 (mostN e f g) ∧ B <+: C) (by
    unfold cellaretref03_most.w
    have hs : Sep B (fun _ => False) B [] := Sep.start B
    obtain ⟨xv, C, hcb, k⟩ := Ref.bits_spec he
    refine cb_i _ _ hcb ?_
    have hs : Sep B (fun _ => False) C [.sl xv 1 32 (nums (bitsL e))] := hs.call0 (k.own_of fun _ x => x.elim)
    obtain ⟨yv, C, hcb, k⟩ := Ref.bits_spec hf
    refine cb_i _ _ hcb ?_
    have hs : Sep B (fun _ => False) C [.sl yv 1 32 (nums (bitsL f)), .sl xv 1 32 (nums (bitsL e))] := hs.call0 (k.own_of fun _ x => x.elim)
    obtain ⟨zv, C, hcb, k⟩ := Ref.bits_spec hg
    refine cb_i _ _ hcb ?_
    have hs : Sep B (fun _ => False) C [.sl zv 1 32 (nums (bitsL g)), .sl yv 1 32 (nums (bitsL f)), .sl xv 1 32 (nums (bitsL e))] := hs.call0 (k.own_of fun _ x => x.elim)
    rw [show bitsL g = mixN (mostB e f g) (bitAt g) 32 0 from (mix_zero _ _ _).symm] at hs
    refine LoopP.ruleG (α := Nat) (fun i => [.int .i64 i]) (fun i C => i ≤ 32 ∧ Sep B (fun _ => False) C [.sl zv 1 32 (nums (mixN (mostB e f g) (bitAt g) 32 i)), .sl yv 1 32 (nums (bitsL f)), .sl xv 1 32 (nums (bitsL e))]) (fun i => 32 - i) 0 rfl ⟨by decide, hs⟩ ?_
    clear hs
    rintro i C Kn ⟨hi, hs⟩ hk
    unfold cellaretref03_most.L5 cellaretref03_most.L5.b
    try simp only [evB]
    by_cases hin : i < 32
    · have hz : (nums (mixN (mostB e f g) (bitAt g) 32 i))[i]? = some (.int .i64 (bitAt g i)) := nums_get (by rw [mix_get _ _ _ hin, if_neg (by omega)])
      repeat first
      | ((with_reducible apply vb_el0); (· exact hs.o2.view); (· exact bits_get e (by omega)))
      | ((with_reducible apply vb_el0); (· exact hs.o1.view); (· exact bits_get f (by omega)))
      | ((with_reducible apply vb_el0); (· exact hs.o0.view); (· exact hz))
      | (with_reducible refine vb_i (add_bb _ _ _ _) ?_)
      | (with_reducible refine vb_i (add_bbb _ _ _ _ _ _) ?_)
      | ((with_reducible refine isB_ct ?_ ?_); (· omega))
      | with_reducible refine vb_i (lss64 _ _ _) ?_
      | ((with_reducible apply vb_addrN); (· first | exact hs.o0.view | exact hs.o1.view | exact hs.o2.view | exact hs.o3.view | exact hs.o4.view | exact hs.o5.view | exact hs.o6.view | exact hs.rv hv | exact hs.rv hv2 | exact hs.rv hv3 | exact hs.rv hv4 | exact hs.view hkv hko | assumption); (· omega))
      have hlt : bitAt e i + bitAt f i + bitAt g i < 4 := by
        have := bitAt_lt e i; have := bitAt_lt f i; have := bitAt_lt g i; omega
      have hB : (bitAt e i + bitAt f i + bitAt g i) / 2 = mostB e f g i := rfl
      generalize bitAt e i + bitAt f i + bitAt g i = s at *
      repeat first
      | ((with_reducible refine vb_i (quo64 ?_ ?_ ?_) ?_); (· omega); (· omega); (· omega))
      | ((with_reducible apply vb_addrN); (· first | exact hs.o0.view | exact hs.o1.view | exact hs.o2.view | exact hs.o3.view | exact hs.o4.view | exact hs.o5.view | exact hs.o6.view | exact hs.rv hv | exact hs.rv hv2 | exact hs.rv hv3 | exact hs.rv hv4 | exact hs.view hkv hko | assumption); (· omega))
      rw [show ((s : Int) / 2) = ((s / 2 : Nat) : Int) by omega, hB]
      refine s_el0 hs hin rfl fun _ hs => ?_
      rw [nums_set, mix_set _ _ hin] at hs
      repeat first
      | ((with_reducible refine vb_i (add64 ?_ ?_) ?_); (· omega); (· omega))
      exact hk (i + 1) _ ⟨by omega, hs⟩ (by omega)
    · obtain rfl : i = 32 := by omega
      repeat first
      | ((with_reducible refine isB_cf ?_ ?_); (· omega))
      | with_reducible refine onE_i ?_
      | with_reducible refine vb_i (lss64 _ _ _) ?_
      try simp only [evB]
      rw [mix_all] at hs
      obtain ⟨C, hcn, hp⟩ := Ref.num_spec hs.o0.view (by simp) (all_bits fun i => by
        have := bitAt_lt e i; have := bitAt_lt f i; have := bitAt_lt g i
        unfold mostB; omega)
      refine cb_i _ _ hcn ?_
      have hs := hs.quiet hp
      exact fin_ret (rvs_v (rvs_nil _)) ⟨hs.pre fun _ x => x, rfl, hs.pre fun _ x => x⟩)
  exact ⟨C, h, k⟩
end
end Go.Sh

/- The document's numbers of many digits; cube roots. -/
namespace Go.Sh
open Go Go.Abs

def tmIn (ai : Nat) (b : List Nat) (i : Nat) (o : List Nat) : Nat → List Nat × Nat
  | 0 => (o, 0)
  | k + 1 =>
    let s := tmIn ai b i o k
    (s.1.set (i + k) ((s.1.getD (i + k) 0 + ai * b.getD k 0 + s.2) % 65536), (s.1.getD (i + k) 0 + ai * b.getD k 0 + s.2) / 65536)
def tmOut (a b : List Nat) : Nat → List Nat
  | 0 => List.replicate (a.length + b.length) 0
  | i + 1 =>
    let s := tmIn (a.getD i 0) b i (tmOut a b i) b.length
    s.1.set (i + b.length) (s.1.getD (i + b.length) 0 + s.2)
def timesN (a b : List Nat) : List Nat := tmOut a b a.length
/-- Digits, and 0 from m on. -/
structure Dg (l : List Nat) (n m : Nat) : Prop where
  len : l.length = n
  lt : ∀ k, l.getD k 0 < 65536
  z : ∀ k, m ≤ k → l.getD k 0 = 0
theorem getD_set {l : List Nat} {j k v : Nat} : (l.set j v).getD k 0 = if k = j ∧ j < l.length then v else l.getD k 0 := by
  simp only [List.getD_eq_getElem?_getD, List.getElem?_set]
  by_cases h : j = k
  · subst h
    by_cases h2 : j < l.length
    · simp [h2]
    · simp [h2, List.getElem?_eq_none (Nat.le_of_not_lt h2)]
  · rw [if_neg h, if_neg (fun x => h x.1.symm)]
theorem tmIn_dg {ai i m : Nat} {b o : List Nat} (hai : ai < 65536) (hb : ∀ k, b.getD k 0 < 65536) (ho : Dg o m (i + b.length)) : ∀ k, k ≤ b.length → Dg (tmIn ai b i o k).1 m (i + b.length) ∧ (tmIn ai b i o k).2 < 65536
  | 0, _ => ⟨ho, by simp [tmIn]⟩
  | k + 1, h => by
    obtain ⟨d, c⟩ := tmIn_dg hai hb ho k (by omega)
    have h1 := d.lt (i + k)
    have h2 := hb k
    have h3 : ai * b.getD k 0 ≤ 65535 * 65535 := Nat.mul_le_mul (by omega) (by omega)
    simp only [tmIn]
    generalize tmIn ai b i o k = s at *
    refine ⟨⟨by rw [List.length_set]; exact d.len, fun j => ?_, fun j hj => ?_⟩, by omega⟩
    · rw [getD_set]; split
      · exact Nat.mod_lt _ (by decide)
      · exact d.lt j
    · rw [getD_set, if_neg (by omega)]; exact d.z j hj
theorem tmOut_dg {a b : List Nat} (ha : ∀ k, a.getD k 0 < 65536) (hb : ∀ k, b.getD k 0 < 65536) : ∀ i, i ≤ a.length → Dg (tmOut a b i) (a.length + b.length) (i + b.length)
  | 0, _ => ⟨by simp [tmOut], fun k => by simp only [tmOut, List.getD_eq_getElem?_getD, List.getElem?_replicate]; split <;> simp, fun k _ => by simp only [tmOut, List.getD_eq_getElem?_getD, List.getElem?_replicate]; split <;> rfl⟩
  | i + 1, h => by
    have o := tmOut_dg ha hb i (by omega)
    obtain ⟨d, c⟩ := tmIn_dg (i := i) (ha i) hb o b.length (Nat.le_refl _)
    simp only [tmOut]
    generalize tmIn (a.getD i 0) b i (tmOut a b i) b.length = s at *
    have hz := d.z (i + b.length) (Nat.le_refl _)
    refine ⟨by rw [List.length_set]; exact d.len, fun j => ?_, fun j hj => ?_⟩
    · rw [getD_set]; split
      · omega
      · exact d.lt j
    · rw [getD_set, if_neg (by omega)]; exact d.z j (by omega)
theorem get_of {l : List Nat} {k : Nat} (h : k < l.length) : l[k]? = some (l.getD k 0) := by simp [List.getD_eq_getElem?_getD, List.getElem?_eq_getElem h]
section
variable {B : AHeap}
theorem Ref.times_spec {x y : AVal} {a b : List Nat} (hv : View B x 1 a.length (nums a)) (hv2 : View B y 1 b.length (nums b)) (ha : ∀ k, a.getD k 0 < 65536) (hb : ∀ k, b.getD k 0 < 65536) (hla : a.length ≤ 100) (hlb : b.length ≤ 100) :
    ∃ r C, S_cellaretref03_times [x, y] B r C ∧ Sep B (fun _ => False) C [.sl r 1 (timesN a b).length (nums (timesN a b))] := by
  obtain ⟨r, C, h, k⟩ := cellaretref03_times.out (x0 := x) (x1 := y) (H := B) (Q := fun r C => Sep B (fun _ => False) C [.sl r 1 (timesN a b).length (nums (timesN a b))]) (by
    unfold cellaretref03_times.w
    have hs : Sep B (fun _ => False) B [] := Sep.start B
    repeat first
    | ((with_reducible refine vb_i (add64 ?_ ?_) ?_); (· omega); (· omega))
    | ((with_reducible apply vb_len); (· first | exact hs.o0.view | exact hs.o1.view | exact hs.o2.view | exact hs.o3.view | exact hs.o4.view | exact hs.o5.view | exact hs.o6.view | exact hs.rv hv | exact hs.rv hv2 | exact hs.rv hv3 | exact hs.rv hv4 | exact hs.view hkv hko | assumption))
    refine s_make (n := a.length + b.length) hs (by omega) (by omega) (by omega) (by omega) fun ov D _ _ hs => ?_
    have e0 : (List.range (a.length + b.length)).map (fun _ => 0) = tmOut a b 0 := by
      simp only [tmOut]; apply List.ext_getElem? ; intro k
      by_cases hk : k < a.length + b.length
      · simp [List.getElem?_map, List.getElem?_range hk, List.getElem?_replicate, hk]
      · rw [List.getElem?_eq_none (by simp; omega), List.getElem?_eq_none (by simp; omega)]
    rw [fill_nums, e0] at hs
    refine LoopP.ruleG (α := Nat) (fun i => [.int .i64 i]) (fun i C => i ≤ a.length ∧ Sep B (fun _ => False) C [.sl ov 1 (a.length + b.length) (nums (tmOut a b i))]) (fun i => a.length - i) 0 rfl ⟨Nat.zero_le _, hs⟩ ?_
    clear hs
    rintro i C Kn ⟨hi, hs⟩ hk
    unfold cellaretref03_times.L3 cellaretref03_times.L3.b
    try simp only [evB]
    by_cases hin : i < a.length
    · have od := tmOut_dg ha hb i hi
      have hai := get_of hin
      have haL := ha i
      generalize hq : a.getD i 0 = ai at *
      repeat first
      | ((with_reducible refine isB_ct ?_ ?_); (· omega))
      | with_reducible refine vb_i (lss64 _ _ _) ?_
      | ((with_reducible apply vb_len); (· first | exact hs.o0.view | exact hs.o1.view | exact hs.o2.view | exact hs.o3.view | exact hs.o4.view | exact hs.o5.view | exact hs.o6.view | exact hs.rv hv | exact hs.rv hv2 | exact hs.rv hv3 | exact hs.rv hv4 | exact hs.view hkv hko | assumption))
      refine LoopP.ruleG (α := Nat) (fun k => [.int .i64 ((tmIn ai b i (tmOut a b i) k).2 : Nat), .int .i64 k]) (fun k C => k ≤ b.length ∧ Sep B (fun _ => False) C [.sl ov 1 (a.length + b.length) (nums (tmIn ai b i (tmOut a b i) k).1)]) (fun k => b.length - k) 0 rfl ⟨Nat.zero_le _, hs⟩ ?_
      clear hs
      rintro k C Kn2 ⟨hkb, hs⟩ hk2
      unfold cellaretref03_times.L7 cellaretref03_times.L7.b
      try simp only [evB]
      obtain ⟨d, c⟩ := tmIn_dg (i := i) haL hb od k hkb
      by_cases hkn : k < b.length
      · have e1 : ((i : Int) + k).toNat = i + k := by omega
        have hx := nums_get (get_of (l := (tmIn ai b i (tmOut a b i) k).1) (k := i + k) (by rw [d.len]; omega))
        have hxa := nums_get hai
        have hxb := nums_get (get_of hkn)
        have b1 := d.lt (i + k)
        have b2 := hb k
        have b3 : (ai : Int) * (b.getD k 0 : Nat) ≤ 4294836225 := by
          have : ai * b.getD k 0 ≤ 65535 * 65535 := Nat.mul_le_mul (by omega) (by omega)
          rw [← Int.natCast_mul]; omega
        have b4 : (0 : Int) ≤ (ai : Int) * (b.getD k 0 : Nat) := by rw [← Int.natCast_mul]; omega
        have hst : tmIn ai b i (tmOut a b i) (k + 1) = ((tmIn ai b i (tmOut a b i) k).1.set (i + k) (((tmIn ai b i (tmOut a b i) k).1.getD (i + k) 0 + ai * b.getD k 0 + (tmIn ai b i (tmOut a b i) k).2) % 65536), ((tmIn ai b i (tmOut a b i) k).1.getD (i + k) 0 + ai * b.getD k 0 + (tmIn ai b i (tmOut a b i) k).2) / 65536) := rfl
        generalize tmIn ai b i (tmOut a b i) k = s at *
        repeat first
        | ((with_reducible apply vb_addr); (· exact hs.o0.view); (· omega); (· omega); rw [e1])
        | ((with_reducible apply vb_el0); (· exact hs.o0.view); (· exact hx))
        | ((with_reducible apply vb_el0); (· exact hs.rv hv); (· exact hxa))
        | ((with_reducible apply vb_el0); (· exact hs.rv hv2); (· exact hxb))
        | ((with_reducible refine isB_ct ?_ ?_); (· omega))
        | with_reducible refine vb_i (lss64 _ _ _) ?_
        | ((with_reducible refine vb_i (add64 ?_ ?_) ?_); (· omega); (· omega))
        | ((with_reducible refine vb_i (mul64 ?_ ?_) ?_); (· omega); (· omega))
        | ((with_reducible refine vb_i (rem64 ?_ ?_) ?_); (· omega); (· omega))
        | ((with_reducible apply vb_addrN); (· first | exact hs.o0.view | exact hs.o1.view | exact hs.o2.view | exact hs.o3.view | exact hs.o4.view | exact hs.o5.view | exact hs.o6.view | exact hs.rv hv | exact hs.rv hv2 | exact hs.rv hv3 | exact hs.rv hv4 | exact hs.view hkv hko | assumption); (· omega))
        | ((with_reducible apply vb_len); (· first | exact hs.o0.view | exact hs.o1.view | exact hs.o2.view | exact hs.o3.view | exact hs.o4.view | exact hs.o5.view | exact hs.o6.view | exact hs.rv hv | exact hs.rv hv2 | exact hs.rv hv3 | exact hs.rv hv4 | exact hs.view hkv hko | assumption))
        generalize s.1.getD (i + k) 0 = d0 at *
        generalize hbk : b.getD k 0 = bk at *
        have e4 : ((d0 : Int) + ai * bk + s.2) = ((d0 + ai * bk + s.2 : Nat) : Int) := by rw [Int.natCast_add, Int.natCast_add, Int.natCast_mul]
        have e2 : ((d0 : Int) + ai * bk + s.2) % 65536 = (((d0 + ai * bk + s.2) % 65536 : Nat) : Int) := by rw [e4]; generalize d0 + ai * bk + s.2 = z; omega
        have e3 : ((d0 : Int) + ai * bk + s.2) / 65536 = (((d0 + ai * bk + s.2) / 65536 : Nat) : Int) := by rw [e4]; generalize d0 + ai * bk + s.2 = z; omega
        rw [e2]
        refine s_el0 hs (by omega) rfl fun _ hs => ?_
        rw [nums_set] at hs
        repeat first
        | ((with_reducible refine vb_i (add64 ?_ ?_) ?_); (· omega); (· omega))
        | ((with_reducible refine vb_i (quo64 ?_ ?_ ?_) ?_); (· omega); (· omega); (· omega))
        rw [e3]
        have hk3 := hk2 (k + 1)
        rw [hst] at hk3
        exact hk3 _ ⟨by omega, hs⟩ (by omega)
      · obtain rfl : k = b.length := by omega
        have e1 : ((i : Int) + b.length).toNat = i + b.length := by omega
        have hx := nums_get (get_of (l := (tmIn ai b i (tmOut a b i) b.length).1) (k := i + b.length) (by rw [d.len]; omega))
        have b1 := d.lt (i + b.length)
        have hst : tmOut a b (i + 1) = (tmIn ai b i (tmOut a b i) b.length).1.set (i + b.length) ((tmIn ai b i (tmOut a b i) b.length).1.getD (i + b.length) 0 + (tmIn ai b i (tmOut a b i) b.length).2) := by rw [← hq]; rfl
        generalize tmIn ai b i (tmOut a b i) b.length = s at *
        repeat first
        | ((with_reducible refine isB_cf ?_ ?_); (· omega))
        | with_reducible refine onE_i ?_
        | with_reducible refine vb_i (lss64 _ _ _) ?_
        | ((with_reducible refine vb_i (add64 ?_ ?_) ?_); (· omega); (· omega))
        | ((with_reducible apply vb_addr); (· first | exact hs.o0.view | exact hs.o1.view | exact hs.o2.view | exact hs.o3.view | exact hs.o4.view | exact hs.o5.view | exact hs.o6.view | exact hs.rv hv | exact hs.rv hv2 | exact hs.rv hv3 | exact hs.rv hv4 | exact hs.view hkv hko | assumption); (· omega); (· omega))
        | ((with_reducible apply vb_el0); (· first | exact hs.o0.view | exact hs.o1.view | exact hs.o2.view | exact hs.o3.view | exact hs.o4.view | exact hs.o5.view | exact hs.o6.view | exact hs.rv hv | exact hs.rv hv2 | exact hs.rv hv3 | exact hs.rv hv4 | exact hs.view hkv hko | assumption); (· first | exact hx | exact hx2 | assumption))
        | ((with_reducible apply vb_len); (· first | exact hs.o0.view | exact hs.o1.view | exact hs.o2.view | exact hs.o3.view | exact hs.o4.view | exact hs.o5.view | exact hs.o6.view | exact hs.rv hv | exact hs.rv hv2 | exact hs.rv hv3 | exact hs.rv hv4 | exact hs.view hkv hko | assumption))
        try simp only [evB]
        skip
        try rw [e1]
        rw [show ((s.1.getD (i + b.length) 0 : Nat) : Int) + (s.2 : Int) = ((s.1.getD (i + b.length) 0 + s.2 : Nat) : Int) by omega]
        refine s_el0 hs (by omega) rfl fun _ hs => ?_
        rw [nums_set, ← hst] at hs
        repeat first
        | ((with_reducible refine vb_i (add64 ?_ ?_) ?_); (· omega); (· omega))
        exact hk (i + 1) _ ⟨by omega, hs⟩ (by omega)
    · obtain rfl : i = a.length := by omega
      repeat first
      | ((with_reducible refine isB_cf ?_ ?_); (· omega))
      | with_reducible refine onE_i ?_
      | with_reducible refine vb_i (lss64 _ _ _) ?_
      | ((with_reducible apply vb_len); (· first | exact hs.o0.view | exact hs.o1.view | exact hs.o2.view | exact hs.o3.view | exact hs.o4.view | exact hs.o5.view | exact hs.o6.view | exact hs.rv hv | exact hs.rv hv2 | exact hs.rv hv3 | exact hs.rv hv4 | exact hs.view hkv hko | assumption))
      try simp only [evB]
      have := (tmOut_dg ha hb a.length (Nat.le_refl _)).len
      refine fin_ret (rvs_v (rvs_nil _)) ⟨hs.pre fun _ x => x, ?_⟩
      unfold timesN
      rw [this]; exact hs)
  exact ⟨r, C, h, k⟩
def digN (n : Nat) : List Nat := [n % 65536, n / 65536 % 65536, n / 4294967296]
theorem Ref.digits_spec {n : Nat} (hn : n < 281474976710656) : ∃ r C, S_cellaretref03_digits [.int .i64 n] B r C ∧ Sep B (fun _ => False) C [.sl r 1 (digN n).length (nums (digN n))] := by
  obtain ⟨r, C, h, k⟩ := cellaretref03_digits.out (x0 := .int .i64 n) (H := B) (Q := fun r C => Sep B (fun _ => False) C [.sl r 1 (digN n).length (nums (digN n))]) (by
    unfold cellaretref03_digits.w
    have hs : Sep B (fun _ => False) B [] := Sep.start B
    repeat first
    | ((with_reducible refine vb_i (quo64 ?_ ?_ ?_) ?_); (· omega); (· omega); (· omega))
    | ((with_reducible refine vb_i (rem64 ?_ ?_) ?_); (· omega); (· omega))
    refine s_row hs rfl fun i C _ hs => ?_
    refine fin_ret (rvs_v (rvs_nil _)) ⟨hs.pre fun _ x => x, ?_⟩
    exact hs.as rfl fun ho => ⟨rfl, .inr (.inl ⟨i, 0, rfl, ho⟩)⟩)
  exact ⟨r, C, h, k⟩
theorem digN_lt {n : Nat} (hn : n < 281474976710656) (k : Nat) : (digN n).getD k 0 < 65536 := by
  match k with
  | 0 => simp [digN]; omega
  | 1 => simp [digN]; omega
  | 2 => simp [digN]; omega
  | k + 3 => simp [digN]
theorem timesN_lt {a b : List Nat} (ha : ∀ k, a.getD k 0 < 65536) (hb : ∀ k, b.getD k 0 < 65536) (k : Nat) : (timesN a b).getD k 0 < 65536 := (tmOut_dg ha hb a.length (Nat.le_refl _)).lt k
theorem timesN_len {a b : List Nat} (ha : ∀ k, a.getD k 0 < 65536) (hb : ∀ k, b.getD k 0 < 65536) : (timesN a b).length = a.length + b.length := (tmOut_dg ha hb a.length (Nat.le_refl _)).len
def cmpDown (c w : List Nat) : Nat → Bool
  | 0 => true
  | k + 1 => if c.getD k 0 ≠ w.getD k 0 then decide (c.getD k 0 < w.getD k 0) else cmpDown c w k
def belowN (n p : Nat) : Bool := cmpDown (timesN (timesN (digN n) (digN n)) (digN n)) ((List.replicate 9 0).set 6 p) 9
theorem Ref.below_spec {n p : Nat} (hn : n < 281474976710656) : ∃ C, S_cellaretref03_Below [.int .i64 n, .int .i64 p] B (.bool (belowN n p)) C ∧ B <+: C := by
  obtain ⟨r, C, h, rfl, k⟩ := cellaretref03_Below.out (x0 := .int .i64 n) (x1 := .int .i64 p) (H := B) (Q := fun r C => r = .bool (belowN n p) ∧ B <+: C) (by
    unfold cellaretref03_Below.w
    have hs : Sep B (fun _ => False) B [] := Sep.start B
    have d0 := digN_lt hn
    have t0 := timesN_lt d0 d0
    have l0 : (timesN (digN n) (digN n)).length = 6 := timesN_len d0 d0
    have l1 : (timesN (timesN (digN n) (digN n)) (digN n)).length = 9 := by rw [timesN_len t0 d0, l0]; rfl
    obtain ⟨dv, C, hc, k⟩ := Ref.digits_spec (B := B) hn
    refine cb_i _ _ hc ?_
    have hs : Sep B (fun _ => False) C [.sl dv 1 (digN n).length (nums (digN n))] := k
    obtain ⟨cv, C, hc, k⟩ := Ref.times_spec hs.o0.view hs.o0.view d0 d0 (by simp [digN]) (by simp [digN])
    refine cb_i _ _ hc ?_
    have hs : Sep B (fun _ => False) C [.sl cv 1 (timesN (digN n) (digN n)).length (nums (timesN (digN n) (digN n))), .sl dv 1 (digN n).length (nums (digN n))] := hs.call0 (k.own_of fun _ x => x.elim)
    obtain ⟨ev, C, hc, k⟩ := Ref.times_spec hs.o0.view hs.o1.view t0 d0 (by rw [l0]; decide) (by simp [digN])
    refine cb_i _ _ hc ?_
    have hs : Sep B (fun _ => False) C [.sl ev 1 (timesN (timesN (digN n) (digN n)) (digN n)).length (nums (timesN (timesN (digN n) (digN n)) (digN n)))] := (hs.call0 (k.own_of fun _ x => x.elim)).drop (R1 := [_])
    rw [l1] at hs
    have hbel : belowN n p = cmpDown (timesN (timesN (digN n) (digN n)) (digN n)) ((List.replicate 9 0).set 6 p) 9 := rfl
    rw [hbel]
    generalize timesN (timesN (digN n) (digN n)) (digN n) = c at *
    repeat first
    | ((with_reducible apply vb_len); (· first | exact hs.o0.view | exact hs.o1.view | exact hs.o2.view | exact hs.o3.view | exact hs.o4.view | exact hs.o5.view | exact hs.o6.view | exact hs.rv hv | exact hs.rv hv2 | exact hs.rv hv3 | exact hs.rv hv4 | exact hs.view hkv hko | assumption))
    refine s_make (n := 9) hs rfl rfl (by decide) (by decide) fun wv D _ _ hs => ?_
    rw [fill_nums] at hs
    repeat first
    | ((with_reducible apply vb_addr); (· first | exact hs.o0.view | exact hs.o1.view | exact hs.o2.view | exact hs.o3.view | exact hs.o4.view | exact hs.o5.view | exact hs.o6.view | exact hs.rv hv | exact hs.rv hv2 | exact hs.rv hv3 | exact hs.rv hv4 | exact hs.view hkv hko | assumption); (· omega); (· omega))
    refine s_el0 hs (by decide) rfl fun _ hs => ?_
    rw [nums_set, show (List.range 9).map (fun _ => 0) = List.replicate 9 0 by decide, show Int.toNat 6 = 6 from rfl] at hs
    have lw : ((List.replicate 9 0).set 6 p).length = 9 := by simp
    generalize (List.replicate 9 0).set 6 p = w at *
    repeat first
    | ((with_reducible refine vb_i (sub64 ?_ ?_) ?_); (· omega); (· omega))
    | ((with_reducible apply vb_len); (· first | exact hs.o0.view | exact hs.o1.view | exact hs.o2.view | exact hs.o3.view | exact hs.o4.view | exact hs.o5.view | exact hs.o6.view | exact hs.rv hv | exact hs.rv hv2 | exact hs.rv hv3 | exact hs.rv hv4 | exact hs.view hkv hko | assumption))
    refine LoopP.ruleG (α := Nat) (fun j => [.int .i64 ((j : Int) - 1)]) (fun j C => j ≤ 9 ∧ cmpDown c w j = cmpDown c w 9 ∧ Sep B (fun _ => False) C [.sl wv 1 9 (nums w), .sl ev 1 9 (nums c)]) (fun j => j) 9 rfl ⟨Nat.le_refl _, rfl, hs⟩ ?_
    clear hs
    rintro j C Kn ⟨hj, hcd, hs⟩ hk
    unfold cellaretref03_Below.L6 cellaretref03_Below.L6.b
    try simp only [evB]
    rw [← hcd]
    cases j with
    | zero =>
      repeat first
      | ((with_reducible refine isB_cf ?_ ?_); (· omega))
      | with_reducible refine onE_i ?_
      | with_reducible refine vb_i (geq64 _ _ _) ?_
      try simp only [evB]
      exact fin_ret (rvs_v (rvs_nil _)) ⟨hs.pre fun _ x => x, rfl, hs.pre fun _ x => x⟩
    | succ j =>
      have e1 : ((j + 1 : Nat) : Int) - 1 = (j : Nat) := by omega
      have hx := nums_get (get_of (l := c) (k := j) (by omega))
      have hx2 := nums_get (get_of (l := w) (k := j) (by omega))
      rw [e1]
      repeat first
      | ((with_reducible apply vb_el0); (· exact hs.o1.view); (· exact hx))
      | ((with_reducible apply vb_el0); (· exact hs.o0.view); (· exact hx2))
      | ((with_reducible refine isB_ct ?_ ?_); (· omega))
      | with_reducible refine vb_i (geq64 _ _ _) ?_
      | with_reducible refine vb_i (neq64 _ _ _) ?_
      | ((with_reducible apply vb_addrN); (· first | exact hs.o0.view | exact hs.o1.view | exact hs.o2.view | exact hs.o3.view | exact hs.o4.view | exact hs.o5.view | exact hs.o6.view | exact hs.rv hv | exact hs.rv hv2 | exact hs.rv hv3 | exact hs.rv hv4 | exact hs.view hkv hko | assumption); (· omega))
      refine isB_c (fun h1 => ?_) (fun h1 => ?_)
      · repeat first
        | ((with_reducible apply vb_el0); (· exact hs.o1.view); (· exact hx))
        | ((with_reducible apply vb_el0); (· exact hs.o0.view); (· exact hx2))
        | with_reducible refine onE_i ?_
        | ((with_reducible refine onE_s ?_ ?_); (· decide))
        | with_reducible refine vb_i (lss64 _ _ _) ?_
        | ((with_reducible apply vb_addrN); (· first | exact hs.o0.view | exact hs.o1.view | exact hs.o2.view | exact hs.o3.view | exact hs.o4.view | exact hs.o5.view | exact hs.o6.view | exact hs.rv hv | exact hs.rv hv2 | exact hs.rv hv3 | exact hs.rv hv4 | exact hs.view hkv hko | assumption); (· omega))
        try simp only [evB]
        refine fin_ret (rvs_v (rvs_nil _)) ⟨hs.pre fun _ x => x, ?_, hs.pre fun _ x => x⟩
        simp only [cmpDown, tup1]
        rw [if_pos (by omega)]
        exact congrArg AVal.bool (decide_eq_decide.2 (by omega))
      · repeat first
        | ((with_reducible refine vb_i (sub64 ?_ ?_) ?_); (· omega); (· omega))
        refine hk j _ ⟨by omega, ?_, hs⟩ (by omega)
        rw [← hcd]
        simp only [cmpDown]
        rw [if_neg (by omega)])
  exact ⟨C, h, k⟩
end
end Go.Sh

/- The digits of the primes' cube roots. -/
namespace Go.Sh
open Go Go.Abs

def primeB (n : Nat) : Bool := decide (2 ≤ n) && (List.range 18).all fun e => decide (e < 2) || decide (n < e * e) || decide (n % e ≠ 0)
def rootN (p : Nat) : Nat → Nat
  | 0 => 0
  | j + 1 => bif belowN (rootN p j + 34359738368 / 2 ^ j) p then rootN p j + 34359738368 / 2 ^ j else rootN p j
def primes : List Nat := [2, 3, 5, 7, 11, 13, 17, 19, 23, 29, 31, 37, 41, 43, 47, 53, 59, 61, 67, 71, 73, 79, 83, 89, 97, 101, 103, 107, 109, 113, 127, 131, 137, 139, 149, 151, 157, 163, 167, 173, 179, 181, 191, 193, 197, 199, 211, 223, 227, 229, 233, 239, 241, 251, 257, 263, 269, 271, 277, 281, 283, 293, 307, 311]
set_option maxRecDepth 100000 in
theorem primes_eq : ((List.range 310).map fun m => m + 2).filter primeB = primes := by decide +kernel
theorem root_2 : rootN 2 36 % 4294967296 = 1116352408 := by decide +kernel
theorem root_3 : rootN 3 36 % 4294967296 = 1899447441 := by decide +kernel
theorem root_5 : rootN 5 36 % 4294967296 = 3049323471 := by decide +kernel
theorem root_7 : rootN 7 36 % 4294967296 = 3921009573 := by decide +kernel
theorem root_11 : rootN 11 36 % 4294967296 = 961987163 := by decide +kernel
theorem root_13 : rootN 13 36 % 4294967296 = 1508970993 := by decide +kernel
theorem root_17 : rootN 17 36 % 4294967296 = 2453635748 := by decide +kernel
theorem root_19 : rootN 19 36 % 4294967296 = 2870763221 := by decide +kernel
theorem root_23 : rootN 23 36 % 4294967296 = 3624381080 := by decide +kernel
theorem root_29 : rootN 29 36 % 4294967296 = 310598401 := by decide +kernel
theorem root_31 : rootN 31 36 % 4294967296 = 607225278 := by decide +kernel
theorem root_37 : rootN 37 36 % 4294967296 = 1426881987 := by decide +kernel
theorem root_41 : rootN 41 36 % 4294967296 = 1925078388 := by decide +kernel
theorem root_43 : rootN 43 36 % 4294967296 = 2162078206 := by decide +kernel
theorem root_47 : rootN 47 36 % 4294967296 = 2614888103 := by decide +kernel
theorem root_53 : rootN 53 36 % 4294967296 = 3248222580 := by decide +kernel
theorem root_59 : rootN 59 36 % 4294967296 = 3835390401 := by decide +kernel
theorem root_61 : rootN 61 36 % 4294967296 = 4022224774 := by decide +kernel
theorem root_67 : rootN 67 36 % 4294967296 = 264347078 := by decide +kernel
theorem root_71 : rootN 71 36 % 4294967296 = 604807628 := by decide +kernel
theorem root_73 : rootN 73 36 % 4294967296 = 770255983 := by decide +kernel
theorem root_79 : rootN 79 36 % 4294967296 = 1249150122 := by decide +kernel
theorem root_83 : rootN 83 36 % 4294967296 = 1555081692 := by decide +kernel
theorem root_89 : rootN 89 36 % 4294967296 = 1996064986 := by decide +kernel
theorem root_97 : rootN 97 36 % 4294967296 = 2554220882 := by decide +kernel
theorem root_101 : rootN 101 36 % 4294967296 = 2821834349 := by decide +kernel
theorem root_103 : rootN 103 36 % 4294967296 = 2952996808 := by decide +kernel
theorem root_107 : rootN 107 36 % 4294967296 = 3210313671 := by decide +kernel
theorem root_109 : rootN 109 36 % 4294967296 = 3336571891 := by decide +kernel
theorem root_113 : rootN 113 36 % 4294967296 = 3584528711 := by decide +kernel
theorem root_127 : rootN 127 36 % 4294967296 = 113926993 := by decide +kernel
theorem root_131 : rootN 131 36 % 4294967296 = 338241895 := by decide +kernel
theorem root_137 : rootN 137 36 % 4294967296 = 666307205 := by decide +kernel
theorem root_139 : rootN 139 36 % 4294967296 = 773529912 := by decide +kernel
theorem root_149 : rootN 149 36 % 4294967296 = 1294757372 := by decide +kernel
theorem root_151 : rootN 151 36 % 4294967296 = 1396182291 := by decide +kernel
theorem root_157 : rootN 157 36 % 4294967296 = 1695183700 := by decide +kernel
theorem root_163 : rootN 163 36 % 4294967296 = 1986661051 := by decide +kernel
theorem root_167 : rootN 167 36 % 4294967296 = 2177026350 := by decide +kernel
theorem root_173 : rootN 173 36 % 4294967296 = 2456956037 := by decide +kernel
theorem root_179 : rootN 179 36 % 4294967296 = 2730485921 := by decide +kernel
theorem root_181 : rootN 181 36 % 4294967296 = 2820302411 := by decide +kernel
theorem root_191 : rootN 191 36 % 4294967296 = 3259730800 := by decide +kernel
theorem root_193 : rootN 193 36 % 4294967296 = 3345764771 := by decide +kernel
theorem root_197 : rootN 197 36 % 4294967296 = 3516065817 := by decide +kernel
theorem root_199 : rootN 199 36 % 4294967296 = 3600352804 := by decide +kernel
theorem root_211 : rootN 211 36 % 4294967296 = 4094571909 := by decide +kernel
theorem root_223 : rootN 223 36 % 4294967296 = 275423344 := by decide +kernel
theorem root_227 : rootN 227 36 % 4294967296 = 430227734 := by decide +kernel
theorem root_229 : rootN 229 36 % 4294967296 = 506948616 := by decide +kernel
theorem root_233 : rootN 233 36 % 4294967296 = 659060556 := by decide +kernel
theorem root_239 : rootN 239 36 % 4294967296 = 883997877 := by decide +kernel
theorem root_241 : rootN 241 36 % 4294967296 = 958139571 := by decide +kernel
theorem root_251 : rootN 251 36 % 4294967296 = 1322822218 := by decide +kernel
theorem root_257 : rootN 257 36 % 4294967296 = 1537002063 := by decide +kernel
theorem root_263 : rootN 263 36 % 4294967296 = 1747873779 := by decide +kernel
theorem root_269 : rootN 269 36 % 4294967296 = 1955562222 := by decide +kernel
theorem root_271 : rootN 271 36 % 4294967296 = 2024104815 := by decide +kernel
theorem root_277 : rootN 277 36 % 4294967296 = 2227730452 := by decide +kernel
theorem root_281 : rootN 281 36 % 4294967296 = 2361852424 := by decide +kernel
theorem root_283 : rootN 283 36 % 4294967296 = 2428436474 := by decide +kernel
theorem root_293 : rootN 293 36 % 4294967296 = 2756734187 := by decide +kernel
theorem root_307 : rootN 307 36 % 4294967296 = 3204031479 := by decide +kernel
theorem root_311 : rootN 311 36 % 4294967296 = 3329325298 := by decide +kernel
theorem roots_eq : primes.map (fun p => rootN p 36 % 4294967296) = kk.map BitVec.toNat := by
  simp only [primes, List.map_cons, List.map_nil, root_2, root_3, root_5, root_7, root_11, root_13, root_17, root_19, root_23, root_29, root_31, root_37, root_41, root_43, root_47, root_53, root_59, root_61, root_67, root_71, root_73, root_79, root_83, root_89, root_97, root_101, root_103, root_107, root_109, root_113, root_127, root_131, root_137, root_139, root_149, root_151, root_157, root_163, root_167, root_173, root_179, root_181, root_191, root_193, root_197, root_199, root_211, root_223, root_227, root_229, root_233, root_239, root_241, root_251, root_257, root_263, root_269, root_271, root_277, root_281, root_283, root_293, root_307, root_311]
  rfl
end Go.Sh

/- The document's constants. -/
namespace Go.Sh
open Go Go.Abs

def bigN : Nat := 34359738368
theorem bigN_div (j : Nat) : bigN / 2 ^ j ≤ bigN := Nat.div_le_self bigN (2 ^ j)
theorem primeB_no {n d : Nat} (hd : 2 ≤ d) (hn : d * d ≤ n) (h17 : n ≤ 311) (h : n % d = 0) : primeB n = false := by
  have h18 : d < 18 := by
    apply Nat.lt_of_not_le; intro h18
    have := Nat.mul_le_mul h18 h18
    omega
  unfold primeB
  rw [Bool.and_eq_false_iff]
  right
  rw [List.all_eq_false]
  exact ⟨d, List.mem_range.2 h18, by simp [h]; omega⟩
theorem primeB_yes {n : Nat} (h2 : 2 ≤ n) (h : ∀ e, 2 ≤ e → e * e ≤ n → n % e ≠ 0) : primeB n = true := by
  unfold primeB
  rw [Bool.and_eq_true]
  refine ⟨decide_eq_true h2, List.all_eq_true.2 fun e _ => ?_⟩
  by_cases h1 : e < 2
  · simp [h1]
  · by_cases h3 : n < e * e
    · simp [h3]
    · have := h e (by omega) (by omega)
      simp [this]
theorem rootN_le (p : Nat) : ∀ j, rootN p j ≤ j * 34359738368
  | 0 => by simp [rootN]
  | j + 1 => by
    have := rootN_le p j
    have h2 : 34359738368 / 2 ^ j ≤ 34359738368 := bigN_div j
    simp only [rootN]
    generalize 34359738368 / 2 ^ j = b at *
    rw [Nat.succ_mul]
    cases belowN (rootN p j + b) p
    · exact Nat.le_trans this (Nat.le_add_right _ _)
    · exact Nat.add_le_add this h2
def consN : Nat → List Nat
  | 0 => []
  | m + 1 => bif primeB (m + 2) then consN m ++ [rootN (m + 2) 36 % 4294967296] else consN m
theorem consN_mono (m : Nat) : ∀ k, (consN m).length ≤ (consN (m + k)).length
  | 0 => Nat.le_refl _
  | k + 1 => by
    refine Nat.le_trans (consN_mono m k) ?_
    rw [← Nat.add_assoc]
    simp only [consN]
    cases primeB (m + k + 2) <;> simp
theorem consN_eq : ∀ m, consN m = (((List.range m).map fun m => m + 2).filter primeB).map fun p => rootN p 36 % 4294967296
  | 0 => rfl
  | m + 1 => by
    rw [consN, consN_eq m, List.range_succ, List.map_append, List.filter_append, List.map_append]
    cases h : primeB (m + 2)
    · simp [List.filter_cons, h]
    · simp [List.filter_cons, h]
theorem cons_310 : consN 310 = kk.map BitVec.toNat := by rw [consN_eq, primes_eq, roots_eq]
theorem prime_311 : primeB 311 = true := by decide
set_option maxRecDepth 100000 in
theorem cons_309 : (consN 309).length = 63 := by
  have h : consN 310 = consN 309 ++ [rootN 311 36 % 4294967296] := by
    show (bif primeB 311 then consN 309 ++ [rootN 311 36 % 4294967296] else consN 309) = _
    rw [prime_311]; rfl
  have h2 := congrArg List.length h
  rw [cons_310, List.length_append, List.length_map, List.length_singleton] at h2
  have : kk.length = 64 := rfl
  omega
section
variable {B : AHeap}
theorem Ref.prime_spec {n : Nat} (h2 : 2 ≤ n) (hn : n ≤ 311) : ∃ C, S_cellaretref03_Prime [.int .i64 n] B (.bool (primeB n)) C ∧ B <+: C := by
  obtain ⟨r, C, h, rfl, k⟩ := cellaretref03_Prime.out (x0 := .int .i64 n) (H := B) (Q := fun r C => r = .bool (primeB n) ∧ B <+: C) (by
    unfold cellaretref03_Prime.w
    have hs : Sep B (fun _ => False) B [] := Sep.start B
    refine LoopP.ruleG (α := Nat) (fun d => [.int .i64 (d + 2 : Nat)]) (fun d C => d ≤ 17 ∧ B = C ∧ ∀ e, 2 ≤ e → e < d + 2 → e * e ≤ n → n % e ≠ 0) (fun d => 18 - d) 0 rfl ⟨by decide, rfl, fun e _ _ => by omega⟩ ?_
    rintro d C Kn ⟨hd, rfl, hno⟩ hk
    unfold cellaretref03_Prime.L2 cellaretref03_Prime.L2.b
    try simp only [evB]
    have hm : ((d + 2 : Nat) : Int) * ((d + 2 : Nat) : Int) = (((d + 2) * (d + 2) : Nat) : Int) := by rw [Int.natCast_mul]
    have hmb : (d + 2) * (d + 2) ≤ 19 * 19 := Nat.mul_le_mul (by omega) (by omega)
    refine vb_i (mul64 (by rw [hm]; omega) (by rw [hm]; omega)) ?_
    rw [hm]
    by_cases hle : (d + 2) * (d + 2) ≤ n
    · generalize hq : (d + 2) * (d + 2) = q at *
      repeat first
      | ((with_reducible refine isB_ct ?_ ?_); (· omega))
      | with_reducible refine vb_i (leq64 _ _ _) ?_
      | with_reducible refine vb_i (eql64 _ _ _) ?_
      | ((with_reducible refine vb_i (rem64 ?_ ?_) ?_); (· omega); (· omega))
      refine isB_c (fun h1 => ?_) (fun h1 => ?_)
      · have h1 : n % (d + 2) = 0 := by
          have : ((n % (d + 2) : Nat) : Int) = 0 := by rw [Int.natCast_emod]; exact h1
          omega
        repeat first
        | with_reducible refine onE_i ?_
        | ((with_reducible refine onE_s ?_ ?_); (· decide))
        try simp only [evB]
        exact fin_ret (rvs_v (rvs_nil _)) ⟨hs.pre fun _ x => x, by rw [primeB_no (by omega) (by omega) hn h1]; rfl, hs.pre fun _ x => x⟩
      · have h1 : n % (d + 2) ≠ 0 := fun h => h1 (by rw [← Int.natCast_emod, h]; rfl)
        have hd16 : d < 17 := by
          apply Nat.lt_of_not_le; intro hge
          have : (17 + 2) * (17 + 2) ≤ (d + 2) * (d + 2) := Nat.mul_le_mul (by omega) (by omega)
          omega
        repeat first
        | ((with_reducible refine vb_i (add64 ?_ ?_) ?_); (· omega); (· omega))
        exact hk (d + 1) _ ⟨by omega, rfl, fun e he1 he2 he3 => by
          by_cases e1 : e = d + 2
          · subst e1; exact h1
          · exact hno e he1 (by omega) he3⟩ (by omega)
    · generalize hq : (d + 2) * (d + 2) = q at *
      repeat first
      | ((with_reducible refine isB_cf ?_ ?_); (· omega))
      | with_reducible refine onE_i ?_
      | with_reducible refine vb_i (leq64 _ _ _) ?_
      | with_reducible refine vb_i (geq64 _ _ _) ?_
      try simp only [evB]
      have hp : primeB n = true := primeB_yes h2 fun e he1 he3 => hno e he1 (by
        apply Nat.lt_of_not_le; intro hge
        have : (d + 2) * (d + 2) ≤ e * e := Nat.mul_le_mul hge hge
        omega) he3
      rw [hp, show decide ((n : Int) ≥ 2) = true from decide_eq_true (by omega)]
      exact fin_ret (rvs_v (rvs_nil _)) ⟨hs.pre fun _ x => x, rfl, hs.pre fun _ x => x⟩)
  exact ⟨C, h, k⟩
theorem Ref.cons_spec : ∃ r C, S_cellaretref03_Constants [] B r C ∧ Sep B (fun _ => False) C [.sl r 1 64 (nums (kk.map BitVec.toNat))] := by
  obtain ⟨r, C, h, k⟩ := cellaretref03_Constants.out (H := B) (Q := fun r C => Sep B (fun _ => False) C [.sl r 1 64 (nums (kk.map BitVec.toNat))]) (by
    unfold cellaretref03_Constants.w
    have hs : Sep B (fun _ => False) B [] := Sep.start B
    refine LoopP.ruleG (α := AVal × Nat) (fun a => [a.1, .int .i64 (a.2 + 2 : Nat)]) (fun a C => a.2 ≤ 310 ∧ Sep B (fun _ => False) C [.sl a.1 1 (consN a.2).length (nums (consN a.2))]) (fun a => 310 - a.2) (.nils, 0) rfl ⟨by decide, s_nils hs 1⟩ ?_
    clear hs
    rintro ⟨s, m⟩ C Kn ⟨hm, hs⟩ hk
    simp only at hm hs
    unfold cellaretref03_Constants.L3 cellaretref03_Constants.L3.b
    try simp only [evB]
    by_cases hmn : m < 310
    · have hl : (consN m).length ≤ 63 := by
        have := consN_mono m (309 - m)
        rw [show m + (309 - m) = 309 by omega, cons_309] at this; exact this
      have hst : consN (m + 1) = bif primeB (m + 2) then consN m ++ [rootN (m + 2) 36 % 4294967296] else consN m := rfl
      repeat first
      | ((with_reducible refine isB_ct ?_ ?_); (· omega))
      | with_reducible refine vb_i (lss64 _ _ _) ?_
      | ((with_reducible apply vb_len); (· first | exact hs.o0.view | exact hs.o1.view | exact hs.o2.view | exact hs.o3.view | exact hs.o4.view | exact hs.o5.view | exact hs.o6.view | exact hs.rv hv | exact hs.rv hv2 | exact hs.rv hv3 | exact hs.rv hv4 | exact hs.view hkv hko | assumption))
      obtain ⟨C, hc, hp⟩ := Ref.prime_spec (B := C) (n := m + 2) (by omega) (by omega)
      refine cb_i _ _ hc ?_
      have hs := hs.quiet hp
      repeat first
      | with_reducible refine vb_i (e_not _) ?_
      refine isB_bb (fun h1 => ?_) (fun h1 => ?_)
      · have h1 : primeB (m + 2) = false := by simpa using h1
        rw [h1, cond_false] at hst
        repeat first
        | ((with_reducible refine vb_i (add64 ?_ ?_) ?_); (· omega); (· omega))
        refine hk (s, m + 1) _ ⟨by simp only; omega, ?_⟩ (by simp only; omega)
        simp only
        rw [hst]; exact hs
      · have h1 : primeB (m + 2) = true := by simpa using h1
        rw [h1, cond_true] at hst
        refine LoopP.ruleG (α := Nat) (fun j => [.int .i64 (rootN (m + 2) j : Nat), .int .i64 (34359738368 / 2 ^ j : Nat)]) (fun j C => j ≤ 36 ∧ Sep B (fun _ => False) C [.sl s 1 (consN m).length (nums (consN m))]) (fun j => 36 - j) 0 rfl ⟨by decide, hs⟩ ?_
        clear hs
        rintro j C Kn2 ⟨hj, hs⟩ hk2
        unfold cellaretref03_Constants.L8 cellaretref03_Constants.L8.b
        try simp only [evB]
        have hr := rootN_le (m + 2) j
        by_cases hjn : j < 36
        · have hb0 : 0 < 34359738368 / 2 ^ j := by
            apply Nat.div_pos
            · exact Nat.le_trans (Nat.pow_le_pow_right (by decide) (by omega : j ≤ 35)) (by decide)
            · exact Nat.pow_pos (by decide)
          have hb1 : 34359738368 / 2 ^ j ≤ 34359738368 := bigN_div j
          have hb2 : ((34359738368 / 2 ^ j : Nat) : Int) / 2 = ((34359738368 / 2 ^ (j + 1) : Nat) : Int) := by rw [Nat.pow_succ, ← Nat.div_div_eq_div_mul]; omega
          have hrs : rootN (m + 2) (j + 1) = bif belowN (rootN (m + 2) j + 34359738368 / 2 ^ j) (m + 2) then rootN (m + 2) j + 34359738368 / 2 ^ j else rootN (m + 2) j := rfl
          have hk3 := hk2 (j + 1)
          rw [hrs, ← hb2] at hk3
          generalize 34359738368 / 2 ^ j = b at *
          generalize rootN (m + 2) j = x at *
          repeat first
          | ((with_reducible refine isB_ct ?_ ?_); (· omega))
          | with_reducible refine vb_i (gtr64 _ _ _) ?_
          refine JoinP.mk (fun e vs D => C <+: D ∧ e = .normal ∧ vs = [.int .i64 ((bif belowN (x + b) (m + 2) then x + b else x : Nat) : Int)]) ?_ ?_
          · repeat first
            | ((with_reducible refine vb_i (add64 ?_ ?_) ?_); (· omega); (· omega))
            rw [← Int.natCast_add]
            obtain ⟨D, hc, hp⟩ := Ref.below_spec (B := C) (n := x + b) (p := m + 2) (by omega)
            refine cb_i _ _ hc ?_
            cases hq : belowN (x + b) (m + 2)
            · repeat first
              | with_reducible refine isB_F ?_
              exact ⟨hp, rfl, rfl⟩
            · repeat first
              | with_reducible refine isB_T ?_
              | ((with_reducible refine vb_i (add64 ?_ ?_) ?_); (· omega); (· omega))
              exact ⟨hp, rfl, by simp⟩
          rintro _ _ D ⟨hp, rfl, rfl⟩
          have hs := hs.quiet hp
          repeat first
          | with_reducible refine onE_i ?_
          | ((with_reducible refine vb_i (quo64 ?_ ?_ ?_) ?_); (· omega); (· omega); (· omega))
          try simp only [evB]
          exact hk3 _ ⟨by omega, hs⟩ (by omega)
        · obtain rfl : j = 36 := by omega
          rw [show (34359738368 / 2 ^ 36 : Nat) = 0 by decide]
          repeat first
          | ((with_reducible refine isB_cf ?_ ?_); (· omega))
          | with_reducible refine onE_i ?_
          | with_reducible refine vb_i (gtr64 _ _ _) ?_
          | ((with_reducible refine vb_i (rem64 ?_ ?_) ?_); (· omega); (· omega))
          try simp only [evB]
          generalize rootN (m + 2) 36 = x at *
          skip
          rw [show ((x : Int) % 4294967296) = ((x % 4294967296 : Nat) : Int) by omega]
          refine s_push (xs := nums [x % 4294967296]) hs rfl (by decide) rfl rfl (by unfold room; omega) (by unfold room; omega) fun s' _ hs => ?_
          repeat first
          | ((with_reducible refine vb_i (add64 ?_ ?_) ?_); (· omega); (· omega))
          refine hk (s', m + 1) _ ⟨by simp only; omega, ?_⟩ (by simp only; omega)
          simp only
          rw [hst, nums_app, List.length_append]
          exact hs
    · obtain rfl : m = 310 := by omega
      have hl : (consN 310).length = 64 := by rw [cons_310]; rfl
      rw [hl] at hs
      repeat first
      | ((with_reducible refine isB_cf ?_ ?_); (· omega))
      | with_reducible refine onE_i ?_
      | with_reducible refine vb_i (lss64 _ _ _) ?_
      | ((with_reducible apply vb_len); (· first | exact hs.o0.view | exact hs.o1.view | exact hs.o2.view | exact hs.o3.view | exact hs.o4.view | exact hs.o5.view | exact hs.o6.view | exact hs.rv hv | exact hs.rv hv2 | exact hs.rv hv3 | exact hs.rv hv4 | exact hs.view hkv hko | assumption))
      try simp only [evB]
      rw [cons_310] at hs
      exact fin_ret (rvs_v (rvs_nil _)) ⟨hs.pre fun _ x => x, hs⟩)
  exact ⟨r, C, h, k⟩
theorem Ref.first_spec : ∃ r C, S_cellaretref03_First [] B r C ∧ Sep B (fun _ => False) C [.sl r 1 8 (nums (first.map BitVec.toNat))] := by
  obtain ⟨r, C, h, k⟩ := cellaretref03_First.out (H := B) (Q := fun r C => Sep B (fun _ => False) C [.sl r 1 8 (nums (first.map BitVec.toNat))]) (by
    unfold cellaretref03_First.w
    have hs : Sep B (fun _ => False) B [] := Sep.start B
    refine s_row (cs := nums (first.map BitVec.toNat)) hs rfl fun i C _ hs => ?_
    refine fin_ret (rvs_v (rvs_nil _)) ⟨hs.pre fun _ x => x, ?_⟩
    exact hs.as rfl fun ho => ⟨rfl, .inr (.inl ⟨i, 0, rfl, ho⟩)⟩)
  exact ⟨r, C, h, k⟩
end
end Go.Sh

/- The document's block. -/
namespace Go.Sh
open Go Go.Abs

def wn (l : List W32) : List Nat := l.map BitVec.toNat
theorem wn_len (l : List W32) : (wn l).length = l.length := by simp [wn]
theorem wn_app (l k : List W32) : wn (l ++ k) = wn l ++ wn k := by simp [wn]
theorem wn_get {l : List W32} {k : Nat} (h : k < l.length) : (nums (wn l))[k]? = some (.int .i64 ((l.getD k 0).toNat : Nat)) := nums_get (by simp [wn, List.getElem?_map, List.getElem?_eq_getElem h, List.getD_eq_getElem?_getD])
theorem word_num (s : List UInt8) (i : Nat) : (word s i).toNat = (s.getD (4 * i) 0).toNat * 16777216 + (s.getD (4 * i + 1) 0).toNat * 65536 + (s.getD (4 * i + 2) 0).toNat * 256 + (s.getD (4 * i + 3) 0).toNat := by
  have h0 := (s.getD (4 * i) 0).toNat_lt
  have h1 := (s.getD (4 * i + 1) 0).toNat_lt
  have h2 := (s.getD (4 * i + 2) 0).toNat_lt
  have h3 := (s.getD (4 * i + 3) 0).toNat_lt
  unfold word
  generalize (s.getD (4 * i) 0).toNat = a at *
  generalize (s.getD (4 * i + 1) 0).toNat = b at *
  generalize (s.getD (4 * i + 2) 0).toNat = c at *
  generalize (s.getD (4 * i + 3) 0).toNat = d at *
  simp only [BitVec.toNat_or, BitVec.toNat_shiftLeft, BitVec.toNat_ofNat, Nat.shiftLeft_eq]
  have ml : ∀ x c : Nat, x < 256 → 0 < c → x * c < 256 * c := fun x c h hc => Nat.mul_lt_mul_of_pos_right h hc
  have p32 : (2 : Nat) ^ 32 = 256 * 16777216 := rfl
  have t32 : ∀ x : Nat, x < 256 → x % 2 ^ 32 = x := fun x h => Nat.mod_eq_of_lt (Nat.lt_trans h (by decide))
  have e1 : a % 2 ^ 32 * 2 ^ 24 % 2 ^ 32 = a * 16777216 := by rw [t32 a h0]; exact Nat.mod_eq_of_lt (ml a 16777216 h0 (by decide))
  have e2 : b % 2 ^ 32 * 2 ^ 16 % 2 ^ 32 = b * 65536 := by rw [t32 b h1]; exact Nat.mod_eq_of_lt (Nat.lt_trans (ml b 65536 h1 (by decide)) (by decide))
  have e3 : c % 2 ^ 32 * 2 ^ 8 % 2 ^ 32 = c * 256 := by rw [t32 c h2]; exact Nat.mod_eq_of_lt (Nat.lt_trans (ml c 256 h2 (by decide)) (by decide))
  rw [e1, e2, e3, t32 d h3]
  have s24 : b * 65536 < 2 ^ 24 := ml b 65536 h1 (by decide)
  have s16 : c * 256 < 2 ^ 16 := ml c 256 h2 (by decide)
  have f1 : a * 16777216 ||| b * 65536 = a * 16777216 + b * 65536 := by
    have := Nat.shiftLeft_add_eq_or_of_lt s24 a
    rw [Nat.shiftLeft_eq] at this; exact this.symm
  have f2 : (a * 16777216 + b * 65536) ||| c * 256 = a * 16777216 + b * 65536 + c * 256 := by
    have := Nat.shiftLeft_add_eq_or_of_lt s16 (a * 256 + b)
    rw [Nat.shiftLeft_eq, Nat.add_mul, Nat.mul_assoc] at this; exact this.symm
  have f3 : (a * 16777216 + b * 65536 + c * 256) ||| d = a * 16777216 + b * 65536 + c * 256 + d := by
    have := Nat.shiftLeft_add_eq_or_of_lt (show d < 2 ^ 8 from h3) (a * 65536 + b * 256 + c)
    rw [Nat.shiftLeft_eq, Nat.add_mul, Nat.add_mul, Nat.mul_assoc, Nat.mul_assoc] at this; exact this.symm
  rw [f1, f2, f3]
section
variable {B : AHeap} {K : AVal → AHeap → Prop}
theorem cb_addW {x y : W32} (k : ∀ C, B <+: C → K (.int .i64 ((x + y).toNat : Nat)) C) : cb (S_cellaretref03_Add [.int .i64 (x.toNat : Nat), .int .i64 (y.toNat : Nat)] B) K := by
  obtain ⟨C, hc, hp⟩ := Ref.add_spec (B := B) x.isLt y.isLt
  rw [← BitVec.toNat_add] at hc
  exact cb_i _ _ hc (k C hp)
theorem cb_w1 {x : W32} (k : ∀ C, B <+: C → K (.int .i64 ((s1 x).toNat : Nat)) C) : cb (S_cellaretref03_three [.int .i64 (x.toNat : Nat), .agg [.int .i64 17, .int .i64 19, .int .i64 10], .bool true] B) K := by
  obtain ⟨C, hc, hp⟩ := Ref.three_spec (B := B) (a := 17) (b := 19) (c := 10) true x.isLt (by decide) (by decide) (by decide)
  rw [s1_three] at hc
  exact cb_i _ _ hc (k C hp)
theorem cb_w0 {x : W32} (k : ∀ C, B <+: C → K (.int .i64 ((s0 x).toNat : Nat)) C) : cb (S_cellaretref03_three [.int .i64 (x.toNat : Nat), .agg [.int .i64 7, .int .i64 18, .int .i64 3], .bool true] B) K := by
  obtain ⟨C, hc, hp⟩ := Ref.three_spec (B := B) (a := 7) (b := 18) (c := 3) true x.isLt (by decide) (by decide) (by decide)
  rw [s0_three] at hc
  exact cb_i _ _ hc (k C hp)
theorem cb_W1 {x : W32} (k : ∀ C, B <+: C → K (.int .i64 ((S1 x).toNat : Nat)) C) : cb (S_cellaretref03_three [.int .i64 (x.toNat : Nat), .agg [.int .i64 6, .int .i64 11, .int .i64 25], .bool false] B) K := by
  obtain ⟨C, hc, hp⟩ := Ref.three_spec (B := B) (a := 6) (b := 11) (c := 25) false x.isLt (by decide) (by decide) (by decide)
  rw [S1_three] at hc
  exact cb_i _ _ hc (k C hp)
theorem cb_W0 {x : W32} (k : ∀ C, B <+: C → K (.int .i64 ((S0 x).toNat : Nat)) C) : cb (S_cellaretref03_three [.int .i64 (x.toNat : Nat), .agg [.int .i64 2, .int .i64 13, .int .i64 22], .bool false] B) K := by
  obtain ⟨C, hc, hp⟩ := Ref.three_spec (B := B) (a := 2) (b := 13) (c := 22) false x.isLt (by decide) (by decide) (by decide)
  rw [S0_three] at hc
  exact cb_i _ _ hc (k C hp)
theorem cb_chs {e f g : W32} (k : ∀ C, B <+: C → K (.int .i64 ((chs e f g).toNat : Nat)) C) : cb (S_cellaretref03_pick [.int .i64 (e.toNat : Nat), .int .i64 (f.toNat : Nat), .int .i64 (g.toNat : Nat)] B) K := by
  obtain ⟨C, hc, hp⟩ := Ref.pick_spec (B := B) e.isLt f.isLt g.isLt
  rw [pick_word] at hc
  exact cb_i _ _ hc (k C hp)
theorem cb_maj {e f g : W32} (k : ∀ C, B <+: C → K (.int .i64 ((maj e f g).toNat : Nat)) C) : cb (S_cellaretref03_most [.int .i64 (e.toNat : Nat), .int .i64 (f.toNat : Nat), .int .i64 (g.toNat : Nat)] B) K := by
  obtain ⟨C, hc, hp⟩ := Ref.most_spec (B := B) e.isLt f.isLt g.isLt
  rw [most_word] at hc
  exact cb_i _ _ hc (k C hp)
def St.list (r : St) : List W32 := [r.a, r.b, r.c, r.d, r.e, r.f, r.g, r.h]
theorem work_at (h : List W32) (s : List UInt8) {i : Nat} (hi : i < 8) : (work h s)[i]? = some (h.getD i 0 + (rounds (wl s 64) (St.of h) 64).list.getD i 0) := by
  match i, hi with
  | 0, _ => rfl
  | 1, _ => rfl
  | 2, _ => rfl
  | 3, _ => rfl
  | 4, _ => rfl
  | 5, _ => rfl
  | 6, _ => rfl
  | 7, _ => rfl
set_option maxHeartbeats 2000000 in
theorem Ref.block_spec {x0 x2 : AVal} {h : List W32} {s : List UInt8} (hv : View B x0 1 8 (nums (wn h))) (hh : h.length = 8) (h64 : s.length = 64) (hv2 : View B x2 1 64 (nums (wn kk))) :
    ∃ r C, S_cellaretref03_Block [x0, .str s, x2] B r C ∧ Sep B (fun _ => False) C [.sl r 1 8 (nums (wn (work h s)))] := by
  obtain ⟨r, C, hw, k⟩ := cellaretref03_Block.out (x0 := x0) (x1 := .str s) (x2 := x2) (H := B) (Q := fun r C => Sep B (fun _ => False) C [.sl r 1 8 (nums (wn (work h s)))]) (by
    unfold cellaretref03_Block.w
    have hs : Sep B (fun _ => False) B [] := Sep.start B
    refine LoopP.ruleG (α := AVal × Nat) (fun a => [a.1, .int .i64 a.2]) (fun a C => a.2 ≤ 64 ∧ Sep B (fun _ => False) C [.sl a.1 1 a.2 (nums (wn (wl s a.2)))]) (fun a => 64 - a.2) (.nils, 0) rfl ⟨by decide, s_nils hs 1⟩ ?_
    clear hs
    rintro ⟨w, i⟩ C Kn ⟨hi, hs⟩ hk
    simp only at hi hs
    unfold cellaretref03_Block.L3 cellaretref03_Block.L3.b
    try simp only [evB]
    by_cases hin : i < 64
    · have hlen := wl_len s i
      by_cases h16 : i < 16
      · have b0 := (s.getD (4 * (i : Int)).toNat 0).toNat_lt
        have b1 := (s.getD (4 * (i : Int) + 1).toNat 0).toNat_lt
        have b2 := (s.getD (4 * (i : Int) + 2).toNat 0).toNat_lt
        have b3 := (s.getD (4 * (i : Int) + 3).toNat 0).toNat_lt
        have hw := word_num s i
        rw [show 4 * i = (4 * (i : Int)).toNat by omega, show (4 * (i : Int)).toNat + 1 = (4 * (i : Int) + 1).toNat by omega, show (4 * (i : Int)).toNat + 2 = (4 * (i : Int) + 2).toNat by omega, show (4 * (i : Int)).toNat + 3 = (4 * (i : Int) + 3).toNat by omega] at hw
        repeat first
        | ((with_reducible refine vb_i (e_idxStr ?_ ?_) ?_); (· omega); (· omega))
        | with_reducible refine vb_i (int_of_byte _) ?_
        | ((with_reducible refine isB_ct ?_ ?_); (· omega))
        | with_reducible refine vb_i (lss64 _ _ _) ?_
        | ((with_reducible refine vb_i (add64 ?_ ?_) ?_); (· omega); (· omega))
        | ((with_reducible refine vb_i (mul64 ?_ ?_) ?_); (· omega); (· omega))
        generalize (s.getD (4 * (i : Int)).toNat 0).toNat = n0 at *
        generalize (s.getD (4 * (i : Int) + 1).toNat 0).toNat = n1 at *
        generalize (s.getD (4 * (i : Int) + 2).toNat 0).toNat = n2 at *
        generalize (s.getD (4 * (i : Int) + 3).toNat 0).toNat = n3 at *
        rw [show ((n0 : Int) * 16777216 + n1 * 65536 + n2 * 256 + n3) = (((word s i).toNat : Nat) : Int) by rw [hw]; omega]
        refine s_push (xs := nums (wn [word s i])) hs rfl (by decide) rfl rfl (by unfold room; omega) (by unfold room; omega) fun w' _ hs => ?_
        rw [← nums_app, ← wn_app, show wl s i ++ [word s i] = wl s (i + 1) by simp only [wl]; rw [if_pos h16]] at hs
        repeat first
        | ((with_reducible refine vb_i (add64 ?_ ?_) ?_); (· omega); (· omega))
        exact hk (w', i + 1) _ ⟨by simp only; omega, hs⟩ (by simp only; omega)
      · have g2 : (nums (wn (wl s i)))[((i : Int) - 2).toNat]? = _ := wn_get (l := wl s i) (k := ((i : Int) - 2).toNat) (by omega)
        have g7 : (nums (wn (wl s i)))[((i : Int) - 7).toNat]? = _ := wn_get (l := wl s i) (k := ((i : Int) - 7).toNat) (by omega)
        have g15 : (nums (wn (wl s i)))[((i : Int) - 15).toNat]? = _ := wn_get (l := wl s i) (k := ((i : Int) - 15).toNat) (by omega)
        have g16 : (nums (wn (wl s i)))[((i : Int) - 16).toNat]? = _ := wn_get (l := wl s i) (k := ((i : Int) - 16).toNat) (by omega)
        repeat first
        | ((with_reducible apply vb_el0); (· exact hs.o0.view); (· first | exact g2 | exact g7 | exact g15 | exact g16))
        | ((with_reducible refine vb_i (v := .agg [.int .i64 17, .int .i64 19, .int .i64 10]) ?_ ?_); (· rfl))
        | ((with_reducible refine vb_i (v := .agg [.int .i64 7, .int .i64 18, .int .i64 3]) ?_ ?_); (· rfl))
        | ((with_reducible refine cb_w1 fun _ hp => ?_); replace hs := hs.quiet hp)
        | ((with_reducible refine cb_w0 fun _ hp => ?_); replace hs := hs.quiet hp)
        | ((with_reducible refine cb_addW fun _ hp => ?_); replace hs := hs.quiet hp)
        | ((with_reducible refine isB_ct ?_ ?_); (· omega))
        | ((with_reducible refine isB_cf ?_ ?_); (· omega))
        | with_reducible refine vb_i (lss64 _ _ _) ?_
        | ((with_reducible refine vb_i (sub64 ?_ ?_) ?_); (· omega); (· omega))
        | ((with_reducible apply vb_addr); (· first | exact hs.o0.view | exact hs.o1.view | exact hs.o2.view | exact hs.o3.view | exact hs.o4.view | exact hs.o5.view | exact hs.o6.view | exact hs.rv hv | exact hs.rv hv2 | exact hs.rv hv3 | exact hs.rv hv4 | exact hs.view hkv hko | assumption); (· omega); (· omega))
        have hst : wl s i ++ [s1 ((wl s i).getD ((i : Int) - 2).toNat 0) + (wl s i).getD ((i : Int) - 7).toNat 0 + s0 ((wl s i).getD ((i : Int) - 15).toNat 0) + (wl s i).getD ((i : Int) - 16).toNat 0] = wl s (i + 1) := by
          simp only [wl]
          rw [if_neg h16, show ((i : Int) - 2).toNat = i - 2 by omega, show ((i : Int) - 7).toNat = i - 7 by omega, show ((i : Int) - 15).toNat = i - 15 by omega, show ((i : Int) - 16).toNat = i - 16 by omega]
          congr 2
          ac_rfl
        generalize s1 ((wl s i).getD ((i : Int) - 2).toNat 0) + (wl s i).getD ((i : Int) - 7).toNat 0 + s0 ((wl s i).getD ((i : Int) - 15).toNat 0) + (wl s i).getD ((i : Int) - 16).toNat 0 = z at *
        refine s_push (xs := nums (wn [z])) hs rfl (by decide) rfl rfl (by unfold room; omega) (by unfold room; omega) fun w' _ hs => ?_
        rw [← nums_app, ← wn_app, hst] at hs
        repeat first
        | ((with_reducible refine vb_i (add64 ?_ ?_) ?_); (· omega); (· omega))
        exact hk (w', i + 1) _ ⟨by simp only; omega, hs⟩ (by simp only; omega)
    · obtain rfl : i = 64 := by omega
      repeat first
      | ((with_reducible refine isB_cf ?_ ?_); (· omega))
      | with_reducible refine onE_i ?_
      | with_reducible refine vb_i (lss64 _ _ _) ?_
      try simp only [evB]
      refine s_row (cs := []) hs rfl fun q _ _ hs => ?_
      have hs := Sep.as (b := .sl (.slice ⟨q, 0, 0⟩ 0 (.ex 0)) 1 0 []) hs rfl fun ho => ⟨rfl, .inr (.inl ⟨q, 0, rfl, ho⟩)⟩
      refine s_appv hs (by decide) (hs.rv hv) (by simp [nums, AVal.isCell]) (by decide) (by decide) fun v0 _ hs => ?_
      rw [List.nil_append, Nat.zero_add] at hs
      have hof : nums (wn h) = nums (wn (St.of h).list) := by
        match h, hh with
        | [_, _, _, _, _, _, _, _], _ => rfl
      rw [hof] at hs
      refine LoopP.ruleG (α := AVal × Nat) (fun a => [a.1, .int .i64 a.2]) (fun a C => a.2 ≤ 64 ∧ Sep B (fun _ => False) C [.sl a.1 1 8 (nums (wn (rounds (wl s 64) (St.of h) a.2).list)), .sl w 1 64 (nums (wn (wl s 64)))]) (fun a => 64 - a.2) (v0, 0) rfl ⟨by simp only; omega, hs⟩ ?_
      clear hs
      rintro ⟨v, n⟩ C Kn2 ⟨hn, hs⟩ hk2
      simp only at hn hs
      unfold cellaretref03_Block.L12 cellaretref03_Block.L12.b
      try simp only [evB]
      by_cases hnn : n < 64
      · have gk := wn_get (l := kk) (k := n) hnn
        have gw := wn_get (l := wl s 64) (k := n) (by rw [wl_len]; exact hnn)
        have hgo : rounds (wl s 64) (St.of h) (n + 1) = (rounds (wl s 64) (St.of h) n).go (kk.getD n 0) ((wl s 64).getD n 0) := rfl
        generalize kk.getD n 0 = k1 at *
        generalize (wl s 64).getD n 0 = w1 at *
        generalize rounds (wl s 64) (St.of h) n = st at *
        have hs0 := hs
        simp only [St.list] at hs
        repeat first
        | ((with_reducible apply vb_el0); (· exact hs.o0.view); (· rfl))
        | ((with_reducible apply vb_el0); (· exact hs.o1.view); (· exact gw))
        | ((with_reducible apply vb_el0); (· exact hs.rv hv2); (· exact gk))
        | ((with_reducible refine vb_i (v := .agg [.int .i64 6, .int .i64 11, .int .i64 25]) ?_ ?_); (· rfl))
        | ((with_reducible refine vb_i (v := .agg [.int .i64 2, .int .i64 13, .int .i64 22]) ?_ ?_); (· rfl))
        | ((with_reducible refine cb_W1 fun _ hp => ?_); replace hs := hs.quiet hp)
        | ((with_reducible refine cb_W0 fun _ hp => ?_); replace hs := hs.quiet hp)
        | ((with_reducible refine cb_addW fun _ hp => ?_); replace hs := hs.quiet hp)
        | ((with_reducible refine cb_chs fun _ hp => ?_); replace hs := hs.quiet hp)
        | ((with_reducible refine cb_maj fun _ hp => ?_); replace hs := hs.quiet hp)
        | ((with_reducible refine isB_ct ?_ ?_); (· omega))
        | with_reducible refine vb_i (lss64 _ _ _) ?_
        | ((with_reducible apply vb_addrN); (· first | exact hs.o0.view | exact hs.o1.view | exact hs.o2.view | exact hs.o3.view | exact hs.o4.view | exact hs.o5.view | exact hs.o6.view | exact hs.rv hv | exact hs.rv hv2 | exact hs.rv hv3 | exact hs.rv hv4 | exact hs.view hkv hko | assumption); (· omega))
        | ((with_reducible apply vb_addr); (· first | exact hs.o0.view | exact hs.o1.view | exact hs.o2.view | exact hs.o3.view | exact hs.o4.view | exact hs.o5.view | exact hs.o6.view | exact hs.rv hv | exact hs.rv hv2 | exact hs.rv hv3 | exact hs.rv hv4 | exact hs.view hkv hko | assumption); (· omega); (· omega))
        refine s_row (cs := nums (wn (st.go k1 w1).list)) hs rfl fun q _ _ hs => ?_
        have hs := (Sep.as (b := .sl (.slice ⟨q, 0, 0⟩ 8 (.ex 8)) 1 8 (nums (wn (st.go k1 w1).list))) hs rfl fun ho => ⟨rfl, .inr (.inl ⟨q, 0, rfl, ho⟩)⟩).f1.tail
        repeat first
        | ((with_reducible refine vb_i (add64 ?_ ?_) ?_); (· omega); (· omega))
        refine hk2 (.slice ⟨q, 0, 0⟩ 8 (.ex 8), n + 1) _ ⟨by simp only; omega, ?_⟩ (by simp only; omega)
        simp only
        rw [hgo]
        exact hs
      · obtain rfl : n = 64 := by omega
        repeat first
        | ((with_reducible refine isB_cf ?_ ?_); (· omega))
        | with_reducible refine onE_i ?_
        | with_reducible refine vb_i (lss64 _ _ _) ?_
        try simp only [evB]
        have hwk := fun i (hi : i < 8) => work_at h s hi
        generalize hrd : rounds (wl s 64) (St.of h) 64 = rd at *
        refine LoopP.ruleG (α := AVal × Nat) (fun a => [a.1, .int .i64 a.2]) (fun a C => a.2 ≤ 8 ∧ Sep B (fun _ => False) C [.sl a.1 1 a.2 (nums (wn ((work h s).take a.2))), .sl v 1 8 (nums (wn rd.list))]) (fun a => 8 - a.2) (.nils, 0) rfl ⟨by decide, s_nils (hs.f1.tail) 1⟩ ?_
        clear hs
        rintro ⟨o, i⟩ C Kn3 ⟨hi, hs⟩ hk3
        simp only at hi hs
        unfold cellaretref03_Block.L21 cellaretref03_Block.L21.b
        try simp only [evB]
        by_cases hin8 : i < 8
        · have gh := wn_get (l := h) (k := i) (by omega)
          have gr := wn_get (l := rd.list) (k := i) hin8
          repeat first
          | ((with_reducible apply vb_el0); (· exact hs.rv hv); (· exact gh))
          | ((with_reducible apply vb_el0); (· exact hs.o1.view); (· exact gr))
          | ((with_reducible refine cb_addW fun _ hp => ?_); replace hs := hs.quiet hp)
          | ((with_reducible refine isB_ct ?_ ?_); (· omega))
          | with_reducible refine vb_i (lss64 _ _ _) ?_
          | ((with_reducible apply vb_addrN); (· first | exact hs.o0.view | exact hs.o1.view | exact hs.o2.view | exact hs.o3.view | exact hs.o4.view | exact hs.o5.view | exact hs.o6.view | exact hs.rv hv | exact hs.rv hv2 | exact hs.rv hv3 | exact hs.rv hv4 | exact hs.view hkv hko | assumption); (· omega))
          refine s_push (xs := nums (wn [h.getD i 0 + rd.list.getD i 0])) hs rfl (by decide) rfl rfl (by unfold room; omega) (by unfold room; omega) fun o' _ hs => ?_
          rw [← nums_app, ← wn_app, show (work h s).take i ++ [h.getD i 0 + rd.list.getD i 0] = (work h s).take (i + 1) by rw [List.take_add_one, hwk i hin8]; rfl] at hs
          repeat first
          | ((with_reducible refine vb_i (add64 ?_ ?_) ?_); (· omega); (· omega))
          exact hk3 (o', i + 1) _ ⟨by simp only; omega, hs⟩ (by simp only; omega)
        · obtain rfl : i = 8 := by omega
          repeat first
          | ((with_reducible refine isB_cf ?_ ?_); (· omega))
          | with_reducible refine onE_i ?_
          | with_reducible refine vb_i (lss64 _ _ _) ?_
          try simp only [evB]
          rw [List.take_of_length_le (by rw [work_len]; exact Nat.le_refl _)] at hs
          exact fin_ret (rvs_v (rvs_nil _)) ⟨hs.pre fun _ x => x, hs.drop (R1 := [_])⟩)
  exact ⟨r, C, hw, k⟩
end
end Go.Sh

/- The document's sum of a text. -/
namespace Go.Sh
open Go Go.Abs

def tl8 (n i : Nat) : List UInt8 := (List.range i).reverse.map fun k => UInt8.ofNat (n / 2 ^ (8 * k))
theorem tl8_step (n i : Nat) : tl8 n (i + 1) = UInt8.ofNat (n / 2 ^ (8 * i)) :: tl8 n i := by simp [tl8, List.range_succ]
theorem tl8_all (n : Nat) : tl8 n 8 = be64 n := by simp [tl8, be64, List.range_succ]
theorem tl8_len (n i : Nat) : (tl8 n i).length = i := by simp [tl8]
theorem row_bytes {B : AHeap} {i : Nat} {l : List UInt8} (h : B[i]? = some (.cells 0 .exact (l.map ofByte))) : aBytes2Str B (.slice ⟨i, 0, 0⟩ l.length (.ex l.length)) = some (.str l) :=
  bytes_str (n := l.length) ⟨by simp, .inr ⟨i, 0, 0, _, .exact, l.map ofByte, rfl, h, fun _ => by simp, by rw [List.drop_zero, List.take_of_length_le (by simp)], Nat.le_refl _⟩⟩
section
variable {B : AHeap} {K : AVal → AHeap → Prop}
theorem s_byte {H0 : AHeap} {own : Nat → Prop} {R : List Part} {z : AVal} (hs : Sep H0 own B R) (b : UInt8) (k : ∀ C, B <+: C → Sep H0 own C R → K (.str [b]) C) :
    hb (aBuildSlice B 1 [z] 1 [(0, ofByte b)]) fun v C => vb (aBytes2Str C v) fun s => K s C := by
  refine s_row (cs := [b].map ofByte) hs rfl fun i C hp hs => ?_
  refine vb_i (row_bytes (l := [b]) hs.g0) (k C hp hs.tail)
theorem Ref.padded_spec {s : List UInt8} (hl : s.length ≤ 1099511627776) : ∃ C, S_cellaretref03_Padded [.str s] B (.str (pad s)) C ∧ B <+: C := by
  obtain ⟨r, C, h, rfl, k⟩ := cellaretref03_Padded.out (x0 := .str s) (H := B) (Q := fun r C => r = .str (pad s) ∧ B <+: C) (by
    unfold cellaretref03_Padded.w
    have hs : Sep B (fun _ => False) B [] := Sep.start B
    repeat first
    | ((with_reducible refine vb_i (mul64 ?_ ?_) ?_); (· omega); (· omega))
    | with_reducible refine vb_i (e_lenSt _) ?_
    refine s_byte hs 128 fun C _ hs => ?_
    refine vb_i (adds (by simp; omega)) ?_
    have hz : zeros s.length < 64 ∧ (s.length + 1 + zeros s.length) % 64 = 56 ∧ ∀ j, j < zeros s.length → (s.length + 1 + j) % 64 ≠ 56 := by unfold zeros; exact ⟨by omega, by omega, fun j hj => by omega⟩
    refine LoopP.ruleG (α := Nat) (fun j => [.str (s ++ 128 :: List.replicate j 0)]) (fun j C => j ≤ zeros s.length ∧ Sep B (fun _ => False) C []) (fun j => zeros s.length - j) 0 rfl ⟨Nat.zero_le _, hs⟩ ?_
    clear hs
    rintro j C Kn ⟨hj, hs⟩ hk
    unfold cellaretref03_Padded.L3 cellaretref03_Padded.L3.b
    try simp only [evB]
    have hlen : (s ++ 128 :: List.replicate j (0 : UInt8)).length = s.length + 1 + j := by simp; omega
    have hst : (s ++ 128 :: List.replicate j (0 : UInt8)) ++ [0] = s ++ 128 :: List.replicate (j + 1) 0 := by rw [List.append_assoc, List.cons_append, List.replicate_succ']
    by_cases hjn : j < zeros s.length
    · have hno := hz.2.2 j hjn
      generalize s ++ 128 :: List.replicate j (0 : UInt8) = t at *
      repeat first
      | ((with_reducible refine isB_ct ?_ ?_); (· omega))
      | with_reducible refine vb_i (neq64 _ _ _) ?_
      | ((with_reducible refine vb_i (rem64 ?_ ?_) ?_); (· omega); (· omega))
      | with_reducible refine vb_i (e_lenSt _) ?_
      refine s_byte hs 0 fun C _ hs => ?_
      refine vb_i (adds (by simp; omega)) ?_
      rw [hst]
      exact hk (j + 1) _ ⟨by omega, hs⟩ (by omega)
    · obtain rfl : j = zeros s.length := by omega
      have hpad : pad s = (s ++ 128 :: List.replicate (zeros s.length) (0 : UInt8)) ++ be64 (s.length * 8) := by simp [pad, tailB]
      rw [hpad]
      have h56 := hz.2.1
      generalize s ++ 128 :: List.replicate (zeros s.length) (0 : UInt8) = t at *
      repeat first
      | ((with_reducible refine isB_cf ?_ ?_); (· omega))
      | with_reducible refine onE_i ?_
      | with_reducible refine vb_i (neq64 _ _ _) ?_
      | ((with_reducible refine vb_i (rem64 ?_ ?_) ?_); (· omega); (· omega))
      | with_reducible refine vb_i (e_lenSt _) ?_
      try simp only [evB]
      rw [show (8 * (s.length : Int)) = (((s.length * 8) / 2 ^ (8 * 0) : Nat) : Int) by simp; omega]
      have hN : s.length * 8 ≤ 8796093022208 := by omega
      generalize s.length * 8 = N at *
      refine LoopP.ruleG (α := Nat) (fun i => [.int .i64 (N / 2 ^ (8 * i) : Nat), .str (tl8 N i), .int .i64 i]) (fun i C => i ≤ 8 ∧ Sep B (fun _ => False) C []) (fun i => 8 - i) 0 rfl ⟨by decide, hs⟩ ?_
      clear hs
      rintro i C Kn2 ⟨hi, hs⟩ hk2
      unfold cellaretref03_Padded.L7 cellaretref03_Padded.L7.b
      try simp only [evB]
      have htl := tl8_len N i
      by_cases hin : i < 8
      · have hst := tl8_step N i
        have hq : N / 2 ^ (8 * i) ≤ N := Nat.div_le_self _ _
        have hd : ((N / 2 ^ (8 * i) : Nat) : Int) / 256 = ((N / 2 ^ (8 * (i + 1)) : Nat) : Int) := by
          rw [show 8 * (i + 1) = 8 * i + 8 by omega, Nat.pow_add, ← Nat.div_div_eq_div_mul]; omega
        have hk3 := hk2 (i + 1)
        rw [hst, ← hd] at hk3
        generalize N / 2 ^ (8 * i) = q at *
        repeat first
        | ((with_reducible refine isB_ct ?_ ?_); (· omega))
        | with_reducible refine vb_i (lss64 _ _ _) ?_
        | ((with_reducible refine vb_i (rem64 ?_ ?_) ?_); (· omega); (· omega))
        refine vb_i (byte_of_int _ (by omega)) ?_
        rw [show UInt8.ofNat ((q : Int) % 256).toNat = UInt8.ofNat q by
          rw [show ((q : Int) % 256).toNat = q % 256 by omega]
          apply UInt8.toNat_inj.1
          simp]
        refine s_byte hs _ fun C _ hs => ?_
        refine vb_i (adds (by rw [htl]; simp; omega)) ?_
        repeat first
        | ((with_reducible refine vb_i (add64 ?_ ?_) ?_); (· omega); (· omega))
        | ((with_reducible refine vb_i (quo64 ?_ ?_ ?_) ?_); (· omega); (· omega); (· omega))
        exact hk3 _ ⟨by omega, hs⟩ (by omega)
      · obtain rfl : i = 8 := by omega
        repeat first
        | ((with_reducible refine isB_cf ?_ ?_); (· omega))
        | with_reducible refine onE_i ?_
        | with_reducible refine vb_i (lss64 _ _ _) ?_
        | ((with_reducible refine vb_i (adds ?_) ?_); (· first | omega | (simp only [List.length_cons, List.length_nil, List.length_append]; omega)))
        try simp only [evB]
        rw [tl8_all]
        exact fin_ret (rvs_v (rvs_nil _)) ⟨hs.pre fun _ x => x, rfl, hs.pre fun _ x => x⟩)
  exact ⟨C, h, k⟩
theorem digest_at {h : List W32} (hh : h.length = 8) {i : Nat} (hi : i < 32) : (digest h)[i]? = some (UInt8.ofNat ((h.getD (i / 4) 0).toNat / 256 ^ (3 - i % 4))) := by
  have hg : h[i / 4]? = some (h.getD (i / 4) 0) := by rw [List.getD_eq_getElem?_getD, List.getElem?_eq_getElem (by omega)]; rfl
  generalize h.getD (i / 4) 0 = w at *
  obtain ⟨L, R, h1, h2⟩ := flat_at (f := bytes4) (es := 4) (fun b => rfl) hg
  unfold digest
  rw [h1, List.append_assoc, List.getElem?_append_right (by omega), h2]
  have e : i - i / 4 * 4 = i % 4 := by omega
  rw [e]
  have h4 : i % 4 < 4 := Nat.mod_lt _ (by decide)
  match i % 4, h4 with
  | 0, _ => simp [bytes4, Nat.shiftRight_eq_div_pow]
  | 1, _ => simp [bytes4, Nat.shiftRight_eq_div_pow]
  | 2, _ => simp [bytes4, Nat.shiftRight_eq_div_pow]
  | 3, _ => simp [bytes4]
set_option maxHeartbeats 1000000 in
theorem Ref.sum_spec {s : List UInt8} (hl : s.length ≤ 1099511627776) : ∃ C, S_cellaretref03_Sum [.str s] B (.agg ((sum s).map ofByte)) C ∧ B <+: C := by
  obtain ⟨r, C, h, rfl, k⟩ := cellaretref03_Sum.out (x0 := .str s) (H := B) (Q := fun r C => r = .agg ((sum s).map ofByte) ∧ B <+: C) (by
    unfold cellaretref03_Sum.w
    have hs : Sep B (fun _ => False) B [] := Sep.start B
    refine s_alloc hs fun a1 _ _ hs => ?_
    obtain ⟨kv, C, hc, k⟩ := Ref.cons_spec
    refine cb_i _ _ hc ?_
    have hs : Sep B (fun _ => False) C [.sl kv 1 64 (nums (wn kk)), .obj a1 (.cells 0 .exact (List.replicate 32 (.int .u8 0)))] := hs.call0 (k.own_of fun _ x => x.elim)
    obtain ⟨fv, C, hc, k⟩ := Ref.first_spec
    refine cb_i _ _ hc ?_
    have hs : Sep B (fun _ => False) C [.sl fv 1 8 (nums (wn first)), .sl kv 1 64 (nums (wn kk)), .obj a1 (.cells 0 .exact (List.replicate 32 (.int .u8 0)))] := hs.call0 (k.own_of fun _ x => x.elim)
    obtain ⟨C, hc, hp⟩ := Ref.padded_spec (B := C) hl
    refine cb_i _ _ hc ?_
    have hs := hs.quiet hp
    have hpm := pad_mod s
    have hpl : (pad s).length ≤ 1099511627976 := by simp only [pad, List.length_append, tailB_len, zeros]; omega
    have hsum : sum s = digest (eat ((pad s).length / 64) first (pad s)) := rfl
    rw [hsum]
    generalize pad s = t at *
    refine LoopP.ruleG (α := Nat × AVal) (fun a => [.str (t.drop (64 * a.1)), a.2]) (fun a C => a.1 ≤ t.length / 64 ∧ Sep B (fun _ => False) C [.sl a.2 1 8 (nums (wn (eat a.1 first t))), .sl kv 1 64 (nums (wn kk)), .obj a1 (.cells 0 .exact (List.replicate 32 (.int .u8 0)))]) (fun a => t.length / 64 - a.1) (0, fv) rfl ⟨Nat.zero_le _, hs⟩ ?_
    clear hs
    rintro ⟨n, v⟩ C Kn ⟨hn, hs⟩ hk
    simp only at hn hs
    unfold cellaretref03_Sum.L4 cellaretref03_Sum.L4.b
    try simp only [evB]
    have hdl : (t.drop (64 * n)).length = t.length - 64 * n := List.length_drop
    by_cases hnn : n < t.length / 64
    · have e1 := eat_add n 1 first t
      have el := eat_len n first t rfl
      have hdd : (t.drop (64 * n)).drop 64 = t.drop (64 * (n + 1)) := by rw [List.drop_drop]; congr 1
      generalize t.drop (64 * n) = u at *
      repeat first
      | with_reducible refine vb_i (e_sliceStrTo (by omega) (by omega)) ?_
      | ((with_reducible refine isB_ct ?_ ?_); (· omega))
      | with_reducible refine vb_i (gtr64 _ _ _) ?_
      | with_reducible refine vb_i (e_lenSt _) ?_
      obtain ⟨v', D, hc, k⟩ := Ref.block_spec (s := u.take (Int.toNat 64)) hs.o0.view el (by rw [List.length_take]; simp; omega) hs.o1.view
      refine cb_i _ _ hc ?_
      have hs : Sep B (fun _ => False) D [.sl v' 1 8 (nums (wn (work (eat n first t) (u.take 64)))), .sl v 1 8 (nums (wn (eat n first t))), .sl kv 1 64 (nums (wn kk)), .obj a1 (.cells 0 .exact (List.replicate 32 (.int .u8 0)))] := hs.call0 (k.own_of fun _ x => x.elim)
      have hs := hs.f1.tail
      repeat first
      | with_reducible refine vb_i (e_sliceStrFrom (by omega) (by omega)) ?_
      refine (congrArg (fun z => Kn [.str z, v'] D) hdd).mpr ?_
      refine hk (n + 1, v') _ ⟨by simp only; omega, ?_⟩ (by simp only; omega)
      simp only
      rw [e1]; exact hs
    · obtain rfl : n = t.length / 64 := by omega
      have hdn : t.drop (64 * (t.length / 64)) = [] := List.drop_of_length_le (by omega)
      rw [hdn]
      repeat first
      | with_reducible refine onE_i ?_
      | with_reducible refine vb_i (gtr64 _ _ _) ?_
      | with_reducible refine vb_i (e_lenSt _) ?_
      | ((with_reducible refine isB_Fa ?_ ?_); (· rfl))
      | ((with_reducible refine s_alloc hs ?_); intro _ _ _ hs)
      | ((with_reducible apply vb_bld); (· first | rfl | (simp only [evF, evS]; rfl)))
      | ((with_reducible first | apply s_storeA hs | apply s_storeA hs.f1 | apply s_storeA hs.f2); (· rfl); (· first | rfl | assumption); (· first | rfl | assumption); (· first | rfl | assumption); intro _ hs)
      try simp only [evB]
      have hh := eat_len (t.length / 64) first t rfl
      generalize eat (t.length / 64) first t = h at *
      rename_i a2 _ _ _ _ _
      have hg : ∀ i, i < 32 → _ := fun i hi => digest_at hh hi
      have hdl : (digest h).length = 32 := digest_len hh
      refine LoopP.ruleG (α := Nat) (fun i => [.int .i64 i]) (fun i C => i ≤ 32 ∧ Sep B (fun _ => False) C [.obj a2 (.cells 0 .exact (((digest h).take i).map ofByte ++ List.replicate (32 - i) (.int .u8 0))), .sl v 1 8 (nums (wn h)), .sl kv 1 64 (nums (wn kk)), .obj a1 (.cells 0 .exact (List.replicate 32 (.int .u8 0)))]) (fun i => 32 - i) 0 rfl ⟨by decide, hs⟩ ?_
      clear hs
      rintro i C Kn2 ⟨hi, hs⟩ hk2
      unfold cellaretref03_Sum.L9 cellaretref03_Sum.L9.b
      try simp only [evB]
      by_cases hin : i < 32
      · have gh := wn_get (l := h) (k := ((i : Int) / 4).toNat) (by omega)
        have hgi := hg i hin
        rw [show i / 4 = ((i : Int) / 4).toNat by omega] at hgi
        repeat first
        | ((with_reducible apply vb_el0); (· exact hs.o1.view); (· exact gh))
        | ((with_reducible refine isB_ct ?_ ?_); (· omega))
        | with_reducible refine vb_i (lss64 _ _ _) ?_
        | ((with_reducible refine vb_i (quo64 ?_ ?_ ?_) ?_); (· omega); (· omega); (· omega))
        | ((with_reducible apply vb_addr); (· first | exact hs.o0.view | exact hs.o1.view | exact hs.o2.view | exact hs.o3.view | exact hs.o4.view | exact hs.o5.view | exact hs.o6.view | exact hs.rv hv | exact hs.rv hv2 | exact hs.rv hv3 | exact hs.rv hv4 | exact hs.view hkv hko | assumption); (· omega); (· omega))
        have hw := (h.getD ((i : Int) / 4).toNat 0).isLt
        generalize (h.getD ((i : Int) / 4).toNat 0).toNat = w at *
        refine LoopP.ruleG (α := Nat) (fun j => [.int .i64 (w / 256 ^ j : Nat), .int .i64 (3 - (j : Int))]) (fun j D => j ≤ 3 - i % 4 ∧ C = D) (fun j => 3 - j) 0 (by simp) ⟨Nat.zero_le _, rfl⟩ ?_
        rintro j D Kn3 ⟨hj, rfl⟩ hk3
        unfold cellaretref03_Sum.L13 cellaretref03_Sum.L13.b
        try simp only [evB]
        have hq : w / 256 ^ j ≤ w := Nat.div_le_self _ _
        by_cases hjn : j < 3 - i % 4
        · have hd : ((w / 256 ^ j : Nat) : Int) / 256 = ((w / 256 ^ (j + 1) : Nat) : Int) := by
            rw [Nat.pow_succ, ← Nat.div_div_eq_div_mul]; omega
          have hk4 := hk3 (j + 1)
          rw [← hd] at hk4
          generalize w / 256 ^ j = q at *
          repeat first
          | ((with_reducible refine isB_ct ?_ ?_); (· omega))
          | with_reducible refine vb_i (gtr64 _ _ _) ?_
          | ((with_reducible refine vb_i (sub64 ?_ ?_) ?_); (· omega); (· omega))
          | ((with_reducible refine vb_i (quo64 ?_ ?_ ?_) ?_); (· omega); (· omega); (· omega))
          | ((with_reducible refine vb_i (rem64 ?_ ?_) ?_); (· omega); (· omega))
          rw [show 3 - (j : Int) - 1 = 3 - ((j + 1 : Nat) : Int) by omega]
          exact hk4 _ ⟨by omega, rfl⟩ (by omega)
        · obtain rfl : j = 3 - i % 4 := by omega
          generalize w / 256 ^ (3 - i % 4) = q at *
          repeat first
          | ((with_reducible refine isB_cf ?_ ?_); (· omega))
          | with_reducible refine onE_i ?_
          | with_reducible refine vb_i (gtr64 _ _ _) ?_
          | ((with_reducible refine vb_i (rem64 ?_ ?_) ?_); (· omega); (· omega))
          try simp only [evB]
          skip
          refine vb_i (byte_of_int _ (by omega)) ?_
          rw [show UInt8.ofNat ((q : Int) % 256).toNat = UInt8.ofNat q by
            rw [show ((q : Int) % 256).toNat = q % 256 by omega]
            apply UInt8.toNat_inj.1
            simp]
          repeat first
          | ((with_reducible refine vb_i (e_idxAddrArr ?_ ?_) ?_); (· omega); (· omega))
          have hl1 : (((digest h).take i).map ofByte).length = i := by rw [List.length_map, List.length_take]; omega
          refine s_store1 hs rfl rfl (by rw [List.length_append, hl1, List.length_replicate]; simp; omega) fun _ hs => ?_
          have e1 : ((((digest h).take i).map ofByte) ++ List.replicate (32 - i) (AVal.int .u8 0)).set (0 + (Int.toNat (i : Int)) * 1) (ofByte (UInt8.ofNat q)) = ((digest h).take (i + 1)).map ofByte ++ List.replicate (32 - (i + 1)) (AVal.int .u8 0) := by
            rw [Int.toNat_natCast, Nat.zero_add, Nat.mul_one, List.set_append_right _ _ (by omega), hl1, Nat.sub_self, show 32 - i = (32 - (i + 1)) + 1 by omega, List.replicate_succ, List.set_cons_zero, List.take_add_one, hgi]
            simp
          simp only at hs
          rw [e1] at hs
          repeat first
          | ((with_reducible refine vb_i (add64 ?_ ?_) ?_); (· omega); (· omega))
          exact hk2 (i + 1) _ ⟨by omega, hs⟩ (by omega)
      · obtain rfl : i = 32 := by omega
        rw [Nat.sub_self, List.replicate_zero, List.append_nil, List.take_of_length_le (by omega)] at hs
        repeat first
        | ((with_reducible refine isB_cf ?_ ?_); (· omega))
        | with_reducible refine onE_i ?_
        | with_reducible refine vb_i (lss64 _ _ _) ?_
        try simp only [evB]
        refine vb_i (e_loadAll hs.g0 (by rw [List.length_map]; exact hdl)) ?_
        refine s_storeA hs.f3 rfl (by rw [List.length_map]; exact hdl) (by simp) (cells_byte _) fun _ hs => ?_
        refine fin_ret (rvs_c (e_loadAll hs.g0 (by rw [List.length_map]; exact hdl)) (rvs_nil _)) ⟨hs.pre fun _ x => x, rfl, hs.pre fun _ x => x⟩)
  exact ⟨C, h, k⟩
end
end Go.Sh

/- The laws of sums against the document's. -/
namespace Go.Sh
open Go Go.Abs

theorem U_get {l : List W32} {k : Nat} (h : k < l.length) : (l.map U)[0 + (Int.toNat (k : Int)) * 1]? = some (U (l.getD k 0)) := by
  rw [Int.toNat_natCast, Nat.zero_add, Nat.mul_one, List.getElem?_map, List.getD_eq_getElem?_getD, List.getElem?_eq_getElem h]; rfl
theorem Ref.vb_eqBytes {H : AHeap} {l k : List UInt8} {K : AVal → Prop} (h : l.length = 32) (h' : k.length = 32) (kk : K (.bool (decide (l = k)))) : vb (aEql false (.agg (List.replicate 32 .int)) H (.agg (l.map ofByte)) (.agg (k.map ofByte))) K := vb_i (e_eqBytes h h') kk
theorem law_ShaSums (s : List UInt8) (hl : s.length ≤ 1099511627776) (B : AHeap) : ∃ C, S_cellaretlaw03_ShaSums [.str s] B (.bool true) C := by
  obtain ⟨r, C, h, rfl⟩ := cellaretlaw03_ShaSums.out (x0 := .str s) (H := B) (Q := fun r C => r = .bool true) (by
    unfold cellaretlaw03_ShaSums.w
    have hs : Sep B (fun _ => False) B [] := Sep.start B
    repeat first
    | with_reducible refine vb_i (gtr64 _ _ _) ?_
    | with_reducible refine vb_i (e_lenSt _) ?_
    refine isB_c (fun h1 => ?_) (fun h1 => ?_)
    · refine cb_i (.bool true) _ ⟨rfl, rfl, rfl⟩ ?_
      exact fin_ret (rvs_v (rvs_nil _)) rfl
    refine cb_i (.bool true) _ ⟨rfl, rfl, rfl⟩ ?_
    repeat first
    | with_reducible refine isB_T ?_
    refine cb_i _ _ ⟨s, rfl, hl, rfl, rfl⟩ ?_
    obtain ⟨C, hc, hp⟩ := Ref.sum_spec (B := B) hl
    refine cb_i _ _ hc ?_
    refine Ref.vb_eqBytes (sum_len s) (sum_len s) ?_
    repeat first
    | ((with_reducible refine isB_ct ?_ ?_); (· with_reducible rfl))
    refine cb_i _ _ ⟨s, rfl, hl, rfl, rfl⟩ ?_
    obtain ⟨C, hc, hp⟩ := Ref.padded_spec (B := C) hl
    refine cb_i _ _ hc ?_
    repeat first
    | with_reducible refine vb_i (eqls _ _) ?_
    refine fin_ret (rvs_v (rvs_nil _)) ?_
    simp only [tup1, decide_true])
  exact ⟨C, h⟩
theorem law_ShaWorks (h : List W32) (hh : h.length = 8) (s : List UInt8) (B : AHeap) : ∃ C, S_cellaretlaw03_ShaWorks [.agg (h.map U), .str s] B (.bool true) C := by
  obtain ⟨r, C, hw, rfl⟩ := cellaretlaw03_ShaWorks.out (x0 := .agg (h.map U)) (x1 := .str s) (H := B) (Q := fun r C => r = .bool true) (by
    unfold cellaretlaw03_ShaWorks.w
    have hs : Sep B (fun _ => False) B [] := Sep.start B
    refine s_box hs rfl fun a1 _ _ hs => ?_
    simp only [AVal.cells] at hs
    refine vb_i (e_loadAll hs.g0 (by rw [List.length_map]; exact hh)) ?_
    by_cases h64 : s.length = 64
    · refine cb_i (.tup [.agg ((work h s).map U), .int .i64 0]) _ ⟨h, s, rfl, hh, rfl, by rw [if_pos h64]⟩ ?_
      repeat first
      | ((with_reducible refine isB_cf ?_ ?_); (· omega))
      | with_reducible refine vb_i e_ext0 ?_
      | with_reducible refine vb_i e_ext1 ?_
      | with_reducible refine vb_i (neq64 _ _ _) ?_
      | with_reducible refine vb_i (e_lenSt _) ?_
      | ((with_reducible refine s_alloc hs ?_); intro _ _ _ hs)
      | ((with_reducible first | apply s_storeA hs | apply s_storeA hs.f1 | apply s_storeA hs.f2); (· rfl); (· first | rfl | assumption); (· first | rfl | assumption); (· first | rfl | assumption); intro _ hs)
      rename_i a2 _ _ _ _
      refine LoopP.ruleG (α := AVal × Nat) (fun a => [a.1, .int .i64 a.2]) (fun a C => a.2 ≤ 8 ∧ Sep B (fun _ => False) C [.sl a.1 1 a.2 (nums (wn (h.take a.2))), .obj a2 (.cells 0 .exact ((work h s).map U)), .obj a1 (.cells 0 .exact (h.map U))]) (fun a => 8 - a.2) (.nils, 0) rfl ⟨by decide, s_nils hs 1⟩ ?_
      clear hs
      rintro ⟨w, i⟩ C Kn ⟨hi, hs⟩ hk
      simp only at hi hs
      unfold cellaretlaw03_ShaWorks.L6 cellaretlaw03_ShaWorks.L6.b
      try simp only [evB]
      by_cases hin : i < 8
      · have gu := U_get (l := h) (k := i) (by omega)
        repeat first
        | ((with_reducible apply vb_ld); (· exact hs.g2); (· exact gu))
        | with_reducible refine vb_i (int_of_U _) ?_
        | ((with_reducible refine isB_ct ?_ ?_); (· omega))
        | with_reducible refine vb_i (lss64 _ _ _) ?_
        | ((with_reducible refine vb_i (e_idxAddrArr ?_ ?_) ?_); (· omega); (· omega))
        refine s_push (xs := nums (wn [h.getD i 0])) hs rfl (by decide) rfl rfl (by unfold room; omega) (by unfold room; omega) fun w' _ hs => ?_
        rw [← nums_app, ← wn_app, show h.take i ++ [h.getD i 0] = h.take (i + 1) by rw [List.take_add_one, List.getElem?_eq_getElem (by omega), List.getD_eq_getElem?_getD, List.getElem?_eq_getElem (by omega)]; rfl] at hs
        repeat first
        | ((with_reducible refine vb_i (add64 ?_ ?_) ?_); (· omega); (· omega))
        exact hk (w', i + 1) _ ⟨by simp only; omega, hs⟩ (by simp only; omega)
      · obtain rfl : i = 8 := by omega
        rw [List.take_of_length_le (by omega)] at hs
        repeat first
        | ((with_reducible refine isB_cf ?_ ?_); (· omega))
        | with_reducible refine onE_i ?_
        | with_reducible refine vb_i (lss64 _ _ _) ?_
        try simp only [evB]
        obtain ⟨kv, C, hc, k⟩ := Ref.cons_spec
        refine cb_i _ _ hc ?_
        have hs : Sep B (fun _ => False) C [.sl kv 1 64 (nums (wn kk)), .sl w 1 8 (nums (wn h)), .obj a2 (.cells 0 .exact ((work h s).map U)), .obj a1 (.cells 0 .exact (h.map U))] := hs.call0 (k.own_of fun _ x => x.elim)
        obtain ⟨v, D, hc, k⟩ := Ref.block_spec (s := s) hs.o1.view hh h64 hs.o0.view
        refine cb_i _ _ hc ?_
        have hs : Sep B (fun _ => False) D [.sl v 1 8 (nums (wn (work h s))), .sl kv 1 64 (nums (wn kk)), .sl w 1 8 (nums (wn h)), .obj a2 (.cells 0 .exact ((work h s).map U)), .obj a1 (.cells 0 .exact (h.map U))] := hs.call0 (k.own_of fun _ x => x.elim)
        have hwl := work_len h s
        generalize work h s = q at *
        refine LoopP.ruleG (α := Nat) (fun i => [.int .i64 i]) (fun i E => i ≤ 8 ∧ D = E) (fun i => 8 - i) 0 rfl ⟨by decide, rfl⟩ ?_
        rintro i E Kn2 ⟨hi, rfl⟩ hk2
        unfold cellaretlaw03_ShaWorks.L11 cellaretlaw03_ShaWorks.L11.b
        try simp only [evB]
        by_cases hin : i < 8
        · have gu := U_get (l := q) (k := i) (by omega)
          have gq := wn_get (l := q) (k := i) (by omega)
          repeat first
          | ((with_reducible apply vb_ld); (· exact hs.g3); (· exact gu))
          | with_reducible refine vb_i (int_of_U _) ?_
          | ((with_reducible apply vb_el0); (· exact hs.o0.view); (· exact gq))
          | ((with_reducible refine isB_ct ?_ ?_); (· omega))
          | ((with_reducible refine isB_cf ?_ ?_); (· omega))
          | with_reducible refine vb_i (lss64 _ _ _) ?_
          | with_reducible refine vb_i (neq64 _ _ _) ?_
          | ((with_reducible refine vb_i (add64 ?_ ?_) ?_); (· omega); (· omega))
          | ((with_reducible refine vb_i (e_idxAddrArr ?_ ?_) ?_); (· omega); (· omega))
          | ((with_reducible apply vb_addrN); (· first | exact hs.o0.view | exact hs.o1.view | exact hs.o2.view | exact hs.o3.view | exact hs.o4.view | exact hs.o5.view | exact hs.o6.view | exact hs.rv hv | exact hs.rv hv2 | exact hs.rv hv3 | exact hs.rv hv4 | exact hs.view hkv hko | assumption); (· omega))
          exact hk2 (i + 1) _ ⟨by omega, rfl⟩ (by omega)
        · obtain rfl : i = 8 := by omega
          repeat first
          | ((with_reducible refine isB_cf ?_ ?_); (· omega))
          | with_reducible refine onE_i ?_
          | with_reducible refine vb_i (lss64 _ _ _) ?_
          try simp only [evB]
          refine cb_i (.bool true) _ ⟨rfl, rfl, rfl⟩ ?_
          repeat first
          | with_reducible refine isB_T ?_
          | with_reducible refine vb_i (eql64 _ _ _) ?_
          exact fin_ret (rvs_v (rvs_nil _)) rfl
    · refine cb_i (.tup [.agg (List.replicate 8 (.int .u32 0)), .int .i64 6]) _ ⟨h, s, rfl, hh, rfl, by rw [if_neg h64]⟩ ?_
      repeat first
      | ((with_reducible refine isB_ct ?_ ?_); (· omega))
      | with_reducible refine vb_i e_ext0 ?_
      | with_reducible refine vb_i e_ext1 ?_
      | with_reducible refine vb_i (neq64 _ _ _) ?_
      | with_reducible refine vb_i (e_lenSt _) ?_
      | ((with_reducible refine s_alloc hs ?_); intro _ _ _ hs)
      | ((with_reducible first | apply s_storeA hs | apply s_storeA hs.f1 | apply s_storeA hs.f2); (· rfl); (· first | rfl | assumption); (· first | rfl | assumption); (· first | rfl | assumption); intro _ hs)
      refine cb_i (.bool true) _ ⟨rfl, rfl, rfl⟩ ?_
      repeat first
      | with_reducible refine isB_T ?_
      | ((with_reducible apply vb_ldA); (· first | exact hs.g0 | exact hs.g1 | exact hs.g2 | exact hs.g3 | exact hs.g4 | exact hs.g5 | exact hs.g6 | exact hs.rd hg | exact hs.rd hg2 | exact hs.rd hg3 | exact hs.rd hg4 | assumption); (· rfl))
      | ((with_reducible apply vb_bld); (· first | rfl | (simp only [evF, evS]; rfl)))
      refine vb_i (v := .bool true) rfl ?_
      repeat first
      | with_reducible refine isB_T ?_
      | with_reducible refine vb_i (eql64 _ _ _) ?_
      exact fin_ret (rvs_v (rvs_nil _)) rfl)
  exact ⟨C, hw⟩
theorem law_ShaConstants (k : Int) (B : AHeap) : ∃ C, S_cellaretlaw03_ShaConstants [.int .i64 k] B (.bool true) C := by
  obtain ⟨r, C, hw, rfl⟩ := cellaretlaw03_ShaConstants.out (x0 := .int .i64 k) (H := B) (Q := fun r C => r = .bool true) (by
    unfold cellaretlaw03_ShaConstants.w
    have hs : Sep B (fun _ => False) B [] := Sep.start B
    by_cases hk : 0 ≤ k ∧ k < 64
    · refine cb_i (.tup [U (kk.getD k.toNat 0), .int .i64 0]) _ ⟨k, rfl, rfl, by rw [if_pos hk]⟩ ?_
      repeat first
      | with_reducible refine vb_i e_ext0 ?_
      | with_reducible refine vb_i e_ext1 ?_
      refine cb_i _ _ ⟨rfl, rfl, rfl⟩ ?_
      obtain ⟨fv, C, hc, kf⟩ := Ref.first_spec (B := B)
      refine cb_i _ _ hc ?_
      have hs : Sep B (fun _ => False) C [.sl fv 1 8 (nums (wn first))] := kf
      refine s_alloc hs fun a2 _ _ hs => ?_
      refine s_storeA hs rfl (by rfl) (by simp) (cells_U _) fun C hs => ?_
      refine LoopP.ruleG (α := Nat) (fun i => [.int .i64 i]) (fun i E => i ≤ 8 ∧ C = E) (fun i => 8 - i) 0 rfl ⟨by decide, rfl⟩ ?_
      rintro i E Kn2 ⟨hi, rfl⟩ hk2
      unfold cellaretlaw03_ShaConstants.L4 cellaretlaw03_ShaConstants.L4.b
      try simp only [evB]
      by_cases hin : i < 8
      · have gu := U_get (l := first) (k := i) hin
        have gq := wn_get (l := first) (k := i) hin
        refine JoinP.mk (fun e vs D => C = D ∧ e = .normal) ?_ ?_
        · repeat first
          | ((with_reducible refine isB_ct ?_ ?_); (· omega))
          | with_reducible refine vb_i (lss64 _ _ _) ?_
          | ((with_reducible apply vb_len); (· first | exact hs.o0.view | exact hs.o1.view | exact hs.o2.view | exact hs.o3.view | exact hs.o4.view | exact hs.o5.view | exact hs.o6.view | exact hs.rv hv | exact hs.rv hv2 | exact hs.rv hv3 | exact hs.rv hv4 | exact hs.view hkv hko | assumption))
          exact ⟨rfl, rfl⟩
        rintro _ _ _ ⟨rfl, rfl⟩
        generalize first.getD i 0 = q at *
        repeat first
        | ((with_reducible apply vb_ld); (· exact hs.g0); (· exact gu))
        | with_reducible refine vb_i (int_of_U _) ?_
        | ((with_reducible apply vb_el0); (· exact hs.o1.view); (· exact gq))
        | ((with_reducible refine isB_cf ?_ ?_); (· omega))
        | with_reducible refine onE_i ?_
        | ((with_reducible refine onE_s ?_ ?_); (· decide))
        | with_reducible refine vb_i (neq64 _ _ _) ?_
        | ((with_reducible refine vb_i (add64 ?_ ?_) ?_); (· omega); (· omega))
        | ((with_reducible refine vb_i (e_idxAddrArr ?_ ?_) ?_); (· omega); (· omega))
        | ((with_reducible apply vb_addrN); (· first | exact hs.o0.view | exact hs.o1.view | exact hs.o2.view | exact hs.o3.view | exact hs.o4.view | exact hs.o5.view | exact hs.o6.view | exact hs.rv hv | exact hs.rv hv2 | exact hs.rv hv3 | exact hs.rv hv4 | exact hs.view hkv hko | assumption); (· omega))
        exact hk2 (i + 1) _ ⟨by omega, rfl⟩ (by omega)
      · obtain rfl : i = 8 := by omega
        refine JoinP.mk (fun e vs D => C = D ∧ e = .exit 0) ?_ ?_
        · repeat first
          | ((with_reducible refine isB_cf ?_ ?_); (· omega))
          | with_reducible refine vb_i (lss64 _ _ _) ?_
          exact ⟨rfl, rfl⟩
        rintro _ _ _ ⟨rfl, rfl⟩
        repeat first
        | with_reducible refine onE_i ?_
        try simp only [evB]
        refine JoinP.mk (fun e vs D => C = D ∧ e = .normal) ?_ ?_
        · repeat first
          | ((with_reducible refine isB_cf ?_ ?_); (· omega))
          | with_reducible refine vb_i (lss64 _ _ _) ?_
          | with_reducible refine vb_i (gtr64 _ _ _) ?_
          exact ⟨rfl, rfl⟩
        rintro _ _ _ ⟨rfl, rfl⟩
        repeat first
        | with_reducible refine onE_i ?_
        obtain ⟨kv, C, hc, kf⟩ := Ref.cons_spec
        refine cb_i _ _ hc ?_
        have hs : Sep B (fun _ => False) C [.sl kv 1 64 (nums (wn kk)), .obj a2 (.cells 0 .exact (first.map U)), .sl fv 1 8 (nums (wn first))] := hs.call0 (kf.own_of fun _ x => x.elim)
        refine cb_i (.bool true) _ ⟨rfl, rfl, rfl⟩ ?_
        have gq := wn_get (l := kk) (k := k.toNat) (by show _ < 64; omega)
        generalize kk.getD k.toNat 0 = q at *
        repeat first
        | with_reducible refine vb_i (int_of_U _) ?_
        | ((with_reducible apply vb_el0); (· exact hs.o0.view); (· exact gq))
        | with_reducible refine isB_T ?_
        | ((with_reducible refine isB_ct ?_ ?_); (· omega))
        | with_reducible refine vb_i (eql64 _ _ _) ?_
        | ((with_reducible apply vb_addr); (· first | exact hs.o0.view | exact hs.o1.view | exact hs.o2.view | exact hs.o3.view | exact hs.o4.view | exact hs.o5.view | exact hs.o6.view | exact hs.rv hv | exact hs.rv hv2 | exact hs.rv hv3 | exact hs.rv hv4 | exact hs.view hkv hko | assumption); (· omega); (· omega))
        | ((with_reducible apply vb_len); (· first | exact hs.o0.view | exact hs.o1.view | exact hs.o2.view | exact hs.o3.view | exact hs.o4.view | exact hs.o5.view | exact hs.o6.view | exact hs.rv hv | exact hs.rv hv2 | exact hs.rv hv3 | exact hs.rv hv4 | exact hs.view hkv hko | assumption))
        refine fin_ret (rvs_v (rvs_nil _)) ?_
        simp only [tup1, decide_true]
    · refine cb_i (.tup [.int .u32 0, .int .i64 3]) _ ⟨k, rfl, rfl, by rw [if_neg hk]⟩ ?_
      repeat first
      | with_reducible refine vb_i e_ext0 ?_
      | with_reducible refine vb_i e_ext1 ?_
      refine cb_i _ _ ⟨rfl, rfl, rfl⟩ ?_
      obtain ⟨fv, C, hc, kf⟩ := Ref.first_spec (B := B)
      refine cb_i _ _ hc ?_
      have hs : Sep B (fun _ => False) C [.sl fv 1 8 (nums (wn first))] := kf
      refine s_alloc hs fun a2 _ _ hs => ?_
      refine s_storeA hs rfl (by rfl) (by simp) (cells_U _) fun C hs => ?_
      refine LoopP.ruleG (α := Nat) (fun i => [.int .i64 i]) (fun i E => i ≤ 8 ∧ C = E) (fun i => 8 - i) 0 rfl ⟨by decide, rfl⟩ ?_
      rintro i E Kn2 ⟨hi, rfl⟩ hk2
      unfold cellaretlaw03_ShaConstants.L4 cellaretlaw03_ShaConstants.L4.b
      try simp only [evB]
      by_cases hin : i < 8
      · have gu := U_get (l := first) (k := i) hin
        have gq := wn_get (l := first) (k := i) hin
        refine JoinP.mk (fun e vs D => C = D ∧ e = .normal) ?_ ?_
        · repeat first
          | ((with_reducible refine isB_ct ?_ ?_); (· omega))
          | with_reducible refine vb_i (lss64 _ _ _) ?_
          | ((with_reducible apply vb_len); (· first | exact hs.o0.view | exact hs.o1.view | exact hs.o2.view | exact hs.o3.view | exact hs.o4.view | exact hs.o5.view | exact hs.o6.view | exact hs.rv hv | exact hs.rv hv2 | exact hs.rv hv3 | exact hs.rv hv4 | exact hs.view hkv hko | assumption))
          exact ⟨rfl, rfl⟩
        rintro _ _ _ ⟨rfl, rfl⟩
        generalize first.getD i 0 = q at *
        repeat first
        | ((with_reducible apply vb_ld); (· exact hs.g0); (· exact gu))
        | with_reducible refine vb_i (int_of_U _) ?_
        | ((with_reducible apply vb_el0); (· exact hs.o1.view); (· exact gq))
        | ((with_reducible refine isB_cf ?_ ?_); (· omega))
        | with_reducible refine onE_i ?_
        | ((with_reducible refine onE_s ?_ ?_); (· decide))
        | with_reducible refine vb_i (neq64 _ _ _) ?_
        | ((with_reducible refine vb_i (add64 ?_ ?_) ?_); (· omega); (· omega))
        | ((with_reducible refine vb_i (e_idxAddrArr ?_ ?_) ?_); (· omega); (· omega))
        | ((with_reducible apply vb_addrN); (· first | exact hs.o0.view | exact hs.o1.view | exact hs.o2.view | exact hs.o3.view | exact hs.o4.view | exact hs.o5.view | exact hs.o6.view | exact hs.rv hv | exact hs.rv hv2 | exact hs.rv hv3 | exact hs.rv hv4 | exact hs.view hkv hko | assumption); (· omega))
        exact hk2 (i + 1) _ ⟨by omega, rfl⟩ (by omega)
      · obtain rfl : i = 8 := by omega
        refine JoinP.mk (fun e vs D => C = D ∧ e = .exit 0) ?_ ?_
        · repeat first
          | ((with_reducible refine isB_cf ?_ ?_); (· omega))
          | with_reducible refine vb_i (lss64 _ _ _) ?_
          exact ⟨rfl, rfl⟩
        rintro _ _ _ ⟨rfl, rfl⟩
        repeat first
        | with_reducible refine onE_i ?_
        try simp only [evB]
        refine JoinP.mk (fun e vs D => e = .ret ∧ vs = [.bool true]) ?_ ?_
        · by_cases hneg : k < 0
          · repeat first
            | ((with_reducible refine isB_ct ?_ ?_); (· omega))
            | with_reducible refine vb_i (lss64 _ _ _) ?_
            refine cb_i (.bool true) _ ⟨rfl, rfl, rfl⟩ ?_
            repeat first
            | with_reducible refine isB_T ?_
            | ((with_reducible refine isB_ct ?_ ?_); (· omega))
            | with_reducible refine vb_i (eql64 _ _ _) ?_
            exact ⟨rfl, rfl⟩
          · repeat first
            | ((with_reducible refine isB_ct ?_ ?_); (· omega))
            | ((with_reducible refine isB_cf ?_ ?_); (· omega))
            | with_reducible refine vb_i (lss64 _ _ _) ?_
            | with_reducible refine vb_i (gtr64 _ _ _) ?_
            refine cb_i (.bool true) _ ⟨rfl, rfl, rfl⟩ ?_
            repeat first
            | with_reducible refine isB_T ?_
            | ((with_reducible refine isB_ct ?_ ?_); (· omega))
            | with_reducible refine vb_i (eql64 _ _ _) ?_
            exact ⟨rfl, rfl⟩
        rintro _ _ _ ⟨rfl, rfl⟩
        repeat first
        | with_reducible refine onE_i ?_
        | ((with_reducible refine onE_s ?_ ?_); (· decide))
        try simp only [evB]
        exact fin_ret (rvs_v (rvs_nil _)) rfl)
  exact ⟨C, hw⟩
end Go.Sh
