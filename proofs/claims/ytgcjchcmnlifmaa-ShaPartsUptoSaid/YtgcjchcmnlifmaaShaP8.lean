/- The law of a sum's digits. -/
import Derived.Test.YtgcjchcmnlifmaaShaP7
namespace Go.Sh
open Go Go.Abs

def abcHex : List UInt8 := [98, 97, 55, 56, 49, 54, 98, 102, 56, 102, 48, 49, 99, 102, 101, 97, 52, 49, 52, 49, 52, 48, 100, 101, 53, 100, 97, 101, 50, 50, 50, 51, 98, 48, 48, 51, 54, 49, 97, 51, 57, 54, 49, 55, 55, 97, 57, 99, 98, 52, 49, 48, 102, 102, 54, 49, 102, 50, 48, 48, 49, 53, 97, 100]
theorem abc_sum : hex (sum [97, 98, 99]) = abcHex := by decide +kernel

theorem addH_pre {K H : AHeap} {i v : Nat} {all : List UInt8} (h : K <+: H) (hi : K.length ≤ i) : K <+: addH H i v all := by
  unfold addH
  split
  · exact pre_set h hi _
  · exact pre_set (pre_push h _) hi _

theorem cellaretlaw03_awake.ok (args : List AVal) (H : AHeap) (r : AVal) (H' : AHeap) (h : S_cellaretlaw03_awake args H r H') : args = [] ∧ cellaretlaw03_awake.w H fun r1 H1 => Weak H r1 H1 r H' := by
  obtain ⟨rfl, rfl, rfl⟩ := h
  refine ⟨rfl, ?_⟩
  unfold cellaretlaw03_awake.w
  have hl := sum_len [97, 98, 99]
  refine cb_i _ _ ⟨_, rfl, by simp, rfl, rfl⟩ ?_
  refine cb_i _ _ ⟨_, rfl, hl, rfl, rfl⟩ ?_
  rw [abc_sum]
  have e : aBin .eql (.str abcHex) (.str abcHex) = some (.bool true) := by rw [eqls]; simp
  refine vb_i e ?_
  rw [isB_true, cond_true]
  refine cb_i _ _ ⟨rfl, rfl, rfl⟩ ?_
  have h1 := HRep.new H'
  refine cb_i _ _ (.inr ⟨_, _, [97], [], _, rfl, h1, by simp, rfl, rfl⟩) ?_
  have h2 := HRep.add (v := 0) (all := [] ++ [97]) (lt_of_some h1.cell) (by simp)
  refine cb_i _ _ (.inr ⟨_, _, [98, 99], _, _, rfl, h2, by simp, rfl, rfl⟩) ?_
  have h3 := HRep.add (v := 0) (all := ([] ++ [97]) ++ [98, 99]) (lt_of_some h2.cell) (by simp)
  refine cb_i _ _ (.inr ⟨_, _, _, _, rfl, h3, rfl, rfl⟩) ?_
  refine cb_i _ _ ⟨_, rfl, by simp, rfl, rfl⟩ ?_
  refine vb_i (e_eqBytes (sum_len _) (sum_len _)) ?_
  rw [e_pickT, vb_some]
  refine fin_ret (rvs_v (rvs_nil _)) ?_
  have ee : decide (sum ([] ++ [97] ++ [98, 99]) = sum [97, 98, 99]) = true := decide_eq_true rfl
  rw [ee]
  exact Weak.plain rfl (addH_pre (addH_pre (pre_app _ _) (Nat.le_refl _)) (Nat.le_refl _))

theorem dig_val (n : Nat) (h : n < 16) : ((97 ≤ ((dig n).toNat : Int) ∧ ((dig n).toNat : Int) ≤ 102) ∧ ((dig n).toNat : Int) - 39 - 48 = n) ∨ (¬ (97 ≤ ((dig n).toNat : Int)) ∧ ((dig n).toNat : Int) - 48 = n) := by
  have : ∀ n : Fin 16, ((97 ≤ ((dig n.val).toNat : Int) ∧ ((dig n.val).toNat : Int) ≤ 102) ∧ ((dig n.val).toNat : Int) - 39 - 48 = n.val) ∨ (¬ (97 ≤ ((dig n.val).toNat : Int)) ∧ ((dig n.val).toNat : Int) - 48 = n.val) := by decide +kernel
  exact this ⟨n, h⟩

theorem hex_get (d : List UInt8) (i : Nat) (h : i < d.length) : (hex d).getD (2 * i) 0 = dig ((d.getD i 0).toNat / 16) ∧ (hex d).getD (2 * i + 1) 0 = dig ((d.getD i 0).toNat % 16) := by
  induction d generalizing i with
  | nil => simp at h
  | cons b d ih =>
    have e : hex (b :: d) = dig (b.toNat / 16) :: dig (b.toNat % 16) :: hex d := rfl
    cases i with
    | zero => rw [e]; exact ⟨rfl, rfl⟩
    | succ i =>
      obtain ⟨h1, h2⟩ := ih i (by simpa using h)
      rw [e, show 2 * (i + 1) = 2 * i + 1 + 1 by omega, show 2 * i + 1 + 1 + 1 = (2 * i + 1) + 1 + 1 by omega]
      simp only [List.getD_cons_succ]
      exact ⟨h1, h2⟩

theorem cellaretlaw03_ShaHex.ok (args : List AVal) (H : AHeap) (r : AVal) (H' : AHeap) (h : S_cellaretlaw03_ShaHex args H r H') : ∃ x0, args = [x0] ∧ cellaretlaw03_ShaHex.w x0 H fun r1 H1 => Weak H r1 H1 r H' := by
  obtain ⟨d, rfl, hd, rfl, rfl⟩ := h
  refine ⟨_, rfl, ?_⟩
  unfold cellaretlaw03_ShaHex.w
  simp (disch := first | omega | (simp only [len_map, hd]; done) | fail) only [ev, evH, List.getElem?_cons_zero]
  refine cb_i _ _ ⟨_, rfl, hd, rfl, rfl⟩ ?_
  have hhl : (hex d).length = 64 := by rw [hex_len, hd]
  simp (disch := first | omega | fail) only [ev, hhl]
  refine isB_f (by decide) ?_
  rw [cond_false]
  refine LoopP.ruleG (α := Nat) (fun i => [.int .i64 i]) (fun i B => i ≤ 32 ∧ B = H' ++ [.cells 0 .exact (d.map ofByte)]) (fun i => 32 - i) 0 rfl ⟨by omega, rfl⟩ ?_
  rintro i B Kn ⟨hi, rfl⟩ hn
  unfold cellaretlaw03_ShaHex.L5 cellaretlaw03_ShaHex.L5.b
  simp only [List.getD_cons_zero, ev]
  refine isB_d (fun h1 => ?_) (fun h1 => ?_)
  · rw [cond_true]
    have hb := (d.getD i 0).toNat_lt
    obtain ⟨hg1, hg2⟩ := hex_get d i (by omega)
    refine LoopP.ruleG (α := Nat) (fun k => [.int .i64 (if k = 0 then 0 else if k = 1 then (((d.getD i 0).toNat / 16 : Nat) : Int) else (d.getD i 0).toNat), .int .i64 k]) (fun k B => k ≤ 2 ∧ B = H' ++ [.cells 0 .exact (d.map ofByte)]) (fun k => 2 - k) 0 rfl ⟨by omega, rfl⟩ ?_
    rintro k B Kn2 ⟨hk, rfl⟩ hn2
    unfold cellaretlaw03_ShaHex.L9 cellaretlaw03_ShaHex.L9.b
    simp only [List.getD_cons_zero, List.getD_cons_succ, lss64, vb_some]
    refine isB_d (fun h2 => ?_) (fun h2 => ?_)
    · rw [cond_true]
      obtain ⟨q, hq, hqd⟩ : ∃ q, q < 16 ∧ (hex d).getD (2 * (i : Int) + k).toNat 0 = dig q ∧ 16 * (if k = 0 then 0 else if k = 1 then (((d.getD i 0).toNat / 16 : Nat) : Int) else (d.getD i 0).toNat) + q = (if k + 1 = 0 then 0 else if k + 1 = 1 then (((d.getD i 0).toNat / 16 : Nat) : Int) else (d.getD i 0).toNat) := by
        have : k = 0 ∨ k = 1 := by omega
        rcases this with rfl | rfl
        · refine ⟨(d.getD i 0).toNat / 16, by omega, ?_, by simp⟩
          rw [← hg1]; congr 1
        · refine ⟨(d.getD i 0).toNat % 16, by omega, ?_, ?_⟩
          · rw [← hg2]; congr 1
          · simp only [if_true]
            rw [if_neg (by decide), if_neg (by decide), if_neg (by decide)]
            omega
      obtain ⟨hqd, hsum⟩ := hqd
      have hx : ∀ x : Int, x = (if k = 0 then 0 else if k = 1 then (((d.getD i 0).toNat / 16 : Nat) : Int) else (d.getD i 0).toNat) → 0 ≤ x ∧ x ≤ 255 := by
        intro x hx; subst hx; split
        · omega
        · split <;> omega
      generalize hxe : (if k = 0 then (0 : Int) else if k = 1 then (((d.getD i 0).toNat / 16 : Nat) : Int) else (d.getD i 0).toNat) = x at *
      have hx := hx x rfl
      have hdv := dig_val q hq
      have hqb := (dig q).toNat_lt
      simp (disch := first | omega | fail) only [vb_some, mul64, add64, e_idxStr, hqd, int_of_byte]
      refine JoinP.mk (fun e vs B => B = H' ++ [.cells 0 .exact (d.map ofByte)] ∧ e = .normal ∧ vs = [.int .i64 ((q : Int) + 48)]) ?_ ?_
      · simp only [geq64, vb_some]
        refine isB_d (fun h3 => ?_) (fun h3 => ?_)
        · rw [cond_true]
          simp only [leq64, vb_some, e_pickT]
          refine isB_d (fun h4 => ?_) (fun h4 => ?_)
          · rw [cond_true]
            simp (disch := first | omega | fail) only [sub64, vb_some]
            exact ⟨by trivial, by trivial, by rw [show ((dig q).toNat : Int) - 39 = q + 48 by omega]⟩
          · exfalso; omega
        · rw [cond_false]
          simp only [e_pickF, vb_some, isB_false, cond_false]
          exact ⟨by trivial, by trivial, by rw [show ((dig q).toNat : Int) = q + 48 by omega]⟩
      · rintro e vs B ⟨rfl, rfl, rfl⟩
        rw [onE_same]
        simp only [List.getD_cons_zero]
        refine JoinP.mk (fun e vs B => B = H' ++ [.cells 0 .exact (d.map ofByte)] ∧ e = .normal) ?_ ?_
        · simp only [lss64, gtr64, vb_some]
          refine isB_f (by omega) ?_
          rw [cond_false, e_pickF, vb_some]
          refine isB_f (by omega) ?_
          exact ⟨by trivial, by trivial⟩
        · rintro e vs B ⟨rfl, rfl⟩
          rw [onE_same]
          simp (disch := first | omega | fail) only [ev]
          have := hn2 (k + 1) _ ⟨by omega, rfl⟩ (by omega)
          rw [show 16 * x + ((q : Int) + 48) - 48 = 16 * x + q by omega, hsum]
          exact this
    · have : k = 2 := by omega
      subst this
      simp (disch := first | omega | (simp only [len_map, hd] <;> omega) | fail) only [ev, evH, List.getElem?_cons_zero, List.getD_cons_zero, List.getD_cons_succ, getD_map (0 : UInt8), Nat.zero_add, Nat.mul_one, Int.toNat_natCast]
      refine isB_f (by simp) ?_
      exact hn (i + 1) _ ⟨by omega, rfl⟩ (by omega)
  · simp only [ev]
    refine cb_i _ _ ⟨rfl, rfl, rfl⟩ ?_
    simp only [ev]
    refine cb_i _ _ (.inl ⟨_, rfl, rfl, rfl⟩) ?_
    simp only [ev]
    refine cb_i _ _ (.inl ⟨rfl, rfl, rfl⟩) ?_
    refine cb_i _ _ ⟨_, rfl, by simp, rfl, rfl⟩ ?_
    refine vb_i (e_eqBytes (sum_len _) (sum_len _)) ?_
    refine fin_ret (rvs_v (rvs_nil _)) ?_
    rw [decide_eq_true rfl]
    exact Weak.plain rfl (pre_app _ _)
end Go.Sh
