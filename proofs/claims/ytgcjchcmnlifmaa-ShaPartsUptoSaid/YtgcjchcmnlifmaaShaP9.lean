/- The law of a text that is added in parts. -/
import Derived.Test.YtgcjchcmnlifmaaShaP8
import Derived.Test.YtgcjchcmnlifmaaAbs31
namespace Go.Sh
open Go Go.Abs

def S_cellaretlaw03_ShaParts : Abs.Spec := fun args H r H' => ∃ (x : AVal) (l : List (List UInt8)), args = [x] ∧ View H x 1 l.length (l.map .str) ∧ r = .bool true ∧ H' = H

theorem cellaretlaw03_ShaParts.ok (args : List AVal) (H : AHeap) (r : AVal) (H' : AHeap) (h : S_cellaretlaw03_ShaParts args H r H') : ∃ x0, args = [x0] ∧ cellaretlaw03_ShaParts.w x0 H fun r1 H1 => Weak H r1 H1 r H' := by
  obtain ⟨x, l, rfl, hv, rfl, rfl⟩ := h
  refine ⟨_, rfl, ?_⟩
  unfold cellaretlaw03_ShaParts.w
  refine cb_i _ _ ⟨rfl, rfl, rfl⟩ ?_
  refine LoopP.ruleG (α := Nat × List UInt8) (fun a => [.str a.2, .int .i64 a.1])
    (fun a B => a.1 ≤ 20 ∧ a.2.length ≤ 500 * a.1 ∧ H' <+: B ∧ ∃ rv, HRep B H'.length 0 a.2 rv) (fun a => 20 - a.1) (0, []) rfl ⟨by decide, by decide, pre_app _ _, _, HRep.new H'⟩ ?_
  rintro ⟨i, all⟩ B Kn ⟨hi, ha, hp, rv, hr⟩ hn
  simp only at hi ha hr
  unfold cellaretlaw03_ShaParts.L4 cellaretlaw03_ShaParts.L4.b
  simp only [List.getD_cons_zero, List.getD_cons_succ]
  refine JoinP.mk (fun e vs B' => B' = B ∧ ((e = .normal ∧ i < l.length ∧ i < 20) ∨ e = .exit 0)) ?_ ?_
  · simp only [lenSl_view hv, vb_some, lss64, e_pickT, e_pickF]
    refine isB_d (fun h1 => ?_) (fun h1 => ?_)
    · rw [cond_true]
      refine isB_d (fun h2 => ?_) (fun h2 => ?_)
      · rw [cond_true]; exact ⟨by trivial, .inl ⟨by trivial, by omega, by omega⟩⟩
      · rw [cond_false]; exact ⟨by trivial, .inr (by trivial)⟩
    · rw [cond_false]
      rw [isB_false, cond_false]
      exact ⟨by trivial, .inr (by trivial)⟩
  · rintro e vs B' ⟨rfl, ⟨rfl, h1, h2⟩ | rfl⟩
    · simp only [onE_same, onE_ne]
      obtain ⟨q, hq, hl⟩ := hv.at1 (k := (i : Int)) (kd := .i64) (by omega) (by omega) hp
      rw [Int.toNat_natCast, getD_str' h1] at hl
      simp only [hq, hl, vb_some, e_lenSt, gtr64]
      have step : ∀ (B2 : AHeap) (all2 : List UInt8) (rv2 : AVal), all2.length ≤ 500 * (i + 1) → H' <+: B2 → HRep B2 H'.length 0 all2 rv2 → Kn [.str all2, .int .i64 (((i + 1 : Nat) : Int))] B2 := fun B2 all2 rv2 k1 k2 k3 =>
        hn (i + 1, all2) B2 ⟨by simp only; omega, by simpa using k1, k2, rv2, k3⟩ (by simp only; omega)
      refine isB_d (fun h3 => ?_) (fun h3 => ?_)
      · rw [cond_true]
        simp (disch := first | omega | fail) only [add64, vb_some]
        exact step _ _ _ (by omega) hp hr
      · rw [cond_false]
        have hx : (l.getD i []).length ≤ 500 := by omega
        have hal : (all ++ l.getD i []).length ≤ 500 * (i + 1) := by rw [List.length_append]; omega
        simp (disch := first | omega | fail) only [adds, vb_some]
        refine cb_i _ _ (.inr ⟨_, _, _, _, _, rfl, hr, by omega, rfl, rfl⟩) ?_
        have hr2 := HRep.add (v := 0) (all := all ++ l.getD i []) (lt_of_some hr.cell) (by omega)
        have hp2 : H' <+: addH B' H'.length 0 (all ++ l.getD i []) := addH_pre hp (Nat.le_refl _)
        simp only [e_samePtr hr2.cell, vb_some, Bool.not_true]
        rw [isB_false, cond_false]
        refine cb_i _ _ (.inr ⟨_, _, _, _, rfl, hr2, rfl, rfl⟩) ?_
        refine cb_i _ _ ⟨_, rfl, by omega, rfl, rfl⟩ ?_
        refine vb_i (e_neBytes (sum_len _) (sum_len _)) ?_
        simp only [e_pickF, vb_some]
        refine isB_f (by simp) ?_
        rw [cond_false]
        simp (disch := first | omega | fail) only [add64, vb_some]
        exact step _ _ _ hal hp2 hr2
    · simp only [onE_same]
      refine cb_i _ _ ⟨rfl, rfl, rfl⟩ ?_
      simp only [ev]
      refine cb_i _ _ (.inr ⟨_, _, _, _, rfl, hr, rfl, rfl⟩) ?_
      refine cb_i _ _ ⟨_, rfl, by omega, rfl, rfl⟩ ?_
      refine vb_i (e_eqBytes (sum_len _) (sum_len _)) ?_
      refine fin_ret (rvs_v (rvs_nil _)) ?_
      rw [decide_eq_true rfl]
      exact Weak.plain rfl hp
end Go.Sh
