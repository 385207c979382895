/- The functions of the package sha: a hasher's sum. -/
import Derived.Test.YtgcjchcmnlifmaaShaP5
namespace Go.Sh
open Go Go.Abs

theorem hcells_len (all : List UInt8) (rv : AVal) : (hcells all rv).length = 10 := by
  simp [hcells, eat_len _ first all rfl]
theorem hcells_8 (all : List UInt8) (rv : AVal) : (hcells all rv).getD (0 + 8) .undef = rv := by
  have := eat_len (all.length / 64) first all rfl
  simp [hcells, List.getD, this]
theorem hcells_9 (all : List UInt8) (rv : AVal) : (hcells all rv).getD (0 + 9) .undef = .int .i64 all.length := by
  have := eat_len (all.length / 64) first all rfl
  simp [hcells, List.getD, this]
theorem hcells_h (all : List UInt8) (rv : AVal) : ((hcells all rv).drop (0 + 0)).take 8 = (eat (all.length / 64) first all).map U := by
  have := eat_len (all.length / 64) first all rfl
  simp [hcells, this]

theorem sha_Hasher_Digest.ok (args : List AVal) (H : AHeap) (r : AVal) (H' : AHeap) (h : S_sha_Hasher_Digest args H r H') : ∃ x0, args = [x0] ∧ sha_Hasher_Digest.w x0 H fun r1 H1 => Weak H r1 H1 r H' := by
  rcases h with ⟨rfl, rfl, rfl⟩ | ⟨i, v, all, rv, rfl, hr, rfl, rfl⟩
  · refine ⟨_, rfl, ?_⟩
    unfold sha_Hasher_Digest.w
    simp only [ev, evH]
    refine cb_i _ _ ⟨_, rfl, by simp, rfl, rfl⟩ ?_
    have hl := sum_len []
    simp (disch := first | omega | (simp only [evS]; done) | (simp only [len_map, len_rep, hl]; done) | fail) only [ev, evH, List.getElem?_cons_zero, List.set_cons_zero]
    refine fin_ret (vs := [.agg ((sum []).map ofByte)]) ?_ (Weak.agg (map_plain (fun _ => rfl) _) (pre_app _ _))
    exact rvs_c (e_loadAll (by rw [app_get0]; rfl) (by simp [hl])) (rvs_nil _)
  · refine ⟨_, rfl, ?_⟩
    unfold sha_Hasher_Digest.w
    have hc : ∀ L, (H' ++ L)[i]? = some (.cells v .exact (hcells all rv)) := fun L => (hr.pre (pre_app H' L)).cell
    have hb : ∀ L, aBytes2Str (H' ++ L) rv = some (.str (rest all)) := fun L => bytes_str (hr.pre (pre_app H' L)).own.view
    have h10 := hcells_len all rv
    have hlen := hr.len
    simp (disch := first | omega | fail) only [ev, evH, hc, hcells_8, hcells_9, hb]
    refine cb_i _ _ ⟨all.length, rfl, by omega, rfl, rfl⟩ ?_
    have htl := tailB_len all.length
    have hz : zeros all.length = (119 - all.length % 64) % 64 := rfl
    have hrl : (rest all).length = all.length - 64 * (all.length / 64) := by simp [rest]
    have he8 := eat_len (all.length / 64) first all rfl
    simp (disch := first | omega | (simp only [evS]; done) | (simp only [len_map, len_rep, len_cons, len_nil, he8] <;> omega) | fail) only [ev, evH, x_loadN, x_ldN, hc, hcells_h, List.append_assoc, List.cons_append, List.nil_append, List.length_append, List.length_cons, List.length_nil, Nat.zero_add, Nat.add_assoc, Nat.reduceAdd, List.getElem?_cons_zero, List.getElem?_cons_succ, List.set_cons_zero, List.set_cons_succ]
    have hpa : rest all ++ tailB all.length = (pad all).drop (64 * (all.length / 64)) := by
      rw [pad, List.drop_append_of_le_length (by omega)]; rfl
    have hpe : eat (all.length / 64) first all = eat (all.length / 64) first (pad all) := (eat_app _ first all _ (by omega)).symm
    have hpm := pad_mod all
    have hpl : (pad all).length = all.length + (9 + zeros all.length) := by rw [pad, List.length_append, htl]
    rw [hpa, hpe]
    generalize hq : all.length / 64 = q at *
    generalize hp : pad all = p at *
    refine LoopP.ruleG (α := Nat) (fun _ => [])
      (fun j B => q ≤ j ∧ 64 * j ≤ p.length ∧ B = H' ++ [.cells 0 .exact (List.replicate 32 (.int .u8 0)), .cells 0 .exact [.str (p.drop (64 * j))], .cells 0 .exact ((eat j first p).map U)]) (fun j => p.length - 64 * j) q rfl ⟨Nat.le_refl _, by omega, rfl⟩ ?_
    rintro j B Kn ⟨hj1, hj2, rfl⟩ hn
    unfold sha_Hasher_Digest.L6 sha_Hasher_Digest.L6.b
    simp (disch := first | omega | (simp only [len_cons, len_nil]; omega) | fail) only [ev, evH, List.getElem?_cons_zero, List.getElem?_cons_succ, List.getD_cons_zero, List.length_drop]
    have he := eat_len j first p rfl
    refine isB_d (fun h1 => ?_) (fun h1 => ?_)
    · refine cb_i _ _ ⟨_, _, _, _, eat j first p, p.drop (64 * j), rfl, by rw [app_get]; rfl, he, by rw [app_get]; rfl, ?_, by omega, rfl, rfl⟩ ?_
      · simp; omega
      · simp only [app_set, List.set_cons_zero, List.set_cons_succ]
        refine hn (j + 1) _ ⟨by omega, by omega, ?_⟩ (by omega)
        rw [eat_succ, List.drop_drop]; rfl
    · have hjj : j = p.length / 64 := by omega
      simp (disch := first | omega | (simp only [evS]; done) | (simp only [len_map, he] <;> omega) | fail) only [ev, evH, List.getElem?_cons_zero, List.getElem?_cons_succ]
      refine cb_i _ _ ⟨_, rfl, he, rfl, rfl⟩ ?_
      have hdl := digest_len he
      simp (disch := first | omega | (simp only [evS]; done) | (simp only [len_map, len_rep, hdl] <;> omega) | fail) only [ev, evH, List.getElem?_cons_zero, List.getElem?_cons_succ, List.set_cons_zero, List.set_cons_succ]
      have hsum : sum all = digest (eat j first p) := by rw [sum, hp, hjj]
      rw [hsum]
      refine fin_ret (vs := [.agg ((digest (eat j first p)).map ofByte)]) ?_ (Weak.agg (map_plain (fun _ => rfl) _) (pre_app _ _))
      exact rvs_c (e_loadAll (by rw [app_get0]; rfl) (by simp [hdl])) (rvs_nil _)

theorem sha_Constant.ok (args : List AVal) (H : AHeap) (r : AVal) (H' : AHeap) (h : S_sha_Constant args H r H') : ∃ x0, args = [x0] ∧ sha_Constant.w x0 H fun r1 H1 => Weak H r1 H1 r H' := by
  obtain ⟨k, rfl, rfl, rfl⟩ := h
  refine ⟨_, rfl, ?_⟩
  unfold sha_Constant.w
  have hkl : kk.length = 64 := rfl
  refine cb_i _ _ ⟨rfl, rfl, rfl⟩ ?_
  simp (disch := first | omega | (simp only [evS]; done) | (simp only [len_map, len_rep, hkl] <;> omega) | fail) only [ev, evH, List.getElem?_cons_zero, List.set_cons_zero]
  refine JoinP.mk (fun e vs B => B = H' ++ [.cells 0 .exact (kk.map U)] ∧ vs = [.int .u32 0, .int .i64 (if e = .normal then 0 else 3)] ∧ ((e = .normal ∧ 0 ≤ k ∧ k < 64) ∨ (e = .ret ∧ ¬ (0 ≤ k ∧ k < 64)))) ?_ ?_
  · refine isB_d (fun h1 => ?_) (fun h1 => ?_)
    · exact ⟨rfl, rfl, .inr ⟨rfl, by omega⟩⟩
    · rw [cond_false]
      refine isB_d (fun h2 => ?_) (fun h2 => ?_)
      · exact ⟨by rfl, by rfl, .inr ⟨by rfl, by omega⟩⟩
      · exact ⟨by rfl, by rfl, .inl ⟨by rfl, by omega, by omega⟩⟩
  · rintro e vs B ⟨rfl, rfl, ⟨rfl, h1, h2⟩ | ⟨rfl, h1⟩⟩
    · rw [onE_same]
      simp (disch := first | omega | (simp only [len_map, hkl] <;> omega) | fail) only [ev, evH, List.getElem?_cons_zero, getD_map (0 : W32), Nat.zero_add, Nat.mul_one]
      rw [if_pos ⟨h1, h2⟩]
      refine fin_ret (rvs_v (rvs_v (rvs_nil _))) (Weak.cells (ren_tup (renL_cons (Ren.plain ?_) (renL_cons (Ren.plain rfl) renL_nil))) (pre_app _ _))
      rfl
    · rw [if_neg h1]
      exact fin_ret (rvs_v (rvs_v (rvs_nil _))) (Weak.cells (ren_tup (renL_cons (Ren.plain rfl) (renL_cons (Ren.plain rfl) renL_nil))) (pre_app _ _))
end Go.Sh
