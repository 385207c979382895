/- The functions of the package sha: a hasher. -/
import Derived.Test.YtgcjchcmnlifmaaShaP4
namespace Go.Sh
open Go Go.Abs

theorem ren_agg {ρ σ : Nat → Nat} {n : Nat} {cs : List AVal} (h : ∀ x ∈ cs, x.plain = true) : Ren ρ σ n (.agg cs) (.agg cs) := by
  simp only [Ren]; exact ⟨cs, rfl, RenL.plain h⟩
theorem renL_cons {ρ σ : Nat → Nat} {n : Nat} {x y : AVal} {xs ys : List AVal} (h : Ren ρ σ n x y) (k : RenL ρ σ n xs ys) : RenL ρ σ n (x :: xs) (y :: ys) := by
  simp only [RenL]; exact ⟨y, ys, rfl, h, k⟩
theorem renL_nil {ρ σ : Nat → Nat} {n : Nat} : RenL ρ σ n [] [] := by simp only [RenL]
theorem ren_tup {ρ σ : Nat → Nat} {n : Nat} {xs ys : List AVal} (h : RenL ρ σ n xs ys) : Ren ρ σ n (.tup xs) (.tup ys) := by
  simp only [Ren]; exact ⟨ys, rfl, h⟩

theorem sha_New.ok (args : List AVal) (H : AHeap) (r : AVal) (H' : AHeap) (h : S_sha_New args H r H') : args = [] ∧ sha_New.w H fun r1 H1 => Weak H r1 H1 r H' := by
  obtain ⟨rfl, rfl, rfl⟩ := h
  refine ⟨rfl, ?_⟩
  unfold sha_New.w
  refine cb_i _ _ ⟨rfl, rfl, rfl⟩ ?_
  refine vb_i (v := .agg (hcells [] .nils)) rfl ?_
  refine hb_i rfl ?_
  refine fin_ret (rvs_v (rvs_nil _)) ?_
  refine Weak.block (k := H.length) (v := 0) ?_ (pre_app _ _) (Nat.le_refl _) (by rw [app_get0]; rfl) ?_
  · intro x hx
    simp only [hcells, List.mem_append] at hx
    rcases hx with hx | hx
    · exact map_plain U_plain _ x hx
    · simp only [List.mem_cons, List.not_mem_nil, or_false] at hx
      rcases hx with rfl | rfl <;> rfl
  · simp [tup1, Ren]

theorem sha_Hasher_Digest_1.ok (args : List AVal) (H : AHeap) (r : AVal) (H' : AHeap) (h : S_sha_Hasher_Digest_1 args H r H') :
    ∃ x0 x1, args = [x0, x1] ∧ sha_Hasher_Digest_1.w x0 x1 H fun r1 H1 => r1 = r ∧ H1 = H' := by
  obtain ⟨i, v, j, w, h, s, rfl, h1, hh, h2, hs, hij, rfl, rfl⟩ := h
  refine ⟨_, _, rfl, ?_⟩
  unfold sha_Hasher_Digest_1.w
  simp (disch := first | omega | (simp only [len_map, len_cons, len_nil, hh]; done) | (simp only [len_map, len_cons, len_nil] <;> omega) | fail) only [ev, evH, h1, h2, List.getD_cons_zero]
  refine cb_i _ _ ⟨_, _, rfl, hh, ?_, rfl, rfl⟩ ?_
  · simp; omega
  have hwl := work_len h (s.take (Int.toNat 64))
  have e2 : (H.set i (.cells v .exact ((work h (s.take (Int.toNat 64))).map U)))[j]? = some (.cells w .exact [.str s]) := by rw [List.getElem?_set_ne hij]; exact h2
  simp (disch := first | omega | (simp only [evS]; done) | (simp only [len_map, len_cons, len_nil, hh, hwl]; done) | (simp only [len_map, len_cons, len_nil] <;> omega) | fail) only [ev, evH, h1, e2, List.getD_cons_zero, List.set_cons_zero]
  exact fin_normal (rvs_nil _) ⟨rfl, rfl⟩

theorem sha_Pad.ok (args : List AVal) (H : AHeap) (r : AVal) (H' : AHeap) (h : S_sha_Pad args H r H') : ∃ x0, args = [x0] ∧ sha_Pad.w x0 H fun r1 H1 => Weak H r1 H1 r H' := by
  obtain ⟨s, rfl, hs, rfl, rfl⟩ := h
  refine ⟨_, rfl, ?_⟩
  unfold sha_Pad.w
  simp only [ev]
  refine cb_i _ _ ⟨s.length, rfl, hs, rfl, rfl⟩ ?_
  have hz : zeros s.length = (119 - s.length % 64) % 64 := rfl
  have htl := tailB_len s.length
  simp (disch := omega) only [ev]
  exact fin_ret (rvs_v (rvs_nil _)) (Weak.plain rfl (List.prefix_refl _))

theorem sha_Work.ok (args : List AVal) (H : AHeap) (r : AVal) (H' : AHeap) (h : S_sha_Work args H r H') : ∃ x0 x1, args = [x0, x1] ∧ sha_Work.w x0 x1 H fun r1 H1 => Weak H r1 H1 r H' := by
  obtain ⟨h, s, rfl, hh, rfl, rfl⟩ := h
  refine ⟨_, _, rfl, ?_⟩
  unfold sha_Work.w
  simp only [ev, evH, List.append_assoc, List.cons_append, List.nil_append, List.length_append, List.length_cons, List.length_nil, Nat.zero_add]
  refine isB_d (fun h1 => ?_) (fun h1 => ?_)
  · rw [if_neg (by omega)]
    simp (disch := first | omega | (simp only [len_rep]; done) | (simp only [evS]; done) | fail) only [ev, evF, evH, List.getElem?_cons_zero, List.getElem?_cons_succ, List.set_cons_zero, List.set_cons_succ]
    refine fin_ret (vs := [.agg (List.replicate 8 (.int .u32 0)), .int .i64 6]) ?_ (Weak.cells ?_ (pre_app _ _))
    · exact rvs_c (e_loadAll (by rw [app_get]; rfl) rfl) (rvs_v (rvs_nil _))
    · exact ren_tup (renL_cons (ren_agg (fun x hx => by rw [List.eq_of_mem_replicate hx]; rfl)) (renL_cons (Ren.plain rfl) renL_nil))
  · have h64 : s.length = 64 := by omega
    rw [if_pos h64]
    simp (disch := first | omega | (simp only [len_map, hh]; done) | fail) only [ev, evH, List.getElem?_cons_zero]
    refine cb_i _ _ ⟨_, _, rfl, hh, h64, rfl, rfl⟩ ?_
    have hwl := work_len h s
    simp (disch := first | omega | (simp only [evS]; done) | (simp only [len_map, len_rep, hwl]; done) | fail) only [ev, evH, List.getElem?_cons_zero, List.getElem?_cons_succ, List.set_cons_zero, List.set_cons_succ]
    refine fin_ret (vs := [.agg ((work h s).map U), .int .i64 0]) ?_ (Weak.cells ?_ (pre_app _ _))
    · exact rvs_c (e_loadAll (by rw [app_get]; rfl) rfl) (rvs_v (rvs_nil _))
    · exact ren_tup (renL_cons (ren_agg (map_plain U_plain _)) (renL_cons (Ren.plain rfl) renL_nil))
end Go.Sh
