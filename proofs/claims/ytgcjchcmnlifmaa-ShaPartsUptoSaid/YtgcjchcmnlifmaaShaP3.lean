/- The functions of the package sha: the sum. -/
import Derived.Test.YtgcjchcmnlifmaaShaP2
namespace Go.Sh
open Go Go.Abs

theorem eat_succ (k : Nat) (h : List W32) (s : List UInt8) : eat (k + 1) h s = work (eat k h s) ((s.drop (64 * k)).take 64) := by
  rw [eat_add]; rfl

theorem sha_Sum.ok (args : List AVal) (H : AHeap) (r : AVal) (H' : AHeap) (h : S_sha_Sum args H r H') : ∃ x0, args = [x0] ∧ sha_Sum.w x0 H fun r1 H1 => Weak H r1 H1 r H' := by
  obtain ⟨s, rfl, hs, rfl, rfl⟩ := h
  refine ⟨_, rfl, ?_⟩
  unfold sha_Sum.w
  have hf : first.length = 8 := rfl
  simp only [ev, evH]
  refine cb_i _ _ ⟨rfl, rfl, rfl⟩ ?_
  simp (disch := first | omega | (simp only [evS]; done) | (simp only [len_map, len_rep, hf] <;> omega) | fail) only [ev, evH, List.append_assoc, List.cons_append, List.nil_append, List.length_append, List.length_cons, List.length_nil, Nat.zero_add, Nat.add_assoc, Nat.reduceAdd, List.getElem?_cons_zero, List.getElem?_cons_succ, List.set_cons_zero, List.set_cons_succ]
  refine LoopP.ruleG (α := Nat) (fun k => [.str (s.drop (64 * k))])
    (fun k B => 64 * k ≤ s.length ∧ B = H' ++ [.cells 0 .exact (List.replicate 32 (.int .u8 0)), .cells 0 .exact ((eat k first s).map U)]) (fun k => s.length - 64 * k) 0 (by simp) ⟨by omega, rfl⟩ ?_
  rintro k B Kn ⟨hk, rfl⟩ hn
  unfold sha_Sum.L3 sha_Sum.L3.b
  simp only [List.getD_cons_zero, ev, List.length_drop]
  have he := eat_len k first s hf
  refine isB_d (fun h1 => ?_) (fun h1 => ?_)
  · simp (disch := first | omega | (simp only [evS]; done) | (simp only [len_map, len_drop, he] <;> omega) | fail) only [ev, evH, List.getElem?_cons_zero, List.getElem?_cons_succ]
    refine cb_i _ _ ⟨_, _, rfl, he, ?_, rfl, rfl⟩ ?_
    · simp; omega
    · have hwl := work_len (eat k first s) (List.take (Int.toNat 64) (List.drop (64 * k) s))
      simp (disch := first | omega | (simp only [evS]; done) | (simp only [len_map, len_drop, he, hwl] <;> omega) | fail) only [ev, evH, List.getElem?_cons_zero, List.getElem?_cons_succ, List.set_cons_zero, List.set_cons_succ]
      rw [List.drop_drop]
      refine hn (k + 1) _ ⟨by omega, ?_⟩ (by omega)
      rw [eat_succ]; rfl
  · simp only [ev]
    refine cb_i _ _ ⟨s.length, rfl, hs, rfl, rfl⟩ ?_
    have hz : zeros s.length = (119 - s.length % 64) % 64 := rfl
    have htl := tailB_len s.length
    simp (disch := first | omega | (simp only [len_drop] <;> omega) | fail) only [ev, List.getD_cons_zero]
    have hpm := pad_mod s
    have hpl : (pad s).length = s.length + (9 + zeros s.length) := by rw [pad, List.length_append, htl]
    have hpd : ∀ j, 64 * j ≤ s.length → s.drop (64 * j) ++ tailB s.length = (pad s).drop (64 * j) := fun j hj => by rw [pad, List.drop_append_of_le_length hj]
    have hpe : eat k first s = eat k first (pad s) := (eat_app k first s _ hk).symm
    rw [hpd k hk, hpe]
    generalize hp : pad s = p at *
    refine LoopP.ruleG (α := Nat) (fun j => [.str (p.drop (64 * j))])
      (fun j B => 64 * j ≤ p.length ∧ B = H' ++ [.cells 0 .exact (List.replicate 32 (.int .u8 0)), .cells 0 .exact ((eat j first p).map U)]) (fun j => p.length - 64 * j) k rfl ⟨by omega, rfl⟩ ?_
    rintro j B Kn ⟨hj, rfl⟩ hn
    unfold sha_Sum.L7 sha_Sum.L7.b
    simp only [List.getD_cons_zero, ev, List.length_drop]
    have he := eat_len j first p hf
    refine isB_d (fun h1 => ?_) (fun h1 => ?_)
    · simp (disch := first | omega | (simp only [evS]; done) | (simp only [len_map, len_drop, he] <;> omega) | fail) only [ev, evH, List.getElem?_cons_zero, List.getElem?_cons_succ]
      refine cb_i _ _ ⟨_, _, rfl, he, ?_, rfl, rfl⟩ ?_
      · simp; omega
      · have hwl := work_len (eat j first p) (List.take (Int.toNat 64) (List.drop (64 * j) p))
        simp (disch := first | omega | (simp only [evS]; done) | (simp only [len_map, len_drop, he, hwl] <;> omega) | fail) only [ev, evH, List.getElem?_cons_zero, List.getElem?_cons_succ, List.set_cons_zero, List.set_cons_succ]
        rw [List.drop_drop]
        refine hn (j + 1) _ ⟨by omega, ?_⟩ (by omega)
        rw [eat_succ]; rfl
    · have hjj : j = p.length / 64 := by omega
      simp (disch := first | omega | (simp only [evS]; done) | (simp only [len_map, he] <;> omega) | fail) only [ev, evH, List.getElem?_cons_zero, List.getElem?_cons_succ]
      refine cb_i _ _ ⟨_, rfl, he, rfl, rfl⟩ ?_
      have hdl := digest_len he
      simp (disch := first | omega | (simp only [evS]; done) | (simp only [len_map, len_rep, hdl] <;> omega) | fail) only [ev, evH, List.getElem?_cons_zero, List.getElem?_cons_succ, List.set_cons_zero, List.set_cons_succ]
      have hsum : sum s = digest (eat j first p) := by rw [sum, hp, hjj]
      rw [hsum]
      refine fin_ret (vs := [.agg ((digest (eat j first p)).map ofByte)]) ?_ (Weak.agg (map_plain (fun _ => rfl) _) (pre_app _ _))
      exact rvs_c (e_loadAll (by rw [app_get0]; rfl) (by simp [hdl])) (rvs_nil _)
end Go.Sh
