/- The functions of the package sha: the block, the tail, the sum. -/
import Derived.Test.YtgcjchcmnlifmaaShaW1
import Derived.Test.YtgcjchcmnlifmaaAbs24
namespace Go.Sh
open Go Go.Abs

theorem sha_Words.ok (args : List AVal) (H : AHeap) (r : AVal) (H' : AHeap) (h : S_sha_Words args H r H') : args = [] ∧ sha_Words.w H fun r1 H1 => Weak H r1 H1 r H' := by
  obtain ⟨rfl, rfl, rfl⟩ := h
  refine ⟨rfl, ?_⟩
  unfold sha_Words.w
  refine hb_i rfl ?_
  refine vb_i (v := .agg (first.map U)) rfl ?_
  refine sb_i (e_storeAll (app_get0 _ _) (by decide) rfl rfl rfl) ?_
  rw [app_set0]
  exact fin_ret (vs := [.agg (first.map U)]) (rvs_c (e_loadAll (app_get0 _ _) rfl) (rvs_nil _)) (Weak.agg (map_plain U_plain _) (pre_app _ _))

theorem sha_constants.ok (args : List AVal) (H : AHeap) (r : AVal) (H' : AHeap) (h : S_sha_constants args H r H') : args = [] ∧ sha_constants.w H fun r1 H1 => Weak H r1 H1 r H' := by
  obtain ⟨rfl, rfl, rfl⟩ := h
  refine ⟨rfl, ?_⟩
  unfold sha_constants.w
  refine hb_i rfl ?_
  refine vb_i (v := .agg (kk.map U)) rfl ?_
  refine sb_i (e_storeAll (app_get0 _ _) (by decide) rfl rfl rfl) ?_
  rw [app_set0]
  exact fin_ret (vs := [.agg (kk.map U)]) (rvs_c (e_loadAll (app_get0 _ _) rfl) (rvs_nil _)) (Weak.agg (map_plain U_plain _) (pre_app _ _))

theorem wl_len (s : List UInt8) (n : Nat) : (wl s n).length = n := by
  induction n with
  | zero => rfl
  | succ n ih => simp [wl, ih]

/-- The words so far, and noughts. -/
def wz (s : List UInt8) (n : Nat) : List W32 := wl s n ++ List.replicate (64 - n) 0
theorem wz_len (s : List UInt8) {n : Nat} (h : n ≤ 64) : (wz s n).length = 64 := by simp [wz, wl_len]; omega
theorem wz_get (s : List UInt8) {n i : Nat} (h : i < n) : (wz s n).getD i 0 = (wl s n).getD i 0 := by
  simp [wz, List.getD, List.getElem?_append_left (show i < (wl s n).length by rw [wl_len]; exact h)]
theorem wz_set (s : List UInt8) {n : Nat} (h : n < 64) {x : W32} (hx : wl s (n + 1) = wl s n ++ [x]) : (wz s n).set n x = wz s (n + 1) := by
  simp only [wz, hx]
  rw [List.set_append_right _ _ (by rw [wl_len]; exact Nat.le_refl _), wl_len, Nat.sub_self]
  rw [show 64 - n = (64 - (n + 1)) + 1 by omega, List.replicate_succ]
  simp
theorem map_set (l : List W32) (n : Nat) (x : W32) : (l.map U).set n (U x) = (l.set n x).map U := by rw [List.map_set]

theorem sha_work.L17_ok {B : AHeap} {i5 i85 : Nat} {ws : List W32} (hw : B[i5]? = some (.cells 0 .exact (ws.map U))) (hk : B[i85]? = some (.cells 0 .exact (kk.map U))) (hl : ws.length = 64)
    (s0 : St) {K : AExit → List AVal → AHeap → Prop}
    (h : ∀ s, s = rounds ws s0 64 → K (.exit 4) [U s.a, U s.b, U s.c, U s.d, U s.e, U s.f, U s.g, U s.h] B) :
    LoopP (sha_work.L17 (.ptr ⟨i85, 0, 0⟩) (.ptr ⟨i5, 0, 0⟩)) [U s0.a, U s0.b, U s0.c, U s0.d, U s0.e, U s0.f, U s0.g, U s0.h, .int .i64 0] B K := by
  refine LoopP.ruleG (α := Nat) (fun i => let s := rounds ws s0 i; [U s.a, U s.b, U s.c, U s.d, U s.e, U s.f, U s.g, U s.h, .int .i64 i]) (fun i H => i ≤ 64 ∧ H = B) (fun i => 64 - i) 0 rfl ⟨by omega, rfl⟩ ?_
  rintro i H Kn ⟨hi, rfl⟩ hn
  unfold sha_work.L17 sha_work.L17.b
  simp only [List.getD_cons_zero, List.getD_cons_succ, ev]
  have hkk : kk.length = 64 := rfl
  refine isB_d (fun h1 => ?_) (fun h1 => ?_)
  · simp (disch := first | omega | (simp only [evS]; done) | (simp only [len_map, len_set]; omega) | fail) only [ev, evU, evH, hk, hw, getD_map (0 : W32)]
    simpa [rounds, St.go, S0, S1, maj, chs] using hn (i + 1) H ⟨by omega, rfl⟩ (by omega)
  · have : i = 64 := by omega
    subst this
    exact h _ rfl

theorem sha_work.L3_ok {H : AHeap} {A C : AObj} {s : List UInt8} (hs : s.length = 64) {K : AExit → List AVal → AHeap → Prop}
    (h : K (.exit 0) [] (H ++ [A, C, .cells 0 .exact ((wz s 16).map U)])) :
    LoopP (sha_work.L3 (.str s) (.ptr ⟨H.length + 2, 0, 0⟩)) [.int .i64 0] (H ++ [A, C, .cells 0 .exact ((wz s 0).map U)]) K := by
  refine LoopP.ruleG (α := Nat) (fun i => [.int .i64 i]) (fun i B => i ≤ 16 ∧ B = H ++ [A, C, .cells 0 .exact ((wz s i).map U)]) (fun i => 16 - i) 0 rfl ⟨by omega, rfl⟩ ?_
  rintro i B Kn ⟨hi, rfl⟩ hn
  unfold sha_work.L3 sha_work.L3.b
  simp only [List.getD_cons_zero, ev]
  refine isB_d (fun h1 => ?_) (fun h1 => ?_)
  · have hl := wz_len s (n := i) (by omega)
    simp (disch := first | omega | (simp only [evS]; done) | (simp only [len_map, len_set]; omega) | fail) only [ev, evU, evH, List.getElem?_cons_zero, List.getElem?_cons_succ, List.set_cons_zero, List.set_cons_succ, map_set]
    have hw := wz_set s (n := i) (by omega) (x := word s i) (by simp only [wl]; rw [if_pos (by omega)])
    rw [show (0 + (i : Int).toNat * 1) = i by omega, show (4 * (i : Int)).toNat = 4 * i by omega, show (4 * (i : Int) + 1).toNat = 4 * i + 1 by omega, show (4 * (i : Int) + 2).toNat = 4 * i + 2 by omega, show (4 * (i : Int) + 3).toNat = 4 * i + 3 by omega]
    exact hn (i + 1) _ ⟨by omega, by rw [← hw]; rfl⟩ (by omega)
  · have : i = 16 := by omega
    subst this
    exact h

theorem sha_work.L8_ok {H : AHeap} {A C : AObj} {s : List UInt8} {K : AExit → List AVal → AHeap → Prop}
    (h : K (.exit 2) [] (H ++ [A, C, .cells 0 .exact ((wl s 64).map U)])) :
    LoopP (sha_work.L8 (.ptr ⟨H.length + 2, 0, 0⟩)) [.int .i64 16] (H ++ [A, C, .cells 0 .exact ((wz s 16).map U)]) K := by
  refine LoopP.ruleG (α := Nat) (fun i => [.int .i64 i]) (fun i B => 16 ≤ i ∧ i ≤ 64 ∧ B = H ++ [A, C, .cells 0 .exact ((wz s i).map U)]) (fun i => 64 - i) 16 rfl ⟨by omega, by omega, rfl⟩ ?_
  rintro i B Kn ⟨h16, hi, rfl⟩ hn
  unfold sha_work.L8 sha_work.L8.b
  simp only [List.getD_cons_zero, ev]
  refine isB_d (fun h1 => ?_) (fun h1 => ?_)
  · have hl := wz_len s (n := i) (by omega)
    simp (disch := first | omega | (simp only [evS]; done) | (simp only [len_map, len_set]; omega) | fail) only [ev, evU, evH, List.getElem?_cons_zero, List.getElem?_cons_succ, List.set_cons_zero, List.set_cons_succ, getD_map (0 : W32), map_set]
    have hw := wz_set s (n := i) (by omega) (x := (wl s i).getD (i - 16) 0 + s0 ((wl s i).getD (i - 15) 0) + (wl s i).getD (i - 7) 0 + s1 ((wl s i).getD (i - 2) 0)) (by simp only [wl]; rw [if_neg (by omega)])
    rw [show (0 + (i : Int).toNat * 1) = i by omega, show (0 + ((i : Int) - 16).toNat * 1) = i - 16 by omega, show (0 + ((i : Int) - 15).toNat * 1) = i - 15 by omega, show (0 + ((i : Int) - 7).toNat * 1) = i - 7 by omega, show (0 + ((i : Int) - 2).toNat * 1) = i - 2 by omega]
    rw [wz_get s (by omega), wz_get s (by omega), wz_get s (by omega), wz_get s (by omega)]
    exact hn (i + 1) _ ⟨by omega, by omega, by rw [← hw]; rfl⟩ (by omega)
  · have : i = 64 := by omega
    subst this
    simpa [wz] using h

theorem sha_work.ok (args : List AVal) (H : AHeap) (r : AVal) (H' : AHeap) (h : S_sha_work args H r H') : ∃ x0 x1, args = [x0, x1] ∧ sha_work.w x0 x1 H fun r1 H1 => Weak H r1 H1 r H' := by
  obtain ⟨hs, s, rfl, hl, h64, rfl, rfl⟩ := h
  refine ⟨_, _, rfl, ?_⟩
  unfold sha_work.w
  simp only [evH, hb_some, List.append_assoc, List.cons_append, List.nil_append, List.length_append, List.length_cons, List.length_nil, Nat.zero_add, Nat.reduceAdd]
  have e : (List.replicate 64 (AVal.int .u32 0)) = (wz s 0).map U := rfl
  rw [e]
  refine sha_work.L3_ok h64 ?_
  rw [onE_same]
  refine sha_work.L8_ok ?_
  rw [onE_same]
  refine cb_i _ _ ⟨rfl, rfl, rfl⟩ ?_
  match hs, hl with
  | [a, b, c, d, e, f, g, z], _ =>
  have hkl : kk.length = 64 := rfl
  have hz := wz_len s (n := 0) (by omega)
  simp (disch := first | omega | (simp only [evS]; done) | (simp only [len_map, len_rep, len_cons, len_nil, hkl, hz] <;> omega) | fail) only [ev, evH, List.append_assoc, List.cons_append, List.nil_append, List.length_append, List.length_cons, List.length_nil, Nat.zero_add, Nat.add_assoc, Nat.reduceAdd, List.getElem?_cons_zero, List.getElem?_cons_succ, List.set_cons_zero, List.set_cons_succ, getD_map (0 : W32), List.map_cons, List.map_nil]
  refine sha_work.L17_ok (ws := wl s 64) ?_ ?_ (wl_len _ _) (St.of [a, b, c, d, e, f, g, z]) fun r hr => ?_
  · rw [app_get]; rfl
  · rw [app_get]; rfl
  rw [onE_same]
  simp (disch := first | omega | (simp only [evS]; done) | (simp only [len_map, len_rep, len_cons, len_nil, hkl, hz] <;> omega) | fail) only [ev, evU, evH, List.getElem?_cons_zero, List.getElem?_cons_succ, List.getD_cons_zero, List.getD_cons_succ, Nat.zero_add, Int.toNat_zero, Int.reduceToNat, Nat.reduceMul]
  have hw : (work [a, b, c, d, e, f, g, z] s).map U = [U (a + r.a), U (b + r.b), U (c + r.c), U (d + r.d), U (e + r.e), U (f + r.f), U (g + r.g), U (z + r.h)] := by
    rw [hr]; rfl
  clear hr
  have e8 : List.replicate 8 (AVal.int .u32 0) = [.int .u32 0, .int .u32 0, .int .u32 0, .int .u32 0, .int .u32 0, .int .u32 0, .int .u32 0, .int .u32 0] := rfl
  simp (disch := first | omega | (simp only [evS]; done) | (simp only [len_map, len_rep, len_cons, len_nil, len_set] <;> omega) | rfl | fail) only [e8, ev, evF, evH, List.getElem?_cons_zero, List.getElem?_cons_succ, List.set_cons_zero, List.set_cons_succ, Nat.mul_one, Nat.zero_mul, Nat.one_mul]
  rw [← hw]
  have hwl : (work [a, b, c, d, e, f, g, z] s).length = 8 := rfl
  simp (disch := first | (simp only [evS]; done) | (simp only [len_map, hwl, len_cons, len_nil] <;> omega) | fail) only [evH, sb_some, List.set_cons_zero, List.set_cons_succ]
  refine fin_ret (vs := [.agg ((work [a, b, c, d, e, f, g, z] s).map U)]) ?_ (Weak.agg (map_plain U_plain _) (pre_app _ _))
  exact rvs_c (e_loadAll (by rw [app_get]; rfl) rfl) (rvs_nil _)
end Go.Sh
