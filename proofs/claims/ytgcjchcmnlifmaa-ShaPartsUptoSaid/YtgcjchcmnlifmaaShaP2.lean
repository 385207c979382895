/- The functions of the package sha: the tail, the digest, the sum. -/
import Derived.Test.YtgcjchcmnlifmaaShaP1
import Derived.Test.YtgcjchcmnlifmaaAbs25
namespace Go.Sh
open Go Go.Abs

theorem map_snoc {α β : Type} (f : α → β) (l : List α) (x : α) : l.map f ++ [f x] = (l ++ [x]).map f := by simp

theorem sha_tail.ok (args : List AVal) (H : AHeap) (r : AVal) (H' : AHeap) (h : S_sha_tail args H r H') : ∃ x0, args = [x0] ∧ sha_tail.w x0 H fun r1 H1 => Weak H r1 H1 r H' := by
  obtain ⟨n, rfl, hn, rfl, rfl⟩ := h
  refine ⟨_, rfl, ?_⟩
  unfold sha_tail.w
  have hz : zeros n = (119 - n % 64) % 64 := rfl
  refine hb_i (v := .slice ⟨H'.length, 0, 0⟩ 1 (.ex 1)) (H := H' ++ [.cells 0 .exact [ofByte 128]]) rfl ?_
  refine LoopP.ruleG (α := AVal × Nat) (fun a => [a.1])
    (fun a B => a.2 ≤ zeros n ∧ H' <+: B ∧ (∀ i, slId a.1 = some i → H'.length ≤ i) ∧ Own B a.1 1 (1 + a.2) (((128 : UInt8) :: List.replicate a.2 0).map ofByte)) (fun a => zeros n - a.2) (.slice ⟨H'.length, 0, 0⟩ 1 (.ex 1), 0) rfl
    ⟨Nat.zero_le _, pre_app _ _, fun i hi => by cases hi; exact Nat.le_refl _, rfl, .inr (.inl ⟨H'.length, 0, rfl, by simp⟩)⟩ ?_
  rintro ⟨sv, k⟩ B Kn ⟨hk, hp, hid, ho⟩ hnx
  simp only at hk ho hid
  unfold sha_tail.L2 sha_tail.L2.b
  simp (disch := omega) only [List.getD_cons_zero, ev, lenSl_view ho.view]
  refine isB_d (fun h1 => ?_) (fun h1 => ?_)
  · refine push1 (x := ofByte 0) ho rfl (by simp only [room]; omega) (by simp only [room]; omega) fun sv' B' o kk hi => ?_
    refine hnx (sv', k + 1) B' ⟨?_, kk.pre hp hid, fun i hi' => ?_, ?_⟩ ?_
    · simp only; omega
    · rcases hi with hi | ⟨j, hj, hj2⟩
      · exact hid i (by rw [← hi]; exact hi')
      · simp only at hi'
        rw [hj] at hi'; cases hi'
        have := hp.length_le; omega
    · rw [map_snoc] at o
      rw [List.replicate_succ']
      exact o
    · simp only; omega
  · have hk' : k = zeros n := by omega
    subst hk'
    simp (disch := omega) only [ev, List.getD_cons_zero]
    refine LoopP.ruleG (α := AVal × Nat) (fun a => [a.1, .int .i64 (56 - 8 * (a.2 : Int))])
      (fun a B => a.2 ≤ 8 ∧ H' <+: B ∧ (∀ i, slId a.1 = some i → H'.length ≤ i) ∧ Own B a.1 1 (1 + zeros n + a.2) (((128 : UInt8) :: List.replicate (zeros n) 0 ++ (be64 (n * 8)).take a.2).map ofByte)) (fun a => 8 - a.2) (sv, 0) rfl
      ⟨Nat.zero_le _, hp, hid, by simpa using ho⟩ ?_
    rintro ⟨sv, q⟩ B Kn ⟨hk, hp, hid, ho⟩ hnx
    simp only at hk ho hid
    unfold sha_tail.L6 sha_tail.L6.b
    simp (disch := omega) only [List.getD_cons_zero, List.getD_cons_succ, ev]
    refine isB_d (fun h1 => ?_) (fun h1 => ?_)
    · rw [cond_true, shr_int .u64 .i64 (by omega) (by omega) (by simp only [IntKind.bits]; omega)]
      simp only [vb_some]
      rw [byte_of_int .u64 (by exact Int.ediv_nonneg (by omega) (Int.le_of_lt (Int.pow_pos (by decide))))]
      simp only [vb_some]
      refine push1 ho rfl (by simp only [room]; omega) (by simp only [room]; omega) fun sv' B' o kk hi => ?_
      have e : (56 - 8 * (q : Int) - 8) = 56 - 8 * ((q + 1 : Nat) : Int) := by omega
      rw [e]
      refine hnx (sv', q + 1) B' ⟨by simp only; omega, kk.pre hp hid, fun i hi' => ?_, ?_⟩ (by simp only; omega)
      · rcases hi with hi | ⟨j, hj, hj2⟩
        · exact hid i (by rw [← hi]; exact hi')
        · simp only at hi'
          rw [hj] at hi'; cases hi'
          have := hp.length_le; omega
      · rw [map_snoc] at o
        have hx : (be64 (n * 8)).take (q + 1) = (be64 (n * 8)).take q ++ [UInt8.ofNat ((n : Int) * 8 / 2 ^ (56 - 8 * (q : Int)).toNat).toNat] := by
          have hq : q < (be64 (n * 8)).length := by simp [be64]; omega
          rw [List.take_succ_eq_append_getElem hq]
          congr 2
          have hc : ((n : Int) * 8) = ((n * 8 : Nat) : Int) := by omega
          have hc2 : ((2 : Int) ^ (56 - 8 * (q : Int)).toNat) = ((2 ^ (56 - 8 * q) : Nat) : Int) := by
            rw [Int.natCast_pow, show (56 - 8 * (q : Int)).toNat = 56 - 8 * q by omega]; rfl
          rw [hc, hc2, ← Int.natCast_ediv, Int.toNat_natCast]
          have : q < 8 := by omega
          match q, this with
          | 0, _ | 1, _ | 2, _ | 3, _ | 4, _ | 5, _ | 6, _ | 7, _ => rfl
        simp only
        rw [hx, ← List.append_assoc]
        exact o
    · have : q = 8 := by omega
      subst this
      simp only [cond_false, onE_same]
      have hb : (be64 (n * 8)).take 8 = be64 (n * 8) := rfl
      rw [hb] at ho
      rw [bytes_str ho.view]
      simp only [vb_some]
      exact fin_ret (rvs_v (rvs_nil _)) (Weak.plain rfl hp)

/-- The bytes so far, and noughts. -/
def dz (h : List W32) (i : Nat) : List UInt8 := digest (h.take i) ++ List.replicate (32 - 4 * i) 0
theorem digest_len4 (h : List W32) : (digest h).length = 4 * h.length := by
  induction h with
  | nil => rfl
  | cons w h ih =>
    have : digest (w :: h) = bytes4 w ++ digest h := rfl
    rw [this, List.length_append, ih, List.length_cons]
    simp [bytes4]; omega
theorem dz_len {h : List W32} (hh : h.length = 8) {i : Nat} (hi : i ≤ 8) : (dz h i).length = 32 := by simp [dz, digest_len4]; omega
theorem dz_set {h : List W32} (hh : h.length = 8) {i : Nat} (hi : i < 8) :
    ((((dz h i).set (4 * i) (UInt8.ofNat (h.getD i 0 >>> 24).toNat)).set (4 * i + 1) (UInt8.ofNat (h.getD i 0 >>> 16).toNat)).set (4 * i + 2) (UInt8.ofNat (h.getD i 0 >>> 8).toNat)).set (4 * i + 3) (UInt8.ofNat (h.getD i 0).toNat) = dz h (i + 1) := by
  have hl : (digest (h.take i)).length = 4 * i := by rw [digest_len4]; simp; omega
  have e1 : List.replicate (32 - 4 * i) (0 : UInt8) = 0 :: 0 :: 0 :: 0 :: List.replicate (32 - 4 * (i + 1)) 0 := by
    rw [show 32 - 4 * i = (32 - 4 * (i + 1)) + 1 + 1 + 1 + 1 by omega]; rfl
  have e2 : digest (h.take (i + 1)) = digest (h.take i) ++ bytes4 (h.getD i 0) := by
    rw [List.take_succ_eq_append_getElem (by omega)]
    have hi' : i < h.length := by omega
    have hg : h.getD i 0 = h[i] := by simp [List.getD, hi']
    rw [hg]
    simp only [digest, List.map_append, List.flatten_append, List.map_cons, List.map_nil, List.flatten_cons, List.flatten_nil, List.append_nil]
  simp only [dz, e1, e2]
  rw [List.set_append_right _ _ (by omega), List.set_append_right _ _ (by omega), List.set_append_right _ _ (by omega), List.set_append_right _ _ (by omega), hl]
  rw [show 4 * i - 4 * i = 0 by omega, show 4 * i + 1 - 4 * i = 1 by omega, show 4 * i + 2 - 4 * i = 2 by omega, show 4 * i + 3 - 4 * i = 3 by omega]
  simp [bytes4]
theorem map_setB (l : List UInt8) (n : Nat) (x : UInt8) : (l.map ofByte).set n (ofByte x) = (l.set n x).map ofByte := by rw [List.map_set]

theorem sha_digest.ok (args : List AVal) (H : AHeap) (r : AVal) (H' : AHeap) (h : S_sha_digest args H r H') : ∃ x0, args = [x0] ∧ sha_digest.w x0 H fun r1 H1 => Weak H r1 H1 r H' := by
  obtain ⟨h, rfl, hh, rfl, rfl⟩ := h
  refine ⟨_, rfl, ?_⟩
  unfold sha_digest.w
  simp (disch := first | omega | (simp only [len_map, hh]; done) | fail) only [ev, evH, List.append_assoc, List.cons_append, List.nil_append, List.length_append, List.length_cons, List.length_nil, Nat.zero_add, Nat.add_assoc, Nat.reduceAdd, List.getElem?_cons_zero]
  refine LoopP.ruleG (α := Nat) (fun i => [.int .i64 i])
    (fun i B => i ≤ 8 ∧ B = H' ++ [.cells 0 .exact (h.map U), .cells 0 .exact (List.replicate 32 (.int .u8 0)), .cells 0 .exact ((dz h i).map ofByte)]) (fun i => 8 - i) 0 rfl ⟨by omega, rfl⟩ ?_
  rintro i B Kn ⟨hi, rfl⟩ hn
  unfold sha_digest.L3 sha_digest.L3.b
  simp only [List.getD_cons_zero, ev]
  have hl := dz_len hh hi
  refine isB_d (fun h1 => ?_) (fun h1 => ?_)
  · simp (disch := first | omega | (simp only [evS]; done) | (simp only [len_map, len_set, hh, hl] <;> omega) | fail) only [ev, evU, evH, getD_map (0 : W32), List.getElem?_cons_zero, List.getElem?_cons_succ, List.set_cons_zero, List.set_cons_succ, map_setB]
    have hw := dz_set hh (i := i) (by omega)
    refine hn (i + 1) _ ⟨by omega, ?_⟩ (by omega)
    rw [← hw, show (0 + (4 * (i : Int)).toNat * 1) = 4 * i by omega, show (0 + (4 * (i : Int) + 1).toNat * 1) = 4 * i + 1 by omega, show (0 + (4 * (i : Int) + 2).toNat * 1) = 4 * i + 2 by omega, show (0 + (4 * (i : Int) + 3).toNat * 1) = 4 * i + 3 by omega, show (i : Int).toNat = i by omega]
    rfl
  · have : i = 8 := by omega
    subst this
    have hd : dz h 8 = digest h := by simp [dz, List.take_of_length_le (show h.length ≤ 8 by omega)]
    have hdl := digest_len hh
    rw [hd]
    simp (disch := first | omega | (simp only [evS]; done) | (simp only [len_map, len_rep, hdl] <;> omega) | fail) only [ev, evH, List.getElem?_cons_zero, List.getElem?_cons_succ, List.set_cons_zero, List.set_cons_succ]
    refine fin_ret (vs := [.agg ((digest h).map ofByte)]) ?_ (Weak.agg (map_plain (fun _ => rfl) _) (pre_app _ _))
    exact rvs_c (e_loadAll (by rw [app_get]; rfl) (by simp [hdl])) (rvs_nil _)
end Go.Sh
