/- The functions of the package sha: digits, a hasher. -/
import Derived.Test.YtgcjchcmnlifmaaShaP3
import Derived.Test.YtgcjchcmnlifmaaShaW2
namespace Go.Sh
open Go Go.Abs

theorem hex_len (d : List UInt8) : (hex d).length = 2 * d.length := by
  induction d with
  | nil => rfl
  | cons b d ih =>
    have : hex (b :: d) = [dig (b.toNat / 16), dig (b.toNat % 16)] ++ hex d := rfl
    rw [this, List.length_append, ih, List.length_cons]
    simp; omega
theorem hex_snoc (d : List UInt8) (b : UInt8) : hex (d ++ [b]) = hex d ++ [dig (b.toNat / 16), dig (b.toNat % 16)] := by simp [hex]

/-- append(s, x, y), of one cell each -/
theorem push2 {B : AHeap} {sv x y z : AVal} {bytes n : Nat} {cs : List AVal} (h : Own B sv 1 n cs) (hx : x.sc = true) (hy : y.sc = true) (h1 : (n + 2) * bytes ≤ room) (h2 : n + 2 ≤ room)
    {K : AVal → AHeap → Prop} (k : ∀ sv' B', Own B' sv' 1 (n + 2) (cs ++ [x, y]) → Keeps B sv B' → (slId sv' = slId sv ∨ ∃ i, slId sv' = some i ∧ B.length ≤ i) → K sv' B') :
    hb (aBuildSlice B 1 [z] 2 [(0, x), (1, y)]) fun t B1 => hb (aAppendS B1 1 bytes sv t) K := by
  refine hb_i (v := .slice ⟨B.length, 0, 0⟩ 2 (.ex 2)) (H := B ++ [.cells 0 .exact [x, y]]) ?_ ?_
  · have e : fillCells 2 [z] = [z, z] := rfl
    simp (disch := first | exact hx | exact hy | (simp only [len_cons, len_nil, len_set]; omega) | fail) only [x_buildSlice, e, evF, Nat.mul_one, List.set_cons_zero, List.set_cons_succ, Nat.zero_mul, Nat.one_mul]
  · have hp : B <+: B ++ [.cells 0 .exact [x, y]] := ⟨_, rfl⟩
    refine append_view (h.pre hp) (by decide) (m := 2) (xs := [x, y]) ⟨rfl, .inr ⟨B.length, 0, 0, _, .exact, [x, y], rfl, by simp, by simp, rfl, Nat.le_refl _⟩⟩ (by simp [sc_cell hx, sc_cell hy]) h1 h2 fun sv' B' o kk hi => ?_
    refine k sv' B' o ⟨by have := kk.len; simp at this; omega, fun q hq hne => by rw [kk.get q (by simp; omega) hne, pre_get hp hq]⟩ ?_
    rcases hi with hi | hi
    · exact .inl hi
    · exact .inr ⟨_, hi, by simp⟩

theorem sha_Hex.ok (args : List AVal) (H : AHeap) (r : AVal) (H' : AHeap) (h : S_sha_Hex args H r H') : ∃ x0, args = [x0] ∧ sha_Hex.w x0 H fun r1 H1 => Weak H r1 H1 r H' := by
  obtain ⟨d, rfl, hd, rfl, rfl⟩ := h
  refine ⟨_, rfl, ?_⟩
  unfold sha_Hex.w
  simp (disch := first | omega | (simp only [len_map, hd]; done) | fail) only [ev, evH, List.getElem?_cons_zero]
  refine LoopP.ruleG (α := AVal × Nat) (fun a => [a.1, .int .i64 a.2])
    (fun a B => a.2 ≤ 32 ∧ H' <+: B ∧ (∀ i, slId a.1 = some i → H'.length ≤ i) ∧ Own B a.1 1 (2 * a.2) ((hex (d.take a.2)).map ofByte)) (fun a => 32 - a.2) (.nils, 0) rfl
    ⟨Nat.zero_le _, pre_app _ _, fun i hi => (by cases hi), Own.nils _ _⟩ ?_
  rintro ⟨sv, k⟩ B Kn ⟨hk, hp, hid, ho⟩ hn
  simp only at hk ho hid
  unfold sha_Hex.L3 sha_Hex.L3.b
  simp only [List.getD_cons_zero, List.getD_cons_succ, ev]
  refine isB_d (fun h1 => ?_) (fun h1 => ?_)
  · have hb := (d.getD k 0).toNat_lt
    have hs : aBin .shr (ofByte (d.getD k 0)) (.int .u64 4) = some (.int .u8 (((d.getD k 0).toNat / 16 : Nat) : Int)) := by
      rw [ofByte, shr_int .u8 .u64 (by omega) (by omega) (by decide)]; rfl
    have ha : aBin .and (ofByte (d.getD k 0)) (.int .u8 15) = some (.int .u8 (((d.getD k 0).toNat % 16 : Nat) : Int)) := by
      have : ∀ n : Fin 256, IntKind.wrap .u8 ((BitVec.ofInt 8 ((n.val : Nat) : Int) &&& BitVec.ofInt 8 15).toNat : Int) = ((n.val % 16 : Nat) : Int) := by decide +kernel
      exact congrArg (fun z => some (AVal.int .u8 z)) (this ⟨(d.getD k 0).toNat, hb⟩)
    simp (disch := first | omega | (simp only [evS]; done) | (simp only [len_map, len_cons, len_nil, hd] <;> omega) | fail) only [ev, evU, getD_map (0 : UInt8), Int.toNat_natCast, hs, ha]
    refine push2 ho rfl rfl (by simp only [room]; omega) (by simp only [room]; omega) fun sv' B' o kk hi => ?_
    refine hn (sv', k + 1) B' ⟨by simp only; omega, kk.pre hp hid, fun i hi' => ?_, ?_⟩ (by simp only; omega)
    · rcases hi with hi | ⟨j, hj, hj2⟩
      · exact hid i (by rw [← hi]; exact hi')
      · simp only at hi'
        rw [hj] at hi'; cases hi'
        have := hp.length_le; omega
    · simp only
      rw [List.take_succ_eq_append_getElem (by omega), hex_snoc]
      have hg : d[k] = d.getD k 0 := by simp [List.getD, show k < d.length by omega]
      rw [hg, List.map_append]
      exact o
  · have : k = 32 := by omega
    subst this
    rw [List.take_of_length_le (by omega)] at ho
    simp only [ev]
    rw [bytes_str ho.view]
    simp only [vb_some]
    exact fin_ret (rvs_v (rvs_nil _)) (Weak.plain rfl hp)
end Go.Sh
