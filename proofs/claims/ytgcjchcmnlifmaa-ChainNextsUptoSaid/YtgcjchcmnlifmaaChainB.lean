/- One text of these: ChainP4, ChainP5, ChainP6, ChainQ. -/
import Derived.Test.YtgcjchcmnlifmaaChain

/- The laws of chains. -/
namespace Go.Sh
open Go Go.Abs

theorem zero32_zs : zero32 = .agg ((zs 32).map ofByte) := by simp [zero32, zs, ofByte]
theorem zs32_len : (zs 32).length = 32 := zs_len 32
theorem build_zs : aBuild (List.replicate 32 (.int .u8 0)) (fun k => some (k * 1, 1)) [] = some (.agg ((zs 32).map ofByte)) := by rw [← zero32_zs]; exact zero32_build

/-- What an oracle newly made comes to, while others work. -/
def RunN (A C : AHeap) (own : Nat → Prop) (T : List (List UInt8)) : Prop :=
  (∀ k, own k → A.length + 2 ≤ k ∧ k < C.length) ∧ ∃ mv lv, OInv (newO A) (A.length + 1) 0 A.length 0 .nils [] C mv lv T ∧ ∀ k, own k → slId lv ≠ some k
section
variable {A C : AHeap} {own : Nat → Prop} {T : List (List UInt8)}
theorem newO_len (A : AHeap) : (newO A).length = A.length + 2 := by simp [newO]
theorem RunN.start (A : AHeap) : RunN A (newO A) (fun _ => False) [] := ⟨fun _ h => h.elim, 0, .nils, OInv.refl (ORep.new A), fun _ h => h.elim⟩
theorem RunN.len (h : RunN A C own T) : A.length + 2 ≤ C.length := by
  obtain ⟨_, _, _, h1, _⟩ := h
  have := h1.len; rw [newO_len] at this; exact this
theorem RunN.push (h : RunN A C own T) (ob : AObj) : RunN A (C ++ [ob]) (fun k => own k ∨ k = C.length) T := by
  have hl := h.len
  obtain ⟨h0, mv, lv, h1, h2⟩ := h
  refine ⟨fun k hk => ?_, mv, lv, h1.pre (pre_app _ _), fun k hk e => ?_⟩
  · rcases hk with hk | hk
    · have := h0 k hk; simp; omega
    · simp; omega
  · rcases hk with hk | hk
    · exact h2 k hk e
    · have := h1.rep.slt e; omega
theorem RunN.pre (h : RunN A C own T) : A <+: C := by
  have hl := h.len
  obtain ⟨h0, mv, lv, h1, h2⟩ := h
  exact pre_of_get (by omega) fun k hk => by
    rw [h1.keep k (by rw [newO_len]; omega) (by omega) (by omega) (by simp [slId])]
    exact pre_get (pre_app _ _) hk
theorem RunN.call (h : RunN A C own T) {ss : List (List UInt8)} (hl : T.length + ss.length ≤ 1073741824) (hs : ∀ s ∈ ss, s.length ≤ 1099511627776) :
    ∃ C2, Osums C (.ptr ⟨A.length + 1, 0, 0⟩) ss C2 ∧ RunN A C2 own (keepTs T ss) ∧ C.length ≤ C2.length ∧ ∀ k, own k → C2[k]? = C[k]? := by
  obtain ⟨h0, mv, lv, h1, h2⟩ := h
  obtain ⟨C2, mv2, lv2, hO, hI, hl2, hf⟩ := h1.sums hl hs
  exact ⟨C2, hO, ⟨fun k hk => ⟨(h0 k hk).1, Nat.lt_of_lt_of_le (h0 k hk).2 hl2⟩, mv2, lv2, hI, fun k hk => (hf k (h0 k hk).2 (by rw [newO_len]; exact (h0 k hk).1) (h2 k hk)).2⟩, hl2,
    fun k hk => (hf k (h0 k hk).2 (by rw [newO_len]; exact (h0 k hk).1) (h2 k hk)).1⟩
theorem RunN.rep (h : RunN A C own T) : ∃ mv lv, ORep C (A.length + 1) 0 A.length mv lv T := by
  obtain ⟨_, mv, lv, h1, _⟩ := h
  exact ⟨mv, lv, h1.rep⟩
end

theorem full_len {s : List UInt8} {n : Nat} (h : s.length ≤ n) : (full s n).length = n := by
  unfold full; split
  · omega
  · simp [zs]; omega

theorem cellaretlaw14_next.ok (args : List AVal) (H : AHeap) (r : AVal) (H' : AHeap) (h : S_cellaretlaw14_next args H r H') : ∃ x0 x1, args = [x0, x1] ∧ cellaretlaw14_next.w x0 x1 H fun r1 H1 => Weak H r1 H1 r H' := by
  obtain ⟨x, a, l, rfl, ha, hN, rfl, h⟩ := h
  refine ⟨_, _, rfl, ?_⟩
  unfold cellaretlaw14_next.w
  have hl := hN.hl
  have hv := hN.v
  have hcl : (AVal.agg (a.map ofByte)).cells = a.map ofByte := rfl
  refine hb_i (e_box rfl) ?_
  rw [hcl]
  refine hb_i (e_alloc _ _) ?_
  have pA : H' <+: H' ++ [AObj.cells 0 .exact (a.map ofByte)] := pre_app _ _
  have gA : (H' ++ [AObj.cells 0 .exact (a.map ofByte)])[H'.length]? = some (.cells 0 .exact (a.map ofByte)) := by rw [app_get0]; rfl
  generalize H' ++ [AObj.cells 0 .exact (a.map ofByte)] = A at *
  have p0 : H' <+: A ++ [AObj.cells 0 .exact (List.replicate 32 (.int .u8 0))] := pA.trans (pre_app _ _)
  have g0 : (A ++ [AObj.cells 0 .exact (List.replicate 32 (.int .u8 0))])[H'.length]? = some (.cells 0 .exact (a.map ofByte)) := by
    rw [pre_get (pre_app _ _) (lt_of_some gA)]; exact gA
  refine JoinP.mk (fun e vs B => B = A ++ [AObj.cells 0 .exact (List.replicate 32 (.int .u8 0))] ∧ ((e = .ret ∧ vs = [.int .i64 6] ∧ ¬ good l) ∨ (e = .normal ∧ l.length ≠ 0 ∧ l.length ≤ 80))) ?_ ?_
  · repeat with_reducible first
    | refine isB_T ?_
    | refine isB_F ?_
    | (refine isB_ct ?_ ?_; (· first | omega | rfl | assumption | trivial))
    | (refine isB_cf ?_ ?_; (· first | omega | assumption))
    | refine onE_i ?_
    | (refine onE_s ?_ ?_; (· decide))
    | refine vb_i e_ext0 ?_
    | refine vb_i e_ext1 ?_
    | refine vb_i e_ext2 ?_
    | refine vb_i (lss64 _ _ _) ?_
    | refine vb_i (leq64 _ _ _) ?_
    | refine vb_i (gtr64 _ _ _) ?_
    | refine vb_i (geq64 _ _ _) ?_
    | refine vb_i (eql64 _ _ _) ?_
    | refine vb_i (neq64 _ _ _) ?_
    | refine vb_i (eqls _ _) ?_
    | refine vb_i (neqs _ _) ?_
    | (refine vb_i (add64 ?_ ?_) ?_; (· omega); (· omega))
    | (refine vb_i (sub64 ?_ ?_) ?_; (· omega); (· omega))
    | (refine vb_i (mul64 ?_ ?_) ?_; (· omega); (· omega))
    | (refine vb_i (quo64 ?_ ?_ ?_) ?_; (· omega); (· omega); (· omega))
    | (refine vb_i (rem64 ?_ ?_) ?_; (· omega); (· omega))
    | refine vb_i (e_lenSt _) ?_
    | refine vb_i (e_lenSl _ _ _) ?_
    | refine vb_i e_lenNil ?_
    | refine vb_i (lenSl_view (by assumption)) ?_
    | refine vb_i (e_ptrNil _ _) ?_
    | refine vb_i (e_ptrNilN _ _) ?_
    | refine vb_i (e_nilNil _) ?_
    | refine vb_i (e_nilNilN _) ?_
    | refine vb_i (e_pickT _ _) ?_
    | refine vb_i (e_pickF _ _) ?_
    | refine vb_i e_notd ?_
    | refine vb_i e_boolNe ?_
    | refine vb_i e_boolEq ?_
    | refine vb_i (e_not _) ?_
    | refine vb_i (e_nilCheck _) ?_
    | refine vb_i (e_fieldAddr _ _) ?_
    | refine hb_i (e_alloc _ _) ?_
    | (refine vb_i (adds ?_) ?_; (· first | omega | (simp only [List.length_cons, List.length_nil, List.length_append]; omega)))
    refine isB_c (fun h1 => ?_) (fun h1 => ?_)
    · refine vb_i zero32_build ?_
      unfold zero32
      with_reducible refine sb_i (store_new List.length_replicate List.length_replicate (cells_rep _ _ _)) ?_
      exact ⟨rfl, .inl ⟨rfl, rfl, fun hg => hg.1 (by omega)⟩⟩
    · repeat with_reducible first
      | refine isB_T ?_
      | refine isB_F ?_
      | (refine isB_ct ?_ ?_; (· first | omega | rfl | assumption | trivial))
      | (refine isB_cf ?_ ?_; (· first | omega | assumption))
      | refine onE_i ?_
      | (refine onE_s ?_ ?_; (· decide))
      | refine vb_i e_ext0 ?_
      | refine vb_i e_ext1 ?_
      | refine vb_i e_ext2 ?_
      | refine vb_i (lss64 _ _ _) ?_
      | refine vb_i (leq64 _ _ _) ?_
      | refine vb_i (gtr64 _ _ _) ?_
      | refine vb_i (geq64 _ _ _) ?_
      | refine vb_i (eql64 _ _ _) ?_
      | refine vb_i (neq64 _ _ _) ?_
      | refine vb_i (eqls _ _) ?_
      | refine vb_i (neqs _ _) ?_
      | (refine vb_i (add64 ?_ ?_) ?_; (· omega); (· omega))
      | (refine vb_i (sub64 ?_ ?_) ?_; (· omega); (· omega))
      | (refine vb_i (mul64 ?_ ?_) ?_; (· omega); (· omega))
      | (refine vb_i (quo64 ?_ ?_ ?_) ?_; (· omega); (· omega); (· omega))
      | (refine vb_i (rem64 ?_ ?_) ?_; (· omega); (· omega))
      | refine vb_i (e_lenSt _) ?_
      | refine vb_i (e_lenSl _ _ _) ?_
      | refine vb_i e_lenNil ?_
      | refine vb_i (lenSl_view (by assumption)) ?_
      | refine vb_i (e_ptrNil _ _) ?_
      | refine vb_i (e_ptrNilN _ _) ?_
      | refine vb_i (e_nilNil _) ?_
      | refine vb_i (e_nilNilN _) ?_
      | refine vb_i (e_pickT _ _) ?_
      | refine vb_i (e_pickF _ _) ?_
      | refine vb_i e_notd ?_
      | refine vb_i e_boolNe ?_
      | refine vb_i e_boolEq ?_
      | refine vb_i (e_not _) ?_
      | refine vb_i (e_nilCheck _) ?_
      | refine vb_i (e_fieldAddr _ _) ?_
      | refine hb_i (e_alloc _ _) ?_
      | (refine vb_i (adds ?_) ?_; (· first | omega | (simp only [List.length_cons, List.length_nil, List.length_append]; omega)))
      refine isB_c (fun h2 => ?_) (fun h2 => ?_)
      · refine vb_i zero32_build ?_
        unfold zero32
        with_reducible refine sb_i (store_new List.length_replicate List.length_replicate (cells_rep _ _ _)) ?_
        exact ⟨rfl, .inl ⟨rfl, rfl, fun hg => by have := hg.2.1; omega⟩⟩
      · exact ⟨rfl, .inr ⟨rfl, by omega, by omega⟩⟩
  · rintro _ vs B ⟨rfl, ⟨rfl, rfl, hb⟩ | ⟨rfl, hl0, hl80⟩⟩
    · repeat with_reducible first
      | refine isB_T ?_
      | refine isB_F ?_
      | (refine isB_ct ?_ ?_; (· first | omega | rfl | assumption | trivial))
      | (refine isB_cf ?_ ?_; (· first | omega | assumption))
      | refine onE_i ?_
      | (refine onE_s ?_ ?_; (· decide))
      | refine vb_i e_ext0 ?_
      | refine vb_i e_ext1 ?_
      | refine vb_i e_ext2 ?_
      | refine vb_i (lss64 _ _ _) ?_
      | refine vb_i (leq64 _ _ _) ?_
      | refine vb_i (gtr64 _ _ _) ?_
      | refine vb_i (geq64 _ _ _) ?_
      | refine vb_i (eql64 _ _ _) ?_
      | refine vb_i (neq64 _ _ _) ?_
      | refine vb_i (eqls _ _) ?_
      | refine vb_i (neqs _ _) ?_
      | (refine vb_i (add64 ?_ ?_) ?_; (· omega); (· omega))
      | (refine vb_i (sub64 ?_ ?_) ?_; (· omega); (· omega))
      | (refine vb_i (mul64 ?_ ?_) ?_; (· omega); (· omega))
      | (refine vb_i (quo64 ?_ ?_ ?_) ?_; (· omega); (· omega); (· omega))
      | (refine vb_i (rem64 ?_ ?_) ?_; (· omega); (· omega))
      | refine vb_i (e_lenSt _) ?_
      | refine vb_i (e_lenSl _ _ _) ?_
      | refine vb_i e_lenNil ?_
      | refine vb_i (lenSl_view (by assumption)) ?_
      | refine vb_i (e_ptrNil _ _) ?_
      | refine vb_i (e_ptrNilN _ _) ?_
      | refine vb_i (e_nilNil _) ?_
      | refine vb_i (e_nilNilN _) ?_
      | refine vb_i (e_pickT _ _) ?_
      | refine vb_i (e_pickF _ _) ?_
      | refine vb_i e_notd ?_
      | refine vb_i e_boolNe ?_
      | refine vb_i e_boolEq ?_
      | refine vb_i (e_not _) ?_
      | refine vb_i (e_nilCheck _) ?_
      | refine vb_i (e_fieldAddr _ _) ?_
      | refine hb_i (e_alloc _ _) ?_
      | (refine vb_i (adds ?_) ?_; (· first | omega | (simp only [List.length_cons, List.length_nil, List.length_append]; omega)))
      simp only [evB]
      rw [if_neg hb] at h
      subst h
      refine fin_ret (vs := [.agg (List.replicate 32 (.int .u8 0)), .int .i64 6]) (rvs_c (load_new List.length_replicate) (rvs_v (rvs_nil _))) ?_
      exact Weak.any (ren_pair (agg_plain zero32_plain) (ren_p rfl)) p0
    · repeat with_reducible first
      | refine isB_T ?_
      | refine isB_F ?_
      | (refine isB_ct ?_ ?_; (· first | omega | rfl | assumption | trivial))
      | (refine isB_cf ?_ ?_; (· first | omega | assumption))
      | refine onE_i ?_
      | (refine onE_s ?_ ?_; (· decide))
      | refine vb_i e_ext0 ?_
      | refine vb_i e_ext1 ?_
      | refine vb_i e_ext2 ?_
      | refine vb_i (lss64 _ _ _) ?_
      | refine vb_i (leq64 _ _ _) ?_
      | refine vb_i (gtr64 _ _ _) ?_
      | refine vb_i (geq64 _ _ _) ?_
      | refine vb_i (eql64 _ _ _) ?_
      | refine vb_i (neq64 _ _ _) ?_
      | refine vb_i (eqls _ _) ?_
      | refine vb_i (neqs _ _) ?_
      | (refine vb_i (add64 ?_ ?_) ?_; (· omega); (· omega))
      | (refine vb_i (sub64 ?_ ?_) ?_; (· omega); (· omega))
      | (refine vb_i (mul64 ?_ ?_) ?_; (· omega); (· omega))
      | (refine vb_i (quo64 ?_ ?_ ?_) ?_; (· omega); (· omega); (· omega))
      | (refine vb_i (rem64 ?_ ?_) ?_; (· omega); (· omega))
      | refine vb_i (e_lenSt _) ?_
      | refine vb_i (e_lenSl _ _ _) ?_
      | refine vb_i e_lenNil ?_
      | refine vb_i (lenSl_view (by assumption)) ?_
      | refine vb_i (e_ptrNil _ _) ?_
      | refine vb_i (e_ptrNilN _ _) ?_
      | refine vb_i (e_nilNil _) ?_
      | refine vb_i (e_nilNilN _) ?_
      | refine vb_i (e_pickT _ _) ?_
      | refine vb_i (e_pickF _ _) ?_
      | refine vb_i e_notd ?_
      | refine vb_i e_boolNe ?_
      | refine vb_i e_boolEq ?_
      | refine vb_i (e_not _) ?_
      | refine vb_i (e_nilCheck _) ?_
      | refine vb_i (e_fieldAddr _ _) ?_
      | refine hb_i (e_alloc _ _) ?_
      | (refine vb_i (adds ?_) ?_; (· first | omega | (simp only [List.length_cons, List.length_nil, List.length_append]; omega)))
      refine vb_i (sliceArr_all _ _ _ _) ?_
      refine vb_i (arr_str g0 ha) ?_
      refine vb_i (adds (by simp [ha])) ?_
      refine LoopP.ruleG (α := Nat) (fun i => [.str (([110, 101, 120, 116] ++ a) ++ (l.take i).flatten), .int .i64 i])
        (fun i C => i ≤ l.length ∧ (∀ k, k < i → (l.getD k []).length = 64) ∧ C = A ++ [AObj.cells 0 .exact (List.replicate 32 (.int .u8 0))]) (fun i => l.length - i) 0 (by simp) ⟨Nat.zero_le _, fun k hk => by omega, rfl⟩ ?_
      rintro i C Kn ⟨hi, h64, rfl⟩ hn
      unfold cellaretlaw14_next.L5 cellaretlaw14_next.L5.b
      simp only [evB]
      by_cases hil : i < l.length
      · obtain ⟨q, q1, q2⟩ := strs_at hv hil p0
        have hsm := getD_mem hil
        have hsl := hN.hs _ hsm
        repeat with_reducible first
        | refine isB_T ?_
        | refine isB_F ?_
        | (refine isB_ct ?_ ?_; (· first | omega | rfl | assumption | trivial))
        | (refine isB_cf ?_ ?_; (· first | omega | assumption))
        | refine onE_i ?_
        | (refine onE_s ?_ ?_; (· decide))
        | refine vb_i e_ext0 ?_
        | refine vb_i e_ext1 ?_
        | refine vb_i e_ext2 ?_
        | refine vb_i (lss64 _ _ _) ?_
        | refine vb_i (leq64 _ _ _) ?_
        | refine vb_i (gtr64 _ _ _) ?_
        | refine vb_i (geq64 _ _ _) ?_
        | refine vb_i (eql64 _ _ _) ?_
        | refine vb_i (neq64 _ _ _) ?_
        | refine vb_i (eqls _ _) ?_
        | refine vb_i (neqs _ _) ?_
        | (refine vb_i (add64 ?_ ?_) ?_; (· omega); (· omega))
        | (refine vb_i (sub64 ?_ ?_) ?_; (· omega); (· omega))
        | (refine vb_i (mul64 ?_ ?_) ?_; (· omega); (· omega))
        | (refine vb_i (quo64 ?_ ?_ ?_) ?_; (· omega); (· omega); (· omega))
        | (refine vb_i (rem64 ?_ ?_) ?_; (· omega); (· omega))
        | refine vb_i (e_lenSt _) ?_
        | refine vb_i (e_lenSl _ _ _) ?_
        | refine vb_i e_lenNil ?_
        | refine vb_i (lenSl_view (by assumption)) ?_
        | refine vb_i (e_ptrNil _ _) ?_
        | refine vb_i (e_ptrNilN _ _) ?_
        | refine vb_i (e_nilNil _) ?_
        | refine vb_i (e_nilNilN _) ?_
        | refine vb_i (e_pickT _ _) ?_
        | refine vb_i (e_pickF _ _) ?_
        | refine vb_i e_notd ?_
        | refine vb_i e_boolNe ?_
        | refine vb_i e_boolEq ?_
        | refine vb_i (e_not _) ?_
        | refine vb_i (e_nilCheck _) ?_
        | refine vb_i (e_fieldAddr _ _) ?_
        | refine hb_i (e_alloc _ _) ?_
        | (refine vb_i (adds ?_) ?_; (· first | omega | (simp only [List.length_cons, List.length_nil, List.length_append]; omega)))
        refine vb_i q1 (vb_i q2 ?_)
        by_cases hs : (l.getD i []).length = 64
        · repeat with_reducible first
          | refine isB_T ?_
          | refine isB_F ?_
          | (refine isB_ct ?_ ?_; (· first | omega | rfl | assumption | trivial))
          | (refine isB_cf ?_ ?_; (· first | omega | assumption))
          | refine onE_i ?_
          | (refine onE_s ?_ ?_; (· decide))
          | refine vb_i e_ext0 ?_
          | refine vb_i e_ext1 ?_
          | refine vb_i e_ext2 ?_
          | refine vb_i (lss64 _ _ _) ?_
          | refine vb_i (leq64 _ _ _) ?_
          | refine vb_i (gtr64 _ _ _) ?_
          | refine vb_i (geq64 _ _ _) ?_
          | refine vb_i (eql64 _ _ _) ?_
          | refine vb_i (neq64 _ _ _) ?_
          | refine vb_i (eqls _ _) ?_
          | refine vb_i (neqs _ _) ?_
          | (refine vb_i (add64 ?_ ?_) ?_; (· omega); (· omega))
          | (refine vb_i (sub64 ?_ ?_) ?_; (· omega); (· omega))
          | (refine vb_i (mul64 ?_ ?_) ?_; (· omega); (· omega))
          | (refine vb_i (quo64 ?_ ?_ ?_) ?_; (· omega); (· omega); (· omega))
          | (refine vb_i (rem64 ?_ ?_) ?_; (· omega); (· omega))
          | refine vb_i (e_lenSt _) ?_
          | refine vb_i (e_lenSl _ _ _) ?_
          | refine vb_i e_lenNil ?_
          | refine vb_i (lenSl_view (by assumption)) ?_
          | refine vb_i (e_ptrNil _ _) ?_
          | refine vb_i (e_ptrNilN _ _) ?_
          | refine vb_i (e_nilNil _) ?_
          | refine vb_i (e_nilNilN _) ?_
          | refine vb_i (e_pickT _ _) ?_
          | refine vb_i (e_pickF _ _) ?_
          | refine vb_i e_notd ?_
          | refine vb_i e_boolNe ?_
          | refine vb_i e_boolEq ?_
          | refine vb_i (e_not _) ?_
          | refine vb_i (e_nilCheck _) ?_
          | refine vb_i (e_fieldAddr _ _) ?_
          | refine hb_i (e_alloc _ _) ?_
          | (refine vb_i (adds ?_) ?_; (· first | omega | (simp only [List.length_cons, List.length_nil, List.length_append]; omega)))
          refine vb_i q1 (vb_i q2 ?_)
          have hfl : (l.take i).flatten.length = 64 * i := by
            have := flat_len (l := l.take i) fun s hs => by
              obtain ⟨k, hk, rfl⟩ := List.getElem_of_mem hs
              have := h64 k (by simp at hk; omega)
              rw [List.getD_eq_getElem?_getD, List.getElem?_eq_getElem (by simp at hk; omega)] at this
              simpa using this
            rw [this, List.length_take]; omega
          refine vb_i (adds (by simp only [List.length_append, hfl, hs, ha, List.length_cons, List.length_nil]; omega)) ?_
          repeat with_reducible first
          | refine isB_T ?_
          | refine isB_F ?_
          | (refine isB_ct ?_ ?_; (· first | omega | rfl | assumption | trivial))
          | (refine isB_cf ?_ ?_; (· first | omega | assumption))
          | refine onE_i ?_
          | (refine onE_s ?_ ?_; (· decide))
          | refine vb_i e_ext0 ?_
          | refine vb_i e_ext1 ?_
          | refine vb_i e_ext2 ?_
          | refine vb_i (lss64 _ _ _) ?_
          | refine vb_i (leq64 _ _ _) ?_
          | refine vb_i (gtr64 _ _ _) ?_
          | refine vb_i (geq64 _ _ _) ?_
          | refine vb_i (eql64 _ _ _) ?_
          | refine vb_i (neq64 _ _ _) ?_
          | refine vb_i (eqls _ _) ?_
          | refine vb_i (neqs _ _) ?_
          | (refine vb_i (add64 ?_ ?_) ?_; (· omega); (· omega))
          | (refine vb_i (sub64 ?_ ?_) ?_; (· omega); (· omega))
          | (refine vb_i (mul64 ?_ ?_) ?_; (· omega); (· omega))
          | (refine vb_i (quo64 ?_ ?_ ?_) ?_; (· omega); (· omega); (· omega))
          | (refine vb_i (rem64 ?_ ?_) ?_; (· omega); (· omega))
          | refine vb_i (e_lenSt _) ?_
          | refine vb_i (e_lenSl _ _ _) ?_
          | refine vb_i e_lenNil ?_
          | refine vb_i (lenSl_view (by assumption)) ?_
          | refine vb_i (e_ptrNil _ _) ?_
          | refine vb_i (e_ptrNilN _ _) ?_
          | refine vb_i (e_nilNil _) ?_
          | refine vb_i (e_nilNilN _) ?_
          | refine vb_i (e_pickT _ _) ?_
          | refine vb_i (e_pickF _ _) ?_
          | refine vb_i e_notd ?_
          | refine vb_i e_boolNe ?_
          | refine vb_i e_boolEq ?_
          | refine vb_i (e_not _) ?_
          | refine vb_i (e_nilCheck _) ?_
          | refine vb_i (e_fieldAddr _ _) ?_
          | refine hb_i (e_alloc _ _) ?_
          | (refine vb_i (adds ?_) ?_; (· first | omega | (simp only [List.length_cons, List.length_nil, List.length_append]; omega)))
          rw [List.append_assoc, ← flat_take hil]
          refine hn (i + 1) _ ⟨by omega, fun k hk => ?_, rfl⟩ (by omega)
          by_cases e : k = i
          · subst e; exact hs
          · exact h64 k (by omega)
        · have hng : ¬ good l := fun hg => hs (hg.2.2 _ hsm)
          repeat with_reducible first
          | refine isB_T ?_
          | refine isB_F ?_
          | (refine isB_ct ?_ ?_; (· first | omega | rfl | assumption | trivial))
          | (refine isB_cf ?_ ?_; (· first | omega | assumption))
          | refine onE_i ?_
          | (refine onE_s ?_ ?_; (· decide))
          | refine vb_i e_ext0 ?_
          | refine vb_i e_ext1 ?_
          | refine vb_i e_ext2 ?_
          | refine vb_i (lss64 _ _ _) ?_
          | refine vb_i (leq64 _ _ _) ?_
          | refine vb_i (gtr64 _ _ _) ?_
          | refine vb_i (geq64 _ _ _) ?_
          | refine vb_i (eql64 _ _ _) ?_
          | refine vb_i (neq64 _ _ _) ?_
          | refine vb_i (eqls _ _) ?_
          | refine vb_i (neqs _ _) ?_
          | (refine vb_i (add64 ?_ ?_) ?_; (· omega); (· omega))
          | (refine vb_i (sub64 ?_ ?_) ?_; (· omega); (· omega))
          | (refine vb_i (mul64 ?_ ?_) ?_; (· omega); (· omega))
          | (refine vb_i (quo64 ?_ ?_ ?_) ?_; (· omega); (· omega); (· omega))
          | (refine vb_i (rem64 ?_ ?_) ?_; (· omega); (· omega))
          | refine vb_i (e_lenSt _) ?_
          | refine vb_i (e_lenSl _ _ _) ?_
          | refine vb_i e_lenNil ?_
          | refine vb_i (lenSl_view (by assumption)) ?_
          | refine vb_i (e_ptrNil _ _) ?_
          | refine vb_i (e_ptrNilN _ _) ?_
          | refine vb_i (e_nilNil _) ?_
          | refine vb_i (e_nilNilN _) ?_
          | refine vb_i (e_pickT _ _) ?_
          | refine vb_i (e_pickF _ _) ?_
          | refine vb_i e_notd ?_
          | refine vb_i e_boolNe ?_
          | refine vb_i e_boolEq ?_
          | refine vb_i (e_not _) ?_
          | refine vb_i (e_nilCheck _) ?_
          | refine vb_i (e_fieldAddr _ _) ?_
          | refine hb_i (e_alloc _ _) ?_
          | (refine vb_i (adds ?_) ?_; (· first | omega | (simp only [List.length_cons, List.length_nil, List.length_append]; omega)))
          refine vb_i zero32_build ?_
          unfold zero32
          with_reducible refine sb_i (store_new List.length_replicate List.length_replicate (cells_rep _ _ _)) ?_
          repeat with_reducible first
          | refine isB_T ?_
          | refine isB_F ?_
          | (refine isB_ct ?_ ?_; (· first | omega | rfl | assumption | trivial))
          | (refine isB_cf ?_ ?_; (· first | omega | assumption))
          | refine onE_i ?_
          | (refine onE_s ?_ ?_; (· decide))
          | refine vb_i e_ext0 ?_
          | refine vb_i e_ext1 ?_
          | refine vb_i e_ext2 ?_
          | refine vb_i (lss64 _ _ _) ?_
          | refine vb_i (leq64 _ _ _) ?_
          | refine vb_i (gtr64 _ _ _) ?_
          | refine vb_i (geq64 _ _ _) ?_
          | refine vb_i (eql64 _ _ _) ?_
          | refine vb_i (neq64 _ _ _) ?_
          | refine vb_i (eqls _ _) ?_
          | refine vb_i (neqs _ _) ?_
          | (refine vb_i (add64 ?_ ?_) ?_; (· omega); (· omega))
          | (refine vb_i (sub64 ?_ ?_) ?_; (· omega); (· omega))
          | (refine vb_i (mul64 ?_ ?_) ?_; (· omega); (· omega))
          | (refine vb_i (quo64 ?_ ?_ ?_) ?_; (· omega); (· omega); (· omega))
          | (refine vb_i (rem64 ?_ ?_) ?_; (· omega); (· omega))
          | refine vb_i (e_lenSt _) ?_
          | refine vb_i (e_lenSl _ _ _) ?_
          | refine vb_i e_lenNil ?_
          | refine vb_i (lenSl_view (by assumption)) ?_
          | refine vb_i (e_ptrNil _ _) ?_
          | refine vb_i (e_ptrNilN _ _) ?_
          | refine vb_i (e_nilNil _) ?_
          | refine vb_i (e_nilNilN _) ?_
          | refine vb_i (e_pickT _ _) ?_
          | refine vb_i (e_pickF _ _) ?_
          | refine vb_i e_notd ?_
          | refine vb_i e_boolNe ?_
          | refine vb_i e_boolEq ?_
          | refine vb_i (e_not _) ?_
          | refine vb_i (e_nilCheck _) ?_
          | refine vb_i (e_fieldAddr _ _) ?_
          | refine hb_i (e_alloc _ _) ?_
          | (refine vb_i (adds ?_) ?_; (· first | omega | (simp only [List.length_cons, List.length_nil, List.length_append]; omega)))
          try simp only [evB]
          rw [if_neg hng] at h
          subst h
          refine fin_ret (vs := [.agg (List.replicate 32 (.int .u8 0)), .int .i64 6]) (rvs_c (load_new List.length_replicate) (rvs_v (rvs_nil _))) ?_
          exact Weak.any (ren_pair (agg_plain zero32_plain) (ren_p rfl)) p0
      · have hie : i = l.length := by omega
        subst hie
        have hgood : good l := ⟨hl0, hl80, fun s hs => by
          obtain ⟨k, hk, rfl⟩ := List.getElem_of_mem hs
          have := h64 k hk
          rwa [List.getD_eq_getElem?_getD, List.getElem?_eq_getElem hk] at this⟩
        rw [if_pos hgood] at h
        subst h
        rw [List.take_length]
        have hfl := flat_len hgood.2.2
        repeat with_reducible first
        | refine isB_T ?_
        | refine isB_F ?_
        | (refine isB_ct ?_ ?_; (· first | omega | rfl | assumption | trivial))
        | (refine isB_cf ?_ ?_; (· first | omega | assumption))
        | refine onE_i ?_
        | (refine onE_s ?_ ?_; (· decide))
        | refine vb_i e_ext0 ?_
        | refine vb_i e_ext1 ?_
        | refine vb_i e_ext2 ?_
        | refine vb_i (lss64 _ _ _) ?_
        | refine vb_i (leq64 _ _ _) ?_
        | refine vb_i (gtr64 _ _ _) ?_
        | refine vb_i (geq64 _ _ _) ?_
        | refine vb_i (eql64 _ _ _) ?_
        | refine vb_i (neq64 _ _ _) ?_
        | refine vb_i (eqls _ _) ?_
        | refine vb_i (neqs _ _) ?_
        | (refine vb_i (add64 ?_ ?_) ?_; (· omega); (· omega))
        | (refine vb_i (sub64 ?_ ?_) ?_; (· omega); (· omega))
        | (refine vb_i (mul64 ?_ ?_) ?_; (· omega); (· omega))
        | (refine vb_i (quo64 ?_ ?_ ?_) ?_; (· omega); (· omega); (· omega))
        | (refine vb_i (rem64 ?_ ?_) ?_; (· omega); (· omega))
        | refine vb_i (e_lenSt _) ?_
        | refine vb_i (e_lenSl _ _ _) ?_
        | refine vb_i e_lenNil ?_
        | refine vb_i (lenSl_view (by assumption)) ?_
        | refine vb_i (e_ptrNil _ _) ?_
        | refine vb_i (e_ptrNilN _ _) ?_
        | refine vb_i (e_nilNil _) ?_
        | refine vb_i (e_nilNilN _) ?_
        | refine vb_i (e_pickT _ _) ?_
        | refine vb_i (e_pickF _ _) ?_
        | refine vb_i e_notd ?_
        | refine vb_i e_boolNe ?_
        | refine vb_i e_boolEq ?_
        | refine vb_i (e_not _) ?_
        | refine vb_i (e_nilCheck _) ?_
        | refine vb_i (e_fieldAddr _ _) ?_
        | refine hb_i (e_alloc _ _) ?_
        | (refine vb_i (adds ?_) ?_; (· first | omega | (simp only [List.length_cons, List.length_nil, List.length_append]; omega)))
        have hT : ([110, 101, 120, 116] ++ a) ++ l.flatten = nextT a l := rfl
        rw [hT]
        have htl : (nextT a l).length ≤ 1099511627776 := by rw [← hT]; simp only [List.length_append, hfl, ha, List.length_cons, List.length_nil]; omega
        refine cb_i _ _ ⟨nextT a l, rfl, htl, rfl, rfl⟩ ?_
        have hsl := sum_len (nextT a l)
        with_reducible refine sb_i (store_new List.length_replicate (by rw [List.length_map]; exact hsl) (cells_byte _)) ?_
        refine fin_ret (vs := [.agg ((sum (nextT a l)).map ofByte), .int .i64 0]) (rvs_c (load_new (by rw [List.length_map]; exact hsl)) (rvs_v (rvs_nil _))) ?_
        exact Weak.any (ren_pair (agg_plain (bytes_plain _)) (ren_p rfl)) (pA.trans (pre_app _ _))
end Go.Sh

/- The laws of chains, 2. -/
namespace Go.Sh
open Go Go.Abs

theorem RunN.untouched {A C : AHeap} {own : Nat → Prop} {T : List (List UInt8)} (h : RunN A C own T) {k : Nat} (hk : own k) : Untouched C (.ptr ⟨A.length + 1, 0, 0⟩) k := by
  obtain ⟨h0, mv, lv, h1, h2⟩ := h
  intro i v m lv' e hc
  cases e
  have := h1.rep.cell
  rw [this] at hc
  cases hc
  have := h0 k hk
  exact ⟨by omega, by omega, h2 k hk⟩
theorem one_str (H : AHeap) (s : List UInt8) : aBuildSlice H 1 [.str []] 1 [(0, .str s)] = some (.slice ⟨H.length, 0, 0⟩ 1 (.ex 1), H ++ [.cells 0 .exact (strs [s])]) := rfl
theorem one_slice (H : AHeap) (r : Ref) (n : Nat) (c : Cap) : aBuildSlice H 1 [.nils] 1 [(0, .slice r n c)] = some (.slice ⟨H.length, 0, 0⟩ 1 (.ex 1), H ++ [.cells 0 .exact [.slice r n c]]) := rfl
theorem start10 (s : List UInt8) : startT 1 0 s = [115, 116, 97, 114, 116, 1, 0] ++ s := rfl
theorem next1 (a s : List UInt8) : nextT a [s] = ([110, 101, 120, 116] ++ a) ++ s := by simp [nextT]

theorem cellaretlaw14_awake.ok (args : List AVal) (H : AHeap) (r : AVal) (H' : AHeap) (h : S_cellaretlaw14_awake args H r H') : args = [] ∧ cellaretlaw14_awake.w H fun r1 H1 => Weak H r1 H1 r H' := by
  obtain ⟨rfl, rfl, rfl⟩ := h
  refine ⟨rfl, ?_⟩
  unfold cellaretlaw14_awake.w
  refine cb_i _ _ ⟨rfl, rfl, rfl⟩ ?_
  refine cb_i _ _ ⟨[115], 64, rfl, by decide, rfl, rfl⟩ ?_
  have hsp : (full [115] 64).length = 64 := full_len (by decide)
  generalize full [115] 64 = sp at *
  have r0 := RunN.start H'
  have hl1 : (startT 1 0 sp).length = 71 := by rw [start10]; simp [hsp]
  obtain ⟨C1, hO1, r1, hle1, hk1⟩ := r0.call (ss := [startT 1 0 sp]) (by simp) (by simp; omega)
  have hg : good [sp] := ⟨by simp, by simp, by simpa using hsp⟩
  have hs1 := sum_len (startT 1 0 sp)
  refine cb_i _ _ ⟨_, sp, 1, 0, rfl, .inr ⟨by simp [startE, hsp], rfl, hO1⟩⟩ ?_
  generalize ha1 : sum (startT 1 0 sp) = a1 at *
  have hcl : ∀ b : List UInt8, (AVal.agg (b.map ofByte)).cells = b.map ofByte := fun _ => rfl
  have hl2 : (nextT a1 [sp]).length = 100 := by rw [next1]; simp [hsp, hs1]
  have hs2 := sum_len (nextT a1 [sp])
  repeat with_reducible first
  | refine isB_T ?_
  | refine isB_F ?_
  | (refine isB_ct ?_ ?_; (· first | omega | rfl | assumption | trivial))
  | (refine isB_cf ?_ ?_; (· first | omega | assumption))
  | refine onE_i ?_
  | (refine onE_s ?_ ?_; (· decide))
  | refine vb_i e_ext0 ?_
  | refine vb_i e_ext1 ?_
  | refine vb_i e_ext2 ?_
  | refine vb_i (lss64 _ _ _) ?_
  | refine vb_i (leq64 _ _ _) ?_
  | refine vb_i (gtr64 _ _ _) ?_
  | refine vb_i (geq64 _ _ _) ?_
  | refine vb_i (eql64 _ _ _) ?_
  | refine vb_i (neq64 _ _ _) ?_
  | refine vb_i (eqls _ _) ?_
  | refine vb_i (neqs _ _) ?_
  | (refine vb_i (add64 ?_ ?_) ?_; (· omega); (· omega))
  | (refine vb_i (sub64 ?_ ?_) ?_; (· omega); (· omega))
  | (refine vb_i (mul64 ?_ ?_) ?_; (· omega); (· omega))
  | (refine vb_i (quo64 ?_ ?_ ?_) ?_; (· omega); (· omega); (· omega))
  | (refine vb_i (rem64 ?_ ?_) ?_; (· omega); (· omega))
  | refine vb_i (e_lenSt _) ?_
  | refine vb_i (e_lenSl _ _ _) ?_
  | refine vb_i e_lenNil ?_
  | refine vb_i (lenSl_view (by assumption)) ?_
  | refine vb_i (e_ptrNil _ _) ?_
  | refine vb_i (e_ptrNilN _ _) ?_
  | refine vb_i (e_nilNil _) ?_
  | refine vb_i (e_nilNilN _) ?_
  | refine vb_i (e_pickT _ _) ?_
  | refine vb_i (e_pickF _ _) ?_
  | refine vb_i e_notd ?_
  | refine vb_i e_boolNe ?_
  | refine vb_i e_boolEq ?_
  | refine vb_i (e_not _) ?_
  | refine vb_i (e_nilCheck _) ?_
  | refine vb_i (e_fieldAddr _ _) ?_
  | refine hb_i (e_alloc _ _) ?_
  | (refine vb_i (adds ?_) ?_; (· first | omega | (simp only [List.length_cons, List.length_nil, List.length_append]; omega)))
  with_reducible refine sb_i (store_new List.length_replicate (by rw [List.length_map]; exact hs1) (cells_byte _)) ?_
  with_reducible refine vb_i (load_new (by rw [List.length_map]; exact hs1)) ?_
  refine hb_i (one_str _ _) ?_
  have r2 := (r1.push (.cells 0 .exact (a1.map ofByte))).push (.cells 0 .exact (strs [sp]))
  have q1 : ((C1 ++ [AObj.cells 0 .exact (a1.map ofByte)]) ++ [AObj.cells 0 .exact (strs [sp])])[C1.length]? = some (.cells 0 .exact (a1.map ofByte)) := by
    rw [pre_get (pre_app _ _) (by simp), app_get0]; rfl
  have o1 : ((False ∨ C1.length = C1.length) ∨ C1.length = (C1 ++ [AObj.cells 0 .exact (a1.map ofByte)]).length) := .inl (.inr rfl)
  obtain ⟨C2, hO2, r3, hle2, hk2⟩ := r2.call (ss := [nextT a1 [sp]]) (by have := keepTs_len [startT 1 0 sp] []; simp at this ⊢; omega) (by simp; omega)
  refine cb_i _ _ ⟨_, _, a1, [sp], rfl, hs1, ⟨view_ex (app_get0 _ _) rfl, by simp, by simp; omega⟩, .inr ⟨hg, rfl, hO2⟩⟩ ?_
  generalize hb1 : sum (nextT a1 [sp]) = b1 at *
  have q2 := (hk2 _ o1).trans q1
  repeat with_reducible first
  | refine isB_T ?_
  | refine isB_F ?_
  | (refine isB_ct ?_ ?_; (· first | omega | rfl | assumption | trivial))
  | (refine isB_cf ?_ ?_; (· first | omega | assumption))
  | refine onE_i ?_
  | (refine onE_s ?_ ?_; (· decide))
  | refine vb_i e_ext0 ?_
  | refine vb_i e_ext1 ?_
  | refine vb_i e_ext2 ?_
  | refine vb_i (lss64 _ _ _) ?_
  | refine vb_i (leq64 _ _ _) ?_
  | refine vb_i (gtr64 _ _ _) ?_
  | refine vb_i (geq64 _ _ _) ?_
  | refine vb_i (eql64 _ _ _) ?_
  | refine vb_i (neq64 _ _ _) ?_
  | refine vb_i (eqls _ _) ?_
  | refine vb_i (neqs _ _) ?_
  | (refine vb_i (add64 ?_ ?_) ?_; (· omega); (· omega))
  | (refine vb_i (sub64 ?_ ?_) ?_; (· omega); (· omega))
  | (refine vb_i (mul64 ?_ ?_) ?_; (· omega); (· omega))
  | (refine vb_i (quo64 ?_ ?_ ?_) ?_; (· omega); (· omega); (· omega))
  | (refine vb_i (rem64 ?_ ?_) ?_; (· omega); (· omega))
  | refine vb_i (e_lenSt _) ?_
  | refine vb_i (e_lenSl _ _ _) ?_
  | refine vb_i e_lenNil ?_
  | refine vb_i (lenSl_view (by assumption)) ?_
  | refine vb_i (e_ptrNil _ _) ?_
  | refine vb_i (e_ptrNilN _ _) ?_
  | refine vb_i (e_nilNil _) ?_
  | refine vb_i (e_nilNilN _) ?_
  | refine vb_i (e_pickT _ _) ?_
  | refine vb_i (e_pickF _ _) ?_
  | refine vb_i e_notd ?_
  | refine vb_i e_boolNe ?_
  | refine vb_i e_boolEq ?_
  | refine vb_i (e_not _) ?_
  | refine vb_i (e_nilCheck _) ?_
  | refine vb_i (e_fieldAddr _ _) ?_
  | refine hb_i (e_alloc _ _) ?_
  | (refine vb_i (adds ?_) ?_; (· first | omega | (simp only [List.length_cons, List.length_nil, List.length_append]; omega)))
  with_reducible refine sb_i (store_new List.length_replicate (by rw [List.length_map]; exact hs2) (cells_byte _)) ?_
  have q3 : (C2 ++ [AObj.cells 0 .exact (b1.map ofByte)])[C1.length]? = some (.cells 0 .exact (a1.map ofByte)) := by
    rw [pre_get (pre_app _ _) (lt_of_some q2)]; exact q2
  with_reducible refine vb_i (e_loadAll q3 (by rw [List.length_map]; exact hs1)) ?_
  refine hb_i (one_str _ _) ?_
  refine hb_i (one_slice _ _ _ _) ?_
  have r4 := ((r3.push (.cells 0 .exact (b1.map ofByte))).push (.cells 0 .exact (strs [sp]))).push (.cells 0 .exact [.slice ⟨(C2 ++ [AObj.cells 0 .exact (b1.map ofByte)]).length, 0, 0⟩ 1 (.ex 1)])
  have hv1 : View ((C2 ++ [AObj.cells 0 .exact (b1.map ofByte)]) ++ [AObj.cells 0 .exact (strs [sp])]) (.slice ⟨(C2 ++ [AObj.cells 0 .exact (b1.map ofByte)]).length, 0, 0⟩ 1 (.ex 1)) 1 1 (strs [sp]) := view_ex (app_get0 _ _) rfl
  have hv2 := hv1.pre (pre_app _ [AObj.cells 0 .exact [.slice ⟨(C2 ++ [AObj.cells 0 .exact (b1.map ofByte)]).length, 0, 0⟩ 1 (.ex 1)]])
  have hv3 : View (((C2 ++ [AObj.cells 0 .exact (b1.map ofByte)]) ++ [AObj.cells 0 .exact (strs [sp])]) ++ [AObj.cells 0 .exact [.slice ⟨(C2 ++ [AObj.cells 0 .exact (b1.map ofByte)]).length, 0, 0⟩ 1 (.ex 1)]]) (.slice ⟨((C2 ++ [AObj.cells 0 .exact (b1.map ofByte)]) ++ [AObj.cells 0 .exact (strs [sp])]).length, 0, 0⟩ 1 (.ex 1)) 1 1 [.slice ⟨(C2 ++ [AObj.cells 0 .exact (b1.map ofByte)]).length, 0, 0⟩ 1 (.ex 1)] := view_ex (app_get0 _ _) rfl
  have hT2 : (keepTs (keepTs [] [startT 1 0 sp]) [nextT a1 [sp]]).length ≤ 2 := by
    have := keepTs_len [startT 1 0 sp] []
    have := keepTs_len [nextT a1 [sp]] (keepTs [] [startT 1 0 sp])
    simp at *; omega
  obtain ⟨C3, hO3, r5, hle3, hk3⟩ := r4.call (ss := alongT a1 [[sp]]) (by simp only [alongT, if_pos hg, List.length_cons, List.length_nil]; omega) (by simp [alongT, hg]; omega)
  have q4 : (((C2 ++ [AObj.cells 0 .exact (b1.map ofByte)]) ++ [AObj.cells 0 .exact (strs [sp])]) ++ [AObj.cells 0 .exact [.slice ⟨(C2 ++ [AObj.cells 0 .exact (b1.map ofByte)]).length, 0, 0⟩ 1 (.ex 1)]])[C1.length]? = some (.cells 0 .exact (a1.map ofByte)) := by
    have := lt_of_some q3
    rw [pre_get (pre_app _ _) (by simp at *; omega), pre_get (pre_app _ _) this]; exact q3
  have q5 : (((C2 ++ [AObj.cells 0 .exact (b1.map ofByte)]) ++ [AObj.cells 0 .exact (strs [sp])]) ++ [AObj.cells 0 .exact [.slice ⟨(C2 ++ [AObj.cells 0 .exact (b1.map ofByte)]).length, 0, 0⟩ 1 (.ex 1)]])[C2.length]? = some (.cells 0 .exact (b1.map ofByte)) := by
    rw [pre_get (pre_app _ _) (by simp), pre_get (pre_app _ _) (by simp), app_get0]; rfl
  have hAR : alongR a1 [[sp]] = some b1 := by simp only [alongR, if_pos hg, hb1]
  refine cb_i _ _ ⟨_, _, a1, [_], [[sp]], rfl, hs1, ⟨hv3, by simp, ?_, ?_, ?_⟩, rfl, hO3⟩ ?_
  · intro i hi
    have : i = 0 := by simp at hi; omega
    subst this
    exact ⟨hv2, by simp, by simp; omega⟩
  · intro k hk
    simp only [slId, Option.some.injEq] at hk
    exact r4.untouched (.inr hk.symm)
  · intro i k hi hk
    have : i = 0 := by simp at hi; omega
    subst this
    simp only [List.getD_cons_zero, slId, Option.some.injEq] at hk
    exact r4.untouched (.inl (.inr hk.symm))
  rw [hAR]
  have q6 := (hk3 _ (.inl (.inl (.inl o1)))).trans q4
  have q7 := (hk3 _ (.inl (.inl (.inr rfl)))).trans q5
  have hT : keepTs (keepTs (keepTs [] [startT 1 0 sp]) [nextT a1 [sp]]) (alongT a1 [[sp]]) = [startT 1 0 sp, nextT a1 [sp]] := by
    have hne : nextT a1 [sp] ≠ startT 1 0 sp := fun e => by rw [e] at hl2; omega
    simp [alongT, hg, keepTs, keepT, hne]
  rw [hT] at r5
  have r6 := r5.push (.cells 0 .exact (b1.map ofByte))
  obtain ⟨mv, lv, rep⟩ := r6.rep
  have p6 := r6.pre
  repeat with_reducible first
  | refine isB_T ?_
  | refine isB_F ?_
  | (refine isB_ct ?_ ?_; (· first | omega | rfl | assumption | trivial))
  | (refine isB_cf ?_ ?_; (· first | omega | assumption))
  | refine onE_i ?_
  | (refine onE_s ?_ ?_; (· decide))
  | refine vb_i e_ext0 ?_
  | refine vb_i e_ext1 ?_
  | refine vb_i e_ext2 ?_
  | refine vb_i (lss64 _ _ _) ?_
  | refine vb_i (leq64 _ _ _) ?_
  | refine vb_i (gtr64 _ _ _) ?_
  | refine vb_i (geq64 _ _ _) ?_
  | refine vb_i (eql64 _ _ _) ?_
  | refine vb_i (neq64 _ _ _) ?_
  | refine vb_i (eqls _ _) ?_
  | refine vb_i (neqs _ _) ?_
  | (refine vb_i (add64 ?_ ?_) ?_; (· omega); (· omega))
  | (refine vb_i (sub64 ?_ ?_) ?_; (· omega); (· omega))
  | (refine vb_i (mul64 ?_ ?_) ?_; (· omega); (· omega))
  | (refine vb_i (quo64 ?_ ?_ ?_) ?_; (· omega); (· omega); (· omega))
  | (refine vb_i (rem64 ?_ ?_) ?_; (· omega); (· omega))
  | refine vb_i (e_lenSt _) ?_
  | refine vb_i (e_lenSl _ _ _) ?_
  | refine vb_i e_lenNil ?_
  | refine vb_i (lenSl_view (by assumption)) ?_
  | refine vb_i (e_ptrNil _ _) ?_
  | refine vb_i (e_ptrNilN _ _) ?_
  | refine vb_i (e_nilNil _) ?_
  | refine vb_i (e_nilNilN _) ?_
  | refine vb_i (e_pickT _ _) ?_
  | refine vb_i (e_pickF _ _) ?_
  | refine vb_i e_notd ?_
  | refine vb_i e_boolNe ?_
  | refine vb_i e_boolEq ?_
  | refine vb_i (e_not _) ?_
  | refine vb_i (e_nilCheck _) ?_
  | refine vb_i (e_fieldAddr _ _) ?_
  | refine hb_i (e_alloc _ _) ?_
  | (refine vb_i (adds ?_) ?_; (· first | omega | (simp only [List.length_cons, List.length_nil, List.length_append]; omega)))
  with_reducible refine sb_i (store_new List.length_replicate (by rw [List.length_map]; exact hs2) (cells_byte _)) ?_
  have q8 : (C3 ++ [AObj.cells 0 .exact (b1.map ofByte)])[C1.length]? = some (.cells 0 .exact (a1.map ofByte)) := by
    rw [pre_get (pre_app _ _) (lt_of_some q6)]; exact q6
  have q9 : (C3 ++ [AObj.cells 0 .exact (b1.map ofByte)])[C2.length]? = some (.cells 0 .exact (b1.map ofByte)) := by
    rw [pre_get (pre_app _ _) (lt_of_some q7)]; exact q7
  repeat with_reducible first
  | refine isB_T ?_
  | refine isB_F ?_
  | (refine isB_ct ?_ ?_; (· first | omega | rfl | assumption | trivial))
  | (refine isB_cf ?_ ?_; (· first | omega | assumption))
  | refine onE_i ?_
  | (refine onE_s ?_ ?_; (· decide))
  | refine vb_i e_ext0 ?_
  | refine vb_i e_ext1 ?_
  | refine vb_i e_ext2 ?_
  | refine vb_i (lss64 _ _ _) ?_
  | refine vb_i (leq64 _ _ _) ?_
  | refine vb_i (gtr64 _ _ _) ?_
  | refine vb_i (geq64 _ _ _) ?_
  | refine vb_i (eql64 _ _ _) ?_
  | refine vb_i (neq64 _ _ _) ?_
  | refine vb_i (eqls _ _) ?_
  | refine vb_i (neqs _ _) ?_
  | (refine vb_i (add64 ?_ ?_) ?_; (· omega); (· omega))
  | (refine vb_i (sub64 ?_ ?_) ?_; (· omega); (· omega))
  | (refine vb_i (mul64 ?_ ?_) ?_; (· omega); (· omega))
  | (refine vb_i (quo64 ?_ ?_ ?_) ?_; (· omega); (· omega); (· omega))
  | (refine vb_i (rem64 ?_ ?_) ?_; (· omega); (· omega))
  | refine vb_i (e_lenSt _) ?_
  | refine vb_i (e_lenSl _ _ _) ?_
  | refine vb_i e_lenNil ?_
  | refine vb_i (lenSl_view (by assumption)) ?_
  | refine vb_i (e_ptrNil _ _) ?_
  | refine vb_i (e_ptrNilN _ _) ?_
  | refine vb_i (e_nilNil _) ?_
  | refine vb_i (e_nilNilN _) ?_
  | refine vb_i (e_pickT _ _) ?_
  | refine vb_i (e_pickF _ _) ?_
  | refine vb_i e_notd ?_
  | refine vb_i e_boolNe ?_
  | refine vb_i e_boolEq ?_
  | refine vb_i (e_not _) ?_
  | refine vb_i (e_nilCheck _) ?_
  | refine vb_i (e_fieldAddr _ _) ?_
  | refine hb_i (e_alloc _ _) ?_
  | (refine vb_i (adds ?_) ?_; (· first | omega | (simp only [List.length_cons, List.length_nil, List.length_append]; omega)))
  with_reducible refine vb_i (e_loadAll q8 (by rw [List.length_map]; exact hs1)) ?_
  repeat with_reducible first
  | refine isB_T ?_
  | refine isB_F ?_
  | (refine isB_ct ?_ ?_; (· first | omega | rfl | assumption | trivial))
  | (refine isB_cf ?_ ?_; (· first | omega | assumption))
  | refine onE_i ?_
  | (refine onE_s ?_ ?_; (· decide))
  | refine vb_i e_ext0 ?_
  | refine vb_i e_ext1 ?_
  | refine vb_i e_ext2 ?_
  | refine vb_i (lss64 _ _ _) ?_
  | refine vb_i (leq64 _ _ _) ?_
  | refine vb_i (gtr64 _ _ _) ?_
  | refine vb_i (geq64 _ _ _) ?_
  | refine vb_i (eql64 _ _ _) ?_
  | refine vb_i (neq64 _ _ _) ?_
  | refine vb_i (eqls _ _) ?_
  | refine vb_i (neqs _ _) ?_
  | (refine vb_i (add64 ?_ ?_) ?_; (· omega); (· omega))
  | (refine vb_i (sub64 ?_ ?_) ?_; (· omega); (· omega))
  | (refine vb_i (mul64 ?_ ?_) ?_; (· omega); (· omega))
  | (refine vb_i (quo64 ?_ ?_ ?_) ?_; (· omega); (· omega); (· omega))
  | (refine vb_i (rem64 ?_ ?_) ?_; (· omega); (· omega))
  | refine vb_i (e_lenSt _) ?_
  | refine vb_i (e_lenSl _ _ _) ?_
  | refine vb_i e_lenNil ?_
  | refine vb_i (lenSl_view (by assumption)) ?_
  | refine vb_i (e_ptrNil _ _) ?_
  | refine vb_i (e_ptrNilN _ _) ?_
  | refine vb_i (e_nilNil _) ?_
  | refine vb_i (e_nilNilN _) ?_
  | refine vb_i (e_pickT _ _) ?_
  | refine vb_i (e_pickF _ _) ?_
  | refine vb_i e_notd ?_
  | refine vb_i e_boolNe ?_
  | refine vb_i e_boolEq ?_
  | refine vb_i (e_not _) ?_
  | refine vb_i (e_nilCheck _) ?_
  | refine vb_i (e_fieldAddr _ _) ?_
  | refine hb_i (e_alloc _ _) ?_
  | (refine vb_i (adds ?_) ?_; (· first | omega | (simp only [List.length_cons, List.length_nil, List.length_append]; omega)))
  rw [← start10]
  refine cb_i _ _ ⟨_, rfl, by omega, rfl, rfl⟩ ?_
  rw [ha1]
  with_reducible refine vb_i (e_eqBytes hs1 hs1) ?_
  repeat with_reducible first
  | refine isB_T ?_
  | refine isB_F ?_
  | (refine isB_ct ?_ ?_; (· first | omega | rfl | assumption | trivial))
  | (refine isB_cf ?_ ?_; (· first | omega | assumption))
  | refine onE_i ?_
  | (refine onE_s ?_ ?_; (· decide))
  | refine vb_i e_ext0 ?_
  | refine vb_i e_ext1 ?_
  | refine vb_i e_ext2 ?_
  | refine vb_i (lss64 _ _ _) ?_
  | refine vb_i (leq64 _ _ _) ?_
  | refine vb_i (gtr64 _ _ _) ?_
  | refine vb_i (geq64 _ _ _) ?_
  | refine vb_i (eql64 _ _ _) ?_
  | refine vb_i (neq64 _ _ _) ?_
  | refine vb_i (eqls _ _) ?_
  | refine vb_i (neqs _ _) ?_
  | (refine vb_i (add64 ?_ ?_) ?_; (· omega); (· omega))
  | (refine vb_i (sub64 ?_ ?_) ?_; (· omega); (· omega))
  | (refine vb_i (mul64 ?_ ?_) ?_; (· omega); (· omega))
  | (refine vb_i (quo64 ?_ ?_ ?_) ?_; (· omega); (· omega); (· omega))
  | (refine vb_i (rem64 ?_ ?_) ?_; (· omega); (· omega))
  | refine vb_i (e_lenSt _) ?_
  | refine vb_i (e_lenSl _ _ _) ?_
  | refine vb_i e_lenNil ?_
  | refine vb_i (lenSl_view (by assumption)) ?_
  | refine vb_i (e_ptrNil _ _) ?_
  | refine vb_i (e_ptrNilN _ _) ?_
  | refine vb_i (e_nilNil _) ?_
  | refine vb_i (e_nilNilN _) ?_
  | refine vb_i (e_pickT _ _) ?_
  | refine vb_i (e_pickF _ _) ?_
  | refine vb_i e_notd ?_
  | refine vb_i e_boolNe ?_
  | refine vb_i e_boolEq ?_
  | refine vb_i (e_not _) ?_
  | refine vb_i (e_nilCheck _) ?_
  | refine vb_i (e_fieldAddr _ _) ?_
  | refine hb_i (e_alloc _ _) ?_
  | (refine vb_i (adds ?_) ?_; (· first | omega | (simp only [List.length_cons, List.length_nil, List.length_append]; omega)))
  with_reducible refine vb_i (e_loadAll q9 (by rw [List.length_map]; exact hs2)) ?_
  with_reducible refine vb_i (sliceArr_all _ _ _ _) ?_
  refine vb_i (arr_str q8 hs1) ?_
  repeat with_reducible first
  | refine isB_T ?_
  | refine isB_F ?_
  | (refine isB_ct ?_ ?_; (· first | omega | rfl | assumption | trivial))
  | (refine isB_cf ?_ ?_; (· first | omega | assumption))
  | refine onE_i ?_
  | (refine onE_s ?_ ?_; (· decide))
  | refine vb_i e_ext0 ?_
  | refine vb_i e_ext1 ?_
  | refine vb_i e_ext2 ?_
  | refine vb_i (lss64 _ _ _) ?_
  | refine vb_i (leq64 _ _ _) ?_
  | refine vb_i (gtr64 _ _ _) ?_
  | refine vb_i (geq64 _ _ _) ?_
  | refine vb_i (eql64 _ _ _) ?_
  | refine vb_i (neq64 _ _ _) ?_
  | refine vb_i (eqls _ _) ?_
  | refine vb_i (neqs _ _) ?_
  | (refine vb_i (add64 ?_ ?_) ?_; (· omega); (· omega))
  | (refine vb_i (sub64 ?_ ?_) ?_; (· omega); (· omega))
  | (refine vb_i (mul64 ?_ ?_) ?_; (· omega); (· omega))
  | (refine vb_i (quo64 ?_ ?_ ?_) ?_; (· omega); (· omega); (· omega))
  | (refine vb_i (rem64 ?_ ?_) ?_; (· omega); (· omega))
  | refine vb_i (e_lenSt _) ?_
  | refine vb_i (e_lenSl _ _ _) ?_
  | refine vb_i e_lenNil ?_
  | refine vb_i (lenSl_view (by assumption)) ?_
  | refine vb_i (e_ptrNil _ _) ?_
  | refine vb_i (e_ptrNilN _ _) ?_
  | refine vb_i (e_nilNil _) ?_
  | refine vb_i (e_nilNilN _) ?_
  | refine vb_i (e_pickT _ _) ?_
  | refine vb_i (e_pickF _ _) ?_
  | refine vb_i e_notd ?_
  | refine vb_i e_boolNe ?_
  | refine vb_i e_boolEq ?_
  | refine vb_i (e_not _) ?_
  | refine vb_i (e_nilCheck _) ?_
  | refine vb_i (e_fieldAddr _ _) ?_
  | refine hb_i (e_alloc _ _) ?_
  | (refine vb_i (adds ?_) ?_; (· first | omega | (simp only [List.length_cons, List.length_nil, List.length_append]; omega)))
  rw [← next1]
  refine cb_i _ _ ⟨_, rfl, by omega, rfl, rfl⟩ ?_
  rw [hb1]
  with_reducible refine vb_i (e_eqBytes hs2 hs2) ?_
  repeat with_reducible first
  | refine isB_T ?_
  | refine isB_F ?_
  | (refine isB_ct ?_ ?_; (· first | omega | rfl | assumption | trivial))
  | (refine isB_cf ?_ ?_; (· first | omega | assumption))
  | refine onE_i ?_
  | (refine onE_s ?_ ?_; (· decide))
  | refine vb_i e_ext0 ?_
  | refine vb_i e_ext1 ?_
  | refine vb_i e_ext2 ?_
  | refine vb_i (lss64 _ _ _) ?_
  | refine vb_i (leq64 _ _ _) ?_
  | refine vb_i (gtr64 _ _ _) ?_
  | refine vb_i (geq64 _ _ _) ?_
  | refine vb_i (eql64 _ _ _) ?_
  | refine vb_i (neq64 _ _ _) ?_
  | refine vb_i (eqls _ _) ?_
  | refine vb_i (neqs _ _) ?_
  | (refine vb_i (add64 ?_ ?_) ?_; (· omega); (· omega))
  | (refine vb_i (sub64 ?_ ?_) ?_; (· omega); (· omega))
  | (refine vb_i (mul64 ?_ ?_) ?_; (· omega); (· omega))
  | (refine vb_i (quo64 ?_ ?_ ?_) ?_; (· omega); (· omega); (· omega))
  | (refine vb_i (rem64 ?_ ?_) ?_; (· omega); (· omega))
  | refine vb_i (e_lenSt _) ?_
  | refine vb_i (e_lenSl _ _ _) ?_
  | refine vb_i e_lenNil ?_
  | refine vb_i (lenSl_view (by assumption)) ?_
  | refine vb_i (e_ptrNil _ _) ?_
  | refine vb_i (e_ptrNilN _ _) ?_
  | refine vb_i (e_nilNil _) ?_
  | refine vb_i (e_nilNilN _) ?_
  | refine vb_i (e_pickT _ _) ?_
  | refine vb_i (e_pickF _ _) ?_
  | refine vb_i e_notd ?_
  | refine vb_i e_boolNe ?_
  | refine vb_i e_boolEq ?_
  | refine vb_i (e_not _) ?_
  | refine vb_i (e_nilCheck _) ?_
  | refine vb_i (e_fieldAddr _ _) ?_
  | refine hb_i (e_alloc _ _) ?_
  | (refine vb_i (adds ?_) ?_; (· first | omega | (simp only [List.length_cons, List.length_nil, List.length_append]; omega)))
  with_reducible refine vb_i (load_new (by rw [List.length_map]; exact hs2)) ?_
  with_reducible refine vb_i (e_loadAll q9 (by rw [List.length_map]; exact hs2)) ?_
  with_reducible refine vb_i (e_eqBytes hs2 hs2) ?_
  repeat with_reducible first
  | refine isB_T ?_
  | refine isB_F ?_
  | (refine isB_ct ?_ ?_; (· first | omega | rfl | assumption | trivial))
  | (refine isB_cf ?_ ?_; (· first | omega | assumption))
  | refine onE_i ?_
  | (refine onE_s ?_ ?_; (· decide))
  | refine vb_i e_ext0 ?_
  | refine vb_i e_ext1 ?_
  | refine vb_i e_ext2 ?_
  | refine vb_i (lss64 _ _ _) ?_
  | refine vb_i (leq64 _ _ _) ?_
  | refine vb_i (gtr64 _ _ _) ?_
  | refine vb_i (geq64 _ _ _) ?_
  | refine vb_i (eql64 _ _ _) ?_
  | refine vb_i (neq64 _ _ _) ?_
  | refine vb_i (eqls _ _) ?_
  | refine vb_i (neqs _ _) ?_
  | (refine vb_i (add64 ?_ ?_) ?_; (· omega); (· omega))
  | (refine vb_i (sub64 ?_ ?_) ?_; (· omega); (· omega))
  | (refine vb_i (mul64 ?_ ?_) ?_; (· omega); (· omega))
  | (refine vb_i (quo64 ?_ ?_ ?_) ?_; (· omega); (· omega); (· omega))
  | (refine vb_i (rem64 ?_ ?_) ?_; (· omega); (· omega))
  | refine vb_i (e_lenSt _) ?_
  | refine vb_i (e_lenSl _ _ _) ?_
  | refine vb_i e_lenNil ?_
  | refine vb_i (lenSl_view (by assumption)) ?_
  | refine vb_i (e_ptrNil _ _) ?_
  | refine vb_i (e_ptrNilN _ _) ?_
  | refine vb_i (e_nilNil _) ?_
  | refine vb_i (e_nilNilN _) ?_
  | refine vb_i (e_pickT _ _) ?_
  | refine vb_i (e_pickF _ _) ?_
  | refine vb_i e_notd ?_
  | refine vb_i e_boolNe ?_
  | refine vb_i e_boolEq ?_
  | refine vb_i (e_not _) ?_
  | refine vb_i (e_nilCheck _) ?_
  | refine vb_i (e_fieldAddr _ _) ?_
  | refine hb_i (e_alloc _ _) ?_
  | (refine vb_i (adds ?_) ?_; (· first | omega | (simp only [List.length_cons, List.length_nil, List.length_append]; omega)))
  refine cb_i _ _ ⟨_, rfl, rfl, .inr ⟨_, _, _, _, _, _, rfl, rep, rfl⟩⟩ ?_
  simp only [List.length_cons, List.length_nil, Nat.zero_add]
  repeat with_reducible first
  | refine isB_T ?_
  | refine isB_F ?_
  | (refine isB_ct ?_ ?_; (· first | omega | rfl | assumption | trivial))
  | (refine isB_cf ?_ ?_; (· first | omega | assumption))
  | refine onE_i ?_
  | (refine onE_s ?_ ?_; (· decide))
  | refine vb_i e_ext0 ?_
  | refine vb_i e_ext1 ?_
  | refine vb_i e_ext2 ?_
  | refine vb_i (lss64 _ _ _) ?_
  | refine vb_i (leq64 _ _ _) ?_
  | refine vb_i (gtr64 _ _ _) ?_
  | refine vb_i (geq64 _ _ _) ?_
  | refine vb_i (eql64 _ _ _) ?_
  | refine vb_i (neq64 _ _ _) ?_
  | refine vb_i (eqls _ _) ?_
  | refine vb_i (neqs _ _) ?_
  | (refine vb_i (add64 ?_ ?_) ?_; (· omega); (· omega))
  | (refine vb_i (sub64 ?_ ?_) ?_; (· omega); (· omega))
  | (refine vb_i (mul64 ?_ ?_) ?_; (· omega); (· omega))
  | (refine vb_i (quo64 ?_ ?_ ?_) ?_; (· omega); (· omega); (· omega))
  | (refine vb_i (rem64 ?_ ?_) ?_; (· omega); (· omega))
  | refine vb_i (e_lenSt _) ?_
  | refine vb_i (e_lenSl _ _ _) ?_
  | refine vb_i e_lenNil ?_
  | refine vb_i (lenSl_view (by assumption)) ?_
  | refine vb_i (e_ptrNil _ _) ?_
  | refine vb_i (e_ptrNilN _ _) ?_
  | refine vb_i (e_nilNil _) ?_
  | refine vb_i (e_nilNilN _) ?_
  | refine vb_i (e_pickT _ _) ?_
  | refine vb_i (e_pickF _ _) ?_
  | refine vb_i e_notd ?_
  | refine vb_i e_boolNe ?_
  | refine vb_i e_boolEq ?_
  | refine vb_i (e_not _) ?_
  | refine vb_i (e_nilCheck _) ?_
  | refine vb_i (e_fieldAddr _ _) ?_
  | refine hb_i (e_alloc _ _) ?_
  | (refine vb_i (adds ?_) ?_; (· first | omega | (simp only [List.length_cons, List.length_nil, List.length_append]; omega)))
  exact fin_bool rfl p6
end Go.Sh

/- The laws of chains, 3. -/
namespace Go.Sh
open Go Go.Abs

def right (d a : Int) : Prop := (d = 0 ∨ d = 1) ∧ (a = 0 ∨ a = 1)
instance (d a : Int) : Decidable (right d a) := by unfold right; infer_instance
def checkV (k : List UInt8) : List UInt8 := if k.length = 32 then sum (keyT k) else []
def checkE (k : List UInt8) : Int := if k.length = 32 then 0 else 2
def startV (d a : Int) (s : List UInt8) : List UInt8 := if startE d a s = 0 then sum (startT d a s) else zs 32
theorem startV_len (d a : Int) (s : List UInt8) : (startV d a s).length = 32 := by
  unfold startV; split
  · exact sum_len _
  · exact zs32_len
theorem startT_len (d a : Int) (s : List UInt8) : (startT d a s).length = 7 + s.length := by simp [startT]; omega

theorem RunN.Start {A C : AHeap} {own : Nat → Prop} {T : List (List UInt8)} (h : RunN A C own T) (hT : T.length ≤ 1000) {s : List UInt8} (hs : s.length ≤ 1000) (d a : Int) :
    ∃ C2 T2, S_chain_Start [.ptr ⟨A.length + 1, 0, 0⟩, .str s, .int .i64 d, .int .i64 a] C (.tup [.agg ((startV d a s).map ofByte), .int .i64 (startE d a s)]) C2 ∧ RunN A C2 own T2 ∧ T2.length ≤ T.length + 1 ∧ ∀ k, own k → C2[k]? = C[k]? := by
  by_cases he : startE d a s = 0
  · have := startT_len d a s
    obtain ⟨C2, hO, hr, _, hk⟩ := h.call (ss := [startT d a s]) (by simp; omega) (by simp; omega)
    refine ⟨C2, _, ⟨_, s, d, a, rfl, .inr ⟨he, ?_, hO⟩⟩, hr, ?_, hk⟩
    · rw [startV, if_pos he, he]
    · have := keepTs_len [startT d a s] T; simp at this; omega
  · refine ⟨C, T, ⟨_, s, d, a, rfl, .inl ⟨he, ?_, rfl⟩⟩, h, by omega, fun _ _ => rfl⟩
    simp only [startV, if_neg he, zero32_zs]
theorem RunN.Check {A C : AHeap} {own : Nat → Prop} {T : List (List UInt8)} (h : RunN A C own T) (hT : T.length ≤ 1000) (k : List UInt8) :
    ∃ C2 T2, S_chain_Check [.ptr ⟨A.length + 1, 0, 0⟩, .str k] C (.tup [.str (checkV k), .int .i64 (checkE k)]) C2 ∧ RunN A C2 own T2 ∧ ∀ k, own k → C2[k]? = C[k]? := by
  by_cases he : k.length = 32
  · obtain ⟨C2, hO, hr, _, hk⟩ := h.call (ss := [keyT k]) (by simp; omega) (by simp [keyT]; omega)
    refine ⟨C2, _, ⟨_, k, rfl, .inr ⟨he, ?_, hO⟩⟩, hr, hk⟩
    simp only [checkV, checkE, if_pos he]
  · refine ⟨C, T, ⟨_, k, rfl, .inl ⟨he, ?_, rfl⟩⟩, h, fun _ _ => rfl⟩
    simp only [checkV, checkE, if_neg he]

theorem cellaretlaw14_ChainSums.ok (args : List AVal) (H : AHeap) (r : AVal) (H' : AHeap) (h : S_cellaretlaw14_ChainSums args H r H') : ∃ x0, args = [x0] ∧ cellaretlaw14_ChainSums.w x0 H fun r1 H1 => Weak H r1 H1 r H' := by
  obtain ⟨s, k, d, a, rfl, rfl, rfl⟩ := h
  refine ⟨_, rfl, ?_⟩
  unfold cellaretlaw14_ChainSums.w
  have hcl : (AVal.agg [.str s, .int .i64 d, .int .i64 a, .str k]).cells = [.str s, .int .i64 d, .int .i64 a, .str k] := rfl
  refine hb_i (e_box rfl) ?_
  rw [hcl]
  have g0 : (H' ++ [AObj.cells 0 .exact [.str s, .int .i64 d, .int .i64 a, .str k]])[H'.length]? = some (.cells 0 .exact [.str s, .int .i64 d, .int .i64 a, .str k]) := by rw [app_get0]; rfl
  have p0 : H' <+: H' ++ [AObj.cells 0 .exact [.str s, .int .i64 d, .int .i64 a, .str k]] := pre_app _ _
  generalize H' ++ [AObj.cells 0 .exact [.str s, .int .i64 d, .int .i64 a, .str k]] = A at *
  repeat with_reducible first
  | refine isB_T ?_
  | refine isB_F ?_
  | (refine isB_ct ?_ ?_; (· first | omega | rfl | assumption | trivial))
  | (refine isB_cf ?_ ?_; (· first | omega | assumption))
  | refine onE_i ?_
  | (refine onE_s ?_ ?_; (· decide))
  | refine vb_i e_ext0 ?_
  | refine vb_i e_ext1 ?_
  | refine vb_i e_ext2 ?_
  | refine vb_i (lss64 _ _ _) ?_
  | refine vb_i (leq64 _ _ _) ?_
  | refine vb_i (gtr64 _ _ _) ?_
  | refine vb_i (geq64 _ _ _) ?_
  | refine vb_i (eql64 _ _ _) ?_
  | refine vb_i (neq64 _ _ _) ?_
  | refine vb_i (eqls _ _) ?_
  | refine vb_i (neqs _ _) ?_
  | (refine vb_i (add64 ?_ ?_) ?_; (· omega); (· omega))
  | (refine vb_i (sub64 ?_ ?_) ?_; (· omega); (· omega))
  | (refine vb_i (mul64 ?_ ?_) ?_; (· omega); (· omega))
  | (refine vb_i (quo64 ?_ ?_ ?_) ?_; (· omega); (· omega); (· omega))
  | (refine vb_i (rem64 ?_ ?_) ?_; (· omega); (· omega))
  | refine vb_i (e_lenSt _) ?_
  | refine vb_i (e_lenSl _ _ _) ?_
  | refine vb_i e_lenNil ?_
  | refine vb_i (lenSl_view (by assumption)) ?_
  | refine vb_i (e_ptrNil _ _) ?_
  | refine vb_i (e_ptrNilN _ _) ?_
  | refine vb_i (e_nilNil _) ?_
  | refine vb_i (e_nilNilN _) ?_
  | refine vb_i (e_pickT _ _) ?_
  | refine vb_i (e_pickF _ _) ?_
  | refine vb_i e_notd ?_
  | refine vb_i e_boolNe ?_
  | refine vb_i e_boolEq ?_
  | refine vb_i (e_not _) ?_
  | refine vb_i (e_nilCheck _) ?_
  | refine vb_i (e_fieldAddr _ _) ?_
  | refine hb_i (e_alloc _ _) ?_
  | (refine vb_i (adds ?_) ?_; (· first | omega | (simp only [List.length_cons, List.length_nil, List.length_append]; omega)))
  refine vb_i (v := .str s) (e_load1 g0 (by simp)) ?_
  repeat with_reducible first
  | refine isB_T ?_
  | refine isB_F ?_
  | (refine isB_ct ?_ ?_; (· first | omega | rfl | assumption | trivial))
  | (refine isB_cf ?_ ?_; (· first | omega | assumption))
  | refine onE_i ?_
  | (refine onE_s ?_ ?_; (· decide))
  | refine vb_i e_ext0 ?_
  | refine vb_i e_ext1 ?_
  | refine vb_i e_ext2 ?_
  | refine vb_i (lss64 _ _ _) ?_
  | refine vb_i (leq64 _ _ _) ?_
  | refine vb_i (gtr64 _ _ _) ?_
  | refine vb_i (geq64 _ _ _) ?_
  | refine vb_i (eql64 _ _ _) ?_
  | refine vb_i (neq64 _ _ _) ?_
  | refine vb_i (eqls _ _) ?_
  | refine vb_i (neqs _ _) ?_
  | (refine vb_i (add64 ?_ ?_) ?_; (· omega); (· omega))
  | (refine vb_i (sub64 ?_ ?_) ?_; (· omega); (· omega))
  | (refine vb_i (mul64 ?_ ?_) ?_; (· omega); (· omega))
  | (refine vb_i (quo64 ?_ ?_ ?_) ?_; (· omega); (· omega); (· omega))
  | (refine vb_i (rem64 ?_ ?_) ?_; (· omega); (· omega))
  | refine vb_i (e_lenSt _) ?_
  | refine vb_i (e_lenSl _ _ _) ?_
  | refine vb_i e_lenNil ?_
  | refine vb_i (lenSl_view (by assumption)) ?_
  | refine vb_i (e_ptrNil _ _) ?_
  | refine vb_i (e_ptrNilN _ _) ?_
  | refine vb_i (e_nilNil _) ?_
  | refine vb_i (e_nilNilN _) ?_
  | refine vb_i (e_pickT _ _) ?_
  | refine vb_i (e_pickF _ _) ?_
  | refine vb_i e_notd ?_
  | refine vb_i e_boolNe ?_
  | refine vb_i e_boolEq ?_
  | refine vb_i (e_not _) ?_
  | refine vb_i (e_nilCheck _) ?_
  | refine vb_i (e_fieldAddr _ _) ?_
  | refine hb_i (e_alloc _ _) ?_
  | (refine vb_i (adds ?_) ?_; (· first | omega | (simp only [List.length_cons, List.length_nil, List.length_append]; omega)))
  refine vb_i (v := .int .i64 d) (e_load1 g0 (by simp)) ?_
  repeat with_reducible first
  | refine isB_T ?_
  | refine isB_F ?_
  | (refine isB_ct ?_ ?_; (· first | omega | rfl | assumption | trivial))
  | (refine isB_cf ?_ ?_; (· first | omega | assumption))
  | refine onE_i ?_
  | (refine onE_s ?_ ?_; (· decide))
  | refine vb_i e_ext0 ?_
  | refine vb_i e_ext1 ?_
  | refine vb_i e_ext2 ?_
  | refine vb_i (lss64 _ _ _) ?_
  | refine vb_i (leq64 _ _ _) ?_
  | refine vb_i (gtr64 _ _ _) ?_
  | refine vb_i (geq64 _ _ _) ?_
  | refine vb_i (eql64 _ _ _) ?_
  | refine vb_i (neq64 _ _ _) ?_
  | refine vb_i (eqls _ _) ?_
  | refine vb_i (neqs _ _) ?_
  | (refine vb_i (add64 ?_ ?_) ?_; (· omega); (· omega))
  | (refine vb_i (sub64 ?_ ?_) ?_; (· omega); (· omega))
  | (refine vb_i (mul64 ?_ ?_) ?_; (· omega); (· omega))
  | (refine vb_i (quo64 ?_ ?_ ?_) ?_; (· omega); (· omega); (· omega))
  | (refine vb_i (rem64 ?_ ?_) ?_; (· omega); (· omega))
  | refine vb_i (e_lenSt _) ?_
  | refine vb_i (e_lenSl _ _ _) ?_
  | refine vb_i e_lenNil ?_
  | refine vb_i (lenSl_view (by assumption)) ?_
  | refine vb_i (e_ptrNil _ _) ?_
  | refine vb_i (e_ptrNilN _ _) ?_
  | refine vb_i (e_nilNil _) ?_
  | refine vb_i (e_nilNilN _) ?_
  | refine vb_i (e_pickT _ _) ?_
  | refine vb_i (e_pickF _ _) ?_
  | refine vb_i e_notd ?_
  | refine vb_i e_boolNe ?_
  | refine vb_i e_boolEq ?_
  | refine vb_i (e_not _) ?_
  | refine vb_i (e_nilCheck _) ?_
  | refine vb_i (e_fieldAddr _ _) ?_
  | refine hb_i (e_alloc _ _) ?_
  | (refine vb_i (adds ?_) ?_; (· first | omega | (simp only [List.length_cons, List.length_nil, List.length_append]; omega)))
  refine vb_i (v := .int .i64 a) (e_load1 g0 (by simp)) ?_
  repeat with_reducible first
  | refine isB_T ?_
  | refine isB_F ?_
  | (refine isB_ct ?_ ?_; (· first | omega | rfl | assumption | trivial))
  | (refine isB_cf ?_ ?_; (· first | omega | assumption))
  | refine onE_i ?_
  | (refine onE_s ?_ ?_; (· decide))
  | refine vb_i e_ext0 ?_
  | refine vb_i e_ext1 ?_
  | refine vb_i e_ext2 ?_
  | refine vb_i (lss64 _ _ _) ?_
  | refine vb_i (leq64 _ _ _) ?_
  | refine vb_i (gtr64 _ _ _) ?_
  | refine vb_i (geq64 _ _ _) ?_
  | refine vb_i (eql64 _ _ _) ?_
  | refine vb_i (neq64 _ _ _) ?_
  | refine vb_i (eqls _ _) ?_
  | refine vb_i (neqs _ _) ?_
  | (refine vb_i (add64 ?_ ?_) ?_; (· omega); (· omega))
  | (refine vb_i (sub64 ?_ ?_) ?_; (· omega); (· omega))
  | (refine vb_i (mul64 ?_ ?_) ?_; (· omega); (· omega))
  | (refine vb_i (quo64 ?_ ?_ ?_) ?_; (· omega); (· omega); (· omega))
  | (refine vb_i (rem64 ?_ ?_) ?_; (· omega); (· omega))
  | refine vb_i (e_lenSt _) ?_
  | refine vb_i (e_lenSl _ _ _) ?_
  | refine vb_i e_lenNil ?_
  | refine vb_i (lenSl_view (by assumption)) ?_
  | refine vb_i (e_ptrNil _ _) ?_
  | refine vb_i (e_ptrNilN _ _) ?_
  | refine vb_i (e_nilNil _) ?_
  | refine vb_i (e_nilNilN _) ?_
  | refine vb_i (e_pickT _ _) ?_
  | refine vb_i (e_pickF _ _) ?_
  | refine vb_i e_notd ?_
  | refine vb_i e_boolNe ?_
  | refine vb_i e_boolEq ?_
  | refine vb_i (e_not _) ?_
  | refine vb_i (e_nilCheck _) ?_
  | refine vb_i (e_fieldAddr _ _) ?_
  | refine hb_i (e_alloc _ _) ?_
  | (refine vb_i (adds ?_) ?_; (· first | omega | (simp only [List.length_cons, List.length_nil, List.length_append]; omega)))
  refine vb_i (v := .str k) (e_load1 g0 (by simp)) ?_
  refine JoinP.mk (fun e vs B => B = A ∧ ((e = .ret ∧ vs = [.bool true]) ∨ (e = .normal ∧ s.length ≤ 1000 ∧ k.length ≤ 1000))) ?_ ?_
  · repeat with_reducible first
    | refine isB_T ?_
    | refine isB_F ?_
    | (refine isB_ct ?_ ?_; (· first | omega | rfl | assumption | trivial))
    | (refine isB_cf ?_ ?_; (· first | omega | assumption))
    | refine onE_i ?_
    | (refine onE_s ?_ ?_; (· decide))
    | refine vb_i e_ext0 ?_
    | refine vb_i e_ext1 ?_
    | refine vb_i e_ext2 ?_
    | refine vb_i (lss64 _ _ _) ?_
    | refine vb_i (leq64 _ _ _) ?_
    | refine vb_i (gtr64 _ _ _) ?_
    | refine vb_i (geq64 _ _ _) ?_
    | refine vb_i (eql64 _ _ _) ?_
    | refine vb_i (neq64 _ _ _) ?_
    | refine vb_i (eqls _ _) ?_
    | refine vb_i (neqs _ _) ?_
    | (refine vb_i (add64 ?_ ?_) ?_; (· omega); (· omega))
    | (refine vb_i (sub64 ?_ ?_) ?_; (· omega); (· omega))
    | (refine vb_i (mul64 ?_ ?_) ?_; (· omega); (· omega))
    | (refine vb_i (quo64 ?_ ?_ ?_) ?_; (· omega); (· omega); (· omega))
    | (refine vb_i (rem64 ?_ ?_) ?_; (· omega); (· omega))
    | refine vb_i (e_lenSt _) ?_
    | refine vb_i (e_lenSl _ _ _) ?_
    | refine vb_i e_lenNil ?_
    | refine vb_i (lenSl_view (by assumption)) ?_
    | refine vb_i (e_ptrNil _ _) ?_
    | refine vb_i (e_ptrNilN _ _) ?_
    | refine vb_i (e_nilNil _) ?_
    | refine vb_i (e_nilNilN _) ?_
    | refine vb_i (e_pickT _ _) ?_
    | refine vb_i (e_pickF _ _) ?_
    | refine vb_i e_notd ?_
    | refine vb_i e_boolNe ?_
    | refine vb_i e_boolEq ?_
    | refine vb_i (e_not _) ?_
    | refine vb_i (e_nilCheck _) ?_
    | refine vb_i (e_fieldAddr _ _) ?_
    | refine hb_i (e_alloc _ _) ?_
    | (refine vb_i (adds ?_) ?_; (· first | omega | (simp only [List.length_cons, List.length_nil, List.length_append]; omega)))
    refine isB_c (fun h1 => ?_) (fun h1 => ?_)
    · refine cb_i _ _ ⟨rfl, rfl, rfl⟩ ?_
      exact ⟨rfl, .inl ⟨rfl, rfl⟩⟩
    · repeat with_reducible first
      | refine isB_T ?_
      | refine isB_F ?_
      | (refine isB_ct ?_ ?_; (· first | omega | rfl | assumption | trivial))
      | (refine isB_cf ?_ ?_; (· first | omega | assumption))
      | refine onE_i ?_
      | (refine onE_s ?_ ?_; (· decide))
      | refine vb_i e_ext0 ?_
      | refine vb_i e_ext1 ?_
      | refine vb_i e_ext2 ?_
      | refine vb_i (lss64 _ _ _) ?_
      | refine vb_i (leq64 _ _ _) ?_
      | refine vb_i (gtr64 _ _ _) ?_
      | refine vb_i (geq64 _ _ _) ?_
      | refine vb_i (eql64 _ _ _) ?_
      | refine vb_i (neq64 _ _ _) ?_
      | refine vb_i (eqls _ _) ?_
      | refine vb_i (neqs _ _) ?_
      | (refine vb_i (add64 ?_ ?_) ?_; (· omega); (· omega))
      | (refine vb_i (sub64 ?_ ?_) ?_; (· omega); (· omega))
      | (refine vb_i (mul64 ?_ ?_) ?_; (· omega); (· omega))
      | (refine vb_i (quo64 ?_ ?_ ?_) ?_; (· omega); (· omega); (· omega))
      | (refine vb_i (rem64 ?_ ?_) ?_; (· omega); (· omega))
      | refine vb_i (e_lenSt _) ?_
      | refine vb_i (e_lenSl _ _ _) ?_
      | refine vb_i e_lenNil ?_
      | refine vb_i (lenSl_view (by assumption)) ?_
      | refine vb_i (e_ptrNil _ _) ?_
      | refine vb_i (e_ptrNilN _ _) ?_
      | refine vb_i (e_nilNil _) ?_
      | refine vb_i (e_nilNilN _) ?_
      | refine vb_i (e_pickT _ _) ?_
      | refine vb_i (e_pickF _ _) ?_
      | refine vb_i e_notd ?_
      | refine vb_i e_boolNe ?_
      | refine vb_i e_boolEq ?_
      | refine vb_i (e_not _) ?_
      | refine vb_i (e_nilCheck _) ?_
      | refine vb_i (e_fieldAddr _ _) ?_
      | refine hb_i (e_alloc _ _) ?_
      | (refine vb_i (adds ?_) ?_; (· first | omega | (simp only [List.length_cons, List.length_nil, List.length_append]; omega)))
      refine isB_c (fun h2 => ?_) (fun h2 => ?_)
      · refine cb_i _ _ ⟨rfl, rfl, rfl⟩ ?_
        exact ⟨rfl, .inl ⟨rfl, rfl⟩⟩
      · exact ⟨rfl, .inr ⟨rfl, by omega, by omega⟩⟩
  · rintro _ vs B ⟨rfl, ⟨rfl, rfl⟩ | ⟨rfl, hs, hk0⟩⟩
    · repeat with_reducible first
      | refine isB_T ?_
      | refine isB_F ?_
      | (refine isB_ct ?_ ?_; (· first | omega | rfl | assumption | trivial))
      | (refine isB_cf ?_ ?_; (· first | omega | assumption))
      | refine onE_i ?_
      | (refine onE_s ?_ ?_; (· decide))
      | refine vb_i e_ext0 ?_
      | refine vb_i e_ext1 ?_
      | refine vb_i e_ext2 ?_
      | refine vb_i (lss64 _ _ _) ?_
      | refine vb_i (leq64 _ _ _) ?_
      | refine vb_i (gtr64 _ _ _) ?_
      | refine vb_i (geq64 _ _ _) ?_
      | refine vb_i (eql64 _ _ _) ?_
      | refine vb_i (neq64 _ _ _) ?_
      | refine vb_i (eqls _ _) ?_
      | refine vb_i (neqs _ _) ?_
      | (refine vb_i (add64 ?_ ?_) ?_; (· omega); (· omega))
      | (refine vb_i (sub64 ?_ ?_) ?_; (· omega); (· omega))
      | (refine vb_i (mul64 ?_ ?_) ?_; (· omega); (· omega))
      | (refine vb_i (quo64 ?_ ?_ ?_) ?_; (· omega); (· omega); (· omega))
      | (refine vb_i (rem64 ?_ ?_) ?_; (· omega); (· omega))
      | refine vb_i (e_lenSt _) ?_
      | refine vb_i (e_lenSl _ _ _) ?_
      | refine vb_i e_lenNil ?_
      | refine vb_i (lenSl_view (by assumption)) ?_
      | refine vb_i (e_ptrNil _ _) ?_
      | refine vb_i (e_ptrNilN _ _) ?_
      | refine vb_i (e_nilNil _) ?_
      | refine vb_i (e_nilNilN _) ?_
      | refine vb_i (e_pickT _ _) ?_
      | refine vb_i (e_pickF _ _) ?_
      | refine vb_i e_notd ?_
      | refine vb_i e_boolNe ?_
      | refine vb_i e_boolEq ?_
      | refine vb_i (e_not _) ?_
      | refine vb_i (e_nilCheck _) ?_
      | refine vb_i (e_fieldAddr _ _) ?_
      | refine hb_i (e_alloc _ _) ?_
      | (refine vb_i (adds ?_) ?_; (· first | omega | (simp only [List.length_cons, List.length_nil, List.length_append]; omega)))
      exact fin_bool rfl p0
    · repeat with_reducible first
      | refine isB_T ?_
      | refine isB_F ?_
      | (refine isB_ct ?_ ?_; (· first | omega | rfl | assumption | trivial))
      | (refine isB_cf ?_ ?_; (· first | omega | assumption))
      | refine onE_i ?_
      | (refine onE_s ?_ ?_; (· decide))
      | refine vb_i e_ext0 ?_
      | refine vb_i e_ext1 ?_
      | refine vb_i e_ext2 ?_
      | refine vb_i (lss64 _ _ _) ?_
      | refine vb_i (leq64 _ _ _) ?_
      | refine vb_i (gtr64 _ _ _) ?_
      | refine vb_i (geq64 _ _ _) ?_
      | refine vb_i (eql64 _ _ _) ?_
      | refine vb_i (neq64 _ _ _) ?_
      | refine vb_i (eqls _ _) ?_
      | refine vb_i (neqs _ _) ?_
      | (refine vb_i (add64 ?_ ?_) ?_; (· omega); (· omega))
      | (refine vb_i (sub64 ?_ ?_) ?_; (· omega); (· omega))
      | (refine vb_i (mul64 ?_ ?_) ?_; (· omega); (· omega))
      | (refine vb_i (quo64 ?_ ?_ ?_) ?_; (· omega); (· omega); (· omega))
      | (refine vb_i (rem64 ?_ ?_) ?_; (· omega); (· omega))
      | refine vb_i (e_lenSt _) ?_
      | refine vb_i (e_lenSl _ _ _) ?_
      | refine vb_i e_lenNil ?_
      | refine vb_i (lenSl_view (by assumption)) ?_
      | refine vb_i (e_ptrNil _ _) ?_
      | refine vb_i (e_ptrNilN _ _) ?_
      | refine vb_i (e_nilNil _) ?_
      | refine vb_i (e_nilNilN _) ?_
      | refine vb_i (e_pickT _ _) ?_
      | refine vb_i (e_pickF _ _) ?_
      | refine vb_i e_notd ?_
      | refine vb_i e_boolNe ?_
      | refine vb_i e_boolEq ?_
      | refine vb_i (e_not _) ?_
      | refine vb_i (e_nilCheck _) ?_
      | refine vb_i (e_fieldAddr _ _) ?_
      | refine hb_i (e_alloc _ _) ?_
      | (refine vb_i (adds ?_) ?_; (· first | omega | (simp only [List.length_cons, List.length_nil, List.length_append]; omega)))
      refine cb_i _ _ ⟨rfl, rfl, rfl⟩ ?_
      obtain ⟨C1, T1, hS, r1, hT1, _⟩ := (RunN.start B).Start (by simp) hs d a
      refine cb_i _ _ hS ?_
      have hva := startV_len d a s
      repeat with_reducible first
      | refine isB_T ?_
      | refine isB_F ?_
      | (refine isB_ct ?_ ?_; (· first | omega | rfl | assumption | trivial))
      | (refine isB_cf ?_ ?_; (· first | omega | assumption))
      | refine onE_i ?_
      | (refine onE_s ?_ ?_; (· decide))
      | refine vb_i e_ext0 ?_
      | refine vb_i e_ext1 ?_
      | refine vb_i e_ext2 ?_
      | refine vb_i (lss64 _ _ _) ?_
      | refine vb_i (leq64 _ _ _) ?_
      | refine vb_i (gtr64 _ _ _) ?_
      | refine vb_i (geq64 _ _ _) ?_
      | refine vb_i (eql64 _ _ _) ?_
      | refine vb_i (neq64 _ _ _) ?_
      | refine vb_i (eqls _ _) ?_
      | refine vb_i (neqs _ _) ?_
      | (refine vb_i (add64 ?_ ?_) ?_; (· omega); (· omega))
      | (refine vb_i (sub64 ?_ ?_) ?_; (· omega); (· omega))
      | (refine vb_i (mul64 ?_ ?_) ?_; (· omega); (· omega))
      | (refine vb_i (quo64 ?_ ?_ ?_) ?_; (· omega); (· omega); (· omega))
      | (refine vb_i (rem64 ?_ ?_) ?_; (· omega); (· omega))
      | refine vb_i (e_lenSt _) ?_
      | refine vb_i (e_lenSl _ _ _) ?_
      | refine vb_i e_lenNil ?_
      | refine vb_i (lenSl_view (by assumption)) ?_
      | refine vb_i (e_ptrNil _ _) ?_
      | refine vb_i (e_ptrNilN _ _) ?_
      | refine vb_i (e_nilNil _) ?_
      | refine vb_i (e_nilNilN _) ?_
      | refine vb_i (e_pickT _ _) ?_
      | refine vb_i (e_pickF _ _) ?_
      | refine vb_i e_notd ?_
      | refine vb_i e_boolNe ?_
      | refine vb_i e_boolEq ?_
      | refine vb_i (e_not _) ?_
      | refine vb_i (e_nilCheck _) ?_
      | refine vb_i (e_fieldAddr _ _) ?_
      | refine hb_i (e_alloc _ _) ?_
      | (refine vb_i (adds ?_) ?_; (· first | omega | (simp only [List.length_cons, List.length_nil, List.length_append]; omega)))
      with_reducible refine sb_i (store_new List.length_replicate (by rw [List.length_map]; exact hva) (cells_byte _)) ?_
      obtain ⟨C2, T2, hC, r2, hk2⟩ := (r1.push (.cells 0 .exact ((startV d a s).map ofByte))).Check (by simp at hT1; omega) k
      refine cb_i _ _ hC ?_
      have g1 : C2[C1.length]? = some (.cells 0 .exact ((startV d a s).map ofByte)) := by
        rw [hk2 _ (.inr rfl), app_get0]; rfl
      have p2 := p0.trans r2.pre
      clear hS hC hk2 r1 r2
      repeat with_reducible first
      | refine isB_T ?_
      | refine isB_F ?_
      | (refine isB_ct ?_ ?_; (· first | omega | rfl | assumption | trivial))
      | (refine isB_cf ?_ ?_; (· first | omega | assumption))
      | refine onE_i ?_
      | (refine onE_s ?_ ?_; (· decide))
      | refine vb_i e_ext0 ?_
      | refine vb_i e_ext1 ?_
      | refine vb_i e_ext2 ?_
      | refine vb_i (lss64 _ _ _) ?_
      | refine vb_i (leq64 _ _ _) ?_
      | refine vb_i (gtr64 _ _ _) ?_
      | refine vb_i (geq64 _ _ _) ?_
      | refine vb_i (eql64 _ _ _) ?_
      | refine vb_i (neq64 _ _ _) ?_
      | refine vb_i (eqls _ _) ?_
      | refine vb_i (neqs _ _) ?_
      | (refine vb_i (add64 ?_ ?_) ?_; (· omega); (· omega))
      | (refine vb_i (sub64 ?_ ?_) ?_; (· omega); (· omega))
      | (refine vb_i (mul64 ?_ ?_) ?_; (· omega); (· omega))
      | (refine vb_i (quo64 ?_ ?_ ?_) ?_; (· omega); (· omega); (· omega))
      | (refine vb_i (rem64 ?_ ?_) ?_; (· omega); (· omega))
      | refine vb_i (e_lenSt _) ?_
      | refine vb_i (e_lenSl _ _ _) ?_
      | refine vb_i e_lenNil ?_
      | refine vb_i (lenSl_view (by assumption)) ?_
      | refine vb_i (e_ptrNil _ _) ?_
      | refine vb_i (e_ptrNilN _ _) ?_
      | refine vb_i (e_nilNil _) ?_
      | refine vb_i (e_nilNilN _) ?_
      | refine vb_i (e_pickT _ _) ?_
      | refine vb_i (e_pickF _ _) ?_
      | refine vb_i e_notd ?_
      | refine vb_i e_boolNe ?_
      | refine vb_i e_boolEq ?_
      | refine vb_i (e_not _) ?_
      | refine vb_i (e_nilCheck _) ?_
      | refine vb_i (e_fieldAddr _ _) ?_
      | refine hb_i (e_alloc _ _) ?_
      | (refine vb_i (adds ?_) ?_; (· first | omega | (simp only [List.length_cons, List.length_nil, List.length_append]; omega)))
      refine JoinP.mk (fun e vs D => e = .normal ∧ vs = [.bool (decide (right d a))] ∧ D = C2) ?_ ?_
      · by_cases hd0 : d = 0
        · by_cases ha0 : a = 0
          · repeat with_reducible first
            | refine isB_T ?_
            | refine isB_F ?_
            | (refine isB_ct ?_ ?_; (· first | omega | rfl | assumption | trivial))
            | (refine isB_cf ?_ ?_; (· first | omega | assumption))
            | refine onE_i ?_
            | (refine onE_s ?_ ?_; (· decide))
            | refine vb_i e_ext0 ?_
            | refine vb_i e_ext1 ?_
            | refine vb_i e_ext2 ?_
            | refine vb_i (lss64 _ _ _) ?_
            | refine vb_i (leq64 _ _ _) ?_
            | refine vb_i (gtr64 _ _ _) ?_
            | refine vb_i (geq64 _ _ _) ?_
            | refine vb_i (eql64 _ _ _) ?_
            | refine vb_i (neq64 _ _ _) ?_
            | refine vb_i (eqls _ _) ?_
            | refine vb_i (neqs _ _) ?_
            | (refine vb_i (add64 ?_ ?_) ?_; (· omega); (· omega))
            | (refine vb_i (sub64 ?_ ?_) ?_; (· omega); (· omega))
            | (refine vb_i (mul64 ?_ ?_) ?_; (· omega); (· omega))
            | (refine vb_i (quo64 ?_ ?_ ?_) ?_; (· omega); (· omega); (· omega))
            | (refine vb_i (rem64 ?_ ?_) ?_; (· omega); (· omega))
            | refine vb_i (e_lenSt _) ?_
            | refine vb_i (e_lenSl _ _ _) ?_
            | refine vb_i e_lenNil ?_
            | refine vb_i (lenSl_view (by assumption)) ?_
            | refine vb_i (e_ptrNil _ _) ?_
            | refine vb_i (e_ptrNilN _ _) ?_
            | refine vb_i (e_nilNil _) ?_
            | refine vb_i (e_nilNilN _) ?_
            | refine vb_i (e_pickT _ _) ?_
            | refine vb_i (e_pickF _ _) ?_
            | refine vb_i e_notd ?_
            | refine vb_i e_boolNe ?_
            | refine vb_i e_boolEq ?_
            | refine vb_i (e_not _) ?_
            | refine vb_i (e_nilCheck _) ?_
            | refine vb_i (e_fieldAddr _ _) ?_
            | refine hb_i (e_alloc _ _) ?_
            | (refine vb_i (adds ?_) ?_; (· first | omega | (simp only [List.length_cons, List.length_nil, List.length_append]; omega)))
            exact ⟨rfl, by rw [decide_eq_true (show right d a from ⟨.inl hd0, .inl ha0⟩)], rfl⟩
          · repeat with_reducible first
            | refine isB_T ?_
            | refine isB_F ?_
            | (refine isB_ct ?_ ?_; (· first | omega | rfl | assumption | trivial))
            | (refine isB_cf ?_ ?_; (· first | omega | assumption))
            | refine onE_i ?_
            | (refine onE_s ?_ ?_; (· decide))
            | refine vb_i e_ext0 ?_
            | refine vb_i e_ext1 ?_
            | refine vb_i e_ext2 ?_
            | refine vb_i (lss64 _ _ _) ?_
            | refine vb_i (leq64 _ _ _) ?_
            | refine vb_i (gtr64 _ _ _) ?_
            | refine vb_i (geq64 _ _ _) ?_
            | refine vb_i (eql64 _ _ _) ?_
            | refine vb_i (neq64 _ _ _) ?_
            | refine vb_i (eqls _ _) ?_
            | refine vb_i (neqs _ _) ?_
            | (refine vb_i (add64 ?_ ?_) ?_; (· omega); (· omega))
            | (refine vb_i (sub64 ?_ ?_) ?_; (· omega); (· omega))
            | (refine vb_i (mul64 ?_ ?_) ?_; (· omega); (· omega))
            | (refine vb_i (quo64 ?_ ?_ ?_) ?_; (· omega); (· omega); (· omega))
            | (refine vb_i (rem64 ?_ ?_) ?_; (· omega); (· omega))
            | refine vb_i (e_lenSt _) ?_
            | refine vb_i (e_lenSl _ _ _) ?_
            | refine vb_i e_lenNil ?_
            | refine vb_i (lenSl_view (by assumption)) ?_
            | refine vb_i (e_ptrNil _ _) ?_
            | refine vb_i (e_ptrNilN _ _) ?_
            | refine vb_i (e_nilNil _) ?_
            | refine vb_i (e_nilNilN _) ?_
            | refine vb_i (e_pickT _ _) ?_
            | refine vb_i (e_pickF _ _) ?_
            | refine vb_i e_notd ?_
            | refine vb_i e_boolNe ?_
            | refine vb_i e_boolEq ?_
            | refine vb_i (e_not _) ?_
            | refine vb_i (e_nilCheck _) ?_
            | refine vb_i (e_fieldAddr _ _) ?_
            | refine hb_i (e_alloc _ _) ?_
            | (refine vb_i (adds ?_) ?_; (· first | omega | (simp only [List.length_cons, List.length_nil, List.length_append]; omega)))
            exact ⟨rfl, by congr 2; exact decide_eq_decide.2 ⟨fun h => ⟨.inl hd0, .inr h⟩, fun h => by have := h.2; omega⟩, rfl⟩
        · by_cases hd1 : d = 1
          · by_cases ha0 : a = 0
            · repeat with_reducible first
              | refine isB_T ?_
              | refine isB_F ?_
              | (refine isB_ct ?_ ?_; (· first | omega | rfl | assumption | trivial))
              | (refine isB_cf ?_ ?_; (· first | omega | assumption))
              | refine onE_i ?_
              | (refine onE_s ?_ ?_; (· decide))
              | refine vb_i e_ext0 ?_
              | refine vb_i e_ext1 ?_
              | refine vb_i e_ext2 ?_
              | refine vb_i (lss64 _ _ _) ?_
              | refine vb_i (leq64 _ _ _) ?_
              | refine vb_i (gtr64 _ _ _) ?_
              | refine vb_i (geq64 _ _ _) ?_
              | refine vb_i (eql64 _ _ _) ?_
              | refine vb_i (neq64 _ _ _) ?_
              | refine vb_i (eqls _ _) ?_
              | refine vb_i (neqs _ _) ?_
              | (refine vb_i (add64 ?_ ?_) ?_; (· omega); (· omega))
              | (refine vb_i (sub64 ?_ ?_) ?_; (· omega); (· omega))
              | (refine vb_i (mul64 ?_ ?_) ?_; (· omega); (· omega))
              | (refine vb_i (quo64 ?_ ?_ ?_) ?_; (· omega); (· omega); (· omega))
              | (refine vb_i (rem64 ?_ ?_) ?_; (· omega); (· omega))
              | refine vb_i (e_lenSt _) ?_
              | refine vb_i (e_lenSl _ _ _) ?_
              | refine vb_i e_lenNil ?_
              | refine vb_i (lenSl_view (by assumption)) ?_
              | refine vb_i (e_ptrNil _ _) ?_
              | refine vb_i (e_ptrNilN _ _) ?_
              | refine vb_i (e_nilNil _) ?_
              | refine vb_i (e_nilNilN _) ?_
              | refine vb_i (e_pickT _ _) ?_
              | refine vb_i (e_pickF _ _) ?_
              | refine vb_i e_notd ?_
              | refine vb_i e_boolNe ?_
              | refine vb_i e_boolEq ?_
              | refine vb_i (e_not _) ?_
              | refine vb_i (e_nilCheck _) ?_
              | refine vb_i (e_fieldAddr _ _) ?_
              | refine hb_i (e_alloc _ _) ?_
              | (refine vb_i (adds ?_) ?_; (· first | omega | (simp only [List.length_cons, List.length_nil, List.length_append]; omega)))
              exact ⟨rfl, by rw [decide_eq_true (show right d a from ⟨.inr hd1, .inl ha0⟩)], rfl⟩
            · repeat with_reducible first
              | refine isB_T ?_
              | refine isB_F ?_
              | (refine isB_ct ?_ ?_; (· first | omega | rfl | assumption | trivial))
              | (refine isB_cf ?_ ?_; (· first | omega | assumption))
              | refine onE_i ?_
              | (refine onE_s ?_ ?_; (· decide))
              | refine vb_i e_ext0 ?_
              | refine vb_i e_ext1 ?_
              | refine vb_i e_ext2 ?_
              | refine vb_i (lss64 _ _ _) ?_
              | refine vb_i (leq64 _ _ _) ?_
              | refine vb_i (gtr64 _ _ _) ?_
              | refine vb_i (geq64 _ _ _) ?_
              | refine vb_i (eql64 _ _ _) ?_
              | refine vb_i (neq64 _ _ _) ?_
              | refine vb_i (eqls _ _) ?_
              | refine vb_i (neqs _ _) ?_
              | (refine vb_i (add64 ?_ ?_) ?_; (· omega); (· omega))
              | (refine vb_i (sub64 ?_ ?_) ?_; (· omega); (· omega))
              | (refine vb_i (mul64 ?_ ?_) ?_; (· omega); (· omega))
              | (refine vb_i (quo64 ?_ ?_ ?_) ?_; (· omega); (· omega); (· omega))
              | (refine vb_i (rem64 ?_ ?_) ?_; (· omega); (· omega))
              | refine vb_i (e_lenSt _) ?_
              | refine vb_i (e_lenSl _ _ _) ?_
              | refine vb_i e_lenNil ?_
              | refine vb_i (lenSl_view (by assumption)) ?_
              | refine vb_i (e_ptrNil _ _) ?_
              | refine vb_i (e_ptrNilN _ _) ?_
              | refine vb_i (e_nilNil _) ?_
              | refine vb_i (e_nilNilN _) ?_
              | refine vb_i (e_pickT _ _) ?_
              | refine vb_i (e_pickF _ _) ?_
              | refine vb_i e_notd ?_
              | refine vb_i e_boolNe ?_
              | refine vb_i e_boolEq ?_
              | refine vb_i (e_not _) ?_
              | refine vb_i (e_nilCheck _) ?_
              | refine vb_i (e_fieldAddr _ _) ?_
              | refine hb_i (e_alloc _ _) ?_
              | (refine vb_i (adds ?_) ?_; (· first | omega | (simp only [List.length_cons, List.length_nil, List.length_append]; omega)))
              exact ⟨rfl, by congr 2; exact decide_eq_decide.2 ⟨fun h => ⟨.inr hd1, .inr h⟩, fun h => by have := h.2; omega⟩, rfl⟩
          · repeat with_reducible first
            | refine isB_T ?_
            | refine isB_F ?_
            | (refine isB_ct ?_ ?_; (· first | omega | rfl | assumption | trivial))
            | (refine isB_cf ?_ ?_; (· first | omega | assumption))
            | refine onE_i ?_
            | (refine onE_s ?_ ?_; (· decide))
            | refine vb_i e_ext0 ?_
            | refine vb_i e_ext1 ?_
            | refine vb_i e_ext2 ?_
            | refine vb_i (lss64 _ _ _) ?_
            | refine vb_i (leq64 _ _ _) ?_
            | refine vb_i (gtr64 _ _ _) ?_
            | refine vb_i (geq64 _ _ _) ?_
            | refine vb_i (eql64 _ _ _) ?_
            | refine vb_i (neq64 _ _ _) ?_
            | refine vb_i (eqls _ _) ?_
            | refine vb_i (neqs _ _) ?_
            | (refine vb_i (add64 ?_ ?_) ?_; (· omega); (· omega))
            | (refine vb_i (sub64 ?_ ?_) ?_; (· omega); (· omega))
            | (refine vb_i (mul64 ?_ ?_) ?_; (· omega); (· omega))
            | (refine vb_i (quo64 ?_ ?_ ?_) ?_; (· omega); (· omega); (· omega))
            | (refine vb_i (rem64 ?_ ?_) ?_; (· omega); (· omega))
            | refine vb_i (e_lenSt _) ?_
            | refine vb_i (e_lenSl _ _ _) ?_
            | refine vb_i e_lenNil ?_
            | refine vb_i (lenSl_view (by assumption)) ?_
            | refine vb_i (e_ptrNil _ _) ?_
            | refine vb_i (e_ptrNilN _ _) ?_
            | refine vb_i (e_nilNil _) ?_
            | refine vb_i (e_nilNilN _) ?_
            | refine vb_i (e_pickT _ _) ?_
            | refine vb_i (e_pickF _ _) ?_
            | refine vb_i e_notd ?_
            | refine vb_i e_boolNe ?_
            | refine vb_i e_boolEq ?_
            | refine vb_i (e_not _) ?_
            | refine vb_i (e_nilCheck _) ?_
            | refine vb_i (e_fieldAddr _ _) ?_
            | refine hb_i (e_alloc _ _) ?_
            | (refine vb_i (adds ?_) ?_; (· first | omega | (simp only [List.length_cons, List.length_nil, List.length_append]; omega)))
            exact ⟨rfl, by rw [decide_eq_false (show ¬ right d a from fun h => by have := h.1; omega)], rfl⟩
      · rintro _ _ D ⟨rfl, rfl, rfl⟩
        repeat with_reducible first
        | refine isB_T ?_
        | refine isB_F ?_
        | (refine isB_ct ?_ ?_; (· first | omega | rfl | assumption | trivial))
        | (refine isB_cf ?_ ?_; (· first | omega | assumption))
        | refine onE_i ?_
        | (refine onE_s ?_ ?_; (· decide))
        | refine vb_i e_ext0 ?_
        | refine vb_i e_ext1 ?_
        | refine vb_i e_ext2 ?_
        | refine vb_i (lss64 _ _ _) ?_
        | refine vb_i (leq64 _ _ _) ?_
        | refine vb_i (gtr64 _ _ _) ?_
        | refine vb_i (geq64 _ _ _) ?_
        | refine vb_i (eql64 _ _ _) ?_
        | refine vb_i (neq64 _ _ _) ?_
        | refine vb_i (eqls _ _) ?_
        | refine vb_i (neqs _ _) ?_
        | (refine vb_i (add64 ?_ ?_) ?_; (· omega); (· omega))
        | (refine vb_i (sub64 ?_ ?_) ?_; (· omega); (· omega))
        | (refine vb_i (mul64 ?_ ?_) ?_; (· omega); (· omega))
        | (refine vb_i (quo64 ?_ ?_ ?_) ?_; (· omega); (· omega); (· omega))
        | (refine vb_i (rem64 ?_ ?_) ?_; (· omega); (· omega))
        | refine vb_i (e_lenSt _) ?_
        | refine vb_i (e_lenSl _ _ _) ?_
        | refine vb_i e_lenNil ?_
        | refine vb_i (lenSl_view (by assumption)) ?_
        | refine vb_i (e_ptrNil _ _) ?_
        | refine vb_i (e_ptrNilN _ _) ?_
        | refine vb_i (e_nilNil _) ?_
        | refine vb_i (e_nilNilN _) ?_
        | refine vb_i (e_pickT _ _) ?_
        | refine vb_i (e_pickF _ _) ?_
        | refine vb_i e_notd ?_
        | refine vb_i e_boolNe ?_
        | refine vb_i e_boolEq ?_
        | refine vb_i (e_not _) ?_
        | refine vb_i (e_nilCheck _) ?_
        | refine vb_i (e_fieldAddr _ _) ?_
        | refine hb_i (e_alloc _ _) ?_
        | (refine vb_i (adds ?_) ?_; (· first | omega | (simp only [List.length_cons, List.length_nil, List.length_append]; omega)))
        simp only [evB]
        repeat with_reducible first
        | refine isB_T ?_
        | refine isB_F ?_
        | (refine isB_ct ?_ ?_; (· first | omega | rfl | assumption | trivial))
        | (refine isB_cf ?_ ?_; (· first | omega | assumption))
        | refine onE_i ?_
        | (refine onE_s ?_ ?_; (· decide))
        | refine vb_i e_ext0 ?_
        | refine vb_i e_ext1 ?_
        | refine vb_i e_ext2 ?_
        | refine vb_i (lss64 _ _ _) ?_
        | refine vb_i (leq64 _ _ _) ?_
        | refine vb_i (gtr64 _ _ _) ?_
        | refine vb_i (geq64 _ _ _) ?_
        | refine vb_i (eql64 _ _ _) ?_
        | refine vb_i (neq64 _ _ _) ?_
        | refine vb_i (eqls _ _) ?_
        | refine vb_i (neqs _ _) ?_
        | (refine vb_i (add64 ?_ ?_) ?_; (· omega); (· omega))
        | (refine vb_i (sub64 ?_ ?_) ?_; (· omega); (· omega))
        | (refine vb_i (mul64 ?_ ?_) ?_; (· omega); (· omega))
        | (refine vb_i (quo64 ?_ ?_ ?_) ?_; (· omega); (· omega); (· omega))
        | (refine vb_i (rem64 ?_ ?_) ?_; (· omega); (· omega))
        | refine vb_i (e_lenSt _) ?_
        | refine vb_i (e_lenSl _ _ _) ?_
        | refine vb_i e_lenNil ?_
        | refine vb_i (lenSl_view (by assumption)) ?_
        | refine vb_i (e_ptrNil _ _) ?_
        | refine vb_i (e_ptrNilN _ _) ?_
        | refine vb_i (e_nilNil _) ?_
        | refine vb_i (e_nilNilN _) ?_
        | refine vb_i (e_pickT _ _) ?_
        | refine vb_i (e_pickF _ _) ?_
        | refine vb_i e_notd ?_
        | refine vb_i e_boolNe ?_
        | refine vb_i e_boolEq ?_
        | refine vb_i (e_not _) ?_
        | refine vb_i (e_nilCheck _) ?_
        | refine vb_i (e_fieldAddr _ _) ?_
        | refine hb_i (e_alloc _ _) ?_
        | (refine vb_i (adds ?_) ?_; (· first | omega | (simp only [List.length_cons, List.length_nil, List.length_append]; omega)))
        by_cases hr : right d a
        · by_cases h64 : s.length = 64
          · have he : startE d a s = 0 := by
              have h1 := hr.1
              have h2 := hr.2
              unfold startE
              rw [if_neg (by omega), if_neg (by omega)]
            have hve : startV d a s = sum (startT d a s) := by simp only [startV, if_pos he]
            have hst := startT_len d a s
            rw [hve] at g1 hva
            rw [he]
            repeat with_reducible first
            | refine isB_T ?_
            | refine isB_F ?_
            | (refine isB_ct ?_ ?_; (· first | omega | rfl | assumption | trivial))
            | (refine isB_cf ?_ ?_; (· first | omega | assumption))
            | refine onE_i ?_
            | (refine onE_s ?_ ?_; (· decide))
            | refine vb_i e_ext0 ?_
            | refine vb_i e_ext1 ?_
            | refine vb_i e_ext2 ?_
            | refine vb_i (lss64 _ _ _) ?_
            | refine vb_i (leq64 _ _ _) ?_
            | refine vb_i (gtr64 _ _ _) ?_
            | refine vb_i (geq64 _ _ _) ?_
            | refine vb_i (eql64 _ _ _) ?_
            | refine vb_i (neq64 _ _ _) ?_
            | refine vb_i (eqls _ _) ?_
            | refine vb_i (neqs _ _) ?_
            | (refine vb_i (add64 ?_ ?_) ?_; (· omega); (· omega))
            | (refine vb_i (sub64 ?_ ?_) ?_; (· omega); (· omega))
            | (refine vb_i (mul64 ?_ ?_) ?_; (· omega); (· omega))
            | (refine vb_i (quo64 ?_ ?_ ?_) ?_; (· omega); (· omega); (· omega))
            | (refine vb_i (rem64 ?_ ?_) ?_; (· omega); (· omega))
            | refine vb_i (e_lenSt _) ?_
            | refine vb_i (e_lenSl _ _ _) ?_
            | refine vb_i e_lenNil ?_
            | refine vb_i (lenSl_view (by assumption)) ?_
            | refine vb_i (e_ptrNil _ _) ?_
            | refine vb_i (e_ptrNilN _ _) ?_
            | refine vb_i (e_nilNil _) ?_
            | refine vb_i (e_nilNilN _) ?_
            | refine vb_i (e_pickT _ _) ?_
            | refine vb_i (e_pickF _ _) ?_
            | refine vb_i e_notd ?_
            | refine vb_i e_boolNe ?_
            | refine vb_i e_boolEq ?_
            | refine vb_i (e_not _) ?_
            | refine vb_i (e_nilCheck _) ?_
            | refine vb_i (e_fieldAddr _ _) ?_
            | refine hb_i (e_alloc _ _) ?_
            | (refine vb_i (adds ?_) ?_; (· first | omega | (simp only [List.length_cons, List.length_nil, List.length_append]; omega)))
            with_reducible refine isB_cf (not_not_intro hr) ?_
            repeat with_reducible first
            | refine isB_T ?_
            | refine isB_F ?_
            | (refine isB_ct ?_ ?_; (· first | omega | rfl | assumption | trivial))
            | (refine isB_cf ?_ ?_; (· first | omega | assumption))
            | refine onE_i ?_
            | (refine onE_s ?_ ?_; (· decide))
            | refine vb_i e_ext0 ?_
            | refine vb_i e_ext1 ?_
            | refine vb_i e_ext2 ?_
            | refine vb_i (lss64 _ _ _) ?_
            | refine vb_i (leq64 _ _ _) ?_
            | refine vb_i (gtr64 _ _ _) ?_
            | refine vb_i (geq64 _ _ _) ?_
            | refine vb_i (eql64 _ _ _) ?_
            | refine vb_i (neq64 _ _ _) ?_
            | refine vb_i (eqls _ _) ?_
            | refine vb_i (neqs _ _) ?_
            | (refine vb_i (add64 ?_ ?_) ?_; (· omega); (· omega))
            | (refine vb_i (sub64 ?_ ?_) ?_; (· omega); (· omega))
            | (refine vb_i (mul64 ?_ ?_) ?_; (· omega); (· omega))
            | (refine vb_i (quo64 ?_ ?_ ?_) ?_; (· omega); (· omega); (· omega))
            | (refine vb_i (rem64 ?_ ?_) ?_; (· omega); (· omega))
            | refine vb_i (e_lenSt _) ?_
            | refine vb_i (e_lenSl _ _ _) ?_
            | refine vb_i e_lenNil ?_
            | refine vb_i (lenSl_view (by assumption)) ?_
            | refine vb_i (e_ptrNil _ _) ?_
            | refine vb_i (e_ptrNilN _ _) ?_
            | refine vb_i (e_nilNil _) ?_
            | refine vb_i (e_nilNilN _) ?_
            | refine vb_i (e_pickT _ _) ?_
            | refine vb_i (e_pickF _ _) ?_
            | refine vb_i e_notd ?_
            | refine vb_i e_boolNe ?_
            | refine vb_i e_boolEq ?_
            | refine vb_i (e_not _) ?_
            | refine vb_i (e_nilCheck _) ?_
            | refine vb_i (e_fieldAddr _ _) ?_
            | refine hb_i (e_alloc _ _) ?_
            | (refine vb_i (adds ?_) ?_; (· first | omega | (simp only [List.length_cons, List.length_nil, List.length_append]; omega)))
            with_reducible refine vb_i (e_loadAll g1 (by rw [List.length_map]; exact hva)) ?_
            refine vb_i (byte_int hr.1) (vb_i (byte_int hr.2) ?_)
            refine hb_i (two_bytes _ _ _) ?_
            refine vb_i (bytes_str (view_ex (n := 2) (app_get0 _ _) rfl)) ?_
            repeat with_reducible first
            | refine isB_T ?_
            | refine isB_F ?_
            | (refine isB_ct ?_ ?_; (· first | omega | rfl | assumption | trivial))
            | (refine isB_cf ?_ ?_; (· first | omega | assumption))
            | refine onE_i ?_
            | (refine onE_s ?_ ?_; (· decide))
            | refine vb_i e_ext0 ?_
            | refine vb_i e_ext1 ?_
            | refine vb_i e_ext2 ?_
            | refine vb_i (lss64 _ _ _) ?_
            | refine vb_i (leq64 _ _ _) ?_
            | refine vb_i (gtr64 _ _ _) ?_
            | refine vb_i (geq64 _ _ _) ?_
            | refine vb_i (eql64 _ _ _) ?_
            | refine vb_i (neq64 _ _ _) ?_
            | refine vb_i (eqls _ _) ?_
            | refine vb_i (neqs _ _) ?_
            | (refine vb_i (add64 ?_ ?_) ?_; (· omega); (· omega))
            | (refine vb_i (sub64 ?_ ?_) ?_; (· omega); (· omega))
            | (refine vb_i (mul64 ?_ ?_) ?_; (· omega); (· omega))
            | (refine vb_i (quo64 ?_ ?_ ?_) ?_; (· omega); (· omega); (· omega))
            | (refine vb_i (rem64 ?_ ?_) ?_; (· omega); (· omega))
            | refine vb_i (e_lenSt _) ?_
            | refine vb_i (e_lenSl _ _ _) ?_
            | refine vb_i e_lenNil ?_
            | refine vb_i (lenSl_view (by assumption)) ?_
            | refine vb_i (e_ptrNil _ _) ?_
            | refine vb_i (e_ptrNilN _ _) ?_
            | refine vb_i (e_nilNil _) ?_
            | refine vb_i (e_nilNilN _) ?_
            | refine vb_i (e_pickT _ _) ?_
            | refine vb_i (e_pickF _ _) ?_
            | refine vb_i e_notd ?_
            | refine vb_i e_boolNe ?_
            | refine vb_i e_boolEq ?_
            | refine vb_i (e_not _) ?_
            | refine vb_i (e_nilCheck _) ?_
            | refine vb_i (e_fieldAddr _ _) ?_
            | refine hb_i (e_alloc _ _) ?_
            | (refine vb_i (adds ?_) ?_; (· first | omega | (simp only [List.length_cons, List.length_nil, List.length_append]; omega)))
            refine cb_i _ _ ⟨startT d a s, rfl, by omega, rfl, rfl⟩ ?_
            with_reducible refine vb_i (e_neBytes hva hva) ?_
            with_reducible refine isB_cf ?_ ?_
            · exact not_not_intro rfl
            have p3 := p2.trans (pre_app D [AObj.cells 0 .exact ([UInt8.ofNat d.toNat, UInt8.ofNat a.toNat].map ofByte)])
            generalize D ++ [AObj.cells 0 .exact ([UInt8.ofNat d.toNat, UInt8.ofNat a.toNat].map ofByte)] = E at *
            by_cases hk : k.length = 32
            · simp only [checkV, checkE, if_pos hk]
              have hsk := sum_len (keyT k)
              have hkT : ([107, 101, 121] ++ k : List UInt8) = keyT k := rfl
              repeat with_reducible first
              | refine isB_T ?_
              | refine isB_F ?_
              | (refine isB_ct ?_ ?_; (· first | omega | rfl | assumption | trivial))
              | (refine isB_cf ?_ ?_; (· first | omega | assumption))
              | refine onE_i ?_
              | (refine onE_s ?_ ?_; (· decide))
              | refine vb_i e_ext0 ?_
              | refine vb_i e_ext1 ?_
              | refine vb_i e_ext2 ?_
              | refine vb_i (lss64 _ _ _) ?_
              | refine vb_i (leq64 _ _ _) ?_
              | refine vb_i (gtr64 _ _ _) ?_
              | refine vb_i (geq64 _ _ _) ?_
              | refine vb_i (eql64 _ _ _) ?_
              | refine vb_i (neq64 _ _ _) ?_
              | refine vb_i (eqls _ _) ?_
              | refine vb_i (neqs _ _) ?_
              | (refine vb_i (add64 ?_ ?_) ?_; (· omega); (· omega))
              | (refine vb_i (sub64 ?_ ?_) ?_; (· omega); (· omega))
              | (refine vb_i (mul64 ?_ ?_) ?_; (· omega); (· omega))
              | (refine vb_i (quo64 ?_ ?_ ?_) ?_; (· omega); (· omega); (· omega))
              | (refine vb_i (rem64 ?_ ?_) ?_; (· omega); (· omega))
              | refine vb_i (e_lenSt _) ?_
              | refine vb_i (e_lenSl _ _ _) ?_
              | refine vb_i e_lenNil ?_
              | refine vb_i (lenSl_view (by assumption)) ?_
              | refine vb_i (e_ptrNil _ _) ?_
              | refine vb_i (e_ptrNilN _ _) ?_
              | refine vb_i (e_nilNil _) ?_
              | refine vb_i (e_nilNilN _) ?_
              | refine vb_i (e_pickT _ _) ?_
              | refine vb_i (e_pickF _ _) ?_
              | refine vb_i e_notd ?_
              | refine vb_i e_boolNe ?_
              | refine vb_i e_boolEq ?_
              | refine vb_i (e_not _) ?_
              | refine vb_i (e_nilCheck _) ?_
              | refine vb_i (e_fieldAddr _ _) ?_
              | refine hb_i (e_alloc _ _) ?_
              | (refine vb_i (adds ?_) ?_; (· first | omega | (simp only [List.length_cons, List.length_nil, List.length_append]; omega)))
              rw [hkT]
              refine cb_i _ _ ⟨keyT k, rfl, by simp [keyT]; omega, rfl, rfl⟩ ?_
              repeat with_reducible first
              | refine isB_T ?_
              | refine isB_F ?_
              | (refine isB_ct ?_ ?_; (· first | omega | rfl | assumption | trivial))
              | (refine isB_cf ?_ ?_; (· first | omega | assumption))
              | refine onE_i ?_
              | (refine onE_s ?_ ?_; (· decide))
              | refine vb_i e_ext0 ?_
              | refine vb_i e_ext1 ?_
              | refine vb_i e_ext2 ?_
              | refine vb_i (lss64 _ _ _) ?_
              | refine vb_i (leq64 _ _ _) ?_
              | refine vb_i (gtr64 _ _ _) ?_
              | refine vb_i (geq64 _ _ _) ?_
              | refine vb_i (eql64 _ _ _) ?_
              | refine vb_i (neq64 _ _ _) ?_
              | refine vb_i (eqls _ _) ?_
              | refine vb_i (neqs _ _) ?_
              | (refine vb_i (add64 ?_ ?_) ?_; (· omega); (· omega))
              | (refine vb_i (sub64 ?_ ?_) ?_; (· omega); (· omega))
              | (refine vb_i (mul64 ?_ ?_) ?_; (· omega); (· omega))
              | (refine vb_i (quo64 ?_ ?_ ?_) ?_; (· omega); (· omega); (· omega))
              | (refine vb_i (rem64 ?_ ?_) ?_; (· omega); (· omega))
              | refine vb_i (e_lenSt _) ?_
              | refine vb_i (e_lenSl _ _ _) ?_
              | refine vb_i e_lenNil ?_
              | refine vb_i (lenSl_view (by assumption)) ?_
              | refine vb_i (e_ptrNil _ _) ?_
              | refine vb_i (e_ptrNilN _ _) ?_
              | refine vb_i (e_nilNil _) ?_
              | refine vb_i (e_nilNilN _) ?_
              | refine vb_i (e_pickT _ _) ?_
              | refine vb_i (e_pickF _ _) ?_
              | refine vb_i e_notd ?_
              | refine vb_i e_boolNe ?_
              | refine vb_i e_boolEq ?_
              | refine vb_i (e_not _) ?_
              | refine vb_i (e_nilCheck _) ?_
              | refine vb_i (e_fieldAddr _ _) ?_
              | refine hb_i (e_alloc _ _) ?_
              | (refine vb_i (adds ?_) ?_; (· first | omega | (simp only [List.length_cons, List.length_nil, List.length_append]; omega)))
              with_reducible refine sb_i (store_new List.length_replicate (by rw [List.length_map]; exact hsk) (cells_byte _)) ?_
              refine cb_i _ _ ⟨.nilp, k, rfl, .inr ⟨hk, rfl, .inl ⟨rfl, rfl⟩⟩⟩ ?_
              repeat with_reducible first
              | refine isB_T ?_
              | refine isB_F ?_
              | (refine isB_ct ?_ ?_; (· first | omega | rfl | assumption | trivial))
              | (refine isB_cf ?_ ?_; (· first | omega | assumption))
              | refine onE_i ?_
              | (refine onE_s ?_ ?_; (· decide))
              | refine vb_i e_ext0 ?_
              | refine vb_i e_ext1 ?_
              | refine vb_i e_ext2 ?_
              | refine vb_i (lss64 _ _ _) ?_
              | refine vb_i (leq64 _ _ _) ?_
              | refine vb_i (gtr64 _ _ _) ?_
              | refine vb_i (geq64 _ _ _) ?_
              | refine vb_i (eql64 _ _ _) ?_
              | refine vb_i (neq64 _ _ _) ?_
              | refine vb_i (eqls _ _) ?_
              | refine vb_i (neqs _ _) ?_
              | (refine vb_i (add64 ?_ ?_) ?_; (· omega); (· omega))
              | (refine vb_i (sub64 ?_ ?_) ?_; (· omega); (· omega))
              | (refine vb_i (mul64 ?_ ?_) ?_; (· omega); (· omega))
              | (refine vb_i (quo64 ?_ ?_ ?_) ?_; (· omega); (· omega); (· omega))
              | (refine vb_i (rem64 ?_ ?_) ?_; (· omega); (· omega))
              | refine vb_i (e_lenSt _) ?_
              | refine vb_i (e_lenSl _ _ _) ?_
              | refine vb_i e_lenNil ?_
              | refine vb_i (lenSl_view (by assumption)) ?_
              | refine vb_i (e_ptrNil _ _) ?_
              | refine vb_i (e_ptrNilN _ _) ?_
              | refine vb_i (e_nilNil _) ?_
              | refine vb_i (e_nilNilN _) ?_
              | refine vb_i (e_pickT _ _) ?_
              | refine vb_i (e_pickF _ _) ?_
              | refine vb_i e_notd ?_
              | refine vb_i e_boolNe ?_
              | refine vb_i e_boolEq ?_
              | refine vb_i (e_not _) ?_
              | refine vb_i (e_nilCheck _) ?_
              | refine vb_i (e_fieldAddr _ _) ?_
              | refine hb_i (e_alloc _ _) ?_
              | (refine vb_i (adds ?_) ?_; (· first | omega | (simp only [List.length_cons, List.length_nil, List.length_append]; omega)))
              refine cb_i _ _ ⟨rfl, rfl, rfl⟩ ?_
              repeat with_reducible first
              | refine isB_T ?_
              | refine isB_F ?_
              | (refine isB_ct ?_ ?_; (· first | omega | rfl | assumption | trivial))
              | (refine isB_cf ?_ ?_; (· first | omega | assumption))
              | refine onE_i ?_
              | (refine onE_s ?_ ?_; (· decide))
              | refine vb_i e_ext0 ?_
              | refine vb_i e_ext1 ?_
              | refine vb_i e_ext2 ?_
              | refine vb_i (lss64 _ _ _) ?_
              | refine vb_i (leq64 _ _ _) ?_
              | refine vb_i (gtr64 _ _ _) ?_
              | refine vb_i (geq64 _ _ _) ?_
              | refine vb_i (eql64 _ _ _) ?_
              | refine vb_i (neq64 _ _ _) ?_
              | refine vb_i (eqls _ _) ?_
              | refine vb_i (neqs _ _) ?_
              | (refine vb_i (add64 ?_ ?_) ?_; (· omega); (· omega))
              | (refine vb_i (sub64 ?_ ?_) ?_; (· omega); (· omega))
              | (refine vb_i (mul64 ?_ ?_) ?_; (· omega); (· omega))
              | (refine vb_i (quo64 ?_ ?_ ?_) ?_; (· omega); (· omega); (· omega))
              | (refine vb_i (rem64 ?_ ?_) ?_; (· omega); (· omega))
              | refine vb_i (e_lenSt _) ?_
              | refine vb_i (e_lenSl _ _ _) ?_
              | refine vb_i e_lenNil ?_
              | refine vb_i (lenSl_view (by assumption)) ?_
              | refine vb_i (e_ptrNil _ _) ?_
              | refine vb_i (e_ptrNilN _ _) ?_
              | refine vb_i (e_nilNil _) ?_
              | refine vb_i (e_nilNilN _) ?_
              | refine vb_i (e_pickT _ _) ?_
              | refine vb_i (e_pickF _ _) ?_
              | refine vb_i e_notd ?_
              | refine vb_i e_boolNe ?_
              | refine vb_i e_boolEq ?_
              | refine vb_i (e_not _) ?_
              | refine vb_i (e_nilCheck _) ?_
              | refine vb_i (e_fieldAddr _ _) ?_
              | refine hb_i (e_alloc _ _) ?_
              | (refine vb_i (adds ?_) ?_; (· first | omega | (simp only [List.length_cons, List.length_nil, List.length_append]; omega)))
              with_reducible refine vb_i (sliceArr_all _ _ _ _) ?_
              refine vb_i (arr_str (app_get0 _ _) hsk) ?_
              repeat with_reducible first
              | refine isB_T ?_
              | refine isB_F ?_
              | (refine isB_ct ?_ ?_; (· first | omega | rfl | assumption | trivial))
              | (refine isB_cf ?_ ?_; (· first | omega | assumption))
              | refine onE_i ?_
              | (refine onE_s ?_ ?_; (· decide))
              | refine vb_i e_ext0 ?_
              | refine vb_i e_ext1 ?_
              | refine vb_i e_ext2 ?_
              | refine vb_i (lss64 _ _ _) ?_
              | refine vb_i (leq64 _ _ _) ?_
              | refine vb_i (gtr64 _ _ _) ?_
              | refine vb_i (geq64 _ _ _) ?_
              | refine vb_i (eql64 _ _ _) ?_
              | refine vb_i (neq64 _ _ _) ?_
              | refine vb_i (eqls _ _) ?_
              | refine vb_i (neqs _ _) ?_
              | (refine vb_i (add64 ?_ ?_) ?_; (· omega); (· omega))
              | (refine vb_i (sub64 ?_ ?_) ?_; (· omega); (· omega))
              | (refine vb_i (mul64 ?_ ?_) ?_; (· omega); (· omega))
              | (refine vb_i (quo64 ?_ ?_ ?_) ?_; (· omega); (· omega); (· omega))
              | (refine vb_i (rem64 ?_ ?_) ?_; (· omega); (· omega))
              | refine vb_i (e_lenSt _) ?_
              | refine vb_i (e_lenSl _ _ _) ?_
              | refine vb_i e_lenNil ?_
              | refine vb_i (lenSl_view (by assumption)) ?_
              | refine vb_i (e_ptrNil _ _) ?_
              | refine vb_i (e_ptrNilN _ _) ?_
              | refine vb_i (e_nilNil _) ?_
              | refine vb_i (e_nilNilN _) ?_
              | refine vb_i (e_pickT _ _) ?_
              | refine vb_i (e_pickF _ _) ?_
              | refine vb_i e_notd ?_
              | refine vb_i e_boolNe ?_
              | refine vb_i e_boolEq ?_
              | refine vb_i (e_not _) ?_
              | refine vb_i (e_nilCheck _) ?_
              | refine vb_i (e_fieldAddr _ _) ?_
              | refine hb_i (e_alloc _ _) ?_
              | (refine vb_i (adds ?_) ?_; (· first | omega | (simp only [List.length_cons, List.length_nil, List.length_append]; omega)))
              exact fin_bool rfl (p3.trans (pre_app _ _))
            · simp only [checkV, checkE, if_neg hk]
              repeat with_reducible first
              | refine isB_T ?_
              | refine isB_F ?_
              | (refine isB_ct ?_ ?_; (· first | omega | rfl | assumption | trivial))
              | (refine isB_cf ?_ ?_; (· first | omega | assumption))
              | refine onE_i ?_
              | (refine onE_s ?_ ?_; (· decide))
              | refine vb_i e_ext0 ?_
              | refine vb_i e_ext1 ?_
              | refine vb_i e_ext2 ?_
              | refine vb_i (lss64 _ _ _) ?_
              | refine vb_i (leq64 _ _ _) ?_
              | refine vb_i (gtr64 _ _ _) ?_
              | refine vb_i (geq64 _ _ _) ?_
              | refine vb_i (eql64 _ _ _) ?_
              | refine vb_i (neq64 _ _ _) ?_
              | refine vb_i (eqls _ _) ?_
              | refine vb_i (neqs _ _) ?_
              | (refine vb_i (add64 ?_ ?_) ?_; (· omega); (· omega))
              | (refine vb_i (sub64 ?_ ?_) ?_; (· omega); (· omega))
              | (refine vb_i (mul64 ?_ ?_) ?_; (· omega); (· omega))
              | (refine vb_i (quo64 ?_ ?_ ?_) ?_; (· omega); (· omega); (· omega))
              | (refine vb_i (rem64 ?_ ?_) ?_; (· omega); (· omega))
              | refine vb_i (e_lenSt _) ?_
              | refine vb_i (e_lenSl _ _ _) ?_
              | refine vb_i e_lenNil ?_
              | refine vb_i (lenSl_view (by assumption)) ?_
              | refine vb_i (e_ptrNil _ _) ?_
              | refine vb_i (e_ptrNilN _ _) ?_
              | refine vb_i (e_nilNil _) ?_
              | refine vb_i (e_nilNilN _) ?_
              | refine vb_i (e_pickT _ _) ?_
              | refine vb_i (e_pickF _ _) ?_
              | refine vb_i e_notd ?_
              | refine vb_i e_boolNe ?_
              | refine vb_i e_boolEq ?_
              | refine vb_i (e_not _) ?_
              | refine vb_i (e_nilCheck _) ?_
              | refine vb_i (e_fieldAddr _ _) ?_
              | refine hb_i (e_alloc _ _) ?_
              | (refine vb_i (adds ?_) ?_; (· first | omega | (simp only [List.length_cons, List.length_nil, List.length_append]; omega)))
              refine cb_i _ _ ⟨rfl, rfl, rfl⟩ ?_
              repeat with_reducible first
              | refine isB_T ?_
              | refine isB_F ?_
              | (refine isB_ct ?_ ?_; (· first | omega | rfl | assumption | trivial))
              | (refine isB_cf ?_ ?_; (· first | omega | assumption))
              | refine onE_i ?_
              | (refine onE_s ?_ ?_; (· decide))
              | refine vb_i e_ext0 ?_
              | refine vb_i e_ext1 ?_
              | refine vb_i e_ext2 ?_
              | refine vb_i (lss64 _ _ _) ?_
              | refine vb_i (leq64 _ _ _) ?_
              | refine vb_i (gtr64 _ _ _) ?_
              | refine vb_i (geq64 _ _ _) ?_
              | refine vb_i (eql64 _ _ _) ?_
              | refine vb_i (neq64 _ _ _) ?_
              | refine vb_i (eqls _ _) ?_
              | refine vb_i (neqs _ _) ?_
              | (refine vb_i (add64 ?_ ?_) ?_; (· omega); (· omega))
              | (refine vb_i (sub64 ?_ ?_) ?_; (· omega); (· omega))
              | (refine vb_i (mul64 ?_ ?_) ?_; (· omega); (· omega))
              | (refine vb_i (quo64 ?_ ?_ ?_) ?_; (· omega); (· omega); (· omega))
              | (refine vb_i (rem64 ?_ ?_) ?_; (· omega); (· omega))
              | refine vb_i (e_lenSt _) ?_
              | refine vb_i (e_lenSl _ _ _) ?_
              | refine vb_i e_lenNil ?_
              | refine vb_i (lenSl_view (by assumption)) ?_
              | refine vb_i (e_ptrNil _ _) ?_
              | refine vb_i (e_ptrNilN _ _) ?_
              | refine vb_i (e_nilNil _) ?_
              | refine vb_i (e_nilNilN _) ?_
              | refine vb_i (e_pickT _ _) ?_
              | refine vb_i (e_pickF _ _) ?_
              | refine vb_i e_notd ?_
              | refine vb_i e_boolNe ?_
              | refine vb_i e_boolEq ?_
              | refine vb_i (e_not _) ?_
              | refine vb_i (e_nilCheck _) ?_
              | refine vb_i (e_fieldAddr _ _) ?_
              | refine hb_i (e_alloc _ _) ?_
              | (refine vb_i (adds ?_) ?_; (· first | omega | (simp only [List.length_cons, List.length_nil, List.length_append]; omega)))
              exact fin_bool rfl p3
          · have he : startE d a s = 6 := by
              have h1 := hr.1
              have h2 := hr.2
              unfold startE
              rw [if_neg (by omega), if_pos (by omega)]
            have hve : startV d a s = zs 32 := by simp only [startV, he]; rfl
            rw [hve] at g1 hva
            rw [he]
            repeat with_reducible first
            | refine isB_T ?_
            | refine isB_F ?_
            | (refine isB_ct ?_ ?_; (· first | omega | rfl | assumption | trivial))
            | (refine isB_cf ?_ ?_; (· first | omega | assumption))
            | refine onE_i ?_
            | (refine onE_s ?_ ?_; (· decide))
            | refine vb_i e_ext0 ?_
            | refine vb_i e_ext1 ?_
            | refine vb_i e_ext2 ?_
            | refine vb_i (lss64 _ _ _) ?_
            | refine vb_i (leq64 _ _ _) ?_
            | refine vb_i (gtr64 _ _ _) ?_
            | refine vb_i (geq64 _ _ _) ?_
            | refine vb_i (eql64 _ _ _) ?_
            | refine vb_i (neq64 _ _ _) ?_
            | refine vb_i (eqls _ _) ?_
            | refine vb_i (neqs _ _) ?_
            | (refine vb_i (add64 ?_ ?_) ?_; (· omega); (· omega))
            | (refine vb_i (sub64 ?_ ?_) ?_; (· omega); (· omega))
            | (refine vb_i (mul64 ?_ ?_) ?_; (· omega); (· omega))
            | (refine vb_i (quo64 ?_ ?_ ?_) ?_; (· omega); (· omega); (· omega))
            | (refine vb_i (rem64 ?_ ?_) ?_; (· omega); (· omega))
            | refine vb_i (e_lenSt _) ?_
            | refine vb_i (e_lenSl _ _ _) ?_
            | refine vb_i e_lenNil ?_
            | refine vb_i (lenSl_view (by assumption)) ?_
            | refine vb_i (e_ptrNil _ _) ?_
            | refine vb_i (e_ptrNilN _ _) ?_
            | refine vb_i (e_nilNil _) ?_
            | refine vb_i (e_nilNilN _) ?_
            | refine vb_i (e_pickT _ _) ?_
            | refine vb_i (e_pickF _ _) ?_
            | refine vb_i e_notd ?_
            | refine vb_i e_boolNe ?_
            | refine vb_i e_boolEq ?_
            | refine vb_i (e_not _) ?_
            | refine vb_i (e_nilCheck _) ?_
            | refine vb_i (e_fieldAddr _ _) ?_
            | refine hb_i (e_alloc _ _) ?_
            | (refine vb_i (adds ?_) ?_; (· first | omega | (simp only [List.length_cons, List.length_nil, List.length_append]; omega)))
            with_reducible refine isB_cf (not_not_intro hr) ?_
            repeat with_reducible first
            | refine isB_T ?_
            | refine isB_F ?_
            | (refine isB_ct ?_ ?_; (· first | omega | rfl | assumption | trivial))
            | (refine isB_cf ?_ ?_; (· first | omega | assumption))
            | refine onE_i ?_
            | (refine onE_s ?_ ?_; (· decide))
            | refine vb_i e_ext0 ?_
            | refine vb_i e_ext1 ?_
            | refine vb_i e_ext2 ?_
            | refine vb_i (lss64 _ _ _) ?_
            | refine vb_i (leq64 _ _ _) ?_
            | refine vb_i (gtr64 _ _ _) ?_
            | refine vb_i (geq64 _ _ _) ?_
            | refine vb_i (eql64 _ _ _) ?_
            | refine vb_i (neq64 _ _ _) ?_
            | refine vb_i (eqls _ _) ?_
            | refine vb_i (neqs _ _) ?_
            | (refine vb_i (add64 ?_ ?_) ?_; (· omega); (· omega))
            | (refine vb_i (sub64 ?_ ?_) ?_; (· omega); (· omega))
            | (refine vb_i (mul64 ?_ ?_) ?_; (· omega); (· omega))
            | (refine vb_i (quo64 ?_ ?_ ?_) ?_; (· omega); (· omega); (· omega))
            | (refine vb_i (rem64 ?_ ?_) ?_; (· omega); (· omega))
            | refine vb_i (e_lenSt _) ?_
            | refine vb_i (e_lenSl _ _ _) ?_
            | refine vb_i e_lenNil ?_
            | refine vb_i (lenSl_view (by assumption)) ?_
            | refine vb_i (e_ptrNil _ _) ?_
            | refine vb_i (e_ptrNilN _ _) ?_
            | refine vb_i (e_nilNil _) ?_
            | refine vb_i (e_nilNilN _) ?_
            | refine vb_i (e_pickT _ _) ?_
            | refine vb_i (e_pickF _ _) ?_
            | refine vb_i e_notd ?_
            | refine vb_i e_boolNe ?_
            | refine vb_i e_boolEq ?_
            | refine vb_i (e_not _) ?_
            | refine vb_i (e_nilCheck _) ?_
            | refine vb_i (e_fieldAddr _ _) ?_
            | refine hb_i (e_alloc _ _) ?_
            | (refine vb_i (adds ?_) ?_; (· first | omega | (simp only [List.length_cons, List.length_nil, List.length_append]; omega)))
            with_reducible refine vb_i (e_loadAll g1 (by rw [List.length_map]; exact hva)) ?_
            with_reducible refine vb_i build_zs ?_
            with_reducible refine vb_i (e_neBytes hva hva) ?_
            with_reducible refine isB_cf ?_ ?_
            · exact not_not_intro rfl
            repeat with_reducible first
            | refine isB_T ?_
            | refine isB_F ?_
            | (refine isB_ct ?_ ?_; (· first | omega | rfl | assumption | trivial))
            | (refine isB_cf ?_ ?_; (· first | omega | assumption))
            | refine onE_i ?_
            | (refine onE_s ?_ ?_; (· decide))
            | refine vb_i e_ext0 ?_
            | refine vb_i e_ext1 ?_
            | refine vb_i e_ext2 ?_
            | refine vb_i (lss64 _ _ _) ?_
            | refine vb_i (leq64 _ _ _) ?_
            | refine vb_i (gtr64 _ _ _) ?_
            | refine vb_i (geq64 _ _ _) ?_
            | refine vb_i (eql64 _ _ _) ?_
            | refine vb_i (neq64 _ _ _) ?_
            | refine vb_i (eqls _ _) ?_
            | refine vb_i (neqs _ _) ?_
            | (refine vb_i (add64 ?_ ?_) ?_; (· omega); (· omega))
            | (refine vb_i (sub64 ?_ ?_) ?_; (· omega); (· omega))
            | (refine vb_i (mul64 ?_ ?_) ?_; (· omega); (· omega))
            | (refine vb_i (quo64 ?_ ?_ ?_) ?_; (· omega); (· omega); (· omega))
            | (refine vb_i (rem64 ?_ ?_) ?_; (· omega); (· omega))
            | refine vb_i (e_lenSt _) ?_
            | refine vb_i (e_lenSl _ _ _) ?_
            | refine vb_i e_lenNil ?_
            | refine vb_i (lenSl_view (by assumption)) ?_
            | refine vb_i (e_ptrNil _ _) ?_
            | refine vb_i (e_ptrNilN _ _) ?_
            | refine vb_i (e_nilNil _) ?_
            | refine vb_i (e_nilNilN _) ?_
            | refine vb_i (e_pickT _ _) ?_
            | refine vb_i (e_pickF _ _) ?_
            | refine vb_i e_notd ?_
            | refine vb_i e_boolNe ?_
            | refine vb_i e_boolEq ?_
            | refine vb_i (e_not _) ?_
            | refine vb_i (e_nilCheck _) ?_
            | refine vb_i (e_fieldAddr _ _) ?_
            | refine hb_i (e_alloc _ _) ?_
            | (refine vb_i (adds ?_) ?_; (· first | omega | (simp only [List.length_cons, List.length_nil, List.length_append]; omega)))
            by_cases hk : k.length = 32
            · simp only [checkV, checkE, if_pos hk]
              have hsk := sum_len (keyT k)
              have hkT : ([107, 101, 121] ++ k : List UInt8) = keyT k := rfl
              repeat with_reducible first
              | refine isB_T ?_
              | refine isB_F ?_
              | (refine isB_ct ?_ ?_; (· first | omega | rfl | assumption | trivial))
              | (refine isB_cf ?_ ?_; (· first | omega | assumption))
              | refine onE_i ?_
              | (refine onE_s ?_ ?_; (· decide))
              | refine vb_i e_ext0 ?_
              | refine vb_i e_ext1 ?_
              | refine vb_i e_ext2 ?_
              | refine vb_i (lss64 _ _ _) ?_
              | refine vb_i (leq64 _ _ _) ?_
              | refine vb_i (gtr64 _ _ _) ?_
              | refine vb_i (geq64 _ _ _) ?_
              | refine vb_i (eql64 _ _ _) ?_
              | refine vb_i (neq64 _ _ _) ?_
              | refine vb_i (eqls _ _) ?_
              | refine vb_i (neqs _ _) ?_
              | (refine vb_i (add64 ?_ ?_) ?_; (· omega); (· omega))
              | (refine vb_i (sub64 ?_ ?_) ?_; (· omega); (· omega))
              | (refine vb_i (mul64 ?_ ?_) ?_; (· omega); (· omega))
              | (refine vb_i (quo64 ?_ ?_ ?_) ?_; (· omega); (· omega); (· omega))
              | (refine vb_i (rem64 ?_ ?_) ?_; (· omega); (· omega))
              | refine vb_i (e_lenSt _) ?_
              | refine vb_i (e_lenSl _ _ _) ?_
              | refine vb_i e_lenNil ?_
              | refine vb_i (lenSl_view (by assumption)) ?_
              | refine vb_i (e_ptrNil _ _) ?_
              | refine vb_i (e_ptrNilN _ _) ?_
              | refine vb_i (e_nilNil _) ?_
              | refine vb_i (e_nilNilN _) ?_
              | refine vb_i (e_pickT _ _) ?_
              | refine vb_i (e_pickF _ _) ?_
              | refine vb_i e_notd ?_
              | refine vb_i e_boolNe ?_
              | refine vb_i e_boolEq ?_
              | refine vb_i (e_not _) ?_
              | refine vb_i (e_nilCheck _) ?_
              | refine vb_i (e_fieldAddr _ _) ?_
              | refine hb_i (e_alloc _ _) ?_
              | (refine vb_i (adds ?_) ?_; (· first | omega | (simp only [List.length_cons, List.length_nil, List.length_append]; omega)))
              rw [hkT]
              refine cb_i _ _ ⟨keyT k, rfl, by simp [keyT]; omega, rfl, rfl⟩ ?_
              repeat with_reducible first
              | refine isB_T ?_
              | refine isB_F ?_
              | (refine isB_ct ?_ ?_; (· first | omega | rfl | assumption | trivial))
              | (refine isB_cf ?_ ?_; (· first | omega | assumption))
              | refine onE_i ?_
              | (refine onE_s ?_ ?_; (· decide))
              | refine vb_i e_ext0 ?_
              | refine vb_i e_ext1 ?_
              | refine vb_i e_ext2 ?_
              | refine vb_i (lss64 _ _ _) ?_
              | refine vb_i (leq64 _ _ _) ?_
              | refine vb_i (gtr64 _ _ _) ?_
              | refine vb_i (geq64 _ _ _) ?_
              | refine vb_i (eql64 _ _ _) ?_
              | refine vb_i (neq64 _ _ _) ?_
              | refine vb_i (eqls _ _) ?_
              | refine vb_i (neqs _ _) ?_
              | (refine vb_i (add64 ?_ ?_) ?_; (· omega); (· omega))
              | (refine vb_i (sub64 ?_ ?_) ?_; (· omega); (· omega))
              | (refine vb_i (mul64 ?_ ?_) ?_; (· omega); (· omega))
              | (refine vb_i (quo64 ?_ ?_ ?_) ?_; (· omega); (· omega); (· omega))
              | (refine vb_i (rem64 ?_ ?_) ?_; (· omega); (· omega))
              | refine vb_i (e_lenSt _) ?_
              | refine vb_i (e_lenSl _ _ _) ?_
              | refine vb_i e_lenNil ?_
              | refine vb_i (lenSl_view (by assumption)) ?_
              | refine vb_i (e_ptrNil _ _) ?_
              | refine vb_i (e_ptrNilN _ _) ?_
              | refine vb_i (e_nilNil _) ?_
              | refine vb_i (e_nilNilN _) ?_
              | refine vb_i (e_pickT _ _) ?_
              | refine vb_i (e_pickF _ _) ?_
              | refine vb_i e_notd ?_
              | refine vb_i e_boolNe ?_
              | refine vb_i e_boolEq ?_
              | refine vb_i (e_not _) ?_
              | refine vb_i (e_nilCheck _) ?_
              | refine vb_i (e_fieldAddr _ _) ?_
              | refine hb_i (e_alloc _ _) ?_
              | (refine vb_i (adds ?_) ?_; (· first | omega | (simp only [List.length_cons, List.length_nil, List.length_append]; omega)))
              with_reducible refine sb_i (store_new List.length_replicate (by rw [List.length_map]; exact hsk) (cells_byte _)) ?_
              refine cb_i _ _ ⟨.nilp, k, rfl, .inr ⟨hk, rfl, .inl ⟨rfl, rfl⟩⟩⟩ ?_
              repeat with_reducible first
              | refine isB_T ?_
              | refine isB_F ?_
              | (refine isB_ct ?_ ?_; (· first | omega | rfl | assumption | trivial))
              | (refine isB_cf ?_ ?_; (· first | omega | assumption))
              | refine onE_i ?_
              | (refine onE_s ?_ ?_; (· decide))
              | refine vb_i e_ext0 ?_
              | refine vb_i e_ext1 ?_
              | refine vb_i e_ext2 ?_
              | refine vb_i (lss64 _ _ _) ?_
              | refine vb_i (leq64 _ _ _) ?_
              | refine vb_i (gtr64 _ _ _) ?_
              | refine vb_i (geq64 _ _ _) ?_
              | refine vb_i (eql64 _ _ _) ?_
              | refine vb_i (neq64 _ _ _) ?_
              | refine vb_i (eqls _ _) ?_
              | refine vb_i (neqs _ _) ?_
              | (refine vb_i (add64 ?_ ?_) ?_; (· omega); (· omega))
              | (refine vb_i (sub64 ?_ ?_) ?_; (· omega); (· omega))
              | (refine vb_i (mul64 ?_ ?_) ?_; (· omega); (· omega))
              | (refine vb_i (quo64 ?_ ?_ ?_) ?_; (· omega); (· omega); (· omega))
              | (refine vb_i (rem64 ?_ ?_) ?_; (· omega); (· omega))
              | refine vb_i (e_lenSt _) ?_
              | refine vb_i (e_lenSl _ _ _) ?_
              | refine vb_i e_lenNil ?_
              | refine vb_i (lenSl_view (by assumption)) ?_
              | refine vb_i (e_ptrNil _ _) ?_
              | refine vb_i (e_ptrNilN _ _) ?_
              | refine vb_i (e_nilNil _) ?_
              | refine vb_i (e_nilNilN _) ?_
              | refine vb_i (e_pickT _ _) ?_
              | refine vb_i (e_pickF _ _) ?_
              | refine vb_i e_notd ?_
              | refine vb_i e_boolNe ?_
              | refine vb_i e_boolEq ?_
              | refine vb_i (e_not _) ?_
              | refine vb_i (e_nilCheck _) ?_
              | refine vb_i (e_fieldAddr _ _) ?_
              | refine hb_i (e_alloc _ _) ?_
              | (refine vb_i (adds ?_) ?_; (· first | omega | (simp only [List.length_cons, List.length_nil, List.length_append]; omega)))
              refine cb_i _ _ ⟨rfl, rfl, rfl⟩ ?_
              repeat with_reducible first
              | refine isB_T ?_
              | refine isB_F ?_
              | (refine isB_ct ?_ ?_; (· first | omega | rfl | assumption | trivial))
              | (refine isB_cf ?_ ?_; (· first | omega | assumption))
              | refine onE_i ?_
              | (refine onE_s ?_ ?_; (· decide))
              | refine vb_i e_ext0 ?_
              | refine vb_i e_ext1 ?_
              | refine vb_i e_ext2 ?_
              | refine vb_i (lss64 _ _ _) ?_
              | refine vb_i (leq64 _ _ _) ?_
              | refine vb_i (gtr64 _ _ _) ?_
              | refine vb_i (geq64 _ _ _) ?_
              | refine vb_i (eql64 _ _ _) ?_
              | refine vb_i (neq64 _ _ _) ?_
              | refine vb_i (eqls _ _) ?_
              | refine vb_i (neqs _ _) ?_
              | (refine vb_i (add64 ?_ ?_) ?_; (· omega); (· omega))
              | (refine vb_i (sub64 ?_ ?_) ?_; (· omega); (· omega))
              | (refine vb_i (mul64 ?_ ?_) ?_; (· omega); (· omega))
              | (refine vb_i (quo64 ?_ ?_ ?_) ?_; (· omega); (· omega); (· omega))
              | (refine vb_i (rem64 ?_ ?_) ?_; (· omega); (· omega))
              | refine vb_i (e_lenSt _) ?_
              | refine vb_i (e_lenSl _ _ _) ?_
              | refine vb_i e_lenNil ?_
              | refine vb_i (lenSl_view (by assumption)) ?_
              | refine vb_i (e_ptrNil _ _) ?_
              | refine vb_i (e_ptrNilN _ _) ?_
              | refine vb_i (e_nilNil _) ?_
              | refine vb_i (e_nilNilN _) ?_
              | refine vb_i (e_pickT _ _) ?_
              | refine vb_i (e_pickF _ _) ?_
              | refine vb_i e_notd ?_
              | refine vb_i e_boolNe ?_
              | refine vb_i e_boolEq ?_
              | refine vb_i (e_not _) ?_
              | refine vb_i (e_nilCheck _) ?_
              | refine vb_i (e_fieldAddr _ _) ?_
              | refine hb_i (e_alloc _ _) ?_
              | (refine vb_i (adds ?_) ?_; (· first | omega | (simp only [List.length_cons, List.length_nil, List.length_append]; omega)))
              with_reducible refine vb_i (sliceArr_all _ _ _ _) ?_
              refine vb_i (arr_str (app_get0 _ _) hsk) ?_
              repeat with_reducible first
              | refine isB_T ?_
              | refine isB_F ?_
              | (refine isB_ct ?_ ?_; (· first | omega | rfl | assumption | trivial))
              | (refine isB_cf ?_ ?_; (· first | omega | assumption))
              | refine onE_i ?_
              | (refine onE_s ?_ ?_; (· decide))
              | refine vb_i e_ext0 ?_
              | refine vb_i e_ext1 ?_
              | refine vb_i e_ext2 ?_
              | refine vb_i (lss64 _ _ _) ?_
              | refine vb_i (leq64 _ _ _) ?_
              | refine vb_i (gtr64 _ _ _) ?_
              | refine vb_i (geq64 _ _ _) ?_
              | refine vb_i (eql64 _ _ _) ?_
              | refine vb_i (neq64 _ _ _) ?_
              | refine vb_i (eqls _ _) ?_
              | refine vb_i (neqs _ _) ?_
              | (refine vb_i (add64 ?_ ?_) ?_; (· omega); (· omega))
              | (refine vb_i (sub64 ?_ ?_) ?_; (· omega); (· omega))
              | (refine vb_i (mul64 ?_ ?_) ?_; (· omega); (· omega))
              | (refine vb_i (quo64 ?_ ?_ ?_) ?_; (· omega); (· omega); (· omega))
              | (refine vb_i (rem64 ?_ ?_) ?_; (· omega); (· omega))
              | refine vb_i (e_lenSt _) ?_
              | refine vb_i (e_lenSl _ _ _) ?_
              | refine vb_i e_lenNil ?_
              | refine vb_i (lenSl_view (by assumption)) ?_
              | refine vb_i (e_ptrNil _ _) ?_
              | refine vb_i (e_ptrNilN _ _) ?_
              | refine vb_i (e_nilNil _) ?_
              | refine vb_i (e_nilNilN _) ?_
              | refine vb_i (e_pickT _ _) ?_
              | refine vb_i (e_pickF _ _) ?_
              | refine vb_i e_notd ?_
              | refine vb_i e_boolNe ?_
              | refine vb_i e_boolEq ?_
              | refine vb_i (e_not _) ?_
              | refine vb_i (e_nilCheck _) ?_
              | refine vb_i (e_fieldAddr _ _) ?_
              | refine hb_i (e_alloc _ _) ?_
              | (refine vb_i (adds ?_) ?_; (· first | omega | (simp only [List.length_cons, List.length_nil, List.length_append]; omega)))
              exact fin_bool rfl (p2.trans (pre_app _ _))
            · simp only [checkV, checkE, if_neg hk]
              repeat with_reducible first
              | refine isB_T ?_
              | refine isB_F ?_
              | (refine isB_ct ?_ ?_; (· first | omega | rfl | assumption | trivial))
              | (refine isB_cf ?_ ?_; (· first | omega | assumption))
              | refine onE_i ?_
              | (refine onE_s ?_ ?_; (· decide))
              | refine vb_i e_ext0 ?_
              | refine vb_i e_ext1 ?_
              | refine vb_i e_ext2 ?_
              | refine vb_i (lss64 _ _ _) ?_
              | refine vb_i (leq64 _ _ _) ?_
              | refine vb_i (gtr64 _ _ _) ?_
              | refine vb_i (geq64 _ _ _) ?_
              | refine vb_i (eql64 _ _ _) ?_
              | refine vb_i (neq64 _ _ _) ?_
              | refine vb_i (eqls _ _) ?_
              | refine vb_i (neqs _ _) ?_
              | (refine vb_i (add64 ?_ ?_) ?_; (· omega); (· omega))
              | (refine vb_i (sub64 ?_ ?_) ?_; (· omega); (· omega))
              | (refine vb_i (mul64 ?_ ?_) ?_; (· omega); (· omega))
              | (refine vb_i (quo64 ?_ ?_ ?_) ?_; (· omega); (· omega); (· omega))
              | (refine vb_i (rem64 ?_ ?_) ?_; (· omega); (· omega))
              | refine vb_i (e_lenSt _) ?_
              | refine vb_i (e_lenSl _ _ _) ?_
              | refine vb_i e_lenNil ?_
              | refine vb_i (lenSl_view (by assumption)) ?_
              | refine vb_i (e_ptrNil _ _) ?_
              | refine vb_i (e_ptrNilN _ _) ?_
              | refine vb_i (e_nilNil _) ?_
              | refine vb_i (e_nilNilN _) ?_
              | refine vb_i (e_pickT _ _) ?_
              | refine vb_i (e_pickF _ _) ?_
              | refine vb_i e_notd ?_
              | refine vb_i e_boolNe ?_
              | refine vb_i e_boolEq ?_
              | refine vb_i (e_not _) ?_
              | refine vb_i (e_nilCheck _) ?_
              | refine vb_i (e_fieldAddr _ _) ?_
              | refine hb_i (e_alloc _ _) ?_
              | (refine vb_i (adds ?_) ?_; (· first | omega | (simp only [List.length_cons, List.length_nil, List.length_append]; omega)))
              refine cb_i _ _ ⟨rfl, rfl, rfl⟩ ?_
              repeat with_reducible first
              | refine isB_T ?_
              | refine isB_F ?_
              | (refine isB_ct ?_ ?_; (· first | omega | rfl | assumption | trivial))
              | (refine isB_cf ?_ ?_; (· first | omega | assumption))
              | refine onE_i ?_
              | (refine onE_s ?_ ?_; (· decide))
              | refine vb_i e_ext0 ?_
              | refine vb_i e_ext1 ?_
              | refine vb_i e_ext2 ?_
              | refine vb_i (lss64 _ _ _) ?_
              | refine vb_i (leq64 _ _ _) ?_
              | refine vb_i (gtr64 _ _ _) ?_
              | refine vb_i (geq64 _ _ _) ?_
              | refine vb_i (eql64 _ _ _) ?_
              | refine vb_i (neq64 _ _ _) ?_
              | refine vb_i (eqls _ _) ?_
              | refine vb_i (neqs _ _) ?_
              | (refine vb_i (add64 ?_ ?_) ?_; (· omega); (· omega))
              | (refine vb_i (sub64 ?_ ?_) ?_; (· omega); (· omega))
              | (refine vb_i (mul64 ?_ ?_) ?_; (· omega); (· omega))
              | (refine vb_i (quo64 ?_ ?_ ?_) ?_; (· omega); (· omega); (· omega))
              | (refine vb_i (rem64 ?_ ?_) ?_; (· omega); (· omega))
              | refine vb_i (e_lenSt _) ?_
              | refine vb_i (e_lenSl _ _ _) ?_
              | refine vb_i e_lenNil ?_
              | refine vb_i (lenSl_view (by assumption)) ?_
              | refine vb_i (e_ptrNil _ _) ?_
              | refine vb_i (e_ptrNilN _ _) ?_
              | refine vb_i (e_nilNil _) ?_
              | refine vb_i (e_nilNilN _) ?_
              | refine vb_i (e_pickT _ _) ?_
              | refine vb_i (e_pickF _ _) ?_
              | refine vb_i e_notd ?_
              | refine vb_i e_boolNe ?_
              | refine vb_i e_boolEq ?_
              | refine vb_i (e_not _) ?_
              | refine vb_i (e_nilCheck _) ?_
              | refine vb_i (e_fieldAddr _ _) ?_
              | refine hb_i (e_alloc _ _) ?_
              | (refine vb_i (adds ?_) ?_; (· first | omega | (simp only [List.length_cons, List.length_nil, List.length_append]; omega)))
              exact fin_bool rfl p2
        · have he : startE d a s = 2 := by
            unfold startE
            rw [if_pos]
            unfold right at hr
            omega
          have hve : startV d a s = zs 32 := by simp only [startV, he]; rfl
          rw [hve] at g1 hva
          rw [he]
          repeat with_reducible first
          | refine isB_T ?_
          | refine isB_F ?_
          | (refine isB_ct ?_ ?_; (· first | omega | rfl | assumption | trivial))
          | (refine isB_cf ?_ ?_; (· first | omega | assumption))
          | refine onE_i ?_
          | (refine onE_s ?_ ?_; (· decide))
          | refine vb_i e_ext0 ?_
          | refine vb_i e_ext1 ?_
          | refine vb_i e_ext2 ?_
          | refine vb_i (lss64 _ _ _) ?_
          | refine vb_i (leq64 _ _ _) ?_
          | refine vb_i (gtr64 _ _ _) ?_
          | refine vb_i (geq64 _ _ _) ?_
          | refine vb_i (eql64 _ _ _) ?_
          | refine vb_i (neq64 _ _ _) ?_
          | refine vb_i (eqls _ _) ?_
          | refine vb_i (neqs _ _) ?_
          | (refine vb_i (add64 ?_ ?_) ?_; (· omega); (· omega))
          | (refine vb_i (sub64 ?_ ?_) ?_; (· omega); (· omega))
          | (refine vb_i (mul64 ?_ ?_) ?_; (· omega); (· omega))
          | (refine vb_i (quo64 ?_ ?_ ?_) ?_; (· omega); (· omega); (· omega))
          | (refine vb_i (rem64 ?_ ?_) ?_; (· omega); (· omega))
          | refine vb_i (e_lenSt _) ?_
          | refine vb_i (e_lenSl _ _ _) ?_
          | refine vb_i e_lenNil ?_
          | refine vb_i (lenSl_view (by assumption)) ?_
          | refine vb_i (e_ptrNil _ _) ?_
          | refine vb_i (e_ptrNilN _ _) ?_
          | refine vb_i (e_nilNil _) ?_
          | refine vb_i (e_nilNilN _) ?_
          | refine vb_i (e_pickT _ _) ?_
          | refine vb_i (e_pickF _ _) ?_
          | refine vb_i e_notd ?_
          | refine vb_i e_boolNe ?_
          | refine vb_i e_boolEq ?_
          | refine vb_i (e_not _) ?_
          | refine vb_i (e_nilCheck _) ?_
          | refine vb_i (e_fieldAddr _ _) ?_
          | refine hb_i (e_alloc _ _) ?_
          | (refine vb_i (adds ?_) ?_; (· first | omega | (simp only [List.length_cons, List.length_nil, List.length_append]; omega)))
          with_reducible refine vb_i (e_loadAll g1 (by rw [List.length_map]; exact hva)) ?_
          with_reducible refine vb_i build_zs ?_
          with_reducible refine vb_i (e_neBytes hva hva) ?_
          with_reducible refine isB_cf ?_ ?_
          · exact not_not_intro rfl
          repeat with_reducible first
          | refine isB_T ?_
          | refine isB_F ?_
          | (refine isB_ct ?_ ?_; (· first | omega | rfl | assumption | trivial))
          | (refine isB_cf ?_ ?_; (· first | omega | assumption))
          | refine onE_i ?_
          | (refine onE_s ?_ ?_; (· decide))
          | refine vb_i e_ext0 ?_
          | refine vb_i e_ext1 ?_
          | refine vb_i e_ext2 ?_
          | refine vb_i (lss64 _ _ _) ?_
          | refine vb_i (leq64 _ _ _) ?_
          | refine vb_i (gtr64 _ _ _) ?_
          | refine vb_i (geq64 _ _ _) ?_
          | refine vb_i (eql64 _ _ _) ?_
          | refine vb_i (neq64 _ _ _) ?_
          | refine vb_i (eqls _ _) ?_
          | refine vb_i (neqs _ _) ?_
          | (refine vb_i (add64 ?_ ?_) ?_; (· omega); (· omega))
          | (refine vb_i (sub64 ?_ ?_) ?_; (· omega); (· omega))
          | (refine vb_i (mul64 ?_ ?_) ?_; (· omega); (· omega))
          | (refine vb_i (quo64 ?_ ?_ ?_) ?_; (· omega); (· omega); (· omega))
          | (refine vb_i (rem64 ?_ ?_) ?_; (· omega); (· omega))
          | refine vb_i (e_lenSt _) ?_
          | refine vb_i (e_lenSl _ _ _) ?_
          | refine vb_i e_lenNil ?_
          | refine vb_i (lenSl_view (by assumption)) ?_
          | refine vb_i (e_ptrNil _ _) ?_
          | refine vb_i (e_ptrNilN _ _) ?_
          | refine vb_i (e_nilNil _) ?_
          | refine vb_i (e_nilNilN _) ?_
          | refine vb_i (e_pickT _ _) ?_
          | refine vb_i (e_pickF _ _) ?_
          | refine vb_i e_notd ?_
          | refine vb_i e_boolNe ?_
          | refine vb_i e_boolEq ?_
          | refine vb_i (e_not _) ?_
          | refine vb_i (e_nilCheck _) ?_
          | refine vb_i (e_fieldAddr _ _) ?_
          | refine hb_i (e_alloc _ _) ?_
          | (refine vb_i (adds ?_) ?_; (· first | omega | (simp only [List.length_cons, List.length_nil, List.length_append]; omega)))
          by_cases hk : k.length = 32
          · simp only [checkV, checkE, if_pos hk]
            have hsk := sum_len (keyT k)
            have hkT : ([107, 101, 121] ++ k : List UInt8) = keyT k := rfl
            repeat with_reducible first
            | refine isB_T ?_
            | refine isB_F ?_
            | (refine isB_ct ?_ ?_; (· first | omega | rfl | assumption | trivial))
            | (refine isB_cf ?_ ?_; (· first | omega | assumption))
            | refine onE_i ?_
            | (refine onE_s ?_ ?_; (· decide))
            | refine vb_i e_ext0 ?_
            | refine vb_i e_ext1 ?_
            | refine vb_i e_ext2 ?_
            | refine vb_i (lss64 _ _ _) ?_
            | refine vb_i (leq64 _ _ _) ?_
            | refine vb_i (gtr64 _ _ _) ?_
            | refine vb_i (geq64 _ _ _) ?_
            | refine vb_i (eql64 _ _ _) ?_
            | refine vb_i (neq64 _ _ _) ?_
            | refine vb_i (eqls _ _) ?_
            | refine vb_i (neqs _ _) ?_
            | (refine vb_i (add64 ?_ ?_) ?_; (· omega); (· omega))
            | (refine vb_i (sub64 ?_ ?_) ?_; (· omega); (· omega))
            | (refine vb_i (mul64 ?_ ?_) ?_; (· omega); (· omega))
            | (refine vb_i (quo64 ?_ ?_ ?_) ?_; (· omega); (· omega); (· omega))
            | (refine vb_i (rem64 ?_ ?_) ?_; (· omega); (· omega))
            | refine vb_i (e_lenSt _) ?_
            | refine vb_i (e_lenSl _ _ _) ?_
            | refine vb_i e_lenNil ?_
            | refine vb_i (lenSl_view (by assumption)) ?_
            | refine vb_i (e_ptrNil _ _) ?_
            | refine vb_i (e_ptrNilN _ _) ?_
            | refine vb_i (e_nilNil _) ?_
            | refine vb_i (e_nilNilN _) ?_
            | refine vb_i (e_pickT _ _) ?_
            | refine vb_i (e_pickF _ _) ?_
            | refine vb_i e_notd ?_
            | refine vb_i e_boolNe ?_
            | refine vb_i e_boolEq ?_
            | refine vb_i (e_not _) ?_
            | refine vb_i (e_nilCheck _) ?_
            | refine vb_i (e_fieldAddr _ _) ?_
            | refine hb_i (e_alloc _ _) ?_
            | (refine vb_i (adds ?_) ?_; (· first | omega | (simp only [List.length_cons, List.length_nil, List.length_append]; omega)))
            rw [hkT]
            refine cb_i _ _ ⟨keyT k, rfl, by simp [keyT]; omega, rfl, rfl⟩ ?_
            repeat with_reducible first
            | refine isB_T ?_
            | refine isB_F ?_
            | (refine isB_ct ?_ ?_; (· first | omega | rfl | assumption | trivial))
            | (refine isB_cf ?_ ?_; (· first | omega | assumption))
            | refine onE_i ?_
            | (refine onE_s ?_ ?_; (· decide))
            | refine vb_i e_ext0 ?_
            | refine vb_i e_ext1 ?_
            | refine vb_i e_ext2 ?_
            | refine vb_i (lss64 _ _ _) ?_
            | refine vb_i (leq64 _ _ _) ?_
            | refine vb_i (gtr64 _ _ _) ?_
            | refine vb_i (geq64 _ _ _) ?_
            | refine vb_i (eql64 _ _ _) ?_
            | refine vb_i (neq64 _ _ _) ?_
            | refine vb_i (eqls _ _) ?_
            | refine vb_i (neqs _ _) ?_
            | (refine vb_i (add64 ?_ ?_) ?_; (· omega); (· omega))
            | (refine vb_i (sub64 ?_ ?_) ?_; (· omega); (· omega))
            | (refine vb_i (mul64 ?_ ?_) ?_; (· omega); (· omega))
            | (refine vb_i (quo64 ?_ ?_ ?_) ?_; (· omega); (· omega); (· omega))
            | (refine vb_i (rem64 ?_ ?_) ?_; (· omega); (· omega))
            | refine vb_i (e_lenSt _) ?_
            | refine vb_i (e_lenSl _ _ _) ?_
            | refine vb_i e_lenNil ?_
            | refine vb_i (lenSl_view (by assumption)) ?_
            | refine vb_i (e_ptrNil _ _) ?_
            | refine vb_i (e_ptrNilN _ _) ?_
            | refine vb_i (e_nilNil _) ?_
            | refine vb_i (e_nilNilN _) ?_
            | refine vb_i (e_pickT _ _) ?_
            | refine vb_i (e_pickF _ _) ?_
            | refine vb_i e_notd ?_
            | refine vb_i e_boolNe ?_
            | refine vb_i e_boolEq ?_
            | refine vb_i (e_not _) ?_
            | refine vb_i (e_nilCheck _) ?_
            | refine vb_i (e_fieldAddr _ _) ?_
            | refine hb_i (e_alloc _ _) ?_
            | (refine vb_i (adds ?_) ?_; (· first | omega | (simp only [List.length_cons, List.length_nil, List.length_append]; omega)))
            with_reducible refine sb_i (store_new List.length_replicate (by rw [List.length_map]; exact hsk) (cells_byte _)) ?_
            refine cb_i _ _ ⟨.nilp, k, rfl, .inr ⟨hk, rfl, .inl ⟨rfl, rfl⟩⟩⟩ ?_
            repeat with_reducible first
            | refine isB_T ?_
            | refine isB_F ?_
            | (refine isB_ct ?_ ?_; (· first | omega | rfl | assumption | trivial))
            | (refine isB_cf ?_ ?_; (· first | omega | assumption))
            | refine onE_i ?_
            | (refine onE_s ?_ ?_; (· decide))
            | refine vb_i e_ext0 ?_
            | refine vb_i e_ext1 ?_
            | refine vb_i e_ext2 ?_
            | refine vb_i (lss64 _ _ _) ?_
            | refine vb_i (leq64 _ _ _) ?_
            | refine vb_i (gtr64 _ _ _) ?_
            | refine vb_i (geq64 _ _ _) ?_
            | refine vb_i (eql64 _ _ _) ?_
            | refine vb_i (neq64 _ _ _) ?_
            | refine vb_i (eqls _ _) ?_
            | refine vb_i (neqs _ _) ?_
            | (refine vb_i (add64 ?_ ?_) ?_; (· omega); (· omega))
            | (refine vb_i (sub64 ?_ ?_) ?_; (· omega); (· omega))
            | (refine vb_i (mul64 ?_ ?_) ?_; (· omega); (· omega))
            | (refine vb_i (quo64 ?_ ?_ ?_) ?_; (· omega); (· omega); (· omega))
            | (refine vb_i (rem64 ?_ ?_) ?_; (· omega); (· omega))
            | refine vb_i (e_lenSt _) ?_
            | refine vb_i (e_lenSl _ _ _) ?_
            | refine vb_i e_lenNil ?_
            | refine vb_i (lenSl_view (by assumption)) ?_
            | refine vb_i (e_ptrNil _ _) ?_
            | refine vb_i (e_ptrNilN _ _) ?_
            | refine vb_i (e_nilNil _) ?_
            | refine vb_i (e_nilNilN _) ?_
            | refine vb_i (e_pickT _ _) ?_
            | refine vb_i (e_pickF _ _) ?_
            | refine vb_i e_notd ?_
            | refine vb_i e_boolNe ?_
            | refine vb_i e_boolEq ?_
            | refine vb_i (e_not _) ?_
            | refine vb_i (e_nilCheck _) ?_
            | refine vb_i (e_fieldAddr _ _) ?_
            | refine hb_i (e_alloc _ _) ?_
            | (refine vb_i (adds ?_) ?_; (· first | omega | (simp only [List.length_cons, List.length_nil, List.length_append]; omega)))
            refine cb_i _ _ ⟨rfl, rfl, rfl⟩ ?_
            repeat with_reducible first
            | refine isB_T ?_
            | refine isB_F ?_
            | (refine isB_ct ?_ ?_; (· first | omega | rfl | assumption | trivial))
            | (refine isB_cf ?_ ?_; (· first | omega | assumption))
            | refine onE_i ?_
            | (refine onE_s ?_ ?_; (· decide))
            | refine vb_i e_ext0 ?_
            | refine vb_i e_ext1 ?_
            | refine vb_i e_ext2 ?_
            | refine vb_i (lss64 _ _ _) ?_
            | refine vb_i (leq64 _ _ _) ?_
            | refine vb_i (gtr64 _ _ _) ?_
            | refine vb_i (geq64 _ _ _) ?_
            | refine vb_i (eql64 _ _ _) ?_
            | refine vb_i (neq64 _ _ _) ?_
            | refine vb_i (eqls _ _) ?_
            | refine vb_i (neqs _ _) ?_
            | (refine vb_i (add64 ?_ ?_) ?_; (· omega); (· omega))
            | (refine vb_i (sub64 ?_ ?_) ?_; (· omega); (· omega))
            | (refine vb_i (mul64 ?_ ?_) ?_; (· omega); (· omega))
            | (refine vb_i (quo64 ?_ ?_ ?_) ?_; (· omega); (· omega); (· omega))
            | (refine vb_i (rem64 ?_ ?_) ?_; (· omega); (· omega))
            | refine vb_i (e_lenSt _) ?_
            | refine vb_i (e_lenSl _ _ _) ?_
            | refine vb_i e_lenNil ?_
            | refine vb_i (lenSl_view (by assumption)) ?_
            | refine vb_i (e_ptrNil _ _) ?_
            | refine vb_i (e_ptrNilN _ _) ?_
            | refine vb_i (e_nilNil _) ?_
            | refine vb_i (e_nilNilN _) ?_
            | refine vb_i (e_pickT _ _) ?_
            | refine vb_i (e_pickF _ _) ?_
            | refine vb_i e_notd ?_
            | refine vb_i e_boolNe ?_
            | refine vb_i e_boolEq ?_
            | refine vb_i (e_not _) ?_
            | refine vb_i (e_nilCheck _) ?_
            | refine vb_i (e_fieldAddr _ _) ?_
            | refine hb_i (e_alloc _ _) ?_
            | (refine vb_i (adds ?_) ?_; (· first | omega | (simp only [List.length_cons, List.length_nil, List.length_append]; omega)))
            with_reducible refine vb_i (sliceArr_all _ _ _ _) ?_
            refine vb_i (arr_str (app_get0 _ _) hsk) ?_
            repeat with_reducible first
            | refine isB_T ?_
            | refine isB_F ?_
            | (refine isB_ct ?_ ?_; (· first | omega | rfl | assumption | trivial))
            | (refine isB_cf ?_ ?_; (· first | omega | assumption))
            | refine onE_i ?_
            | (refine onE_s ?_ ?_; (· decide))
            | refine vb_i e_ext0 ?_
            | refine vb_i e_ext1 ?_
            | refine vb_i e_ext2 ?_
            | refine vb_i (lss64 _ _ _) ?_
            | refine vb_i (leq64 _ _ _) ?_
            | refine vb_i (gtr64 _ _ _) ?_
            | refine vb_i (geq64 _ _ _) ?_
            | refine vb_i (eql64 _ _ _) ?_
            | refine vb_i (neq64 _ _ _) ?_
            | refine vb_i (eqls _ _) ?_
            | refine vb_i (neqs _ _) ?_
            | (refine vb_i (add64 ?_ ?_) ?_; (· omega); (· omega))
            | (refine vb_i (sub64 ?_ ?_) ?_; (· omega); (· omega))
            | (refine vb_i (mul64 ?_ ?_) ?_; (· omega); (· omega))
            | (refine vb_i (quo64 ?_ ?_ ?_) ?_; (· omega); (· omega); (· omega))
            | (refine vb_i (rem64 ?_ ?_) ?_; (· omega); (· omega))
            | refine vb_i (e_lenSt _) ?_
            | refine vb_i (e_lenSl _ _ _) ?_
            | refine vb_i e_lenNil ?_
            | refine vb_i (lenSl_view (by assumption)) ?_
            | refine vb_i (e_ptrNil _ _) ?_
            | refine vb_i (e_ptrNilN _ _) ?_
            | refine vb_i (e_nilNil _) ?_
            | refine vb_i (e_nilNilN _) ?_
            | refine vb_i (e_pickT _ _) ?_
            | refine vb_i (e_pickF _ _) ?_
            | refine vb_i e_notd ?_
            | refine vb_i e_boolNe ?_
            | refine vb_i e_boolEq ?_
            | refine vb_i (e_not _) ?_
            | refine vb_i (e_nilCheck _) ?_
            | refine vb_i (e_fieldAddr _ _) ?_
            | refine hb_i (e_alloc _ _) ?_
            | (refine vb_i (adds ?_) ?_; (· first | omega | (simp only [List.length_cons, List.length_nil, List.length_append]; omega)))
            exact fin_bool rfl (p2.trans (pre_app _ _))
          · simp only [checkV, checkE, if_neg hk]
            repeat with_reducible first
            | refine isB_T ?_
            | refine isB_F ?_
            | (refine isB_ct ?_ ?_; (· first | omega | rfl | assumption | trivial))
            | (refine isB_cf ?_ ?_; (· first | omega | assumption))
            | refine onE_i ?_
            | (refine onE_s ?_ ?_; (· decide))
            | refine vb_i e_ext0 ?_
            | refine vb_i e_ext1 ?_
            | refine vb_i e_ext2 ?_
            | refine vb_i (lss64 _ _ _) ?_
            | refine vb_i (leq64 _ _ _) ?_
            | refine vb_i (gtr64 _ _ _) ?_
            | refine vb_i (geq64 _ _ _) ?_
            | refine vb_i (eql64 _ _ _) ?_
            | refine vb_i (neq64 _ _ _) ?_
            | refine vb_i (eqls _ _) ?_
            | refine vb_i (neqs _ _) ?_
            | (refine vb_i (add64 ?_ ?_) ?_; (· omega); (· omega))
            | (refine vb_i (sub64 ?_ ?_) ?_; (· omega); (· omega))
            | (refine vb_i (mul64 ?_ ?_) ?_; (· omega); (· omega))
            | (refine vb_i (quo64 ?_ ?_ ?_) ?_; (· omega); (· omega); (· omega))
            | (refine vb_i (rem64 ?_ ?_) ?_; (· omega); (· omega))
            | refine vb_i (e_lenSt _) ?_
            | refine vb_i (e_lenSl _ _ _) ?_
            | refine vb_i e_lenNil ?_
            | refine vb_i (lenSl_view (by assumption)) ?_
            | refine vb_i (e_ptrNil _ _) ?_
            | refine vb_i (e_ptrNilN _ _) ?_
            | refine vb_i (e_nilNil _) ?_
            | refine vb_i (e_nilNilN _) ?_
            | refine vb_i (e_pickT _ _) ?_
            | refine vb_i (e_pickF _ _) ?_
            | refine vb_i e_notd ?_
            | refine vb_i e_boolNe ?_
            | refine vb_i e_boolEq ?_
            | refine vb_i (e_not _) ?_
            | refine vb_i (e_nilCheck _) ?_
            | refine vb_i (e_fieldAddr _ _) ?_
            | refine hb_i (e_alloc _ _) ?_
            | (refine vb_i (adds ?_) ?_; (· first | omega | (simp only [List.length_cons, List.length_nil, List.length_append]; omega)))
            refine cb_i _ _ ⟨rfl, rfl, rfl⟩ ?_
            repeat with_reducible first
            | refine isB_T ?_
            | refine isB_F ?_
            | (refine isB_ct ?_ ?_; (· first | omega | rfl | assumption | trivial))
            | (refine isB_cf ?_ ?_; (· first | omega | assumption))
            | refine onE_i ?_
            | (refine onE_s ?_ ?_; (· decide))
            | refine vb_i e_ext0 ?_
            | refine vb_i e_ext1 ?_
            | refine vb_i e_ext2 ?_
            | refine vb_i (lss64 _ _ _) ?_
            | refine vb_i (leq64 _ _ _) ?_
            | refine vb_i (gtr64 _ _ _) ?_
            | refine vb_i (geq64 _ _ _) ?_
            | refine vb_i (eql64 _ _ _) ?_
            | refine vb_i (neq64 _ _ _) ?_
            | refine vb_i (eqls _ _) ?_
            | refine vb_i (neqs _ _) ?_
            | (refine vb_i (add64 ?_ ?_) ?_; (· omega); (· omega))
            | (refine vb_i (sub64 ?_ ?_) ?_; (· omega); (· omega))
            | (refine vb_i (mul64 ?_ ?_) ?_; (· omega); (· omega))
            | (refine vb_i (quo64 ?_ ?_ ?_) ?_; (· omega); (· omega); (· omega))
            | (refine vb_i (rem64 ?_ ?_) ?_; (· omega); (· omega))
            | refine vb_i (e_lenSt _) ?_
            | refine vb_i (e_lenSl _ _ _) ?_
            | refine vb_i e_lenNil ?_
            | refine vb_i (lenSl_view (by assumption)) ?_
            | refine vb_i (e_ptrNil _ _) ?_
            | refine vb_i (e_ptrNilN _ _) ?_
            | refine vb_i (e_nilNil _) ?_
            | refine vb_i (e_nilNilN _) ?_
            | refine vb_i (e_pickT _ _) ?_
            | refine vb_i (e_pickF _ _) ?_
            | refine vb_i e_notd ?_
            | refine vb_i e_boolNe ?_
            | refine vb_i e_boolEq ?_
            | refine vb_i (e_not _) ?_
            | refine vb_i (e_nilCheck _) ?_
            | refine vb_i (e_fieldAddr _ _) ?_
            | refine hb_i (e_alloc _ _) ?_
            | (refine vb_i (adds ?_) ?_; (· first | omega | (simp only [List.length_cons, List.length_nil, List.length_append]; omega)))
            exact fin_bool rfl p2
end Go.Sh

/- Functions that leave what was there as it was. -/
namespace Go.Sh
open Go Go.Abs

theorem cellaretref01_Full.quiet {args : List AVal} {H : AHeap} {r : AVal} {H' : AHeap} (h : S_cellaretref01_Full args H r H') : H <+: H' := by
  unfold S_cellaretref01_Full at h; grind [pre_app, pre_of_eq, newO]
theorem chain_Start_1.quiet {args : List AVal} {H : AHeap} {r : AVal} {H' : AHeap} (h : S_chain_Start_1 args H r H') : H <+: H' := by
  unfold S_chain_Start_1 at h; grind [pre_app, pre_of_eq, newO]
theorem cellaretlaw14_awake.quiet {args : List AVal} {H : AHeap} {r : AVal} {H' : AHeap} (h : S_cellaretlaw14_awake args H r H') : H <+: H' := by
  unfold S_cellaretlaw14_awake at h; grind [pre_app, pre_of_eq, newO]
theorem cellaretlaw14_next.quiet {args : List AVal} {H : AHeap} {r : AVal} {H' : AHeap} (h : S_cellaretlaw14_next args H r H') : H <+: H' := by
  unfold S_cellaretlaw14_next at h; grind [pre_app, pre_of_eq, newO]
theorem cellaretlaw14_ChainSums.quiet {args : List AVal} {H : AHeap} {r : AVal} {H' : AHeap} (h : S_cellaretlaw14_ChainSums args H r H') : H <+: H' := by
  unfold S_cellaretlaw14_ChainSums at h; grind [pre_app, pre_of_eq, newO]
end Go.Sh
