/- One text of these: NodeP7, NodeQ. -/
import Derived.Test.YtgcjchcmnlifmaaNode

/- The law of sums; the law of ways. -/
namespace Go.Sh
open Go Go.Abs

theorem sums_new (C : AHeap) {ss : List (List UInt8)} (hl : ss.length ≤ 1073741824) (hs : ∀ s ∈ ss, s.length ≤ 1099511627776) : ∃ C2, Osums (newO C) (.ptr ⟨C.length + 1, 0, 0⟩) ss C2 ∧ C <+: C2 := by
  have h0 := OInv.refl (ORep.new C)
  obtain ⟨C2, mv2, lv2, hO, hI, hl2, _⟩ := h0.sums (ss := ss) (by simpa using hl) hs
  have hn : (newO C).length = C.length + 2 := by simp [newO]
  refine ⟨C2, hO, pre_of_get (by omega) fun k hk => ?_⟩
  rw [hI.keep k (by omega) (by omega) (by omega) (by simp [slId])]
  exact pre_get (pre_app _ _) hk
theorem pre_newO (C : AHeap) : C <+: newO C := pre_app _ _
theorem load_pre {H C : AHeap} {n : Nat} {cs : List AVal} (p : H ++ [AObj.cells 0 .exact cs] <+: C) (hl : cs.length = n) : aLoad C true n (.ptr ⟨H.length, 0, 0⟩) = some (.agg cs) :=
  e_loadAll (v := 0) (kd := .exact) (by rw [pre_get p (by simp), app_get0]; rfl) hl

theorem cellaretlaw17_NodeSums.ok (args : List AVal) (H : AHeap) (r : AVal) (H' : AHeap) (h : S_cellaretlaw17_NodeSums args H r H') : ∃ x0, args = [x0] ∧ cellaretlaw17_NodeSums.w x0 H fun r1 H1 => Weak H r1 H1 r H' := by
  obtain ⟨s, rfl, rfl, rfl⟩ := h
  refine ⟨_, rfl, ?_⟩
  unfold cellaretlaw17_NodeSums.w
  by_cases h1 : 1000 < s.length
  · repeat with_reducible first
    | refine isB_T ?_
    | refine isB_F ?_
    | (refine isB_ct ?_ ?_; (· first | omega | rfl | assumption))
    | (refine isB_cf ?_ ?_; (· first | omega | assumption))
    | refine onE_i ?_
    | (refine onE_s ?_ ?_; (· decide))
    | refine vb_i e_ext0 ?_
    | refine vb_i e_ext1 ?_
    | refine vb_i e_ext2 ?_
    | refine vb_i (lss64 _ _ _) ?_
    | refine vb_i (leq64 _ _ _) ?_
    | refine vb_i (gtr64 _ _ _) ?_
    | refine vb_i (geq64 _ _ _) ?_
    | refine vb_i (eql64 _ _ _) ?_
    | refine vb_i (neq64 _ _ _) ?_
    | refine vb_i (eqls _ _) ?_
    | refine vb_i (neqs _ _) ?_
    | (refine vb_i (add64 ?_ ?_) ?_; (· omega); (· omega))
    | (refine vb_i (sub64 ?_ ?_) ?_; (· omega); (· omega))
    | (refine vb_i (mul64 ?_ ?_) ?_; (· omega); (· omega))
    | (refine vb_i (quo64 ?_ ?_ ?_) ?_; (· omega); (· omega); (· omega))
    | (refine vb_i (rem64 ?_ ?_) ?_; (· omega); (· omega))
    | refine vb_i (e_lenSt _) ?_
    | refine vb_i (e_lenSl _ _ _) ?_
    | refine vb_i e_lenNil ?_
    | refine vb_i (lenSl_view (by assumption)) ?_
    | refine vb_i (e_ptrNil _ _) ?_
    | refine vb_i (e_ptrNilN _ _) ?_
    | refine vb_i (e_nilNil _) ?_
    | refine vb_i (e_nilNilN _) ?_
    | refine vb_i (e_pickT _ _) ?_
    | refine vb_i (e_pickF _ _) ?_
    | refine vb_i e_notd ?_
    | refine vb_i e_boolNe ?_
    | refine vb_i e_boolEq ?_
    | refine vb_i (e_not _) ?_
    | refine vb_i (e_nilCheck _) ?_
    | refine vb_i (e_fieldAddr _ _) ?_
    | refine hb_i (e_alloc _ _) ?_
    | (refine vb_i (adds ?_) ?_; (· first | omega | (simp only [List.length_cons, List.length_nil, List.length_append]; omega)))
    refine cb_i _ _ ⟨rfl, rfl, rfl⟩ ?_
    exact fin_bool rfl (List.prefix_refl _)
  · repeat with_reducible first
    | refine isB_T ?_
    | refine isB_F ?_
    | (refine isB_ct ?_ ?_; (· first | omega | rfl | assumption))
    | (refine isB_cf ?_ ?_; (· first | omega | assumption))
    | refine onE_i ?_
    | (refine onE_s ?_ ?_; (· decide))
    | refine vb_i e_ext0 ?_
    | refine vb_i e_ext1 ?_
    | refine vb_i e_ext2 ?_
    | refine vb_i (lss64 _ _ _) ?_
    | refine vb_i (leq64 _ _ _) ?_
    | refine vb_i (gtr64 _ _ _) ?_
    | refine vb_i (geq64 _ _ _) ?_
    | refine vb_i (eql64 _ _ _) ?_
    | refine vb_i (neq64 _ _ _) ?_
    | refine vb_i (eqls _ _) ?_
    | refine vb_i (neqs _ _) ?_
    | (refine vb_i (add64 ?_ ?_) ?_; (· omega); (· omega))
    | (refine vb_i (sub64 ?_ ?_) ?_; (· omega); (· omega))
    | (refine vb_i (mul64 ?_ ?_) ?_; (· omega); (· omega))
    | (refine vb_i (quo64 ?_ ?_ ?_) ?_; (· omega); (· omega); (· omega))
    | (refine vb_i (rem64 ?_ ?_) ?_; (· omega); (· omega))
    | refine vb_i (e_lenSt _) ?_
    | refine vb_i (e_lenSl _ _ _) ?_
    | refine vb_i e_lenNil ?_
    | refine vb_i (lenSl_view (by assumption)) ?_
    | refine vb_i (e_ptrNil _ _) ?_
    | refine vb_i (e_ptrNilN _ _) ?_
    | refine vb_i (e_nilNil _) ?_
    | refine vb_i (e_nilNilN _) ?_
    | refine vb_i (e_pickT _ _) ?_
    | refine vb_i (e_pickF _ _) ?_
    | refine vb_i e_notd ?_
    | refine vb_i e_boolNe ?_
    | refine vb_i e_boolEq ?_
    | refine vb_i (e_not _) ?_
    | refine vb_i (e_nilCheck _) ?_
    | refine vb_i (e_fieldAddr _ _) ?_
    | refine hb_i (e_alloc _ _) ?_
    | (refine vb_i (adds ?_) ?_; (· first | omega | (simp only [List.length_cons, List.length_nil, List.length_append]; omega)))
    refine cb_i _ _ ⟨rfl, rfl, rfl⟩ ?_
    by_cases h2 : s.length = 64
    · obtain ⟨C2, hO, p2⟩ := sums_new H' (ss := [0 :: s]) (by simp) (by simp; omega)
      refine cb_i _ _ ⟨_, s, rfl, .inr ⟨h2, rfl, hO⟩⟩ ?_
      repeat with_reducible first
      | refine isB_T ?_
      | refine isB_F ?_
      | (refine isB_ct ?_ ?_; (· first | omega | rfl | assumption))
      | (refine isB_cf ?_ ?_; (· first | omega | assumption))
      | refine onE_i ?_
      | (refine onE_s ?_ ?_; (· decide))
      | refine vb_i e_ext0 ?_
      | refine vb_i e_ext1 ?_
      | refine vb_i e_ext2 ?_
      | refine vb_i (lss64 _ _ _) ?_
      | refine vb_i (leq64 _ _ _) ?_
      | refine vb_i (gtr64 _ _ _) ?_
      | refine vb_i (geq64 _ _ _) ?_
      | refine vb_i (eql64 _ _ _) ?_
      | refine vb_i (neq64 _ _ _) ?_
      | refine vb_i (eqls _ _) ?_
      | refine vb_i (neqs _ _) ?_
      | (refine vb_i (add64 ?_ ?_) ?_; (· omega); (· omega))
      | (refine vb_i (sub64 ?_ ?_) ?_; (· omega); (· omega))
      | (refine vb_i (mul64 ?_ ?_) ?_; (· omega); (· omega))
      | (refine vb_i (quo64 ?_ ?_ ?_) ?_; (· omega); (· omega); (· omega))
      | (refine vb_i (rem64 ?_ ?_) ?_; (· omega); (· omega))
      | refine vb_i (e_lenSt _) ?_
      | refine vb_i (e_lenSl _ _ _) ?_
      | refine vb_i e_lenNil ?_
      | refine vb_i (lenSl_view (by assumption)) ?_
      | refine vb_i (e_ptrNil _ _) ?_
      | refine vb_i (e_ptrNilN _ _) ?_
      | refine vb_i (e_nilNil _) ?_
      | refine vb_i (e_nilNilN _) ?_
      | refine vb_i (e_pickT _ _) ?_
      | refine vb_i (e_pickF _ _) ?_
      | refine vb_i e_notd ?_
      | refine vb_i e_boolNe ?_
      | refine vb_i e_boolEq ?_
      | refine vb_i (e_not _) ?_
      | refine vb_i (e_nilCheck _) ?_
      | refine vb_i (e_fieldAddr _ _) ?_
      | refine hb_i (e_alloc _ _) ?_
      | (refine vb_i (adds ?_) ?_; (· first | omega | (simp only [List.length_cons, List.length_nil, List.length_append]; omega)))
      have hs0 := sum_len (0 :: s)
      have hs1 := sum_len (1 :: s)
      with_reducible refine sb_i (store_new List.length_replicate (by rw [List.length_map]; exact hs0) (cells_byte _)) ?_
      refine cb_i _ _ ⟨rfl, rfl, rfl⟩ ?_
      obtain ⟨C4, hO4, p4⟩ := sums_new (C2 ++ [AObj.cells 0 .exact ((sum (0 :: s)).map ofByte)]) (ss := [1 :: s]) (by simp) (by simp; omega)
      refine cb_i _ _ ⟨_, s, rfl, .inr ⟨h2, rfl, hO4⟩⟩ ?_
      repeat with_reducible first
      | refine isB_T ?_
      | refine isB_F ?_
      | (refine isB_ct ?_ ?_; (· first | omega | rfl | assumption))
      | (refine isB_cf ?_ ?_; (· first | omega | assumption))
      | refine onE_i ?_
      | (refine onE_s ?_ ?_; (· decide))
      | refine vb_i e_ext0 ?_
      | refine vb_i e_ext1 ?_
      | refine vb_i e_ext2 ?_
      | refine vb_i (lss64 _ _ _) ?_
      | refine vb_i (leq64 _ _ _) ?_
      | refine vb_i (gtr64 _ _ _) ?_
      | refine vb_i (geq64 _ _ _) ?_
      | refine vb_i (eql64 _ _ _) ?_
      | refine vb_i (neq64 _ _ _) ?_
      | refine vb_i (eqls _ _) ?_
      | refine vb_i (neqs _ _) ?_
      | (refine vb_i (add64 ?_ ?_) ?_; (· omega); (· omega))
      | (refine vb_i (sub64 ?_ ?_) ?_; (· omega); (· omega))
      | (refine vb_i (mul64 ?_ ?_) ?_; (· omega); (· omega))
      | (refine vb_i (quo64 ?_ ?_ ?_) ?_; (· omega); (· omega); (· omega))
      | (refine vb_i (rem64 ?_ ?_) ?_; (· omega); (· omega))
      | refine vb_i (e_lenSt _) ?_
      | refine vb_i (e_lenSl _ _ _) ?_
      | refine vb_i e_lenNil ?_
      | refine vb_i (lenSl_view (by assumption)) ?_
      | refine vb_i (e_ptrNil _ _) ?_
      | refine vb_i (e_ptrNilN _ _) ?_
      | refine vb_i (e_nilNil _) ?_
      | refine vb_i (e_nilNilN _) ?_
      | refine vb_i (e_pickT _ _) ?_
      | refine vb_i (e_pickF _ _) ?_
      | refine vb_i e_notd ?_
      | refine vb_i e_boolNe ?_
      | refine vb_i e_boolEq ?_
      | refine vb_i (e_not _) ?_
      | refine vb_i (e_nilCheck _) ?_
      | refine vb_i (e_fieldAddr _ _) ?_
      | refine hb_i (e_alloc _ _) ?_
      | (refine vb_i (adds ?_) ?_; (· first | omega | (simp only [List.length_cons, List.length_nil, List.length_append]; omega)))
      with_reducible refine sb_i (store_new List.length_replicate (by rw [List.length_map]; exact hs1) (cells_byte _)) ?_
      repeat with_reducible first
      | refine isB_T ?_
      | refine isB_F ?_
      | (refine isB_ct ?_ ?_; (· first | omega | rfl | assumption))
      | (refine isB_cf ?_ ?_; (· first | omega | assumption))
      | refine onE_i ?_
      | (refine onE_s ?_ ?_; (· decide))
      | refine vb_i e_ext0 ?_
      | refine vb_i e_ext1 ?_
      | refine vb_i e_ext2 ?_
      | refine vb_i (lss64 _ _ _) ?_
      | refine vb_i (leq64 _ _ _) ?_
      | refine vb_i (gtr64 _ _ _) ?_
      | refine vb_i (geq64 _ _ _) ?_
      | refine vb_i (eql64 _ _ _) ?_
      | refine vb_i (neq64 _ _ _) ?_
      | refine vb_i (eqls _ _) ?_
      | refine vb_i (neqs _ _) ?_
      | (refine vb_i (add64 ?_ ?_) ?_; (· omega); (· omega))
      | (refine vb_i (sub64 ?_ ?_) ?_; (· omega); (· omega))
      | (refine vb_i (mul64 ?_ ?_) ?_; (· omega); (· omega))
      | (refine vb_i (quo64 ?_ ?_ ?_) ?_; (· omega); (· omega); (· omega))
      | (refine vb_i (rem64 ?_ ?_) ?_; (· omega); (· omega))
      | refine vb_i (e_lenSt _) ?_
      | refine vb_i (e_lenSl _ _ _) ?_
      | refine vb_i e_lenNil ?_
      | refine vb_i (lenSl_view (by assumption)) ?_
      | refine vb_i (e_ptrNil _ _) ?_
      | refine vb_i (e_ptrNilN _ _) ?_
      | refine vb_i (e_nilNil _) ?_
      | refine vb_i (e_nilNilN _) ?_
      | refine vb_i (e_pickT _ _) ?_
      | refine vb_i (e_pickF _ _) ?_
      | refine vb_i e_notd ?_
      | refine vb_i e_boolNe ?_
      | refine vb_i e_boolEq ?_
      | refine vb_i (e_not _) ?_
      | refine vb_i (e_nilCheck _) ?_
      | refine vb_i (e_fieldAddr _ _) ?_
      | refine hb_i (e_alloc _ _) ?_
      | (refine vb_i (adds ?_) ?_; (· first | omega | (simp only [List.length_cons, List.length_nil, List.length_append]; omega)))
      refine cb_i _ _ ⟨rfl, rfl, rfl⟩ ?_
      repeat with_reducible first
      | refine isB_T ?_
      | refine isB_F ?_
      | (refine isB_ct ?_ ?_; (· first | omega | rfl | assumption))
      | (refine isB_cf ?_ ?_; (· first | omega | assumption))
      | refine onE_i ?_
      | (refine onE_s ?_ ?_; (· decide))
      | refine vb_i e_ext0 ?_
      | refine vb_i e_ext1 ?_
      | refine vb_i e_ext2 ?_
      | refine vb_i (lss64 _ _ _) ?_
      | refine vb_i (leq64 _ _ _) ?_
      | refine vb_i (gtr64 _ _ _) ?_
      | refine vb_i (geq64 _ _ _) ?_
      | refine vb_i (eql64 _ _ _) ?_
      | refine vb_i (neq64 _ _ _) ?_
      | refine vb_i (eqls _ _) ?_
      | refine vb_i (neqs _ _) ?_
      | (refine vb_i (add64 ?_ ?_) ?_; (· omega); (· omega))
      | (refine vb_i (sub64 ?_ ?_) ?_; (· omega); (· omega))
      | (refine vb_i (mul64 ?_ ?_) ?_; (· omega); (· omega))
      | (refine vb_i (quo64 ?_ ?_ ?_) ?_; (· omega); (· omega); (· omega))
      | (refine vb_i (rem64 ?_ ?_) ?_; (· omega); (· omega))
      | refine vb_i (e_lenSt _) ?_
      | refine vb_i (e_lenSl _ _ _) ?_
      | refine vb_i e_lenNil ?_
      | refine vb_i (lenSl_view (by assumption)) ?_
      | refine vb_i (e_ptrNil _ _) ?_
      | refine vb_i (e_ptrNilN _ _) ?_
      | refine vb_i (e_nilNil _) ?_
      | refine vb_i (e_nilNilN _) ?_
      | refine vb_i (e_pickT _ _) ?_
      | refine vb_i (e_pickF _ _) ?_
      | refine vb_i e_notd ?_
      | refine vb_i e_boolNe ?_
      | refine vb_i e_boolEq ?_
      | refine vb_i (e_not _) ?_
      | refine vb_i (e_nilCheck _) ?_
      | refine vb_i (e_fieldAddr _ _) ?_
      | refine hb_i (e_alloc _ _) ?_
      | (refine vb_i (adds ?_) ?_; (· first | omega | (simp only [List.length_cons, List.length_nil, List.length_append]; omega)))
      with_reducible refine vb_i (load_pre (p4.trans (pre_app _ _)) (by rw [List.length_map]; exact hs0)) ?_
      repeat with_reducible first
      | refine isB_T ?_
      | refine isB_F ?_
      | (refine isB_ct ?_ ?_; (· first | omega | rfl | assumption))
      | (refine isB_cf ?_ ?_; (· first | omega | assumption))
      | refine onE_i ?_
      | (refine onE_s ?_ ?_; (· decide))
      | refine vb_i e_ext0 ?_
      | refine vb_i e_ext1 ?_
      | refine vb_i e_ext2 ?_
      | refine vb_i (lss64 _ _ _) ?_
      | refine vb_i (leq64 _ _ _) ?_
      | refine vb_i (gtr64 _ _ _) ?_
      | refine vb_i (geq64 _ _ _) ?_
      | refine vb_i (eql64 _ _ _) ?_
      | refine vb_i (neq64 _ _ _) ?_
      | refine vb_i (eqls _ _) ?_
      | refine vb_i (neqs _ _) ?_
      | (refine vb_i (add64 ?_ ?_) ?_; (· omega); (· omega))
      | (refine vb_i (sub64 ?_ ?_) ?_; (· omega); (· omega))
      | (refine vb_i (mul64 ?_ ?_) ?_; (· omega); (· omega))
      | (refine vb_i (quo64 ?_ ?_ ?_) ?_; (· omega); (· omega); (· omega))
      | (refine vb_i (rem64 ?_ ?_) ?_; (· omega); (· omega))
      | refine vb_i (e_lenSt _) ?_
      | refine vb_i (e_lenSl _ _ _) ?_
      | refine vb_i e_lenNil ?_
      | refine vb_i (lenSl_view (by assumption)) ?_
      | refine vb_i (e_ptrNil _ _) ?_
      | refine vb_i (e_ptrNilN _ _) ?_
      | refine vb_i (e_nilNil _) ?_
      | refine vb_i (e_nilNilN _) ?_
      | refine vb_i (e_pickT _ _) ?_
      | refine vb_i (e_pickF _ _) ?_
      | refine vb_i e_notd ?_
      | refine vb_i e_boolNe ?_
      | refine vb_i e_boolEq ?_
      | refine vb_i (e_not _) ?_
      | refine vb_i (e_nilCheck _) ?_
      | refine vb_i (e_fieldAddr _ _) ?_
      | refine hb_i (e_alloc _ _) ?_
      | (refine vb_i (adds ?_) ?_; (· first | omega | (simp only [List.length_cons, List.length_nil, List.length_append]; omega)))
      simp only [List.cons_append, List.nil_append]
      refine cb_i _ _ ⟨_, rfl, by simp; omega, rfl, rfl⟩ ?_
      with_reducible refine vb_i (e_eqBytes (sum_len _) (sum_len _)) ?_
      repeat with_reducible first
      | refine isB_T ?_
      | refine isB_F ?_
      | (refine isB_ct ?_ ?_; (· first | omega | rfl | assumption))
      | (refine isB_cf ?_ ?_; (· first | omega | assumption))
      | refine onE_i ?_
      | (refine onE_s ?_ ?_; (· decide))
      | refine vb_i e_ext0 ?_
      | refine vb_i e_ext1 ?_
      | refine vb_i e_ext2 ?_
      | refine vb_i (lss64 _ _ _) ?_
      | refine vb_i (leq64 _ _ _) ?_
      | refine vb_i (gtr64 _ _ _) ?_
      | refine vb_i (geq64 _ _ _) ?_
      | refine vb_i (eql64 _ _ _) ?_
      | refine vb_i (neq64 _ _ _) ?_
      | refine vb_i (eqls _ _) ?_
      | refine vb_i (neqs _ _) ?_
      | (refine vb_i (add64 ?_ ?_) ?_; (· omega); (· omega))
      | (refine vb_i (sub64 ?_ ?_) ?_; (· omega); (· omega))
      | (refine vb_i (mul64 ?_ ?_) ?_; (· omega); (· omega))
      | (refine vb_i (quo64 ?_ ?_ ?_) ?_; (· omega); (· omega); (· omega))
      | (refine vb_i (rem64 ?_ ?_) ?_; (· omega); (· omega))
      | refine vb_i (e_lenSt _) ?_
      | refine vb_i (e_lenSl _ _ _) ?_
      | refine vb_i e_lenNil ?_
      | refine vb_i (lenSl_view (by assumption)) ?_
      | refine vb_i (e_ptrNil _ _) ?_
      | refine vb_i (e_ptrNilN _ _) ?_
      | refine vb_i (e_nilNil _) ?_
      | refine vb_i (e_nilNilN _) ?_
      | refine vb_i (e_pickT _ _) ?_
      | refine vb_i (e_pickF _ _) ?_
      | refine vb_i e_notd ?_
      | refine vb_i e_boolNe ?_
      | refine vb_i e_boolEq ?_
      | refine vb_i (e_not _) ?_
      | refine vb_i (e_nilCheck _) ?_
      | refine vb_i (e_fieldAddr _ _) ?_
      | refine hb_i (e_alloc _ _) ?_
      | (refine vb_i (adds ?_) ?_; (· first | omega | (simp only [List.length_cons, List.length_nil, List.length_append]; omega)))
      with_reducible refine vb_i (load_new (by rw [List.length_map]; exact hs1)) ?_
      repeat with_reducible first
      | refine isB_T ?_
      | refine isB_F ?_
      | (refine isB_ct ?_ ?_; (· first | omega | rfl | assumption))
      | (refine isB_cf ?_ ?_; (· first | omega | assumption))
      | refine onE_i ?_
      | (refine onE_s ?_ ?_; (· decide))
      | refine vb_i e_ext0 ?_
      | refine vb_i e_ext1 ?_
      | refine vb_i e_ext2 ?_
      | refine vb_i (lss64 _ _ _) ?_
      | refine vb_i (leq64 _ _ _) ?_
      | refine vb_i (gtr64 _ _ _) ?_
      | refine vb_i (geq64 _ _ _) ?_
      | refine vb_i (eql64 _ _ _) ?_
      | refine vb_i (neq64 _ _ _) ?_
      | refine vb_i (eqls _ _) ?_
      | refine vb_i (neqs _ _) ?_
      | (refine vb_i (add64 ?_ ?_) ?_; (· omega); (· omega))
      | (refine vb_i (sub64 ?_ ?_) ?_; (· omega); (· omega))
      | (refine vb_i (mul64 ?_ ?_) ?_; (· omega); (· omega))
      | (refine vb_i (quo64 ?_ ?_ ?_) ?_; (· omega); (· omega); (· omega))
      | (refine vb_i (rem64 ?_ ?_) ?_; (· omega); (· omega))
      | refine vb_i (e_lenSt _) ?_
      | refine vb_i (e_lenSl _ _ _) ?_
      | refine vb_i e_lenNil ?_
      | refine vb_i (lenSl_view (by assumption)) ?_
      | refine vb_i (e_ptrNil _ _) ?_
      | refine vb_i (e_ptrNilN _ _) ?_
      | refine vb_i (e_nilNil _) ?_
      | refine vb_i (e_nilNilN _) ?_
      | refine vb_i (e_pickT _ _) ?_
      | refine vb_i (e_pickF _ _) ?_
      | refine vb_i e_notd ?_
      | refine vb_i e_boolNe ?_
      | refine vb_i e_boolEq ?_
      | refine vb_i (e_not _) ?_
      | refine vb_i (e_nilCheck _) ?_
      | refine vb_i (e_fieldAddr _ _) ?_
      | refine hb_i (e_alloc _ _) ?_
      | (refine vb_i (adds ?_) ?_; (· first | omega | (simp only [List.length_cons, List.length_nil, List.length_append]; omega)))
      simp only [List.cons_append, List.nil_append]
      refine cb_i _ _ ⟨_, rfl, by simp; omega, rfl, rfl⟩ ?_
      with_reducible refine vb_i (e_eqBytes (sum_len _) (sum_len _)) ?_
      refine fin_bool (by simp) ?_
      exact ((p2.trans (pre_app _ _)).trans p4).trans (pre_app _ _)
    · refine cb_i _ _ ⟨_, s, rfl, .inl ⟨h2, rfl, rfl⟩⟩ ?_
      repeat with_reducible first
      | refine isB_T ?_
      | refine isB_F ?_
      | (refine isB_ct ?_ ?_; (· first | omega | rfl | assumption))
      | (refine isB_cf ?_ ?_; (· first | omega | assumption))
      | refine onE_i ?_
      | (refine onE_s ?_ ?_; (· decide))
      | refine vb_i e_ext0 ?_
      | refine vb_i e_ext1 ?_
      | refine vb_i e_ext2 ?_
      | refine vb_i (lss64 _ _ _) ?_
      | refine vb_i (leq64 _ _ _) ?_
      | refine vb_i (gtr64 _ _ _) ?_
      | refine vb_i (geq64 _ _ _) ?_
      | refine vb_i (eql64 _ _ _) ?_
      | refine vb_i (neq64 _ _ _) ?_
      | refine vb_i (eqls _ _) ?_
      | refine vb_i (neqs _ _) ?_
      | (refine vb_i (add64 ?_ ?_) ?_; (· omega); (· omega))
      | (refine vb_i (sub64 ?_ ?_) ?_; (· omega); (· omega))
      | (refine vb_i (mul64 ?_ ?_) ?_; (· omega); (· omega))
      | (refine vb_i (quo64 ?_ ?_ ?_) ?_; (· omega); (· omega); (· omega))
      | (refine vb_i (rem64 ?_ ?_) ?_; (· omega); (· omega))
      | refine vb_i (e_lenSt _) ?_
      | refine vb_i (e_lenSl _ _ _) ?_
      | refine vb_i e_lenNil ?_
      | refine vb_i (lenSl_view (by assumption)) ?_
      | refine vb_i (e_ptrNil _ _) ?_
      | refine vb_i (e_ptrNilN _ _) ?_
      | refine vb_i (e_nilNil _) ?_
      | refine vb_i (e_nilNilN _) ?_
      | refine vb_i (e_pickT _ _) ?_
      | refine vb_i (e_pickF _ _) ?_
      | refine vb_i e_notd ?_
      | refine vb_i e_boolNe ?_
      | refine vb_i e_boolEq ?_
      | refine vb_i (e_not _) ?_
      | refine vb_i (e_nilCheck _) ?_
      | refine vb_i (e_fieldAddr _ _) ?_
      | refine hb_i (e_alloc _ _) ?_
      | (refine vb_i (adds ?_) ?_; (· first | omega | (simp only [List.length_cons, List.length_nil, List.length_append]; omega)))
      unfold zero32
      with_reducible refine sb_i (store_new List.length_replicate List.length_replicate (cells_rep _ _ _)) ?_
      refine cb_i _ _ ⟨rfl, rfl, rfl⟩ ?_
      refine cb_i _ _ ⟨_, s, rfl, .inl ⟨h2, rfl, rfl⟩⟩ ?_
      repeat with_reducible first
      | refine isB_T ?_
      | refine isB_F ?_
      | (refine isB_ct ?_ ?_; (· first | omega | rfl | assumption))
      | (refine isB_cf ?_ ?_; (· first | omega | assumption))
      | refine onE_i ?_
      | (refine onE_s ?_ ?_; (· decide))
      | refine vb_i e_ext0 ?_
      | refine vb_i e_ext1 ?_
      | refine vb_i e_ext2 ?_
      | refine vb_i (lss64 _ _ _) ?_
      | refine vb_i (leq64 _ _ _) ?_
      | refine vb_i (gtr64 _ _ _) ?_
      | refine vb_i (geq64 _ _ _) ?_
      | refine vb_i (eql64 _ _ _) ?_
      | refine vb_i (neq64 _ _ _) ?_
      | refine vb_i (eqls _ _) ?_
      | refine vb_i (neqs _ _) ?_
      | (refine vb_i (add64 ?_ ?_) ?_; (· omega); (· omega))
      | (refine vb_i (sub64 ?_ ?_) ?_; (· omega); (· omega))
      | (refine vb_i (mul64 ?_ ?_) ?_; (· omega); (· omega))
      | (refine vb_i (quo64 ?_ ?_ ?_) ?_; (· omega); (· omega); (· omega))
      | (refine vb_i (rem64 ?_ ?_) ?_; (· omega); (· omega))
      | refine vb_i (e_lenSt _) ?_
      | refine vb_i (e_lenSl _ _ _) ?_
      | refine vb_i e_lenNil ?_
      | refine vb_i (lenSl_view (by assumption)) ?_
      | refine vb_i (e_ptrNil _ _) ?_
      | refine vb_i (e_ptrNilN _ _) ?_
      | refine vb_i (e_nilNil _) ?_
      | refine vb_i (e_nilNilN _) ?_
      | refine vb_i (e_pickT _ _) ?_
      | refine vb_i (e_pickF _ _) ?_
      | refine vb_i e_notd ?_
      | refine vb_i e_boolNe ?_
      | refine vb_i e_boolEq ?_
      | refine vb_i (e_not _) ?_
      | refine vb_i (e_nilCheck _) ?_
      | refine vb_i (e_fieldAddr _ _) ?_
      | refine hb_i (e_alloc _ _) ?_
      | (refine vb_i (adds ?_) ?_; (· first | omega | (simp only [List.length_cons, List.length_nil, List.length_append]; omega)))
      unfold zero32
      with_reducible refine sb_i (store_new List.length_replicate List.length_replicate (cells_rep _ _ _)) ?_
      repeat with_reducible first
      | refine isB_T ?_
      | refine isB_F ?_
      | (refine isB_ct ?_ ?_; (· first | omega | rfl | assumption))
      | (refine isB_cf ?_ ?_; (· first | omega | assumption))
      | refine onE_i ?_
      | (refine onE_s ?_ ?_; (· decide))
      | refine vb_i e_ext0 ?_
      | refine vb_i e_ext1 ?_
      | refine vb_i e_ext2 ?_
      | refine vb_i (lss64 _ _ _) ?_
      | refine vb_i (leq64 _ _ _) ?_
      | refine vb_i (gtr64 _ _ _) ?_
      | refine vb_i (geq64 _ _ _) ?_
      | refine vb_i (eql64 _ _ _) ?_
      | refine vb_i (neq64 _ _ _) ?_
      | refine vb_i (eqls _ _) ?_
      | refine vb_i (neqs _ _) ?_
      | (refine vb_i (add64 ?_ ?_) ?_; (· omega); (· omega))
      | (refine vb_i (sub64 ?_ ?_) ?_; (· omega); (· omega))
      | (refine vb_i (mul64 ?_ ?_) ?_; (· omega); (· omega))
      | (refine vb_i (quo64 ?_ ?_ ?_) ?_; (· omega); (· omega); (· omega))
      | (refine vb_i (rem64 ?_ ?_) ?_; (· omega); (· omega))
      | refine vb_i (e_lenSt _) ?_
      | refine vb_i (e_lenSl _ _ _) ?_
      | refine vb_i e_lenNil ?_
      | refine vb_i (lenSl_view (by assumption)) ?_
      | refine vb_i (e_ptrNil _ _) ?_
      | refine vb_i (e_ptrNilN _ _) ?_
      | refine vb_i (e_nilNil _) ?_
      | refine vb_i (e_nilNilN _) ?_
      | refine vb_i (e_pickT _ _) ?_
      | refine vb_i (e_pickF _ _) ?_
      | refine vb_i e_notd ?_
      | refine vb_i e_boolNe ?_
      | refine vb_i e_boolEq ?_
      | refine vb_i (e_not _) ?_
      | refine vb_i (e_nilCheck _) ?_
      | refine vb_i (e_fieldAddr _ _) ?_
      | refine hb_i (e_alloc _ _) ?_
      | (refine vb_i (adds ?_) ?_; (· first | omega | (simp only [List.length_cons, List.length_nil, List.length_append]; omega)))
      refine cb_i _ _ ⟨rfl, rfl, rfl⟩ ?_
      repeat with_reducible first
      | refine isB_T ?_
      | refine isB_F ?_
      | (refine isB_ct ?_ ?_; (· first | omega | rfl | assumption))
      | (refine isB_cf ?_ ?_; (· first | omega | assumption))
      | refine onE_i ?_
      | (refine onE_s ?_ ?_; (· decide))
      | refine vb_i e_ext0 ?_
      | refine vb_i e_ext1 ?_
      | refine vb_i e_ext2 ?_
      | refine vb_i (lss64 _ _ _) ?_
      | refine vb_i (leq64 _ _ _) ?_
      | refine vb_i (gtr64 _ _ _) ?_
      | refine vb_i (geq64 _ _ _) ?_
      | refine vb_i (eql64 _ _ _) ?_
      | refine vb_i (neq64 _ _ _) ?_
      | refine vb_i (eqls _ _) ?_
      | refine vb_i (neqs _ _) ?_
      | (refine vb_i (add64 ?_ ?_) ?_; (· omega); (· omega))
      | (refine vb_i (sub64 ?_ ?_) ?_; (· omega); (· omega))
      | (refine vb_i (mul64 ?_ ?_) ?_; (· omega); (· omega))
      | (refine vb_i (quo64 ?_ ?_ ?_) ?_; (· omega); (· omega); (· omega))
      | (refine vb_i (rem64 ?_ ?_) ?_; (· omega); (· omega))
      | refine vb_i (e_lenSt _) ?_
      | refine vb_i (e_lenSl _ _ _) ?_
      | refine vb_i e_lenNil ?_
      | refine vb_i (lenSl_view (by assumption)) ?_
      | refine vb_i (e_ptrNil _ _) ?_
      | refine vb_i (e_ptrNilN _ _) ?_
      | refine vb_i (e_nilNil _) ?_
      | refine vb_i (e_nilNilN _) ?_
      | refine vb_i (e_pickT _ _) ?_
      | refine vb_i (e_pickF _ _) ?_
      | refine vb_i e_notd ?_
      | refine vb_i e_boolNe ?_
      | refine vb_i e_boolEq ?_
      | refine vb_i (e_not _) ?_
      | refine vb_i (e_nilCheck _) ?_
      | refine vb_i (e_fieldAddr _ _) ?_
      | refine hb_i (e_alloc _ _) ?_
      | (refine vb_i (adds ?_) ?_; (· first | omega | (simp only [List.length_cons, List.length_nil, List.length_append]; omega)))
      with_reducible refine vb_i (load_pre ((pre_newO _).trans (pre_app _ _)) List.length_replicate) ?_
      with_reducible refine vb_i zero32_build ?_
      refine vb_i zero_eq ?_
      repeat with_reducible first
      | refine isB_T ?_
      | refine isB_F ?_
      | (refine isB_ct ?_ ?_; (· first | omega | rfl | assumption))
      | (refine isB_cf ?_ ?_; (· first | omega | assumption))
      | refine onE_i ?_
      | (refine onE_s ?_ ?_; (· decide))
      | refine vb_i e_ext0 ?_
      | refine vb_i e_ext1 ?_
      | refine vb_i e_ext2 ?_
      | refine vb_i (lss64 _ _ _) ?_
      | refine vb_i (leq64 _ _ _) ?_
      | refine vb_i (gtr64 _ _ _) ?_
      | refine vb_i (geq64 _ _ _) ?_
      | refine vb_i (eql64 _ _ _) ?_
      | refine vb_i (neq64 _ _ _) ?_
      | refine vb_i (eqls _ _) ?_
      | refine vb_i (neqs _ _) ?_
      | (refine vb_i (add64 ?_ ?_) ?_; (· omega); (· omega))
      | (refine vb_i (sub64 ?_ ?_) ?_; (· omega); (· omega))
      | (refine vb_i (mul64 ?_ ?_) ?_; (· omega); (· omega))
      | (refine vb_i (quo64 ?_ ?_ ?_) ?_; (· omega); (· omega); (· omega))
      | (refine vb_i (rem64 ?_ ?_) ?_; (· omega); (· omega))
      | refine vb_i (e_lenSt _) ?_
      | refine vb_i (e_lenSl _ _ _) ?_
      | refine vb_i e_lenNil ?_
      | refine vb_i (lenSl_view (by assumption)) ?_
      | refine vb_i (e_ptrNil _ _) ?_
      | refine vb_i (e_ptrNilN _ _) ?_
      | refine vb_i (e_nilNil _) ?_
      | refine vb_i (e_nilNilN _) ?_
      | refine vb_i (e_pickT _ _) ?_
      | refine vb_i (e_pickF _ _) ?_
      | refine vb_i e_notd ?_
      | refine vb_i e_boolNe ?_
      | refine vb_i e_boolEq ?_
      | refine vb_i (e_not _) ?_
      | refine vb_i (e_nilCheck _) ?_
      | refine vb_i (e_fieldAddr _ _) ?_
      | refine hb_i (e_alloc _ _) ?_
      | (refine vb_i (adds ?_) ?_; (· first | omega | (simp only [List.length_cons, List.length_nil, List.length_append]; omega)))
      with_reducible refine vb_i (load_new List.length_replicate) ?_
      with_reducible refine vb_i zero32_build ?_
      refine vb_i zero_eq ?_
      repeat with_reducible first
      | refine isB_T ?_
      | refine isB_F ?_
      | (refine isB_ct ?_ ?_; (· first | omega | rfl | assumption))
      | (refine isB_cf ?_ ?_; (· first | omega | assumption))
      | refine onE_i ?_
      | (refine onE_s ?_ ?_; (· decide))
      | refine vb_i e_ext0 ?_
      | refine vb_i e_ext1 ?_
      | refine vb_i e_ext2 ?_
      | refine vb_i (lss64 _ _ _) ?_
      | refine vb_i (leq64 _ _ _) ?_
      | refine vb_i (gtr64 _ _ _) ?_
      | refine vb_i (geq64 _ _ _) ?_
      | refine vb_i (eql64 _ _ _) ?_
      | refine vb_i (neq64 _ _ _) ?_
      | refine vb_i (eqls _ _) ?_
      | refine vb_i (neqs _ _) ?_
      | (refine vb_i (add64 ?_ ?_) ?_; (· omega); (· omega))
      | (refine vb_i (sub64 ?_ ?_) ?_; (· omega); (· omega))
      | (refine vb_i (mul64 ?_ ?_) ?_; (· omega); (· omega))
      | (refine vb_i (quo64 ?_ ?_ ?_) ?_; (· omega); (· omega); (· omega))
      | (refine vb_i (rem64 ?_ ?_) ?_; (· omega); (· omega))
      | refine vb_i (e_lenSt _) ?_
      | refine vb_i (e_lenSl _ _ _) ?_
      | refine vb_i e_lenNil ?_
      | refine vb_i (lenSl_view (by assumption)) ?_
      | refine vb_i (e_ptrNil _ _) ?_
      | refine vb_i (e_ptrNilN _ _) ?_
      | refine vb_i (e_nilNil _) ?_
      | refine vb_i (e_nilNilN _) ?_
      | refine vb_i (e_pickT _ _) ?_
      | refine vb_i (e_pickF _ _) ?_
      | refine vb_i e_notd ?_
      | refine vb_i e_boolNe ?_
      | refine vb_i e_boolEq ?_
      | refine vb_i (e_not _) ?_
      | refine vb_i (e_nilCheck _) ?_
      | refine vb_i (e_fieldAddr _ _) ?_
      | refine hb_i (e_alloc _ _) ?_
      | (refine vb_i (adds ?_) ?_; (· first | omega | (simp only [List.length_cons, List.length_nil, List.length_append]; omega)))
      refine fin_bool rfl ?_
      exact (((pre_newO _).trans (pre_app _ _)).trans (pre_newO _)).trans (pre_app _ _)

theorem belowR_bad {n s : Int} (h : n < 0 ∨ 63 ≤ n ∨ s < 0 ∨ 1 < s) : belowR n s = [.int .i64 0, .bool false, .int .i64 3] := if_pos h
theorem belowR_in {n s : Int} (h : ¬ (n < 0 ∨ 63 ≤ n ∨ s < 0 ∨ 1 < s)) (k : 2 * n + 1 + s < 63) : belowR n s = [.int .i64 (2 * n + 1 + s), .bool false, .int .i64 0] := by
  unfold belowR; rw [if_neg h, if_pos k]
theorem belowR_leaf {n s : Int} (h : ¬ (n < 0 ∨ 63 ≤ n ∨ s < 0 ∨ 1 < s)) (k : ¬ 2 * n + 1 + s < 63) : belowR n s = [.int .i64 (2 * n + 1 + s - 63), .bool true, .int .i64 0] := by
  unfold belowR; rw [if_neg h, if_neg k]

theorem up_lt (m : Nat) (hm : m < 64) {i j : Nat} (hij : i < j) (hj : j ≤ 6) : up m j < up m i := by
  have hi : i = 0 ∨ i = 1 ∨ i = 2 ∨ i = 3 ∨ i = 4 ∨ i = 5 := by omega
  have hj : j = 1 ∨ j = 2 ∨ j = 3 ∨ j = 4 ∨ j = 5 ∨ j = 6 := by omega
  unfold up
  rcases hi with rfl | rfl | rfl | rfl | rfl | rfl <;> rcases hj with rfl | rfl | rfl | rfl | rfl | rfl <;> first | omega
theorem hit_path (m : Nat) (hm : m < 64) {i : Nat} (hi : i < 6) : hit m (up m (i + 1) : Nat) = some i :=
  hit_some hi rfl fun k hk e => by
    have := up_lt m hm (i := k + 1) (j := i + 1) (by omega) (by omega)
    omega
theorem side_path (m : Nat) (hm : m < 64) {i : Nat} (hi : i < 6) : sideR m (up m (i + 1) : Nat) = [.int .i64 ((up m i + 1) % 2 : Nat), .int .i64 0] := by
  unfold sideR
  rw [if_neg (by omega), Int.toNat_natCast, hit_path m hm hi]
theorem down_path (m : Nat) (hm : m < 64) {i : Nat} (hi : i < 6) : 2 * (up m (i + 1) : Int) + 1 + ((up m i + 1) % 2 : Nat) = up m i := by
  obtain ⟨p1, p2⟩ := up_pos m i hm hi
  have := up_next m i p2
  have h2 : up m i = (m + 64) / 2 ^ i - 1 := rfl
  omega
theorem path_get (m : Nat) {i : Nat} (hi : i < 6) : (ints (path m)).getD i .undef = .int .i64 (up m (i + 1) : Nat) := by
  have : i = 0 ∨ i = 1 ∨ i = 2 ∨ i = 3 ∨ i = 4 ∨ i = 5 := by omega
  rcases this with rfl | rfl | rfl | rfl | rfl | rfl <;> rfl
theorem up_63 (m : Nat) (hm : m < 64) {i : Nat} (hi : 0 < i) (hi6 : i ≤ 6) : up m i < 63 := by
  have : i = 1 ∨ i = 2 ∨ i = 3 ∨ i = 4 ∨ i = 5 ∨ i = 6 := by omega
  unfold up
  rcases this with rfl | rfl | rfl | rfl | rfl | rfl <;> omega

theorem below_ok (n s : Int) : ∃ (a b e : AVal), belowR n s = [a, b, e] ∧ (((n < 0 ∨ 63 ≤ n ∨ s < 0 ∨ 1 < s) ∧ a = .int .i64 0 ∧ b = .bool false ∧ e = .int .i64 3) ∨
    (¬ (n < 0 ∨ 63 ≤ n ∨ s < 0 ∨ 1 < s) ∧ 2 * n + 1 + s < 63 ∧ a = .int .i64 (2 * n + 1 + s) ∧ b = .bool false ∧ e = .int .i64 0) ∨
    (¬ (n < 0 ∨ 63 ≤ n ∨ s < 0 ∨ 1 < s) ∧ ¬ 2 * n + 1 + s < 63 ∧ a = .int .i64 (2 * n + 1 + s - 63) ∧ b = .bool true ∧ e = .int .i64 0)) := by
  by_cases h : n < 0 ∨ 63 ≤ n ∨ s < 0 ∨ 1 < s
  · exact ⟨_, _, _, belowR_bad h, .inl ⟨h, rfl, rfl, rfl⟩⟩
  · by_cases k : 2 * n + 1 + s < 63
    · exact ⟨_, _, _, belowR_in h k, .inr (.inl ⟨h, k, rfl, rfl, rfl⟩)⟩
    · exact ⟨_, _, _, belowR_leaf h k, .inr (.inr ⟨h, k, rfl, rfl, rfl⟩)⟩

theorem cellaretlaw17_NodePaths.ok (args : List AVal) (H : AHeap) (r : AVal) (H' : AHeap) (h : S_cellaretlaw17_NodePaths args H r H') : ∃ x0 x1 x2, args = [x0, x1, x2] ∧ cellaretlaw17_NodePaths.w x0 x1 x2 H fun r1 H1 => Weak H r1 H1 r H' := by
  obtain ⟨l, n, s, rfl, hn, rfl, rfl⟩ := h
  refine ⟨_, _, _, rfl, ?_⟩
  unfold cellaretlaw17_NodePaths.w
  -- the way, and the side, of the leaf
  obtain ⟨v3, v4, C, hpath, hC, hcase⟩ : ∃ v3 v4 C, S_node_Path [.int .i64 l] H' (.tup [v3, v4]) C ∧ H' <+: C ∧
      (((l < 0 ∨ 64 ≤ l) ∧ v3 = .nils ∧ v4 = .int .i64 3) ∨ (0 ≤ l ∧ l < 64 ∧ v3 = .slice ⟨H'.length, 0, 0⟩ 6 (.op 1) ∧ v4 = .int .i64 0 ∧ View C v3 1 6 (ints (path l.toNat)))) := by
    by_cases hl : l < 0 ∨ 64 ≤ l
    · exact ⟨_, _, H', ⟨l, rfl, .inl ⟨hl, rfl, rfl⟩⟩, List.prefix_refl _, .inl ⟨hl, rfl, rfl⟩⟩
    · exact ⟨_, _, _, ⟨l, rfl, .inr ⟨by omega, by omega, rfl, rfl⟩⟩, pre_app _ _, .inr ⟨by omega, by omega, rfl, rfl, view_op (l := ints (path l.toNat)) (by simp)⟩⟩
  refine cb_i _ _ hpath ?_
  repeat with_reducible first
  | refine isB_T ?_
  | refine isB_F ?_
  | (refine isB_ct ?_ ?_; (· first | omega | rfl | assumption))
  | (refine isB_cf ?_ ?_; (· first | omega | assumption))
  | refine onE_i ?_
  | (refine onE_s ?_ ?_; (· decide))
  | refine vb_i e_ext0 ?_
  | refine vb_i e_ext1 ?_
  | refine vb_i e_ext2 ?_
  | refine vb_i (lss64 _ _ _) ?_
  | refine vb_i (leq64 _ _ _) ?_
  | refine vb_i (gtr64 _ _ _) ?_
  | refine vb_i (geq64 _ _ _) ?_
  | refine vb_i (eql64 _ _ _) ?_
  | refine vb_i (neq64 _ _ _) ?_
  | refine vb_i (eqls _ _) ?_
  | refine vb_i (neqs _ _) ?_
  | (refine vb_i (add64 ?_ ?_) ?_; (· omega); (· omega))
  | (refine vb_i (sub64 ?_ ?_) ?_; (· omega); (· omega))
  | (refine vb_i (mul64 ?_ ?_) ?_; (· omega); (· omega))
  | (refine vb_i (quo64 ?_ ?_ ?_) ?_; (· omega); (· omega); (· omega))
  | (refine vb_i (rem64 ?_ ?_) ?_; (· omega); (· omega))
  | refine vb_i (e_lenSt _) ?_
  | refine vb_i (e_lenSl _ _ _) ?_
  | refine vb_i e_lenNil ?_
  | refine vb_i (lenSl_view (by assumption)) ?_
  | refine vb_i (e_ptrNil _ _) ?_
  | refine vb_i (e_ptrNilN _ _) ?_
  | refine vb_i (e_nilNil _) ?_
  | refine vb_i (e_nilNilN _) ?_
  | refine vb_i (e_pickT _ _) ?_
  | refine vb_i (e_pickF _ _) ?_
  | refine vb_i e_notd ?_
  | refine vb_i e_boolNe ?_
  | refine vb_i e_boolEq ?_
  | refine vb_i (e_not _) ?_
  | refine vb_i (e_nilCheck _) ?_
  | refine vb_i (e_fieldAddr _ _) ?_
  | refine hb_i (e_alloc _ _) ?_
  | (refine vb_i (adds ?_) ?_; (· first | omega | (simp only [List.length_cons, List.length_nil, List.length_append]; omega)))
  refine cb_i _ _ ⟨l, n, rfl, rfl, rfl⟩ ?_
  obtain ⟨v7, v8, hside⟩ : ∃ v7 v8 : Int, sideR l n = [.int .i64 v7, .int .i64 v8] := by
    unfold sideR
    split
    · exact ⟨_, _, rfl⟩
    · split <;> exact ⟨_, _, rfl⟩
  rw [hside]
  repeat with_reducible first
  | refine isB_T ?_
  | refine isB_F ?_
  | (refine isB_ct ?_ ?_; (· first | omega | rfl | assumption))
  | (refine isB_cf ?_ ?_; (· first | omega | assumption))
  | refine onE_i ?_
  | (refine onE_s ?_ ?_; (· decide))
  | refine vb_i e_ext0 ?_
  | refine vb_i e_ext1 ?_
  | refine vb_i e_ext2 ?_
  | refine vb_i (lss64 _ _ _) ?_
  | refine vb_i (leq64 _ _ _) ?_
  | refine vb_i (gtr64 _ _ _) ?_
  | refine vb_i (geq64 _ _ _) ?_
  | refine vb_i (eql64 _ _ _) ?_
  | refine vb_i (neq64 _ _ _) ?_
  | refine vb_i (eqls _ _) ?_
  | refine vb_i (neqs _ _) ?_
  | (refine vb_i (add64 ?_ ?_) ?_; (· omega); (· omega))
  | (refine vb_i (sub64 ?_ ?_) ?_; (· omega); (· omega))
  | (refine vb_i (mul64 ?_ ?_) ?_; (· omega); (· omega))
  | (refine vb_i (quo64 ?_ ?_ ?_) ?_; (· omega); (· omega); (· omega))
  | (refine vb_i (rem64 ?_ ?_) ?_; (· omega); (· omega))
  | refine vb_i (e_lenSt _) ?_
  | refine vb_i (e_lenSl _ _ _) ?_
  | refine vb_i e_lenNil ?_
  | refine vb_i (lenSl_view (by assumption)) ?_
  | refine vb_i (e_ptrNil _ _) ?_
  | refine vb_i (e_ptrNilN _ _) ?_
  | refine vb_i (e_nilNil _) ?_
  | refine vb_i (e_nilNilN _) ?_
  | refine vb_i (e_pickT _ _) ?_
  | refine vb_i (e_pickF _ _) ?_
  | refine vb_i e_notd ?_
  | refine vb_i e_boolNe ?_
  | refine vb_i e_boolEq ?_
  | refine vb_i (e_not _) ?_
  | refine vb_i (e_nilCheck _) ?_
  | refine vb_i (e_fieldAddr _ _) ?_
  | refine hb_i (e_alloc _ _) ?_
  | (refine vb_i (adds ?_) ?_; (· first | omega | (simp only [List.length_cons, List.length_nil, List.length_append]; omega)))
  refine cb_i _ _ ⟨n, s, rfl, rfl, rfl⟩ ?_
  obtain ⟨a, b, e, hbel, hbc⟩ := below_ok n s
  rw [hbel]
  repeat with_reducible first
  | refine isB_T ?_
  | refine isB_F ?_
  | (refine isB_ct ?_ ?_; (· first | omega | rfl | assumption))
  | (refine isB_cf ?_ ?_; (· first | omega | assumption))
  | refine onE_i ?_
  | (refine onE_s ?_ ?_; (· decide))
  | refine vb_i e_ext0 ?_
  | refine vb_i e_ext1 ?_
  | refine vb_i e_ext2 ?_
  | refine vb_i (lss64 _ _ _) ?_
  | refine vb_i (leq64 _ _ _) ?_
  | refine vb_i (gtr64 _ _ _) ?_
  | refine vb_i (geq64 _ _ _) ?_
  | refine vb_i (eql64 _ _ _) ?_
  | refine vb_i (neq64 _ _ _) ?_
  | refine vb_i (eqls _ _) ?_
  | refine vb_i (neqs _ _) ?_
  | (refine vb_i (add64 ?_ ?_) ?_; (· omega); (· omega))
  | (refine vb_i (sub64 ?_ ?_) ?_; (· omega); (· omega))
  | (refine vb_i (mul64 ?_ ?_) ?_; (· omega); (· omega))
  | (refine vb_i (quo64 ?_ ?_ ?_) ?_; (· omega); (· omega); (· omega))
  | (refine vb_i (rem64 ?_ ?_) ?_; (· omega); (· omega))
  | refine vb_i (e_lenSt _) ?_
  | refine vb_i (e_lenSl _ _ _) ?_
  | refine vb_i e_lenNil ?_
  | refine vb_i (lenSl_view (by assumption)) ?_
  | refine vb_i (e_ptrNil _ _) ?_
  | refine vb_i (e_ptrNilN _ _) ?_
  | refine vb_i (e_nilNil _) ?_
  | refine vb_i (e_nilNilN _) ?_
  | refine vb_i (e_pickT _ _) ?_
  | refine vb_i (e_pickF _ _) ?_
  | refine vb_i e_notd ?_
  | refine vb_i e_boolNe ?_
  | refine vb_i e_boolEq ?_
  | refine vb_i (e_not _) ?_
  | refine vb_i (e_nilCheck _) ?_
  | refine vb_i (e_fieldAddr _ _) ?_
  | refine hb_i (e_alloc _ _) ?_
  | (refine vb_i (adds ?_) ?_; (· first | omega | (simp only [List.length_cons, List.length_nil, List.length_append]; omega)))
  refine JoinP.mk (fun e' vs B => B = C ∧ e' = .normal ∧ vs = [.bool (decide (¬ (n < 0 ∨ 63 ≤ n ∨ s < 0 ∨ 1 < s)))]) ?_ ?_
  · repeat with_reducible first
    | refine isB_T ?_
    | refine isB_F ?_
    | (refine isB_ct ?_ ?_; (· first | omega | rfl | assumption))
    | (refine isB_cf ?_ ?_; (· first | omega | assumption))
    | refine onE_i ?_
    | (refine onE_s ?_ ?_; (· decide))
    | refine vb_i e_ext0 ?_
    | refine vb_i e_ext1 ?_
    | refine vb_i e_ext2 ?_
    | refine vb_i (lss64 _ _ _) ?_
    | refine vb_i (leq64 _ _ _) ?_
    | refine vb_i (gtr64 _ _ _) ?_
    | refine vb_i (geq64 _ _ _) ?_
    | refine vb_i (eql64 _ _ _) ?_
    | refine vb_i (neq64 _ _ _) ?_
    | refine vb_i (eqls _ _) ?_
    | refine vb_i (neqs _ _) ?_
    | (refine vb_i (add64 ?_ ?_) ?_; (· omega); (· omega))
    | (refine vb_i (sub64 ?_ ?_) ?_; (· omega); (· omega))
    | (refine vb_i (mul64 ?_ ?_) ?_; (· omega); (· omega))
    | (refine vb_i (quo64 ?_ ?_ ?_) ?_; (· omega); (· omega); (· omega))
    | (refine vb_i (rem64 ?_ ?_) ?_; (· omega); (· omega))
    | refine vb_i (e_lenSt _) ?_
    | refine vb_i (e_lenSl _ _ _) ?_
    | refine vb_i e_lenNil ?_
    | refine vb_i (lenSl_view (by assumption)) ?_
    | refine vb_i (e_ptrNil _ _) ?_
    | refine vb_i (e_ptrNilN _ _) ?_
    | refine vb_i (e_nilNil _) ?_
    | refine vb_i (e_nilNilN _) ?_
    | refine vb_i (e_pickT _ _) ?_
    | refine vb_i (e_pickF _ _) ?_
    | refine vb_i e_notd ?_
    | refine vb_i e_boolNe ?_
    | refine vb_i e_boolEq ?_
    | refine vb_i (e_not _) ?_
    | refine vb_i (e_nilCheck _) ?_
    | refine vb_i (e_fieldAddr _ _) ?_
    | refine hb_i (e_alloc _ _) ?_
    | (refine vb_i (adds ?_) ?_; (· first | omega | (simp only [List.length_cons, List.length_nil, List.length_append]; omega)))
    refine isB_c (fun h1 => ?_) (fun h1 => ?_)
    · repeat with_reducible first
      | refine isB_T ?_
      | refine isB_F ?_
      | (refine isB_ct ?_ ?_; (· first | omega | rfl | assumption))
      | (refine isB_cf ?_ ?_; (· first | omega | assumption))
      | refine onE_i ?_
      | (refine onE_s ?_ ?_; (· decide))
      | refine vb_i e_ext0 ?_
      | refine vb_i e_ext1 ?_
      | refine vb_i e_ext2 ?_
      | refine vb_i (lss64 _ _ _) ?_
      | refine vb_i (leq64 _ _ _) ?_
      | refine vb_i (gtr64 _ _ _) ?_
      | refine vb_i (geq64 _ _ _) ?_
      | refine vb_i (eql64 _ _ _) ?_
      | refine vb_i (neq64 _ _ _) ?_
      | refine vb_i (eqls _ _) ?_
      | refine vb_i (neqs _ _) ?_
      | (refine vb_i (add64 ?_ ?_) ?_; (· omega); (· omega))
      | (refine vb_i (sub64 ?_ ?_) ?_; (· omega); (· omega))
      | (refine vb_i (mul64 ?_ ?_) ?_; (· omega); (· omega))
      | (refine vb_i (quo64 ?_ ?_ ?_) ?_; (· omega); (· omega); (· omega))
      | (refine vb_i (rem64 ?_ ?_) ?_; (· omega); (· omega))
      | refine vb_i (e_lenSt _) ?_
      | refine vb_i (e_lenSl _ _ _) ?_
      | refine vb_i e_lenNil ?_
      | refine vb_i (lenSl_view (by assumption)) ?_
      | refine vb_i (e_ptrNil _ _) ?_
      | refine vb_i (e_ptrNilN _ _) ?_
      | refine vb_i (e_nilNil _) ?_
      | refine vb_i (e_nilNilN _) ?_
      | refine vb_i (e_pickT _ _) ?_
      | refine vb_i (e_pickF _ _) ?_
      | refine vb_i e_notd ?_
      | refine vb_i e_boolNe ?_
      | refine vb_i e_boolEq ?_
      | refine vb_i (e_not _) ?_
      | refine vb_i (e_nilCheck _) ?_
      | refine vb_i (e_fieldAddr _ _) ?_
      | refine hb_i (e_alloc _ _) ?_
      | (refine vb_i (adds ?_) ?_; (· first | omega | (simp only [List.length_cons, List.length_nil, List.length_append]; omega)))
      refine isB_c (fun h2 => ?_) (fun h2 => ?_)
      · repeat with_reducible first
        | refine isB_T ?_
        | refine isB_F ?_
        | (refine isB_ct ?_ ?_; (· first | omega | rfl | assumption))
        | (refine isB_cf ?_ ?_; (· first | omega | assumption))
        | refine onE_i ?_
        | (refine onE_s ?_ ?_; (· decide))
        | refine vb_i e_ext0 ?_
        | refine vb_i e_ext1 ?_
        | refine vb_i e_ext2 ?_
        | refine vb_i (lss64 _ _ _) ?_
        | refine vb_i (leq64 _ _ _) ?_
        | refine vb_i (gtr64 _ _ _) ?_
        | refine vb_i (geq64 _ _ _) ?_
        | refine vb_i (eql64 _ _ _) ?_
        | refine vb_i (neq64 _ _ _) ?_
        | refine vb_i (eqls _ _) ?_
        | refine vb_i (neqs _ _) ?_
        | (refine vb_i (add64 ?_ ?_) ?_; (· omega); (· omega))
        | (refine vb_i (sub64 ?_ ?_) ?_; (· omega); (· omega))
        | (refine vb_i (mul64 ?_ ?_) ?_; (· omega); (· omega))
        | (refine vb_i (quo64 ?_ ?_ ?_) ?_; (· omega); (· omega); (· omega))
        | (refine vb_i (rem64 ?_ ?_) ?_; (· omega); (· omega))
        | refine vb_i (e_lenSt _) ?_
        | refine vb_i (e_lenSl _ _ _) ?_
        | refine vb_i e_lenNil ?_
        | refine vb_i (lenSl_view (by assumption)) ?_
        | refine vb_i (e_ptrNil _ _) ?_
        | refine vb_i (e_ptrNilN _ _) ?_
        | refine vb_i (e_nilNil _) ?_
        | refine vb_i (e_nilNilN _) ?_
        | refine vb_i (e_pickT _ _) ?_
        | refine vb_i (e_pickF _ _) ?_
        | refine vb_i e_notd ?_
        | refine vb_i e_boolNe ?_
        | refine vb_i e_boolEq ?_
        | refine vb_i (e_not _) ?_
        | refine vb_i (e_nilCheck _) ?_
        | refine vb_i (e_fieldAddr _ _) ?_
        | refine hb_i (e_alloc _ _) ?_
        | (refine vb_i (adds ?_) ?_; (· first | omega | (simp only [List.length_cons, List.length_nil, List.length_append]; omega)))
        refine isB_c (fun h3 => ?_) (fun h3 => ?_)
        · exact ⟨rfl, rfl, by rw [decide_eq_true (by omega)]⟩
        · repeat with_reducible first
          | refine isB_T ?_
          | refine isB_F ?_
          | (refine isB_ct ?_ ?_; (· first | omega | rfl | assumption))
          | (refine isB_cf ?_ ?_; (· first | omega | assumption))
          | refine onE_i ?_
          | (refine onE_s ?_ ?_; (· decide))
          | refine vb_i e_ext0 ?_
          | refine vb_i e_ext1 ?_
          | refine vb_i e_ext2 ?_
          | refine vb_i (lss64 _ _ _) ?_
          | refine vb_i (leq64 _ _ _) ?_
          | refine vb_i (gtr64 _ _ _) ?_
          | refine vb_i (geq64 _ _ _) ?_
          | refine vb_i (eql64 _ _ _) ?_
          | refine vb_i (neq64 _ _ _) ?_
          | refine vb_i (eqls _ _) ?_
          | refine vb_i (neqs _ _) ?_
          | (refine vb_i (add64 ?_ ?_) ?_; (· omega); (· omega))
          | (refine vb_i (sub64 ?_ ?_) ?_; (· omega); (· omega))
          | (refine vb_i (mul64 ?_ ?_) ?_; (· omega); (· omega))
          | (refine vb_i (quo64 ?_ ?_ ?_) ?_; (· omega); (· omega); (· omega))
          | (refine vb_i (rem64 ?_ ?_) ?_; (· omega); (· omega))
          | refine vb_i (e_lenSt _) ?_
          | refine vb_i (e_lenSl _ _ _) ?_
          | refine vb_i e_lenNil ?_
          | refine vb_i (lenSl_view (by assumption)) ?_
          | refine vb_i (e_ptrNil _ _) ?_
          | refine vb_i (e_ptrNilN _ _) ?_
          | refine vb_i (e_nilNil _) ?_
          | refine vb_i (e_nilNilN _) ?_
          | refine vb_i (e_pickT _ _) ?_
          | refine vb_i (e_pickF _ _) ?_
          | refine vb_i e_notd ?_
          | refine vb_i e_boolNe ?_
          | refine vb_i e_boolEq ?_
          | refine vb_i (e_not _) ?_
          | refine vb_i (e_nilCheck _) ?_
          | refine vb_i (e_fieldAddr _ _) ?_
          | refine hb_i (e_alloc _ _) ?_
          | (refine vb_i (adds ?_) ?_; (· first | omega | (simp only [List.length_cons, List.length_nil, List.length_append]; omega)))
          exact ⟨rfl, rfl, by congr 2; apply decide_eq_decide.2; omega⟩
      · exact ⟨rfl, rfl, by rw [decide_eq_false (by omega)]⟩
    · exact ⟨rfl, rfl, by rw [decide_eq_false (by omega)]⟩
  · rintro _ _ B ⟨rfl, rfl, rfl⟩
    repeat with_reducible first
    | refine isB_T ?_
    | refine isB_F ?_
    | (refine isB_ct ?_ ?_; (· first | omega | rfl | assumption))
    | (refine isB_cf ?_ ?_; (· first | omega | assumption))
    | refine onE_i ?_
    | (refine onE_s ?_ ?_; (· decide))
    | refine vb_i e_ext0 ?_
    | refine vb_i e_ext1 ?_
    | refine vb_i e_ext2 ?_
    | refine vb_i (lss64 _ _ _) ?_
    | refine vb_i (leq64 _ _ _) ?_
    | refine vb_i (gtr64 _ _ _) ?_
    | refine vb_i (geq64 _ _ _) ?_
    | refine vb_i (eql64 _ _ _) ?_
    | refine vb_i (neq64 _ _ _) ?_
    | refine vb_i (eqls _ _) ?_
    | refine vb_i (neqs _ _) ?_
    | (refine vb_i (add64 ?_ ?_) ?_; (· omega); (· omega))
    | (refine vb_i (sub64 ?_ ?_) ?_; (· omega); (· omega))
    | (refine vb_i (mul64 ?_ ?_) ?_; (· omega); (· omega))
    | (refine vb_i (quo64 ?_ ?_ ?_) ?_; (· omega); (· omega); (· omega))
    | (refine vb_i (rem64 ?_ ?_) ?_; (· omega); (· omega))
    | refine vb_i (e_lenSt _) ?_
    | refine vb_i (e_lenSl _ _ _) ?_
    | refine vb_i e_lenNil ?_
    | refine vb_i (lenSl_view (by assumption)) ?_
    | refine vb_i (e_ptrNil _ _) ?_
    | refine vb_i (e_ptrNilN _ _) ?_
    | refine vb_i (e_nilNil _) ?_
    | refine vb_i (e_nilNilN _) ?_
    | refine vb_i (e_pickT _ _) ?_
    | refine vb_i (e_pickF _ _) ?_
    | refine vb_i e_notd ?_
    | refine vb_i e_boolNe ?_
    | refine vb_i e_boolEq ?_
    | refine vb_i (e_not _) ?_
    | refine vb_i (e_nilCheck _) ?_
    | refine vb_i (e_fieldAddr _ _) ?_
    | refine hb_i (e_alloc _ _) ?_
    | (refine vb_i (adds ?_) ?_; (· first | omega | (simp only [List.length_cons, List.length_nil, List.length_append]; omega)))
    refine JoinP.mk (fun e' vs B' => B' = B ∧ e' = .normal) ?_ ?_
    · simp only [evB]
      rcases hbc with ⟨h1, rfl, rfl, rfl⟩ | ⟨h1, h2, rfl, rfl, rfl⟩ | ⟨h1, h2, rfl, rfl, rfl⟩
      · repeat with_reducible first
        | refine isB_T ?_
        | refine isB_F ?_
        | (refine isB_ct ?_ ?_; (· first | omega | rfl | assumption))
        | (refine isB_cf ?_ ?_; (· first | omega | assumption))
        | refine onE_i ?_
        | (refine onE_s ?_ ?_; (· decide))
        | refine vb_i e_ext0 ?_
        | refine vb_i e_ext1 ?_
        | refine vb_i e_ext2 ?_
        | refine vb_i (lss64 _ _ _) ?_
        | refine vb_i (leq64 _ _ _) ?_
        | refine vb_i (gtr64 _ _ _) ?_
        | refine vb_i (geq64 _ _ _) ?_
        | refine vb_i (eql64 _ _ _) ?_
        | refine vb_i (neq64 _ _ _) ?_
        | refine vb_i (eqls _ _) ?_
        | refine vb_i (neqs _ _) ?_
        | (refine vb_i (add64 ?_ ?_) ?_; (· omega); (· omega))
        | (refine vb_i (sub64 ?_ ?_) ?_; (· omega); (· omega))
        | (refine vb_i (mul64 ?_ ?_) ?_; (· omega); (· omega))
        | (refine vb_i (quo64 ?_ ?_ ?_) ?_; (· omega); (· omega); (· omega))
        | (refine vb_i (rem64 ?_ ?_) ?_; (· omega); (· omega))
        | refine vb_i (e_lenSt _) ?_
        | refine vb_i (e_lenSl _ _ _) ?_
        | refine vb_i e_lenNil ?_
        | refine vb_i (lenSl_view (by assumption)) ?_
        | refine vb_i (e_ptrNil _ _) ?_
        | refine vb_i (e_ptrNilN _ _) ?_
        | refine vb_i (e_nilNil _) ?_
        | refine vb_i (e_nilNilN _) ?_
        | refine vb_i (e_pickT _ _) ?_
        | refine vb_i (e_pickF _ _) ?_
        | refine vb_i e_notd ?_
        | refine vb_i e_boolNe ?_
        | refine vb_i e_boolEq ?_
        | refine vb_i (e_not _) ?_
        | refine vb_i (e_nilCheck _) ?_
        | refine vb_i (e_fieldAddr _ _) ?_
        | refine hb_i (e_alloc _ _) ?_
        | (refine vb_i (adds ?_) ?_; (· first | omega | (simp only [List.length_cons, List.length_nil, List.length_append]; omega)))
        exact ⟨by trivial, by trivial⟩
      · repeat with_reducible first
        | refine isB_T ?_
        | refine isB_F ?_
        | (refine isB_ct ?_ ?_; (· first | omega | rfl | assumption))
        | (refine isB_cf ?_ ?_; (· first | omega | assumption))
        | refine onE_i ?_
        | (refine onE_s ?_ ?_; (· decide))
        | refine vb_i e_ext0 ?_
        | refine vb_i e_ext1 ?_
        | refine vb_i e_ext2 ?_
        | refine vb_i (lss64 _ _ _) ?_
        | refine vb_i (leq64 _ _ _) ?_
        | refine vb_i (gtr64 _ _ _) ?_
        | refine vb_i (geq64 _ _ _) ?_
        | refine vb_i (eql64 _ _ _) ?_
        | refine vb_i (neq64 _ _ _) ?_
        | refine vb_i (eqls _ _) ?_
        | refine vb_i (neqs _ _) ?_
        | (refine vb_i (add64 ?_ ?_) ?_; (· omega); (· omega))
        | (refine vb_i (sub64 ?_ ?_) ?_; (· omega); (· omega))
        | (refine vb_i (mul64 ?_ ?_) ?_; (· omega); (· omega))
        | (refine vb_i (quo64 ?_ ?_ ?_) ?_; (· omega); (· omega); (· omega))
        | (refine vb_i (rem64 ?_ ?_) ?_; (· omega); (· omega))
        | refine vb_i (e_lenSt _) ?_
        | refine vb_i (e_lenSl _ _ _) ?_
        | refine vb_i e_lenNil ?_
        | refine vb_i (lenSl_view (by assumption)) ?_
        | refine vb_i (e_ptrNil _ _) ?_
        | refine vb_i (e_ptrNilN _ _) ?_
        | refine vb_i (e_nilNil _) ?_
        | refine vb_i (e_nilNilN _) ?_
        | refine vb_i (e_pickT _ _) ?_
        | refine vb_i (e_pickF _ _) ?_
        | refine vb_i e_notd ?_
        | refine vb_i e_boolNe ?_
        | refine vb_i e_boolEq ?_
        | refine vb_i (e_not _) ?_
        | refine vb_i (e_nilCheck _) ?_
        | refine vb_i (e_fieldAddr _ _) ?_
        | refine hb_i (e_alloc _ _) ?_
        | (refine vb_i (adds ?_) ?_; (· first | omega | (simp only [List.length_cons, List.length_nil, List.length_append]; omega)))
        exact ⟨by trivial, by trivial⟩
      · repeat with_reducible first
        | refine isB_T ?_
        | refine isB_F ?_
        | (refine isB_ct ?_ ?_; (· first | omega | rfl | assumption))
        | (refine isB_cf ?_ ?_; (· first | omega | assumption))
        | refine onE_i ?_
        | (refine onE_s ?_ ?_; (· decide))
        | refine vb_i e_ext0 ?_
        | refine vb_i e_ext1 ?_
        | refine vb_i e_ext2 ?_
        | refine vb_i (lss64 _ _ _) ?_
        | refine vb_i (leq64 _ _ _) ?_
        | refine vb_i (gtr64 _ _ _) ?_
        | refine vb_i (geq64 _ _ _) ?_
        | refine vb_i (eql64 _ _ _) ?_
        | refine vb_i (neq64 _ _ _) ?_
        | refine vb_i (eqls _ _) ?_
        | refine vb_i (neqs _ _) ?_
        | (refine vb_i (add64 ?_ ?_) ?_; (· omega); (· omega))
        | (refine vb_i (sub64 ?_ ?_) ?_; (· omega); (· omega))
        | (refine vb_i (mul64 ?_ ?_) ?_; (· omega); (· omega))
        | (refine vb_i (quo64 ?_ ?_ ?_) ?_; (· omega); (· omega); (· omega))
        | (refine vb_i (rem64 ?_ ?_) ?_; (· omega); (· omega))
        | refine vb_i (e_lenSt _) ?_
        | refine vb_i (e_lenSl _ _ _) ?_
        | refine vb_i e_lenNil ?_
        | refine vb_i (lenSl_view (by assumption)) ?_
        | refine vb_i (e_ptrNil _ _) ?_
        | refine vb_i (e_ptrNilN _ _) ?_
        | refine vb_i (e_nilNil _) ?_
        | refine vb_i (e_nilNilN _) ?_
        | refine vb_i (e_pickT _ _) ?_
        | refine vb_i (e_pickF _ _) ?_
        | refine vb_i e_notd ?_
        | refine vb_i e_boolNe ?_
        | refine vb_i e_boolEq ?_
        | refine vb_i (e_not _) ?_
        | refine vb_i (e_nilCheck _) ?_
        | refine vb_i (e_fieldAddr _ _) ?_
        | refine hb_i (e_alloc _ _) ?_
        | (refine vb_i (adds ?_) ?_; (· first | omega | (simp only [List.length_cons, List.length_nil, List.length_append]; omega)))
        exact ⟨by trivial, by trivial⟩
    · rintro _ vs40 B' ⟨rfl, rfl⟩
      repeat with_reducible first
      | refine isB_T ?_
      | refine isB_F ?_
      | (refine isB_ct ?_ ?_; (· first | omega | rfl | assumption))
      | (refine isB_cf ?_ ?_; (· first | omega | assumption))
      | refine onE_i ?_
      | (refine onE_s ?_ ?_; (· decide))
      | refine vb_i e_ext0 ?_
      | refine vb_i e_ext1 ?_
      | refine vb_i e_ext2 ?_
      | refine vb_i (lss64 _ _ _) ?_
      | refine vb_i (leq64 _ _ _) ?_
      | refine vb_i (gtr64 _ _ _) ?_
      | refine vb_i (geq64 _ _ _) ?_
      | refine vb_i (eql64 _ _ _) ?_
      | refine vb_i (neq64 _ _ _) ?_
      | refine vb_i (eqls _ _) ?_
      | refine vb_i (neqs _ _) ?_
      | (refine vb_i (add64 ?_ ?_) ?_; (· omega); (· omega))
      | (refine vb_i (sub64 ?_ ?_) ?_; (· omega); (· omega))
      | (refine vb_i (mul64 ?_ ?_) ?_; (· omega); (· omega))
      | (refine vb_i (quo64 ?_ ?_ ?_) ?_; (· omega); (· omega); (· omega))
      | (refine vb_i (rem64 ?_ ?_) ?_; (· omega); (· omega))
      | refine vb_i (e_lenSt _) ?_
      | refine vb_i (e_lenSl _ _ _) ?_
      | refine vb_i e_lenNil ?_
      | refine vb_i (lenSl_view (by assumption)) ?_
      | refine vb_i (e_ptrNil _ _) ?_
      | refine vb_i (e_ptrNilN _ _) ?_
      | refine vb_i (e_nilNil _) ?_
      | refine vb_i (e_nilNilN _) ?_
      | refine vb_i (e_pickT _ _) ?_
      | refine vb_i (e_pickF _ _) ?_
      | refine vb_i e_notd ?_
      | refine vb_i e_boolNe ?_
      | refine vb_i e_boolEq ?_
      | refine vb_i (e_not _) ?_
      | refine vb_i (e_nilCheck _) ?_
      | refine vb_i (e_fieldAddr _ _) ?_
      | refine hb_i (e_alloc _ _) ?_
      | (refine vb_i (adds ?_) ?_; (· first | omega | (simp only [List.length_cons, List.length_nil, List.length_append]; omega)))
      refine JoinP.mk (fun e' vs B => B = B' ∧ e' = .normal) ?_ ?_
      · simp only [evB]
        rcases hbc with ⟨h1, rfl, rfl, rfl⟩ | ⟨h1, h2, rfl, rfl, rfl⟩ | ⟨h1, h2, rfl, rfl, rfl⟩
        · repeat with_reducible first
          | refine isB_T ?_
          | refine isB_F ?_
          | (refine isB_ct ?_ ?_; (· first | omega | rfl | assumption))
          | (refine isB_cf ?_ ?_; (· first | omega | assumption))
          | refine onE_i ?_
          | (refine onE_s ?_ ?_; (· decide))
          | refine vb_i e_ext0 ?_
          | refine vb_i e_ext1 ?_
          | refine vb_i e_ext2 ?_
          | refine vb_i (lss64 _ _ _) ?_
          | refine vb_i (leq64 _ _ _) ?_
          | refine vb_i (gtr64 _ _ _) ?_
          | refine vb_i (geq64 _ _ _) ?_
          | refine vb_i (eql64 _ _ _) ?_
          | refine vb_i (neq64 _ _ _) ?_
          | refine vb_i (eqls _ _) ?_
          | refine vb_i (neqs _ _) ?_
          | (refine vb_i (add64 ?_ ?_) ?_; (· omega); (· omega))
          | (refine vb_i (sub64 ?_ ?_) ?_; (· omega); (· omega))
          | (refine vb_i (mul64 ?_ ?_) ?_; (· omega); (· omega))
          | (refine vb_i (quo64 ?_ ?_ ?_) ?_; (· omega); (· omega); (· omega))
          | (refine vb_i (rem64 ?_ ?_) ?_; (· omega); (· omega))
          | refine vb_i (e_lenSt _) ?_
          | refine vb_i (e_lenSl _ _ _) ?_
          | refine vb_i e_lenNil ?_
          | refine vb_i (lenSl_view (by assumption)) ?_
          | refine vb_i (e_ptrNil _ _) ?_
          | refine vb_i (e_ptrNilN _ _) ?_
          | refine vb_i (e_nilNil _) ?_
          | refine vb_i (e_nilNilN _) ?_
          | refine vb_i (e_pickT _ _) ?_
          | refine vb_i (e_pickF _ _) ?_
          | refine vb_i e_notd ?_
          | refine vb_i e_boolNe ?_
          | refine vb_i e_boolEq ?_
          | refine vb_i (e_not _) ?_
          | refine vb_i (e_nilCheck _) ?_
          | refine vb_i (e_fieldAddr _ _) ?_
          | refine hb_i (e_alloc _ _) ?_
          | (refine vb_i (adds ?_) ?_; (· first | omega | (simp only [List.length_cons, List.length_nil, List.length_append]; omega)))
          exact ⟨by trivial, by trivial⟩
        · repeat with_reducible first
          | refine isB_T ?_
          | refine isB_F ?_
          | (refine isB_ct ?_ ?_; (· first | omega | rfl | assumption))
          | (refine isB_cf ?_ ?_; (· first | omega | assumption))
          | refine onE_i ?_
          | (refine onE_s ?_ ?_; (· decide))
          | refine vb_i e_ext0 ?_
          | refine vb_i e_ext1 ?_
          | refine vb_i e_ext2 ?_
          | refine vb_i (lss64 _ _ _) ?_
          | refine vb_i (leq64 _ _ _) ?_
          | refine vb_i (gtr64 _ _ _) ?_
          | refine vb_i (geq64 _ _ _) ?_
          | refine vb_i (eql64 _ _ _) ?_
          | refine vb_i (neq64 _ _ _) ?_
          | refine vb_i (eqls _ _) ?_
          | refine vb_i (neqs _ _) ?_
          | (refine vb_i (add64 ?_ ?_) ?_; (· omega); (· omega))
          | (refine vb_i (sub64 ?_ ?_) ?_; (· omega); (· omega))
          | (refine vb_i (mul64 ?_ ?_) ?_; (· omega); (· omega))
          | (refine vb_i (quo64 ?_ ?_ ?_) ?_; (· omega); (· omega); (· omega))
          | (refine vb_i (rem64 ?_ ?_) ?_; (· omega); (· omega))
          | refine vb_i (e_lenSt _) ?_
          | refine vb_i (e_lenSl _ _ _) ?_
          | refine vb_i e_lenNil ?_
          | refine vb_i (lenSl_view (by assumption)) ?_
          | refine vb_i (e_ptrNil _ _) ?_
          | refine vb_i (e_ptrNilN _ _) ?_
          | refine vb_i (e_nilNil _) ?_
          | refine vb_i (e_nilNilN _) ?_
          | refine vb_i (e_pickT _ _) ?_
          | refine vb_i (e_pickF _ _) ?_
          | refine vb_i e_notd ?_
          | refine vb_i e_boolNe ?_
          | refine vb_i e_boolEq ?_
          | refine vb_i (e_not _) ?_
          | refine vb_i (e_nilCheck _) ?_
          | refine vb_i (e_fieldAddr _ _) ?_
          | refine hb_i (e_alloc _ _) ?_
          | (refine vb_i (adds ?_) ?_; (· first | omega | (simp only [List.length_cons, List.length_nil, List.length_append]; omega)))
          exact ⟨by trivial, by trivial⟩
        · repeat with_reducible first
          | refine isB_T ?_
          | refine isB_F ?_
          | (refine isB_ct ?_ ?_; (· first | omega | rfl | assumption))
          | (refine isB_cf ?_ ?_; (· first | omega | assumption))
          | refine onE_i ?_
          | (refine onE_s ?_ ?_; (· decide))
          | refine vb_i e_ext0 ?_
          | refine vb_i e_ext1 ?_
          | refine vb_i e_ext2 ?_
          | refine vb_i (lss64 _ _ _) ?_
          | refine vb_i (leq64 _ _ _) ?_
          | refine vb_i (gtr64 _ _ _) ?_
          | refine vb_i (geq64 _ _ _) ?_
          | refine vb_i (eql64 _ _ _) ?_
          | refine vb_i (neq64 _ _ _) ?_
          | refine vb_i (eqls _ _) ?_
          | refine vb_i (neqs _ _) ?_
          | (refine vb_i (add64 ?_ ?_) ?_; (· omega); (· omega))
          | (refine vb_i (sub64 ?_ ?_) ?_; (· omega); (· omega))
          | (refine vb_i (mul64 ?_ ?_) ?_; (· omega); (· omega))
          | (refine vb_i (quo64 ?_ ?_ ?_) ?_; (· omega); (· omega); (· omega))
          | (refine vb_i (rem64 ?_ ?_) ?_; (· omega); (· omega))
          | refine vb_i (e_lenSt _) ?_
          | refine vb_i (e_lenSl _ _ _) ?_
          | refine vb_i e_lenNil ?_
          | refine vb_i (lenSl_view (by assumption)) ?_
          | refine vb_i (e_ptrNil _ _) ?_
          | refine vb_i (e_ptrNilN _ _) ?_
          | refine vb_i (e_nilNil _) ?_
          | refine vb_i (e_nilNilN _) ?_
          | refine vb_i (e_pickT _ _) ?_
          | refine vb_i (e_pickF _ _) ?_
          | refine vb_i e_notd ?_
          | refine vb_i e_boolNe ?_
          | refine vb_i e_boolEq ?_
          | refine vb_i (e_not _) ?_
          | refine vb_i (e_nilCheck _) ?_
          | refine vb_i (e_fieldAddr _ _) ?_
          | refine hb_i (e_alloc _ _) ?_
          | (refine vb_i (adds ?_) ?_; (· first | omega | (simp only [List.length_cons, List.length_nil, List.length_append]; omega)))
          exact ⟨by trivial, by trivial⟩
      · rintro _ vs67 B ⟨rfl, rfl⟩
        repeat with_reducible first
        | refine isB_T ?_
        | refine isB_F ?_
        | (refine isB_ct ?_ ?_; (· first | omega | rfl | assumption))
        | (refine isB_cf ?_ ?_; (· first | omega | assumption))
        | refine onE_i ?_
        | (refine onE_s ?_ ?_; (· decide))
        | refine vb_i e_ext0 ?_
        | refine vb_i e_ext1 ?_
        | refine vb_i e_ext2 ?_
        | refine vb_i (lss64 _ _ _) ?_
        | refine vb_i (leq64 _ _ _) ?_
        | refine vb_i (gtr64 _ _ _) ?_
        | refine vb_i (geq64 _ _ _) ?_
        | refine vb_i (eql64 _ _ _) ?_
        | refine vb_i (neq64 _ _ _) ?_
        | refine vb_i (eqls _ _) ?_
        | refine vb_i (neqs _ _) ?_
        | (refine vb_i (add64 ?_ ?_) ?_; (· omega); (· omega))
        | (refine vb_i (sub64 ?_ ?_) ?_; (· omega); (· omega))
        | (refine vb_i (mul64 ?_ ?_) ?_; (· omega); (· omega))
        | (refine vb_i (quo64 ?_ ?_ ?_) ?_; (· omega); (· omega); (· omega))
        | (refine vb_i (rem64 ?_ ?_) ?_; (· omega); (· omega))
        | refine vb_i (e_lenSt _) ?_
        | refine vb_i (e_lenSl _ _ _) ?_
        | refine vb_i e_lenNil ?_
        | refine vb_i (lenSl_view (by assumption)) ?_
        | refine vb_i (e_ptrNil _ _) ?_
        | refine vb_i (e_ptrNilN _ _) ?_
        | refine vb_i (e_nilNil _) ?_
        | refine vb_i (e_nilNilN _) ?_
        | refine vb_i (e_pickT _ _) ?_
        | refine vb_i (e_pickF _ _) ?_
        | refine vb_i e_notd ?_
        | refine vb_i e_boolNe ?_
        | refine vb_i e_boolEq ?_
        | refine vb_i (e_not _) ?_
        | refine vb_i (e_nilCheck _) ?_
        | refine vb_i (e_fieldAddr _ _) ?_
        | refine hb_i (e_alloc _ _) ?_
        | (refine vb_i (adds ?_) ?_; (· first | omega | (simp only [List.length_cons, List.length_nil, List.length_append]; omega)))
        rcases hcase with ⟨hl, rfl, rfl⟩ | ⟨hl1, hl2, rfl, rfl, hv⟩
        · have hs0 : v7 = 0 ∧ v8 = 3 := by
            unfold sideR at hside
            rw [if_pos hl] at hside
            simpa [eq_comm] using hside
          obtain ⟨rfl, rfl⟩ := hs0
          refine JoinP.mk (fun e' vs C => C = B ∧ e' = .ret ∧ vs = [.bool true]) ?_ ?_
          · repeat with_reducible first
            | refine isB_T ?_
            | refine isB_F ?_
            | (refine isB_ct ?_ ?_; (· first | omega | rfl | assumption))
            | (refine isB_cf ?_ ?_; (· first | omega | assumption))
            | refine onE_i ?_
            | (refine onE_s ?_ ?_; (· decide))
            | refine vb_i e_ext0 ?_
            | refine vb_i e_ext1 ?_
            | refine vb_i e_ext2 ?_
            | refine vb_i (lss64 _ _ _) ?_
            | refine vb_i (leq64 _ _ _) ?_
            | refine vb_i (gtr64 _ _ _) ?_
            | refine vb_i (geq64 _ _ _) ?_
            | refine vb_i (eql64 _ _ _) ?_
            | refine vb_i (neq64 _ _ _) ?_
            | refine vb_i (eqls _ _) ?_
            | refine vb_i (neqs _ _) ?_
            | (refine vb_i (add64 ?_ ?_) ?_; (· omega); (· omega))
            | (refine vb_i (sub64 ?_ ?_) ?_; (· omega); (· omega))
            | (refine vb_i (mul64 ?_ ?_) ?_; (· omega); (· omega))
            | (refine vb_i (quo64 ?_ ?_ ?_) ?_; (· omega); (· omega); (· omega))
            | (refine vb_i (rem64 ?_ ?_) ?_; (· omega); (· omega))
            | refine vb_i (e_lenSt _) ?_
            | refine vb_i (e_lenSl _ _ _) ?_
            | refine vb_i e_lenNil ?_
            | refine vb_i (lenSl_view (by assumption)) ?_
            | refine vb_i (e_ptrNil _ _) ?_
            | refine vb_i (e_ptrNilN _ _) ?_
            | refine vb_i (e_nilNil _) ?_
            | refine vb_i (e_nilNilN _) ?_
            | refine vb_i (e_pickT _ _) ?_
            | refine vb_i (e_pickF _ _) ?_
            | refine vb_i e_notd ?_
            | refine vb_i e_boolNe ?_
            | refine vb_i e_boolEq ?_
            | refine vb_i (e_not _) ?_
            | refine vb_i (e_nilCheck _) ?_
            | refine vb_i (e_fieldAddr _ _) ?_
            | refine hb_i (e_alloc _ _) ?_
            | (refine vb_i (adds ?_) ?_; (· first | omega | (simp only [List.length_cons, List.length_nil, List.length_append]; omega)))
            by_cases h1 : l < 0
            · repeat with_reducible first
              | refine isB_T ?_
              | refine isB_F ?_
              | (refine isB_ct ?_ ?_; (· first | omega | rfl | assumption))
              | (refine isB_cf ?_ ?_; (· first | omega | assumption))
              | refine onE_i ?_
              | (refine onE_s ?_ ?_; (· decide))
              | refine vb_i e_ext0 ?_
              | refine vb_i e_ext1 ?_
              | refine vb_i e_ext2 ?_
              | refine vb_i (lss64 _ _ _) ?_
              | refine vb_i (leq64 _ _ _) ?_
              | refine vb_i (gtr64 _ _ _) ?_
              | refine vb_i (geq64 _ _ _) ?_
              | refine vb_i (eql64 _ _ _) ?_
              | refine vb_i (neq64 _ _ _) ?_
              | refine vb_i (eqls _ _) ?_
              | refine vb_i (neqs _ _) ?_
              | (refine vb_i (add64 ?_ ?_) ?_; (· omega); (· omega))
              | (refine vb_i (sub64 ?_ ?_) ?_; (· omega); (· omega))
              | (refine vb_i (mul64 ?_ ?_) ?_; (· omega); (· omega))
              | (refine vb_i (quo64 ?_ ?_ ?_) ?_; (· omega); (· omega); (· omega))
              | (refine vb_i (rem64 ?_ ?_) ?_; (· omega); (· omega))
              | refine vb_i (e_lenSt _) ?_
              | refine vb_i (e_lenSl _ _ _) ?_
              | refine vb_i e_lenNil ?_
              | refine vb_i (lenSl_view (by assumption)) ?_
              | refine vb_i (e_ptrNil _ _) ?_
              | refine vb_i (e_ptrNilN _ _) ?_
              | refine vb_i (e_nilNil _) ?_
              | refine vb_i (e_nilNilN _) ?_
              | refine vb_i (e_pickT _ _) ?_
              | refine vb_i (e_pickF _ _) ?_
              | refine vb_i e_notd ?_
              | refine vb_i e_boolNe ?_
              | refine vb_i e_boolEq ?_
              | refine vb_i (e_not _) ?_
              | refine vb_i (e_nilCheck _) ?_
              | refine vb_i (e_fieldAddr _ _) ?_
              | refine hb_i (e_alloc _ _) ?_
              | (refine vb_i (adds ?_) ?_; (· first | omega | (simp only [List.length_cons, List.length_nil, List.length_append]; omega)))
              refine cb_i _ _ ⟨rfl, rfl, rfl⟩ ?_
              repeat with_reducible first
              | refine isB_T ?_
              | refine isB_F ?_
              | (refine isB_ct ?_ ?_; (· first | omega | rfl | assumption))
              | (refine isB_cf ?_ ?_; (· first | omega | assumption))
              | refine onE_i ?_
              | (refine onE_s ?_ ?_; (· decide))
              | refine vb_i e_ext0 ?_
              | refine vb_i e_ext1 ?_
              | refine vb_i e_ext2 ?_
              | refine vb_i (lss64 _ _ _) ?_
              | refine vb_i (leq64 _ _ _) ?_
              | refine vb_i (gtr64 _ _ _) ?_
              | refine vb_i (geq64 _ _ _) ?_
              | refine vb_i (eql64 _ _ _) ?_
              | refine vb_i (neq64 _ _ _) ?_
              | refine vb_i (eqls _ _) ?_
              | refine vb_i (neqs _ _) ?_
              | (refine vb_i (add64 ?_ ?_) ?_; (· omega); (· omega))
              | (refine vb_i (sub64 ?_ ?_) ?_; (· omega); (· omega))
              | (refine vb_i (mul64 ?_ ?_) ?_; (· omega); (· omega))
              | (refine vb_i (quo64 ?_ ?_ ?_) ?_; (· omega); (· omega); (· omega))
              | (refine vb_i (rem64 ?_ ?_) ?_; (· omega); (· omega))
              | refine vb_i (e_lenSt _) ?_
              | refine vb_i (e_lenSl _ _ _) ?_
              | refine vb_i e_lenNil ?_
              | refine vb_i (lenSl_view (by assumption)) ?_
              | refine vb_i (e_ptrNil _ _) ?_
              | refine vb_i (e_ptrNilN _ _) ?_
              | refine vb_i (e_nilNil _) ?_
              | refine vb_i (e_nilNilN _) ?_
              | refine vb_i (e_pickT _ _) ?_
              | refine vb_i (e_pickF _ _) ?_
              | refine vb_i e_notd ?_
              | refine vb_i e_boolNe ?_
              | refine vb_i e_boolEq ?_
              | refine vb_i (e_not _) ?_
              | refine vb_i (e_nilCheck _) ?_
              | refine vb_i (e_fieldAddr _ _) ?_
              | refine hb_i (e_alloc _ _) ?_
              | (refine vb_i (adds ?_) ?_; (· first | omega | (simp only [List.length_cons, List.length_nil, List.length_append]; omega)))
              exact ⟨rfl, rfl, by simp⟩
            · repeat with_reducible first
              | refine isB_T ?_
              | refine isB_F ?_
              | (refine isB_ct ?_ ?_; (· first | omega | rfl | assumption))
              | (refine isB_cf ?_ ?_; (· first | omega | assumption))
              | refine onE_i ?_
              | (refine onE_s ?_ ?_; (· decide))
              | refine vb_i e_ext0 ?_
              | refine vb_i e_ext1 ?_
              | refine vb_i e_ext2 ?_
              | refine vb_i (lss64 _ _ _) ?_
              | refine vb_i (leq64 _ _ _) ?_
              | refine vb_i (gtr64 _ _ _) ?_
              | refine vb_i (geq64 _ _ _) ?_
              | refine vb_i (eql64 _ _ _) ?_
              | refine vb_i (neq64 _ _ _) ?_
              | refine vb_i (eqls _ _) ?_
              | refine vb_i (neqs _ _) ?_
              | (refine vb_i (add64 ?_ ?_) ?_; (· omega); (· omega))
              | (refine vb_i (sub64 ?_ ?_) ?_; (· omega); (· omega))
              | (refine vb_i (mul64 ?_ ?_) ?_; (· omega); (· omega))
              | (refine vb_i (quo64 ?_ ?_ ?_) ?_; (· omega); (· omega); (· omega))
              | (refine vb_i (rem64 ?_ ?_) ?_; (· omega); (· omega))
              | refine vb_i (e_lenSt _) ?_
              | refine vb_i (e_lenSl _ _ _) ?_
              | refine vb_i e_lenNil ?_
              | refine vb_i (lenSl_view (by assumption)) ?_
              | refine vb_i (e_ptrNil _ _) ?_
              | refine vb_i (e_ptrNilN _ _) ?_
              | refine vb_i (e_nilNil _) ?_
              | refine vb_i (e_nilNilN _) ?_
              | refine vb_i (e_pickT _ _) ?_
              | refine vb_i (e_pickF _ _) ?_
              | refine vb_i e_notd ?_
              | refine vb_i e_boolNe ?_
              | refine vb_i e_boolEq ?_
              | refine vb_i (e_not _) ?_
              | refine vb_i (e_nilCheck _) ?_
              | refine vb_i (e_fieldAddr _ _) ?_
              | refine hb_i (e_alloc _ _) ?_
              | (refine vb_i (adds ?_) ?_; (· first | omega | (simp only [List.length_cons, List.length_nil, List.length_append]; omega)))
              refine cb_i _ _ ⟨rfl, rfl, rfl⟩ ?_
              repeat with_reducible first
              | refine isB_T ?_
              | refine isB_F ?_
              | (refine isB_ct ?_ ?_; (· first | omega | rfl | assumption))
              | (refine isB_cf ?_ ?_; (· first | omega | assumption))
              | refine onE_i ?_
              | (refine onE_s ?_ ?_; (· decide))
              | refine vb_i e_ext0 ?_
              | refine vb_i e_ext1 ?_
              | refine vb_i e_ext2 ?_
              | refine vb_i (lss64 _ _ _) ?_
              | refine vb_i (leq64 _ _ _) ?_
              | refine vb_i (gtr64 _ _ _) ?_
              | refine vb_i (geq64 _ _ _) ?_
              | refine vb_i (eql64 _ _ _) ?_
              | refine vb_i (neq64 _ _ _) ?_
              | refine vb_i (eqls _ _) ?_
              | refine vb_i (neqs _ _) ?_
              | (refine vb_i (add64 ?_ ?_) ?_; (· omega); (· omega))
              | (refine vb_i (sub64 ?_ ?_) ?_; (· omega); (· omega))
              | (refine vb_i (mul64 ?_ ?_) ?_; (· omega); (· omega))
              | (refine vb_i (quo64 ?_ ?_ ?_) ?_; (· omega); (· omega); (· omega))
              | (refine vb_i (rem64 ?_ ?_) ?_; (· omega); (· omega))
              | refine vb_i (e_lenSt _) ?_
              | refine vb_i (e_lenSl _ _ _) ?_
              | refine vb_i e_lenNil ?_
              | refine vb_i (lenSl_view (by assumption)) ?_
              | refine vb_i (e_ptrNil _ _) ?_
              | refine vb_i (e_ptrNilN _ _) ?_
              | refine vb_i (e_nilNil _) ?_
              | refine vb_i (e_nilNilN _) ?_
              | refine vb_i (e_pickT _ _) ?_
              | refine vb_i (e_pickF _ _) ?_
              | refine vb_i e_notd ?_
              | refine vb_i e_boolNe ?_
              | refine vb_i e_boolEq ?_
              | refine vb_i (e_not _) ?_
              | refine vb_i (e_nilCheck _) ?_
              | refine vb_i (e_fieldAddr _ _) ?_
              | refine hb_i (e_alloc _ _) ?_
              | (refine vb_i (adds ?_) ?_; (· first | omega | (simp only [List.length_cons, List.length_nil, List.length_append]; omega)))
              exact ⟨rfl, rfl, by simp⟩
          · rintro _ _ C ⟨rfl, rfl, rfl⟩
            repeat with_reducible first
            | refine isB_T ?_
            | refine isB_F ?_
            | (refine isB_ct ?_ ?_; (· first | omega | rfl | assumption))
            | (refine isB_cf ?_ ?_; (· first | omega | assumption))
            | refine onE_i ?_
            | (refine onE_s ?_ ?_; (· decide))
            | refine vb_i e_ext0 ?_
            | refine vb_i e_ext1 ?_
            | refine vb_i e_ext2 ?_
            | refine vb_i (lss64 _ _ _) ?_
            | refine vb_i (leq64 _ _ _) ?_
            | refine vb_i (gtr64 _ _ _) ?_
            | refine vb_i (geq64 _ _ _) ?_
            | refine vb_i (eql64 _ _ _) ?_
            | refine vb_i (neq64 _ _ _) ?_
            | refine vb_i (eqls _ _) ?_
            | refine vb_i (neqs _ _) ?_
            | (refine vb_i (add64 ?_ ?_) ?_; (· omega); (· omega))
            | (refine vb_i (sub64 ?_ ?_) ?_; (· omega); (· omega))
            | (refine vb_i (mul64 ?_ ?_) ?_; (· omega); (· omega))
            | (refine vb_i (quo64 ?_ ?_ ?_) ?_; (· omega); (· omega); (· omega))
            | (refine vb_i (rem64 ?_ ?_) ?_; (· omega); (· omega))
            | refine vb_i (e_lenSt _) ?_
            | refine vb_i (e_lenSl _ _ _) ?_
            | refine vb_i e_lenNil ?_
            | refine vb_i (lenSl_view (by assumption)) ?_
            | refine vb_i (e_ptrNil _ _) ?_
            | refine vb_i (e_ptrNilN _ _) ?_
            | refine vb_i (e_nilNil _) ?_
            | refine vb_i (e_nilNilN _) ?_
            | refine vb_i (e_pickT _ _) ?_
            | refine vb_i (e_pickF _ _) ?_
            | refine vb_i e_notd ?_
            | refine vb_i e_boolNe ?_
            | refine vb_i e_boolEq ?_
            | refine vb_i (e_not _) ?_
            | refine vb_i (e_nilCheck _) ?_
            | refine vb_i (e_fieldAddr _ _) ?_
            | refine hb_i (e_alloc _ _) ?_
            | (refine vb_i (adds ?_) ?_; (· first | omega | (simp only [List.length_cons, List.length_nil, List.length_append]; omega)))
            exact fin_bool rfl hC
        · obtain ⟨m, rfl⟩ : ∃ m : Nat, l = m := ⟨l.toNat, by omega⟩
          have hm : m < 64 := by omega
          rw [Int.toNat_natCast] at hv
          refine JoinP.mk (fun e' vs C => C = B ∧ e' = .normal) ?_ ?_
          · repeat with_reducible first
            | refine isB_T ?_
            | refine isB_F ?_
            | (refine isB_ct ?_ ?_; (· first | omega | rfl | assumption))
            | (refine isB_cf ?_ ?_; (· first | omega | assumption))
            | refine onE_i ?_
            | (refine onE_s ?_ ?_; (· decide))
            | refine vb_i e_ext0 ?_
            | refine vb_i e_ext1 ?_
            | refine vb_i e_ext2 ?_
            | refine vb_i (lss64 _ _ _) ?_
            | refine vb_i (leq64 _ _ _) ?_
            | refine vb_i (gtr64 _ _ _) ?_
            | refine vb_i (geq64 _ _ _) ?_
            | refine vb_i (eql64 _ _ _) ?_
            | refine vb_i (neq64 _ _ _) ?_
            | refine vb_i (eqls _ _) ?_
            | refine vb_i (neqs _ _) ?_
            | (refine vb_i (add64 ?_ ?_) ?_; (· omega); (· omega))
            | (refine vb_i (sub64 ?_ ?_) ?_; (· omega); (· omega))
            | (refine vb_i (mul64 ?_ ?_) ?_; (· omega); (· omega))
            | (refine vb_i (quo64 ?_ ?_ ?_) ?_; (· omega); (· omega); (· omega))
            | (refine vb_i (rem64 ?_ ?_) ?_; (· omega); (· omega))
            | refine vb_i (e_lenSt _) ?_
            | refine vb_i (e_lenSl _ _ _) ?_
            | refine vb_i e_lenNil ?_
            | refine vb_i (lenSl_view (by assumption)) ?_
            | refine vb_i (e_ptrNil _ _) ?_
            | refine vb_i (e_ptrNilN _ _) ?_
            | refine vb_i (e_nilNil _) ?_
            | refine vb_i (e_nilNilN _) ?_
            | refine vb_i (e_pickT _ _) ?_
            | refine vb_i (e_pickF _ _) ?_
            | refine vb_i e_notd ?_
            | refine vb_i e_boolNe ?_
            | refine vb_i e_boolEq ?_
            | refine vb_i (e_not _) ?_
            | refine vb_i (e_nilCheck _) ?_
            | refine vb_i (e_fieldAddr _ _) ?_
            | refine hb_i (e_alloc _ _) ?_
            | (refine vb_i (adds ?_) ?_; (· first | omega | (simp only [List.length_cons, List.length_nil, List.length_append]; omega)))
            exact ⟨rfl, rfl⟩
          · rintro _ vs97 C ⟨rfl, rfl⟩
            repeat with_reducible first
            | refine isB_T ?_
            | refine isB_F ?_
            | (refine isB_ct ?_ ?_; (· first | omega | rfl | assumption))
            | (refine isB_cf ?_ ?_; (· first | omega | assumption))
            | refine onE_i ?_
            | (refine onE_s ?_ ?_; (· decide))
            | refine vb_i e_ext0 ?_
            | refine vb_i e_ext1 ?_
            | refine vb_i e_ext2 ?_
            | refine vb_i (lss64 _ _ _) ?_
            | refine vb_i (leq64 _ _ _) ?_
            | refine vb_i (gtr64 _ _ _) ?_
            | refine vb_i (geq64 _ _ _) ?_
            | refine vb_i (eql64 _ _ _) ?_
            | refine vb_i (neq64 _ _ _) ?_
            | refine vb_i (eqls _ _) ?_
            | refine vb_i (neqs _ _) ?_
            | (refine vb_i (add64 ?_ ?_) ?_; (· omega); (· omega))
            | (refine vb_i (sub64 ?_ ?_) ?_; (· omega); (· omega))
            | (refine vb_i (mul64 ?_ ?_) ?_; (· omega); (· omega))
            | (refine vb_i (quo64 ?_ ?_ ?_) ?_; (· omega); (· omega); (· omega))
            | (refine vb_i (rem64 ?_ ?_) ?_; (· omega); (· omega))
            | refine vb_i (e_lenSt _) ?_
            | refine vb_i (e_lenSl _ _ _) ?_
            | refine vb_i e_lenNil ?_
            | refine vb_i (lenSl_view (by assumption)) ?_
            | refine vb_i (e_ptrNil _ _) ?_
            | refine vb_i (e_ptrNilN _ _) ?_
            | refine vb_i (e_nilNil _) ?_
            | refine vb_i (e_nilNilN _) ?_
            | refine vb_i (e_pickT _ _) ?_
            | refine vb_i (e_pickF _ _) ?_
            | refine vb_i e_notd ?_
            | refine vb_i e_boolNe ?_
            | refine vb_i e_boolEq ?_
            | refine vb_i (e_not _) ?_
            | refine vb_i (e_nilCheck _) ?_
            | refine vb_i (e_fieldAddr _ _) ?_
            | refine hb_i (e_alloc _ _) ?_
            | (refine vb_i (adds ?_) ?_; (· first | omega | (simp only [List.length_cons, List.length_nil, List.length_append]; omega)))
            have rd : ∀ (i : Nat), i < 6 → ∃ q, aIndexAddr 1 (.slice ⟨H'.length, 0, 0⟩ 6 (.op 1)) (.int .i64 i) = some q ∧ aLoad C false 1 q = some (.int .i64 (up m (i + 1) : Nat)) := by
              intro i hi
              obtain ⟨q, h1, h2⟩ := hv.at1 (k := (i : Int)) (kd := .i64) (by omega) (by omega) (List.prefix_refl _)
              rw [Int.toNat_natCast, path_get m hi] at h2
              exact ⟨q, h1, h2⟩
            refine JoinP.mk (fun e' vs B => B = C ∧ e' = .normal) ?_ ?_
            · repeat with_reducible first
              | refine isB_T ?_
              | refine isB_F ?_
              | (refine isB_ct ?_ ?_; (· first | omega | rfl | assumption))
              | (refine isB_cf ?_ ?_; (· first | omega | assumption))
              | refine onE_i ?_
              | (refine onE_s ?_ ?_; (· decide))
              | refine vb_i e_ext0 ?_
              | refine vb_i e_ext1 ?_
              | refine vb_i e_ext2 ?_
              | refine vb_i (lss64 _ _ _) ?_
              | refine vb_i (leq64 _ _ _) ?_
              | refine vb_i (gtr64 _ _ _) ?_
              | refine vb_i (geq64 _ _ _) ?_
              | refine vb_i (eql64 _ _ _) ?_
              | refine vb_i (neq64 _ _ _) ?_
              | refine vb_i (eqls _ _) ?_
              | refine vb_i (neqs _ _) ?_
              | (refine vb_i (add64 ?_ ?_) ?_; (· omega); (· omega))
              | (refine vb_i (sub64 ?_ ?_) ?_; (· omega); (· omega))
              | (refine vb_i (mul64 ?_ ?_) ?_; (· omega); (· omega))
              | (refine vb_i (quo64 ?_ ?_ ?_) ?_; (· omega); (· omega); (· omega))
              | (refine vb_i (rem64 ?_ ?_) ?_; (· omega); (· omega))
              | refine vb_i (e_lenSt _) ?_
              | refine vb_i (e_lenSl _ _ _) ?_
              | refine vb_i e_lenNil ?_
              | refine vb_i (lenSl_view (by assumption)) ?_
              | refine vb_i (e_ptrNil _ _) ?_
              | refine vb_i (e_ptrNilN _ _) ?_
              | refine vb_i (e_nilNil _) ?_
              | refine vb_i (e_nilNilN _) ?_
              | refine vb_i (e_pickT _ _) ?_
              | refine vb_i (e_pickF _ _) ?_
              | refine vb_i e_notd ?_
              | refine vb_i e_boolNe ?_
              | refine vb_i e_boolEq ?_
              | refine vb_i (e_not _) ?_
              | refine vb_i (e_nilCheck _) ?_
              | refine vb_i (e_fieldAddr _ _) ?_
              | refine hb_i (e_alloc _ _) ?_
              | (refine vb_i (adds ?_) ?_; (· first | omega | (simp only [List.length_cons, List.length_nil, List.length_append]; omega)))
              obtain ⟨q, h1, h2⟩ := rd 5 (by decide)
              have h6 : up m (5 + 1) = 0 := up_six m hm
              with_reducible refine vb_i h1 ?_
              with_reducible refine vb_i h2 ?_
              repeat with_reducible first
              | refine isB_T ?_
              | refine isB_F ?_
              | (refine isB_ct ?_ ?_; (· first | omega | rfl | assumption))
              | (refine isB_cf ?_ ?_; (· first | omega | assumption))
              | refine onE_i ?_
              | (refine onE_s ?_ ?_; (· decide))
              | refine vb_i e_ext0 ?_
              | refine vb_i e_ext1 ?_
              | refine vb_i e_ext2 ?_
              | refine vb_i (lss64 _ _ _) ?_
              | refine vb_i (leq64 _ _ _) ?_
              | refine vb_i (gtr64 _ _ _) ?_
              | refine vb_i (geq64 _ _ _) ?_
              | refine vb_i (eql64 _ _ _) ?_
              | refine vb_i (neq64 _ _ _) ?_
              | refine vb_i (eqls _ _) ?_
              | refine vb_i (neqs _ _) ?_
              | (refine vb_i (add64 ?_ ?_) ?_; (· omega); (· omega))
              | (refine vb_i (sub64 ?_ ?_) ?_; (· omega); (· omega))
              | (refine vb_i (mul64 ?_ ?_) ?_; (· omega); (· omega))
              | (refine vb_i (quo64 ?_ ?_ ?_) ?_; (· omega); (· omega); (· omega))
              | (refine vb_i (rem64 ?_ ?_) ?_; (· omega); (· omega))
              | refine vb_i (e_lenSt _) ?_
              | refine vb_i (e_lenSl _ _ _) ?_
              | refine vb_i e_lenNil ?_
              | refine vb_i (lenSl_view (by assumption)) ?_
              | refine vb_i (e_ptrNil _ _) ?_
              | refine vb_i (e_ptrNilN _ _) ?_
              | refine vb_i (e_nilNil _) ?_
              | refine vb_i (e_nilNilN _) ?_
              | refine vb_i (e_pickT _ _) ?_
              | refine vb_i (e_pickF _ _) ?_
              | refine vb_i e_notd ?_
              | refine vb_i e_boolNe ?_
              | refine vb_i e_boolEq ?_
              | refine vb_i (e_not _) ?_
              | refine vb_i (e_nilCheck _) ?_
              | refine vb_i (e_fieldAddr _ _) ?_
              | refine hb_i (e_alloc _ _) ?_
              | (refine vb_i (adds ?_) ?_; (· first | omega | (simp only [List.length_cons, List.length_nil, List.length_append]; omega)))
              exact ⟨rfl, rfl⟩
            · rintro _ vs110 B ⟨rfl, rfl⟩
              repeat with_reducible first
              | refine isB_T ?_
              | refine isB_F ?_
              | (refine isB_ct ?_ ?_; (· first | omega | rfl | assumption))
              | (refine isB_cf ?_ ?_; (· first | omega | assumption))
              | refine onE_i ?_
              | (refine onE_s ?_ ?_; (· decide))
              | refine vb_i e_ext0 ?_
              | refine vb_i e_ext1 ?_
              | refine vb_i e_ext2 ?_
              | refine vb_i (lss64 _ _ _) ?_
              | refine vb_i (leq64 _ _ _) ?_
              | refine vb_i (gtr64 _ _ _) ?_
              | refine vb_i (geq64 _ _ _) ?_
              | refine vb_i (eql64 _ _ _) ?_
              | refine vb_i (neq64 _ _ _) ?_
              | refine vb_i (eqls _ _) ?_
              | refine vb_i (neqs _ _) ?_
              | (refine vb_i (add64 ?_ ?_) ?_; (· omega); (· omega))
              | (refine vb_i (sub64 ?_ ?_) ?_; (· omega); (· omega))
              | (refine vb_i (mul64 ?_ ?_) ?_; (· omega); (· omega))
              | (refine vb_i (quo64 ?_ ?_ ?_) ?_; (· omega); (· omega); (· omega))
              | (refine vb_i (rem64 ?_ ?_) ?_; (· omega); (· omega))
              | refine vb_i (e_lenSt _) ?_
              | refine vb_i (e_lenSl _ _ _) ?_
              | refine vb_i e_lenNil ?_
              | refine vb_i (lenSl_view (by assumption)) ?_
              | refine vb_i (e_ptrNil _ _) ?_
              | refine vb_i (e_ptrNilN _ _) ?_
              | refine vb_i (e_nilNil _) ?_
              | refine vb_i (e_nilNilN _) ?_
              | refine vb_i (e_pickT _ _) ?_
              | refine vb_i (e_pickF _ _) ?_
              | refine vb_i e_notd ?_
              | refine vb_i e_boolNe ?_
              | refine vb_i e_boolEq ?_
              | refine vb_i (e_not _) ?_
              | refine vb_i (e_nilCheck _) ?_
              | refine vb_i (e_fieldAddr _ _) ?_
              | refine hb_i (e_alloc _ _) ?_
              | (refine vb_i (adds ?_) ?_; (· first | omega | (simp only [List.length_cons, List.length_nil, List.length_append]; omega)))
              -- the loop: from the root down
              refine LoopP.ruleG (α := Nat × Bool) (fun a => [.bool a.2, .int .i64 ((a.1 : Int) - 1)]) (fun a C => C = B ∧ a.1 ≤ 6 ∧ (a.2 = true ↔ ∃ j, a.1 ≤ j ∧ j < 6 ∧ (up m (j + 1) : Int) = n)) (fun a => a.1) (6, false) rfl ⟨rfl, Nat.le_refl _, ?_⟩ ?_
              · constructor
                · intro h; cases h
                · rintro ⟨j, h1, h2, _⟩; simp only at h1; omega
              · rintro ⟨i, t⟩ C Kn ⟨rfl, hi, ht⟩ hnx
                simp only at hi ht
                unfold cellaretlaw17_NodePaths.L17 cellaretlaw17_NodePaths.L17.b
                simp only [evB]
                by_cases hi0 : i = 0
                · subst hi0
                  repeat with_reducible first
                  | refine isB_T ?_
                  | refine isB_F ?_
                  | (refine isB_ct ?_ ?_; (· first | omega | rfl | assumption))
                  | (refine isB_cf ?_ ?_; (· first | omega | assumption))
                  | refine onE_i ?_
                  | (refine onE_s ?_ ?_; (· decide))
                  | refine vb_i e_ext0 ?_
                  | refine vb_i e_ext1 ?_
                  | refine vb_i e_ext2 ?_
                  | refine vb_i (lss64 _ _ _) ?_
                  | refine vb_i (leq64 _ _ _) ?_
                  | refine vb_i (gtr64 _ _ _) ?_
                  | refine vb_i (geq64 _ _ _) ?_
                  | refine vb_i (eql64 _ _ _) ?_
                  | refine vb_i (neq64 _ _ _) ?_
                  | refine vb_i (eqls _ _) ?_
                  | refine vb_i (neqs _ _) ?_
                  | (refine vb_i (add64 ?_ ?_) ?_; (· omega); (· omega))
                  | (refine vb_i (sub64 ?_ ?_) ?_; (· omega); (· omega))
                  | (refine vb_i (mul64 ?_ ?_) ?_; (· omega); (· omega))
                  | (refine vb_i (quo64 ?_ ?_ ?_) ?_; (· omega); (· omega); (· omega))
                  | (refine vb_i (rem64 ?_ ?_) ?_; (· omega); (· omega))
                  | refine vb_i (e_lenSt _) ?_
                  | refine vb_i (e_lenSl _ _ _) ?_
                  | refine vb_i e_lenNil ?_
                  | refine vb_i (lenSl_view (by assumption)) ?_
                  | refine vb_i (e_ptrNil _ _) ?_
                  | refine vb_i (e_ptrNilN _ _) ?_
                  | refine vb_i (e_nilNil _) ?_
                  | refine vb_i (e_nilNilN _) ?_
                  | refine vb_i (e_pickT _ _) ?_
                  | refine vb_i (e_pickF _ _) ?_
                  | refine vb_i e_notd ?_
                  | refine vb_i e_boolNe ?_
                  | refine vb_i e_boolEq ?_
                  | refine vb_i (e_not _) ?_
                  | refine vb_i (e_nilCheck _) ?_
                  | refine vb_i (e_fieldAddr _ _) ?_
                  | refine hb_i (e_alloc _ _) ?_
                  | (refine vb_i (adds ?_) ?_; (· first | omega | (simp only [List.length_cons, List.length_nil, List.length_append]; omega)))
                  refine cb_i _ _ ⟨rfl, rfl, rfl⟩ ?_
                  repeat with_reducible first
                  | refine isB_T ?_
                  | refine isB_F ?_
                  | (refine isB_ct ?_ ?_; (· first | omega | rfl | assumption))
                  | (refine isB_cf ?_ ?_; (· first | omega | assumption))
                  | refine onE_i ?_
                  | (refine onE_s ?_ ?_; (· decide))
                  | refine vb_i e_ext0 ?_
                  | refine vb_i e_ext1 ?_
                  | refine vb_i e_ext2 ?_
                  | refine vb_i (lss64 _ _ _) ?_
                  | refine vb_i (leq64 _ _ _) ?_
                  | refine vb_i (gtr64 _ _ _) ?_
                  | refine vb_i (geq64 _ _ _) ?_
                  | refine vb_i (eql64 _ _ _) ?_
                  | refine vb_i (neq64 _ _ _) ?_
                  | refine vb_i (eqls _ _) ?_
                  | refine vb_i (neqs _ _) ?_
                  | (refine vb_i (add64 ?_ ?_) ?_; (· omega); (· omega))
                  | (refine vb_i (sub64 ?_ ?_) ?_; (· omega); (· omega))
                  | (refine vb_i (mul64 ?_ ?_) ?_; (· omega); (· omega))
                  | (refine vb_i (quo64 ?_ ?_ ?_) ?_; (· omega); (· omega); (· omega))
                  | (refine vb_i (rem64 ?_ ?_) ?_; (· omega); (· omega))
                  | refine vb_i (e_lenSt _) ?_
                  | refine vb_i (e_lenSl _ _ _) ?_
                  | refine vb_i e_lenNil ?_
                  | refine vb_i (lenSl_view (by assumption)) ?_
                  | refine vb_i (e_ptrNil _ _) ?_
                  | refine vb_i (e_ptrNilN _ _) ?_
                  | refine vb_i (e_nilNil _) ?_
                  | refine vb_i (e_nilNilN _) ?_
                  | refine vb_i (e_pickT _ _) ?_
                  | refine vb_i (e_pickF _ _) ?_
                  | refine vb_i e_notd ?_
                  | refine vb_i e_boolNe ?_
                  | refine vb_i e_boolEq ?_
                  | refine vb_i (e_not _) ?_
                  | refine vb_i (e_nilCheck _) ?_
                  | refine vb_i (e_fieldAddr _ _) ?_
                  | refine hb_i (e_alloc _ _) ?_
                  | (refine vb_i (adds ?_) ?_; (· first | omega | (simp only [List.length_cons, List.length_nil, List.length_append]; omega)))
                  refine isB_bb (fun h1 => ?_) (fun h1 => ?_)
                  · exact fin_bool rfl hC
                  · have hs0 : v7 = 0 ∧ v8 = 3 := by
                      unfold sideR at hside
                      rw [if_neg (by omega), Int.toNat_natCast, hit_none (fun j hj e => by have := ht.2 ⟨j, Nat.zero_le _, hj, e⟩; rw [h1] at this; cases this)] at hside
                      simpa [eq_comm] using hside
                    obtain ⟨rfl, rfl⟩ := hs0
                    repeat with_reducible first
                    | refine isB_T ?_
                    | refine isB_F ?_
                    | (refine isB_ct ?_ ?_; (· first | omega | rfl | assumption))
                    | (refine isB_cf ?_ ?_; (· first | omega | assumption))
                    | refine onE_i ?_
                    | (refine onE_s ?_ ?_; (· decide))
                    | refine vb_i e_ext0 ?_
                    | refine vb_i e_ext1 ?_
                    | refine vb_i e_ext2 ?_
                    | refine vb_i (lss64 _ _ _) ?_
                    | refine vb_i (leq64 _ _ _) ?_
                    | refine vb_i (gtr64 _ _ _) ?_
                    | refine vb_i (geq64 _ _ _) ?_
                    | refine vb_i (eql64 _ _ _) ?_
                    | refine vb_i (neq64 _ _ _) ?_
                    | refine vb_i (eqls _ _) ?_
                    | refine vb_i (neqs _ _) ?_
                    | (refine vb_i (add64 ?_ ?_) ?_; (· omega); (· omega))
                    | (refine vb_i (sub64 ?_ ?_) ?_; (· omega); (· omega))
                    | (refine vb_i (mul64 ?_ ?_) ?_; (· omega); (· omega))
                    | (refine vb_i (quo64 ?_ ?_ ?_) ?_; (· omega); (· omega); (· omega))
                    | (refine vb_i (rem64 ?_ ?_) ?_; (· omega); (· omega))
                    | refine vb_i (e_lenSt _) ?_
                    | refine vb_i (e_lenSl _ _ _) ?_
                    | refine vb_i e_lenNil ?_
                    | refine vb_i (lenSl_view (by assumption)) ?_
                    | refine vb_i (e_ptrNil _ _) ?_
                    | refine vb_i (e_ptrNilN _ _) ?_
                    | refine vb_i (e_nilNil _) ?_
                    | refine vb_i (e_nilNilN _) ?_
                    | refine vb_i (e_pickT _ _) ?_
                    | refine vb_i (e_pickF _ _) ?_
                    | refine vb_i e_notd ?_
                    | refine vb_i e_boolNe ?_
                    | refine vb_i e_boolEq ?_
                    | refine vb_i (e_not _) ?_
                    | refine vb_i (e_nilCheck _) ?_
                    | refine vb_i (e_fieldAddr _ _) ?_
                    | refine hb_i (e_alloc _ _) ?_
                    | (refine vb_i (adds ?_) ?_; (· first | omega | (simp only [List.length_cons, List.length_nil, List.length_append]; omega)))
                    exact fin_bool (by simp) hC
                · obtain ⟨k, rfl⟩ : ∃ k, i = k + 1 := ⟨i - 1, by omega⟩
                  have hk : k < 6 := by omega
                  have e0 : (((k + 1 : Nat) : Int) - 1) = (k : Int) := by omega
                  rw [e0]
                  obtain ⟨q, h1, h2⟩ := rd k hk
                  repeat with_reducible first
                  | refine isB_T ?_
                  | refine isB_F ?_
                  | (refine isB_ct ?_ ?_; (· first | omega | rfl | assumption))
                  | (refine isB_cf ?_ ?_; (· first | omega | assumption))
                  | refine onE_i ?_
                  | (refine onE_s ?_ ?_; (· decide))
                  | refine vb_i e_ext0 ?_
                  | refine vb_i e_ext1 ?_
                  | refine vb_i e_ext2 ?_
                  | refine vb_i (lss64 _ _ _) ?_
                  | refine vb_i (leq64 _ _ _) ?_
                  | refine vb_i (gtr64 _ _ _) ?_
                  | refine vb_i (geq64 _ _ _) ?_
                  | refine vb_i (eql64 _ _ _) ?_
                  | refine vb_i (neq64 _ _ _) ?_
                  | refine vb_i (eqls _ _) ?_
                  | refine vb_i (neqs _ _) ?_
                  | (refine vb_i (add64 ?_ ?_) ?_; (· omega); (· omega))
                  | (refine vb_i (sub64 ?_ ?_) ?_; (· omega); (· omega))
                  | (refine vb_i (mul64 ?_ ?_) ?_; (· omega); (· omega))
                  | (refine vb_i (quo64 ?_ ?_ ?_) ?_; (· omega); (· omega); (· omega))
                  | (refine vb_i (rem64 ?_ ?_) ?_; (· omega); (· omega))
                  | refine vb_i (e_lenSt _) ?_
                  | refine vb_i (e_lenSl _ _ _) ?_
                  | refine vb_i e_lenNil ?_
                  | refine vb_i (lenSl_view (by assumption)) ?_
                  | refine vb_i (e_ptrNil _ _) ?_
                  | refine vb_i (e_ptrNilN _ _) ?_
                  | refine vb_i (e_nilNil _) ?_
                  | refine vb_i (e_nilNilN _) ?_
                  | refine vb_i (e_pickT _ _) ?_
                  | refine vb_i (e_pickF _ _) ?_
                  | refine vb_i e_notd ?_
                  | refine vb_i e_boolNe ?_
                  | refine vb_i e_boolEq ?_
                  | refine vb_i (e_not _) ?_
                  | refine vb_i (e_nilCheck _) ?_
                  | refine vb_i (e_fieldAddr _ _) ?_
                  | refine hb_i (e_alloc _ _) ?_
                  | (refine vb_i (adds ?_) ?_; (· first | omega | (simp only [List.length_cons, List.length_nil, List.length_append]; omega)))
                  with_reducible refine vb_i h1 ?_
                  with_reducible refine vb_i h2 ?_
                  refine cb_i _ _ ⟨_, _, rfl, rfl, rfl⟩ ?_
                  rw [side_path m hm hk]
                  repeat with_reducible first
                  | refine isB_T ?_
                  | refine isB_F ?_
                  | (refine isB_ct ?_ ?_; (· first | omega | rfl | assumption))
                  | (refine isB_cf ?_ ?_; (· first | omega | assumption))
                  | refine onE_i ?_
                  | (refine onE_s ?_ ?_; (· decide))
                  | refine vb_i e_ext0 ?_
                  | refine vb_i e_ext1 ?_
                  | refine vb_i e_ext2 ?_
                  | refine vb_i (lss64 _ _ _) ?_
                  | refine vb_i (leq64 _ _ _) ?_
                  | refine vb_i (gtr64 _ _ _) ?_
                  | refine vb_i (geq64 _ _ _) ?_
                  | refine vb_i (eql64 _ _ _) ?_
                  | refine vb_i (neq64 _ _ _) ?_
                  | refine vb_i (eqls _ _) ?_
                  | refine vb_i (neqs _ _) ?_
                  | (refine vb_i (add64 ?_ ?_) ?_; (· omega); (· omega))
                  | (refine vb_i (sub64 ?_ ?_) ?_; (· omega); (· omega))
                  | (refine vb_i (mul64 ?_ ?_) ?_; (· omega); (· omega))
                  | (refine vb_i (quo64 ?_ ?_ ?_) ?_; (· omega); (· omega); (· omega))
                  | (refine vb_i (rem64 ?_ ?_) ?_; (· omega); (· omega))
                  | refine vb_i (e_lenSt _) ?_
                  | refine vb_i (e_lenSl _ _ _) ?_
                  | refine vb_i e_lenNil ?_
                  | refine vb_i (lenSl_view (by assumption)) ?_
                  | refine vb_i (e_ptrNil _ _) ?_
                  | refine vb_i (e_ptrNilN _ _) ?_
                  | refine vb_i (e_nilNil _) ?_
                  | refine vb_i (e_nilNilN _) ?_
                  | refine vb_i (e_pickT _ _) ?_
                  | refine vb_i (e_pickF _ _) ?_
                  | refine vb_i e_notd ?_
                  | refine vb_i e_boolNe ?_
                  | refine vb_i e_boolEq ?_
                  | refine vb_i (e_not _) ?_
                  | refine vb_i (e_nilCheck _) ?_
                  | refine vb_i (e_fieldAddr _ _) ?_
                  | refine hb_i (e_alloc _ _) ?_
                  | (refine vb_i (adds ?_) ?_; (· first | omega | (simp only [List.length_cons, List.length_nil, List.length_append]; omega)))
                  with_reducible refine vb_i h1 ?_
                  with_reducible refine vb_i h2 ?_
                  refine cb_i _ _ ⟨_, _, rfl, rfl, rfl⟩ ?_
                  have hdn := down_path m hm hk
                  have h63 := up_63 m hm (i := k + 1) (by omega) (by omega)
                  have hule := up_le m k
                  have hbl : belowR (up m (k + 1) : Nat) ((up m k + 1) % 2 : Nat) = [.int .i64 (if k = 0 then m else up m k : Nat), .bool (decide (k = 0)), .int .i64 0] := by
                    by_cases hk0 : k = 0
                    · subst hk0
                      have hu0 := up_zero m
                      rw [belowR_leaf (by omega) (by omega)]
                      have e : 2 * ((up m (0 + 1) : Nat) : Int) + 1 + ((up m 0 + 1) % 2 : Nat) - 63 = (m : Int) := by omega
                      rw [e]; rfl
                    · have h63' := up_63 m hm (i := k) (by omega) (by omega)
                      rw [belowR_in (by omega) (by omega), hdn, if_neg hk0, decide_eq_false hk0]
                  rw [hbl]
                  repeat with_reducible first
                  | refine isB_T ?_
                  | refine isB_F ?_
                  | (refine isB_ct ?_ ?_; (· first | omega | rfl | assumption))
                  | (refine isB_cf ?_ ?_; (· first | omega | assumption))
                  | refine onE_i ?_
                  | (refine onE_s ?_ ?_; (· decide))
                  | refine vb_i e_ext0 ?_
                  | refine vb_i e_ext1 ?_
                  | refine vb_i e_ext2 ?_
                  | refine vb_i (lss64 _ _ _) ?_
                  | refine vb_i (leq64 _ _ _) ?_
                  | refine vb_i (gtr64 _ _ _) ?_
                  | refine vb_i (geq64 _ _ _) ?_
                  | refine vb_i (eql64 _ _ _) ?_
                  | refine vb_i (neq64 _ _ _) ?_
                  | refine vb_i (eqls _ _) ?_
                  | refine vb_i (neqs _ _) ?_
                  | (refine vb_i (add64 ?_ ?_) ?_; (· omega); (· omega))
                  | (refine vb_i (sub64 ?_ ?_) ?_; (· omega); (· omega))
                  | (refine vb_i (mul64 ?_ ?_) ?_; (· omega); (· omega))
                  | (refine vb_i (quo64 ?_ ?_ ?_) ?_; (· omega); (· omega); (· omega))
                  | (refine vb_i (rem64 ?_ ?_) ?_; (· omega); (· omega))
                  | refine vb_i (e_lenSt _) ?_
                  | refine vb_i (e_lenSl _ _ _) ?_
                  | refine vb_i e_lenNil ?_
                  | refine vb_i (lenSl_view (by assumption)) ?_
                  | refine vb_i (e_ptrNil _ _) ?_
                  | refine vb_i (e_ptrNilN _ _) ?_
                  | refine vb_i (e_nilNil _) ?_
                  | refine vb_i (e_nilNilN _) ?_
                  | refine vb_i (e_pickT _ _) ?_
                  | refine vb_i (e_pickF _ _) ?_
                  | refine vb_i e_notd ?_
                  | refine vb_i e_boolNe ?_
                  | refine vb_i e_boolEq ?_
                  | refine vb_i (e_not _) ?_
                  | refine vb_i (e_nilCheck _) ?_
                  | refine vb_i (e_fieldAddr _ _) ?_
                  | refine hb_i (e_alloc _ _) ?_
                  | (refine vb_i (adds ?_) ?_; (· first | omega | (simp only [List.length_cons, List.length_nil, List.length_append]; omega)))
                  refine JoinP.mk (fun e' vs B => B = C ∧ e' = .normal) ?_ ?_
                  · by_cases hk0 : k = 0
                    · subst hk0
                      rw [if_pos rfl]
                      repeat with_reducible first
                      | refine isB_T ?_
                      | refine isB_F ?_
                      | (refine isB_ct ?_ ?_; (· first | omega | rfl | assumption))
                      | (refine isB_cf ?_ ?_; (· first | omega | assumption))
                      | refine onE_i ?_
                      | (refine onE_s ?_ ?_; (· decide))
                      | refine vb_i e_ext0 ?_
                      | refine vb_i e_ext1 ?_
                      | refine vb_i e_ext2 ?_
                      | refine vb_i (lss64 _ _ _) ?_
                      | refine vb_i (leq64 _ _ _) ?_
                      | refine vb_i (gtr64 _ _ _) ?_
                      | refine vb_i (geq64 _ _ _) ?_
                      | refine vb_i (eql64 _ _ _) ?_
                      | refine vb_i (neq64 _ _ _) ?_
                      | refine vb_i (eqls _ _) ?_
                      | refine vb_i (neqs _ _) ?_
                      | (refine vb_i (add64 ?_ ?_) ?_; (· omega); (· omega))
                      | (refine vb_i (sub64 ?_ ?_) ?_; (· omega); (· omega))
                      | (refine vb_i (mul64 ?_ ?_) ?_; (· omega); (· omega))
                      | (refine vb_i (quo64 ?_ ?_ ?_) ?_; (· omega); (· omega); (· omega))
                      | (refine vb_i (rem64 ?_ ?_) ?_; (· omega); (· omega))
                      | refine vb_i (e_lenSt _) ?_
                      | refine vb_i (e_lenSl _ _ _) ?_
                      | refine vb_i e_lenNil ?_
                      | refine vb_i (lenSl_view (by assumption)) ?_
                      | refine vb_i (e_ptrNil _ _) ?_
                      | refine vb_i (e_ptrNilN _ _) ?_
                      | refine vb_i (e_nilNil _) ?_
                      | refine vb_i (e_nilNilN _) ?_
                      | refine vb_i (e_pickT _ _) ?_
                      | refine vb_i (e_pickF _ _) ?_
                      | refine vb_i e_notd ?_
                      | refine vb_i e_boolNe ?_
                      | refine vb_i e_boolEq ?_
                      | refine vb_i (e_not _) ?_
                      | refine vb_i (e_nilCheck _) ?_
                      | refine vb_i (e_fieldAddr _ _) ?_
                      | refine hb_i (e_alloc _ _) ?_
                      | (refine vb_i (adds ?_) ?_; (· first | omega | (simp only [List.length_cons, List.length_nil, List.length_append]; omega)))
                      exact ⟨rfl, rfl⟩
                    · rw [if_neg hk0]
                      obtain ⟨q', h1', h2'⟩ := rd (k - 1) (by omega)
                      have e1 : ((k : Int) - 1) = ((k - 1 : Nat) : Int) := by omega
                      have e2 : k - 1 + 1 = k := by omega
                      rw [e2] at h2'
                      repeat with_reducible first
                      | refine isB_T ?_
                      | refine isB_F ?_
                      | (refine isB_ct ?_ ?_; (· first | omega | rfl | assumption))
                      | (refine isB_cf ?_ ?_; (· first | omega | assumption))
                      | refine onE_i ?_
                      | (refine onE_s ?_ ?_; (· decide))
                      | refine vb_i e_ext0 ?_
                      | refine vb_i e_ext1 ?_
                      | refine vb_i e_ext2 ?_
                      | refine vb_i (lss64 _ _ _) ?_
                      | refine vb_i (leq64 _ _ _) ?_
                      | refine vb_i (gtr64 _ _ _) ?_
                      | refine vb_i (geq64 _ _ _) ?_
                      | refine vb_i (eql64 _ _ _) ?_
                      | refine vb_i (neq64 _ _ _) ?_
                      | refine vb_i (eqls _ _) ?_
                      | refine vb_i (neqs _ _) ?_
                      | (refine vb_i (add64 ?_ ?_) ?_; (· omega); (· omega))
                      | (refine vb_i (sub64 ?_ ?_) ?_; (· omega); (· omega))
                      | (refine vb_i (mul64 ?_ ?_) ?_; (· omega); (· omega))
                      | (refine vb_i (quo64 ?_ ?_ ?_) ?_; (· omega); (· omega); (· omega))
                      | (refine vb_i (rem64 ?_ ?_) ?_; (· omega); (· omega))
                      | refine vb_i (e_lenSt _) ?_
                      | refine vb_i (e_lenSl _ _ _) ?_
                      | refine vb_i e_lenNil ?_
                      | refine vb_i (lenSl_view (by assumption)) ?_
                      | refine vb_i (e_ptrNil _ _) ?_
                      | refine vb_i (e_ptrNilN _ _) ?_
                      | refine vb_i (e_nilNil _) ?_
                      | refine vb_i (e_nilNilN _) ?_
                      | refine vb_i (e_pickT _ _) ?_
                      | refine vb_i (e_pickF _ _) ?_
                      | refine vb_i e_notd ?_
                      | refine vb_i e_boolNe ?_
                      | refine vb_i e_boolEq ?_
                      | refine vb_i (e_not _) ?_
                      | refine vb_i (e_nilCheck _) ?_
                      | refine vb_i (e_fieldAddr _ _) ?_
                      | refine hb_i (e_alloc _ _) ?_
                      | (refine vb_i (adds ?_) ?_; (· first | omega | (simp only [List.length_cons, List.length_nil, List.length_append]; omega)))
                      rw [e1]
                      with_reducible refine vb_i h1' ?_
                      with_reducible refine vb_i h2' ?_
                      repeat with_reducible first
                      | refine isB_T ?_
                      | refine isB_F ?_
                      | (refine isB_ct ?_ ?_; (· first | omega | rfl | assumption))
                      | (refine isB_cf ?_ ?_; (· first | omega | assumption))
                      | refine onE_i ?_
                      | (refine onE_s ?_ ?_; (· decide))
                      | refine vb_i e_ext0 ?_
                      | refine vb_i e_ext1 ?_
                      | refine vb_i e_ext2 ?_
                      | refine vb_i (lss64 _ _ _) ?_
                      | refine vb_i (leq64 _ _ _) ?_
                      | refine vb_i (gtr64 _ _ _) ?_
                      | refine vb_i (geq64 _ _ _) ?_
                      | refine vb_i (eql64 _ _ _) ?_
                      | refine vb_i (neq64 _ _ _) ?_
                      | refine vb_i (eqls _ _) ?_
                      | refine vb_i (neqs _ _) ?_
                      | (refine vb_i (add64 ?_ ?_) ?_; (· omega); (· omega))
                      | (refine vb_i (sub64 ?_ ?_) ?_; (· omega); (· omega))
                      | (refine vb_i (mul64 ?_ ?_) ?_; (· omega); (· omega))
                      | (refine vb_i (quo64 ?_ ?_ ?_) ?_; (· omega); (· omega); (· omega))
                      | (refine vb_i (rem64 ?_ ?_) ?_; (· omega); (· omega))
                      | refine vb_i (e_lenSt _) ?_
                      | refine vb_i (e_lenSl _ _ _) ?_
                      | refine vb_i e_lenNil ?_
                      | refine vb_i (lenSl_view (by assumption)) ?_
                      | refine vb_i (e_ptrNil _ _) ?_
                      | refine vb_i (e_ptrNilN _ _) ?_
                      | refine vb_i (e_nilNil _) ?_
                      | refine vb_i (e_nilNilN _) ?_
                      | refine vb_i (e_pickT _ _) ?_
                      | refine vb_i (e_pickF _ _) ?_
                      | refine vb_i e_notd ?_
                      | refine vb_i e_boolNe ?_
                      | refine vb_i e_boolEq ?_
                      | refine vb_i (e_not _) ?_
                      | refine vb_i (e_nilCheck _) ?_
                      | refine vb_i (e_fieldAddr _ _) ?_
                      | refine hb_i (e_alloc _ _) ?_
                      | (refine vb_i (adds ?_) ?_; (· first | omega | (simp only [List.length_cons, List.length_nil, List.length_append]; omega)))
                      exact ⟨rfl, rfl⟩
                  · rintro _ vs156 B ⟨rfl, rfl⟩
                    repeat with_reducible first
                    | refine isB_T ?_
                    | refine isB_F ?_
                    | (refine isB_ct ?_ ?_; (· first | omega | rfl | assumption))
                    | (refine isB_cf ?_ ?_; (· first | omega | assumption))
                    | refine onE_i ?_
                    | (refine onE_s ?_ ?_; (· decide))
                    | refine vb_i e_ext0 ?_
                    | refine vb_i e_ext1 ?_
                    | refine vb_i e_ext2 ?_
                    | refine vb_i (lss64 _ _ _) ?_
                    | refine vb_i (leq64 _ _ _) ?_
                    | refine vb_i (gtr64 _ _ _) ?_
                    | refine vb_i (geq64 _ _ _) ?_
                    | refine vb_i (eql64 _ _ _) ?_
                    | refine vb_i (neq64 _ _ _) ?_
                    | refine vb_i (eqls _ _) ?_
                    | refine vb_i (neqs _ _) ?_
                    | (refine vb_i (add64 ?_ ?_) ?_; (· omega); (· omega))
                    | (refine vb_i (sub64 ?_ ?_) ?_; (· omega); (· omega))
                    | (refine vb_i (mul64 ?_ ?_) ?_; (· omega); (· omega))
                    | (refine vb_i (quo64 ?_ ?_ ?_) ?_; (· omega); (· omega); (· omega))
                    | (refine vb_i (rem64 ?_ ?_) ?_; (· omega); (· omega))
                    | refine vb_i (e_lenSt _) ?_
                    | refine vb_i (e_lenSl _ _ _) ?_
                    | refine vb_i e_lenNil ?_
                    | refine vb_i (lenSl_view (by assumption)) ?_
                    | refine vb_i (e_ptrNil _ _) ?_
                    | refine vb_i (e_ptrNilN _ _) ?_
                    | refine vb_i (e_nilNil _) ?_
                    | refine vb_i (e_nilNilN _) ?_
                    | refine vb_i (e_pickT _ _) ?_
                    | refine vb_i (e_pickF _ _) ?_
                    | refine vb_i e_notd ?_
                    | refine vb_i e_boolNe ?_
                    | refine vb_i e_boolEq ?_
                    | refine vb_i (e_not _) ?_
                    | refine vb_i (e_nilCheck _) ?_
                    | refine vb_i (e_fieldAddr _ _) ?_
                    | refine hb_i (e_alloc _ _) ?_
                    | (refine vb_i (adds ?_) ?_; (· first | omega | (simp only [List.length_cons, List.length_nil, List.length_append]; omega)))
                    with_reducible refine vb_i h1 ?_
                    with_reducible refine vb_i h2 ?_
                    repeat with_reducible first
                    | refine isB_T ?_
                    | refine isB_F ?_
                    | (refine isB_ct ?_ ?_; (· first | omega | rfl | assumption))
                    | (refine isB_cf ?_ ?_; (· first | omega | assumption))
                    | refine onE_i ?_
                    | (refine onE_s ?_ ?_; (· decide))
                    | refine vb_i e_ext0 ?_
                    | refine vb_i e_ext1 ?_
                    | refine vb_i e_ext2 ?_
                    | refine vb_i (lss64 _ _ _) ?_
                    | refine vb_i (leq64 _ _ _) ?_
                    | refine vb_i (gtr64 _ _ _) ?_
                    | refine vb_i (geq64 _ _ _) ?_
                    | refine vb_i (eql64 _ _ _) ?_
                    | refine vb_i (neq64 _ _ _) ?_
                    | refine vb_i (eqls _ _) ?_
                    | refine vb_i (neqs _ _) ?_
                    | (refine vb_i (add64 ?_ ?_) ?_; (· omega); (· omega))
                    | (refine vb_i (sub64 ?_ ?_) ?_; (· omega); (· omega))
                    | (refine vb_i (mul64 ?_ ?_) ?_; (· omega); (· omega))
                    | (refine vb_i (quo64 ?_ ?_ ?_) ?_; (· omega); (· omega); (· omega))
                    | (refine vb_i (rem64 ?_ ?_) ?_; (· omega); (· omega))
                    | refine vb_i (e_lenSt _) ?_
                    | refine vb_i (e_lenSl _ _ _) ?_
                    | refine vb_i e_lenNil ?_
                    | refine vb_i (lenSl_view (by assumption)) ?_
                    | refine vb_i (e_ptrNil _ _) ?_
                    | refine vb_i (e_ptrNilN _ _) ?_
                    | refine vb_i (e_nilNil _) ?_
                    | refine vb_i (e_nilNilN _) ?_
                    | refine vb_i (e_pickT _ _) ?_
                    | refine vb_i (e_pickF _ _) ?_
                    | refine vb_i e_notd ?_
                    | refine vb_i e_boolNe ?_
                    | refine vb_i e_boolEq ?_
                    | refine vb_i (e_not _) ?_
                    | refine vb_i (e_nilCheck _) ?_
                    | refine vb_i (e_fieldAddr _ _) ?_
                    | refine hb_i (e_alloc _ _) ?_
                    | (refine vb_i (adds ?_) ?_; (· first | omega | (simp only [List.length_cons, List.length_nil, List.length_append]; omega)))
                    refine isB_c (fun h3 => ?_) (fun h3 => ?_)
                    · have hs0 : v7 = ((up m k + 1) % 2 : Nat) ∧ v8 = 0 := by
                        rw [← h3, side_path m hm hk] at hside
                        simpa [eq_comm] using hside
                      obtain ⟨rfl, rfl⟩ := hs0
                      repeat with_reducible first
                      | refine isB_T ?_
                      | refine isB_F ?_
                      | (refine isB_ct ?_ ?_; (· first | omega | rfl | assumption))
                      | (refine isB_cf ?_ ?_; (· first | omega | assumption))
                      | refine onE_i ?_
                      | (refine onE_s ?_ ?_; (· decide))
                      | refine vb_i e_ext0 ?_
                      | refine vb_i e_ext1 ?_
                      | refine vb_i e_ext2 ?_
                      | refine vb_i (lss64 _ _ _) ?_
                      | refine vb_i (leq64 _ _ _) ?_
                      | refine vb_i (gtr64 _ _ _) ?_
                      | refine vb_i (geq64 _ _ _) ?_
                      | refine vb_i (eql64 _ _ _) ?_
                      | refine vb_i (neq64 _ _ _) ?_
                      | refine vb_i (eqls _ _) ?_
                      | refine vb_i (neqs _ _) ?_
                      | (refine vb_i (add64 ?_ ?_) ?_; (· omega); (· omega))
                      | (refine vb_i (sub64 ?_ ?_) ?_; (· omega); (· omega))
                      | (refine vb_i (mul64 ?_ ?_) ?_; (· omega); (· omega))
                      | (refine vb_i (quo64 ?_ ?_ ?_) ?_; (· omega); (· omega); (· omega))
                      | (refine vb_i (rem64 ?_ ?_) ?_; (· omega); (· omega))
                      | refine vb_i (e_lenSt _) ?_
                      | refine vb_i (e_lenSl _ _ _) ?_
                      | refine vb_i e_lenNil ?_
                      | refine vb_i (lenSl_view (by assumption)) ?_
                      | refine vb_i (e_ptrNil _ _) ?_
                      | refine vb_i (e_ptrNilN _ _) ?_
                      | refine vb_i (e_nilNil _) ?_
                      | refine vb_i (e_nilNilN _) ?_
                      | refine vb_i (e_pickT _ _) ?_
                      | refine vb_i (e_pickF _ _) ?_
                      | refine vb_i e_notd ?_
                      | refine vb_i e_boolNe ?_
                      | refine vb_i e_boolEq ?_
                      | refine vb_i (e_not _) ?_
                      | refine vb_i (e_nilCheck _) ?_
                      | refine vb_i (e_fieldAddr _ _) ?_
                      | refine hb_i (e_alloc _ _) ?_
                      | (refine vb_i (adds ?_) ?_; (· first | omega | (simp only [List.length_cons, List.length_nil, List.length_append]; omega)))
                      refine hnx (k, true) _ ⟨rfl, by simp only; omega, ?_⟩ (by simp only; omega)
                      simp only [true_iff]
                      exact ⟨k, Nat.le_refl _, hk, h3⟩
                    · repeat with_reducible first
                      | refine isB_T ?_
                      | refine isB_F ?_
                      | (refine isB_ct ?_ ?_; (· first | omega | rfl | assumption))
                      | (refine isB_cf ?_ ?_; (· first | omega | assumption))
                      | refine onE_i ?_
                      | (refine onE_s ?_ ?_; (· decide))
                      | refine vb_i e_ext0 ?_
                      | refine vb_i e_ext1 ?_
                      | refine vb_i e_ext2 ?_
                      | refine vb_i (lss64 _ _ _) ?_
                      | refine vb_i (leq64 _ _ _) ?_
                      | refine vb_i (gtr64 _ _ _) ?_
                      | refine vb_i (geq64 _ _ _) ?_
                      | refine vb_i (eql64 _ _ _) ?_
                      | refine vb_i (neq64 _ _ _) ?_
                      | refine vb_i (eqls _ _) ?_
                      | refine vb_i (neqs _ _) ?_
                      | (refine vb_i (add64 ?_ ?_) ?_; (· omega); (· omega))
                      | (refine vb_i (sub64 ?_ ?_) ?_; (· omega); (· omega))
                      | (refine vb_i (mul64 ?_ ?_) ?_; (· omega); (· omega))
                      | (refine vb_i (quo64 ?_ ?_ ?_) ?_; (· omega); (· omega); (· omega))
                      | (refine vb_i (rem64 ?_ ?_) ?_; (· omega); (· omega))
                      | refine vb_i (e_lenSt _) ?_
                      | refine vb_i (e_lenSl _ _ _) ?_
                      | refine vb_i e_lenNil ?_
                      | refine vb_i (lenSl_view (by assumption)) ?_
                      | refine vb_i (e_ptrNil _ _) ?_
                      | refine vb_i (e_ptrNilN _ _) ?_
                      | refine vb_i (e_nilNil _) ?_
                      | refine vb_i (e_nilNilN _) ?_
                      | refine vb_i (e_pickT _ _) ?_
                      | refine vb_i (e_pickF _ _) ?_
                      | refine vb_i e_notd ?_
                      | refine vb_i e_boolNe ?_
                      | refine vb_i e_boolEq ?_
                      | refine vb_i (e_not _) ?_
                      | refine vb_i (e_nilCheck _) ?_
                      | refine vb_i (e_fieldAddr _ _) ?_
                      | refine hb_i (e_alloc _ _) ?_
                      | (refine vb_i (adds ?_) ?_; (· first | omega | (simp only [List.length_cons, List.length_nil, List.length_append]; omega)))
                      refine hnx (k, t) _ ⟨rfl, by simp only; omega, ?_⟩ (by simp only; omega)
                      simp only
                      rw [ht]
                      constructor
                      · rintro ⟨j, j1, j2, j3⟩; exact ⟨j, by omega, j2, j3⟩
                      · rintro ⟨j, j1, j2, j3⟩
                        refine ⟨j, ?_, j2, j3⟩
                        by_cases hj : j = k
                        · subst hj; exact absurd j3 h3
                        · omega
end Go.Sh

/- Functions that leave what was there as it was. -/
namespace Go.Sh
open Go Go.Abs

theorem cellaretref01_Zeros.quiet {args : List AVal} {H : AHeap} {r : AVal} {H' : AHeap} (h : S_cellaretref01_Zeros args H r H') : H <+: H' := by
  unfold S_cellaretref01_Zeros at h; grind [pre_app, pre_of_eq, newO]
theorem cellaretref01_Ints.quiet {args : List AVal} {H : AHeap} {r : AVal} {H' : AHeap} (h : S_cellaretref01_Ints args H r H') : H <+: H' := by
  unfold S_cellaretref01_Ints at h; grind [pre_app, pre_of_eq, newO]
theorem node_Path.quiet {args : List AVal} {H : AHeap} {r : AVal} {H' : AHeap} (h : S_node_Path args H r H') : H <+: H' := by
  unfold S_node_Path at h; grind [pre_app, pre_of_eq, newO]
theorem node_Side.quiet {args : List AVal} {H : AHeap} {r : AVal} {H' : AHeap} (h : S_node_Side args H r H') : H <+: H' := by
  unfold S_node_Side at h; grind [pre_app, pre_of_eq, newO]
theorem node_Below.quiet {args : List AVal} {H : AHeap} {r : AVal} {H' : AHeap} (h : S_node_Below args H r H') : H <+: H' := by
  unfold S_node_Below at h; grind [pre_app, pre_of_eq, newO]
theorem node_may.quiet {args : List AVal} {H : AHeap} {r : AVal} {H' : AHeap} (h : S_node_may args H r H') : H <+: H' := by
  unfold S_node_may at h; grind [pre_app, pre_of_eq, newO]
theorem node_Split.quiet {args : List AVal} {H : AHeap} {r : AVal} {H' : AHeap} (h : S_node_Split args H r H') : H <+: H' := by
  unfold S_node_Split at h; grind [pre_app, pre_of_eq, newO]
theorem node_With.quiet {args : List AVal} {H : AHeap} {r : AVal} {H' : AHeap} (h : S_node_With args H r H') : H <+: H' := by
  unfold S_node_With at h; grind [pre_app, pre_of_eq, newO]
theorem cellaretlaw17_awake.quiet {args : List AVal} {H : AHeap} {r : AVal} {H' : AHeap} (h : S_cellaretlaw17_awake args H r H') : H <+: H' := by
  unfold S_cellaretlaw17_awake at h; grind [pre_app, pre_of_eq, newO]
theorem cellaretlaw17_NodePaths.quiet {args : List AVal} {H : AHeap} {r : AVal} {H' : AHeap} (h : S_cellaretlaw17_NodePaths args H r H') : H <+: H' := by
  unfold S_cellaretlaw17_NodePaths at h; grind [pre_app, pre_of_eq, newO]
theorem cellaretlaw17_NodeSplits.quiet {args : List AVal} {H : AHeap} {r : AVal} {H' : AHeap} (h : S_cellaretlaw17_NodeSplits args H r H') : H <+: H' := by
  unfold S_cellaretlaw17_NodeSplits at h; grind [pre_app, pre_of_eq, newO]
theorem cellaretlaw17_NodeSums.quiet {args : List AVal} {H : AHeap} {r : AVal} {H' : AHeap} (h : S_cellaretlaw17_NodeSums args H r H') : H <+: H' := by
  unfold S_cellaretlaw17_NodeSums at h; grind [pre_app, pre_of_eq, newO]
theorem oracle_New.quiet {args : List AVal} {H : AHeap} {r : AVal} {H' : AHeap} (h : S_oracle_New args H r H') : H <+: H' := by
  unfold S_oracle_New at h; grind [pre_app, pre_of_eq, newO]
theorem oracle_Oracle_Len.quiet {args : List AVal} {H : AHeap} {r : AVal} {H' : AHeap} (h : S_oracle_Oracle_Len args H r H') : H <+: H' := by
  unfold S_oracle_Oracle_Len at h; grind [pre_app, pre_of_eq, newO]
theorem oracle_Oracle_Input.quiet {args : List AVal} {H : AHeap} {r : AVal} {H' : AHeap} (h : S_oracle_Oracle_Input args H r H') : H <+: H' := by
  unfold S_oracle_Oracle_Input at h; grind [pre_app, pre_of_eq, newO]
end Go.Sh
