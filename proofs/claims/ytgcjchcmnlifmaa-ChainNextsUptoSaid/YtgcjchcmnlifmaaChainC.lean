/- One text of these: ChainP7, ChainQ2. -/
import Derived.Test.YtgcjchcmnlifmaaChainB

/- The laws of chains, 4. -/
namespace Go.Sh
open Go Go.Abs

def nextV (a : List UInt8) (l : List (List UInt8)) : List UInt8 := if good l then sum (nextT a l) else zs 32
def nextE (l : List (List UInt8)) : Int := if good l then 0 else 6
theorem nextV_len (a : List UInt8) (l : List (List UInt8)) : (nextV a l).length = 32 := by
  unfold nextV; split
  · exact sum_len _
  · exact zs32_len
theorem RunN.Next {A C : AHeap} {own : Nat → Prop} {T : List (List UInt8)} (h : RunN A C own T) (hT : T.length ≤ 1000) {a : List UInt8} {l : List (List UInt8)} {x : AVal} (ha : a.length = 32) (hN : NArgs C x l) :
    ∃ C2 T2, S_chain_Next [.ptr ⟨A.length + 1, 0, 0⟩, .agg (a.map ofByte), x] C (.tup [.agg ((nextV a l).map ofByte), .int .i64 (nextE l)]) C2 ∧ RunN A C2 own T2 ∧ T2.length ≤ T.length + 1 ∧ ∀ k, own k → C2[k]? = C[k]? := by
  by_cases hg : good l
  · obtain ⟨C2, hO, hr, _, hk⟩ := h.call (ss := [nextT a l]) (by simp; omega) (by simpa using good_short ha hg)
    refine ⟨C2, _, ⟨_, x, a, l, rfl, ha, hN, .inr ⟨hg, by rw [nextV, nextE, if_pos hg, if_pos hg], hO⟩⟩, hr, ?_, hk⟩
    have := keepTs_len [nextT a l] T; simp at this; omega
  · exact ⟨C, T, ⟨_, x, a, l, rfl, ha, hN, .inl ⟨hg, by rw [nextV, nextE, if_neg hg, if_neg hg, zero32_zs], rfl⟩⟩, h, by omega, fun _ _ => rfl⟩
theorem law_next {B : AHeap} {a : List UInt8} {l : List (List UInt8)} {x : AVal} (ha : a.length = 32) (hN : NArgs B x l) :
    S_cellaretlaw14_next [.agg (a.map ofByte), x] B (.tup [.agg ((nextV a l).map ofByte), .int .i64 (nextE l)]) B := by
  refine ⟨x, a, l, rfl, ha, hN, rfl, ?_⟩
  by_cases hg : good l
  · rw [nextV, nextE, if_pos hg, if_pos hg, if_pos hg]
  · rw [nextV, nextE, if_neg hg, if_neg hg, if_neg hg, zero32_zs]
def twoE (l m : List (List UInt8)) : Int := if nextE l = 0 then nextE m else nextE l
def twoW (a : List UInt8) (l m : List (List UInt8)) : List UInt8 := if nextE l = 0 then nextV (nextV a l) m else nextV a l
def twoV (a : List UInt8) (l m : List (List UInt8)) : List UInt8 := if twoE l m = 0 then twoW a l m else zs 32
theorem twoW_len (a : List UInt8) (l m : List (List UInt8)) : (twoW a l m).length = 32 := by
  unfold twoW; split <;> exact nextV_len _ _
theorem twoV_len (a : List UInt8) (l m : List (List UInt8)) : (twoV a l m).length = 32 := by
  unfold twoV; split
  · exact twoW_len _ _ _
  · exact zs32_len
theorem along_two (a : List UInt8) (l m : List (List UInt8)) :
    (match alongR a [l, m] with | some b => AVal.tup [.agg (b.map ofByte), .int .i64 0] | none => .tup [zero32, .int .i64 6]) = .tup [.agg ((twoV a l m).map ofByte), .int .i64 (twoE l m)] := by
  by_cases hg : good l
  · by_cases hm : good m
    · simp [alongR, twoV, twoE, twoW, nextV, nextE, hg, hm]
    · simp [alongR, twoV, twoE, twoW, nextV, nextE, hg, hm, zero32_zs]
  · simp [alongR, twoV, twoE, twoW, nextV, nextE, hg, zero32_zs]
theorem slice_cells {B : AHeap} {x : AVal} {es n : Nat} {cs : List AVal} (h : View B x es n cs) : x = .nils ∨ ∃ r n c, x = .slice r n c := by
  rcases h.2 with ⟨rfl, _⟩ | ⟨i, v, off, c, kd, cs', rfl, _⟩
  · exact .inl rfl
  · exact .inr ⟨_, _, _, rfl⟩
theorem two_slices (H : AHeap) {B : AHeap} {x y : AVal} {n m : Nat} {cs ds : List AVal} (h : View B x 1 n cs) (k : View B y 1 m ds) :
    aBuildSlice H 1 [.nils] 2 [(0, x), (1, y)] = some (.slice ⟨H.length, 0, 0⟩ 2 (.ex 2), H ++ [.cells 0 .exact [x, y]]) := by
  rcases slice_cells h with rfl | ⟨_, _, _, rfl⟩ <;> rcases slice_cells k with rfl | ⟨_, _, _, rfl⟩ <;> rfl

theorem cellaretlaw14_ChainNexts.ok (args : List AVal) (H : AHeap) (r : AVal) (H' : AHeap) (h : S_cellaretlaw14_ChainNexts args H r H') : ∃ x0 x1 x2, args = [x0, x1, x2] ∧ cellaretlaw14_ChainNexts.w x0 x1 x2 H fun r1 H1 => Weak H r1 H1 r H' := by
  obtain ⟨a, x, y, l, m, rfl, ha, hx, hy, rfl, rfl⟩ := h
  refine ⟨_, _, _, rfl, ?_⟩
  unfold cellaretlaw14_ChainNexts.w
  have hcl : ∀ b : List UInt8, (AVal.agg (b.map ofByte)).cells = b.map ofByte := fun _ => rfl
  have vx := hx.v
  have vy := hy.v
  have hxl := hx.hl
  have hyl := hy.hl
  refine hb_i (e_box rfl) ?_
  rw [hcl]
  have g0 : (H' ++ [AObj.cells 0 .exact (a.map ofByte)])[H'.length]? = some (.cells 0 .exact (a.map ofByte)) := by rw [app_get0]; rfl
  have p0 : H' <+: H' ++ [AObj.cells 0 .exact (a.map ofByte)] := pre_app _ _
  generalize H' ++ [AObj.cells 0 .exact (a.map ofByte)] = A at *
  have ham : (a.map ofByte).length = 32 := by rw [List.length_map]; exact ha
  refine JoinP.mk (fun e vs B => B = A ∧ ((e = .ret ∧ vs = [.bool true]) ∨ (e = .normal ∧ vs = [.bool false]))) ?_ ?_
  · repeat with_reducible first
    | refine isB_T ?_
    | refine isB_F ?_
    | (refine isB_ct ?_ ?_; (· first | omega | rfl | assumption | trivial))
    | (refine isB_cf ?_ ?_; (· first | omega | assumption))
    | refine onE_i ?_
    | (refine onE_s ?_ ?_; (· decide))
    | refine vb_i e_ext0 ?_
    | refine vb_i e_ext1 ?_
    | refine vb_i e_ext2 ?_
    | refine vb_i (lss64 _ _ _) ?_
    | refine vb_i (leq64 _ _ _) ?_
    | refine vb_i (gtr64 _ _ _) ?_
    | refine vb_i (geq64 _ _ _) ?_
    | refine vb_i (eql64 _ _ _) ?_
    | refine vb_i (neq64 _ _ _) ?_
    | refine vb_i (eqls _ _) ?_
    | refine vb_i (neqs _ _) ?_
    | (refine vb_i (add64 ?_ ?_) ?_; (· omega); (· omega))
    | (refine vb_i (sub64 ?_ ?_) ?_; (· omega); (· omega))
    | (refine vb_i (mul64 ?_ ?_) ?_; (· omega); (· omega))
    | (refine vb_i (quo64 ?_ ?_ ?_) ?_; (· omega); (· omega); (· omega))
    | (refine vb_i (rem64 ?_ ?_) ?_; (· omega); (· omega))
    | refine vb_i (e_lenSt _) ?_
    | refine vb_i (e_lenSl _ _ _) ?_
    | refine vb_i e_lenNil ?_
    | refine vb_i (lenSl_view (by assumption)) ?_
    | refine vb_i (e_ptrNil _ _) ?_
    | refine vb_i (e_ptrNilN _ _) ?_
    | refine vb_i (e_nilNil _) ?_
    | refine vb_i (e_nilNilN _) ?_
    | refine vb_i (e_pickT _ _) ?_
    | refine vb_i (e_pickF _ _) ?_
    | refine vb_i e_notd ?_
    | refine vb_i e_boolNe ?_
    | refine vb_i e_boolEq ?_
    | refine vb_i (e_not _) ?_
    | refine vb_i (e_nilCheck _) ?_
    | refine vb_i (e_fieldAddr _ _) ?_
    | refine hb_i (e_alloc _ _) ?_
    | (refine vb_i (adds ?_) ?_; (· first | omega | (simp only [List.length_cons, List.length_nil, List.length_append]; omega)))
    refine isB_c (fun h1 => ?_) (fun h1 => ?_)
    · refine cb_i _ _ ⟨rfl, rfl, rfl⟩ ?_
      exact ⟨rfl, .inl ⟨rfl, rfl⟩⟩
    · repeat with_reducible first
      | refine isB_T ?_
      | refine isB_F ?_
      | (refine isB_ct ?_ ?_; (· first | omega | rfl | assumption | trivial))
      | (refine isB_cf ?_ ?_; (· first | omega | assumption))
      | refine onE_i ?_
      | (refine onE_s ?_ ?_; (· decide))
      | refine vb_i e_ext0 ?_
      | refine vb_i e_ext1 ?_
      | refine vb_i e_ext2 ?_
      | refine vb_i (lss64 _ _ _) ?_
      | refine vb_i (leq64 _ _ _) ?_
      | refine vb_i (gtr64 _ _ _) ?_
      | refine vb_i (geq64 _ _ _) ?_
      | refine vb_i (eql64 _ _ _) ?_
      | refine vb_i (neq64 _ _ _) ?_
      | refine vb_i (eqls _ _) ?_
      | refine vb_i (neqs _ _) ?_
      | (refine vb_i (add64 ?_ ?_) ?_; (· omega); (· omega))
      | (refine vb_i (sub64 ?_ ?_) ?_; (· omega); (· omega))
      | (refine vb_i (mul64 ?_ ?_) ?_; (· omega); (· omega))
      | (refine vb_i (quo64 ?_ ?_ ?_) ?_; (· omega); (· omega); (· omega))
      | (refine vb_i (rem64 ?_ ?_) ?_; (· omega); (· omega))
      | refine vb_i (e_lenSt _) ?_
      | refine vb_i (e_lenSl _ _ _) ?_
      | refine vb_i e_lenNil ?_
      | refine vb_i (lenSl_view (by assumption)) ?_
      | refine vb_i (e_ptrNil _ _) ?_
      | refine vb_i (e_ptrNilN _ _) ?_
      | refine vb_i (e_nilNil _) ?_
      | refine vb_i (e_nilNilN _) ?_
      | refine vb_i (e_pickT _ _) ?_
      | refine vb_i (e_pickF _ _) ?_
      | refine vb_i e_notd ?_
      | refine vb_i e_boolNe ?_
      | refine vb_i e_boolEq ?_
      | refine vb_i (e_not _) ?_
      | refine vb_i (e_nilCheck _) ?_
      | refine vb_i (e_fieldAddr _ _) ?_
      | refine hb_i (e_alloc _ _) ?_
      | (refine vb_i (adds ?_) ?_; (· first | omega | (simp only [List.length_cons, List.length_nil, List.length_append]; omega)))
      refine isB_c (fun h2 => ?_) (fun h2 => ?_)
      · refine cb_i _ _ ⟨rfl, rfl, rfl⟩ ?_
        exact ⟨rfl, .inl ⟨rfl, rfl⟩⟩
      · exact ⟨rfl, .inr ⟨rfl, rfl⟩⟩
  · rintro _ _ B ⟨rfl, ⟨rfl, rfl⟩ | ⟨rfl, rfl⟩⟩
    · repeat with_reducible first
      | refine isB_T ?_
      | refine isB_F ?_
      | (refine isB_ct ?_ ?_; (· first | omega | rfl | assumption | trivial))
      | (refine isB_cf ?_ ?_; (· first | omega | assumption))
      | refine onE_i ?_
      | (refine onE_s ?_ ?_; (· decide))
      | refine vb_i e_ext0 ?_
      | refine vb_i e_ext1 ?_
      | refine vb_i e_ext2 ?_
      | refine vb_i (lss64 _ _ _) ?_
      | refine vb_i (leq64 _ _ _) ?_
      | refine vb_i (gtr64 _ _ _) ?_
      | refine vb_i (geq64 _ _ _) ?_
      | refine vb_i (eql64 _ _ _) ?_
      | refine vb_i (neq64 _ _ _) ?_
      | refine vb_i (eqls _ _) ?_
      | refine vb_i (neqs _ _) ?_
      | (refine vb_i (add64 ?_ ?_) ?_; (· omega); (· omega))
      | (refine vb_i (sub64 ?_ ?_) ?_; (· omega); (· omega))
      | (refine vb_i (mul64 ?_ ?_) ?_; (· omega); (· omega))
      | (refine vb_i (quo64 ?_ ?_ ?_) ?_; (· omega); (· omega); (· omega))
      | (refine vb_i (rem64 ?_ ?_) ?_; (· omega); (· omega))
      | refine vb_i (e_lenSt _) ?_
      | refine vb_i (e_lenSl _ _ _) ?_
      | refine vb_i e_lenNil ?_
      | refine vb_i (lenSl_view (by assumption)) ?_
      | refine vb_i (e_ptrNil _ _) ?_
      | refine vb_i (e_ptrNilN _ _) ?_
      | refine vb_i (e_nilNil _) ?_
      | refine vb_i (e_nilNilN _) ?_
      | refine vb_i (e_pickT _ _) ?_
      | refine vb_i (e_pickF _ _) ?_
      | refine vb_i e_notd ?_
      | refine vb_i e_boolNe ?_
      | refine vb_i e_boolEq ?_
      | refine vb_i (e_not _) ?_
      | refine vb_i (e_nilCheck _) ?_
      | refine vb_i (e_fieldAddr _ _) ?_
      | refine hb_i (e_alloc _ _) ?_
      | (refine vb_i (adds ?_) ?_; (· first | omega | (simp only [List.length_cons, List.length_nil, List.length_append]; omega)))
      exact fin_bool rfl p0
    · have hv := nextV_len a l
      have gN : (newO B)[H'.length]? = some (.cells 0 .exact (a.map ofByte)) := by rw [pre_get (pre_newO B) (lt_of_some g0)]; exact g0
      repeat with_reducible first
      | refine isB_T ?_
      | refine isB_F ?_
      | (refine isB_ct ?_ ?_; (· first | omega | rfl | assumption | trivial))
      | (refine isB_cf ?_ ?_; (· first | omega | assumption))
      | refine onE_i ?_
      | (refine onE_s ?_ ?_; (· decide))
      | refine vb_i e_ext0 ?_
      | refine vb_i e_ext1 ?_
      | refine vb_i e_ext2 ?_
      | refine vb_i (lss64 _ _ _) ?_
      | refine vb_i (leq64 _ _ _) ?_
      | refine vb_i (gtr64 _ _ _) ?_
      | refine vb_i (geq64 _ _ _) ?_
      | refine vb_i (eql64 _ _ _) ?_
      | refine vb_i (neq64 _ _ _) ?_
      | refine vb_i (eqls _ _) ?_
      | refine vb_i (neqs _ _) ?_
      | (refine vb_i (add64 ?_ ?_) ?_; (· omega); (· omega))
      | (refine vb_i (sub64 ?_ ?_) ?_; (· omega); (· omega))
      | (refine vb_i (mul64 ?_ ?_) ?_; (· omega); (· omega))
      | (refine vb_i (quo64 ?_ ?_ ?_) ?_; (· omega); (· omega); (· omega))
      | (refine vb_i (rem64 ?_ ?_) ?_; (· omega); (· omega))
      | refine vb_i (e_lenSt _) ?_
      | refine vb_i (e_lenSl _ _ _) ?_
      | refine vb_i e_lenNil ?_
      | refine vb_i (lenSl_view (by assumption)) ?_
      | refine vb_i (e_ptrNil _ _) ?_
      | refine vb_i (e_ptrNilN _ _) ?_
      | refine vb_i (e_nilNil _) ?_
      | refine vb_i (e_nilNilN _) ?_
      | refine vb_i (e_pickT _ _) ?_
      | refine vb_i (e_pickF _ _) ?_
      | refine vb_i e_notd ?_
      | refine vb_i e_boolNe ?_
      | refine vb_i e_boolEq ?_
      | refine vb_i (e_not _) ?_
      | refine vb_i (e_nilCheck _) ?_
      | refine vb_i (e_fieldAddr _ _) ?_
      | refine hb_i (e_alloc _ _) ?_
      | (refine vb_i (adds ?_) ?_; (· first | omega | (simp only [List.length_cons, List.length_nil, List.length_append]; omega)))
      refine JoinP.mk (fun e vs D => e = .normal ∧ ∃ k1, vs = [.ptr ⟨k1, 0, 0⟩, .int .i64 (nextE l)] ∧ D[k1]? = some (.cells 0 .exact ((nextV a l).map ofByte)) ∧ B <+: D) ⟨?_, ?_⟩ ?_
      · refine cb_i _ _ ⟨rfl, rfl, rfl⟩ ?_
        refine vb_i (e_loadAll gN ham) ?_
        obtain ⟨C2, _, hS, r2, _, _⟩ := (RunN.start B).Next (by simp) ha (hx.pre (p0.trans (pre_newO B)))
        refine cb_i _ _ hS ?_
        repeat with_reducible first
        | refine isB_T ?_
        | refine isB_F ?_
        | (refine isB_ct ?_ ?_; (· first | omega | rfl | assumption | trivial))
        | (refine isB_cf ?_ ?_; (· first | omega | assumption))
        | refine onE_i ?_
        | (refine onE_s ?_ ?_; (· decide))
        | refine vb_i e_ext0 ?_
        | refine vb_i e_ext1 ?_
        | refine vb_i e_ext2 ?_
        | refine vb_i (lss64 _ _ _) ?_
        | refine vb_i (leq64 _ _ _) ?_
        | refine vb_i (gtr64 _ _ _) ?_
        | refine vb_i (geq64 _ _ _) ?_
        | refine vb_i (eql64 _ _ _) ?_
        | refine vb_i (neq64 _ _ _) ?_
        | refine vb_i (eqls _ _) ?_
        | refine vb_i (neqs _ _) ?_
        | (refine vb_i (add64 ?_ ?_) ?_; (· omega); (· omega))
        | (refine vb_i (sub64 ?_ ?_) ?_; (· omega); (· omega))
        | (refine vb_i (mul64 ?_ ?_) ?_; (· omega); (· omega))
        | (refine vb_i (quo64 ?_ ?_ ?_) ?_; (· omega); (· omega); (· omega))
        | (refine vb_i (rem64 ?_ ?_) ?_; (· omega); (· omega))
        | refine vb_i (e_lenSt _) ?_
        | refine vb_i (e_lenSl _ _ _) ?_
        | refine vb_i e_lenNil ?_
        | refine vb_i (lenSl_view (by assumption)) ?_
        | refine vb_i (e_ptrNil _ _) ?_
        | refine vb_i (e_ptrNilN _ _) ?_
        | refine vb_i (e_nilNil _) ?_
        | refine vb_i (e_nilNilN _) ?_
        | refine vb_i (e_pickT _ _) ?_
        | refine vb_i (e_pickF _ _) ?_
        | refine vb_i e_notd ?_
        | refine vb_i e_boolNe ?_
        | refine vb_i e_boolEq ?_
        | refine vb_i (e_not _) ?_
        | refine vb_i (e_nilCheck _) ?_
        | refine vb_i (e_fieldAddr _ _) ?_
        | refine hb_i (e_alloc _ _) ?_
        | (refine vb_i (adds ?_) ?_; (· first | omega | (simp only [List.length_cons, List.length_nil, List.length_append]; omega)))
        with_reducible refine sb_i (store_new List.length_replicate (by rw [List.length_map]; exact hv) (cells_byte _)) ?_
        exact ⟨rfl, _, rfl, by rw [app_get0]; rfl, r2.pre.trans (pre_app _ _)⟩
      · refine cb_i _ _ ⟨rfl, rfl, rfl⟩ ?_
        refine vb_i (e_loadAll gN ham) ?_
        repeat with_reducible first
        | refine isB_T ?_
        | refine isB_F ?_
        | (refine isB_ct ?_ ?_; (· first | omega | rfl | assumption | trivial))
        | (refine isB_cf ?_ ?_; (· first | omega | assumption))
        | refine onE_i ?_
        | (refine onE_s ?_ ?_; (· decide))
        | refine vb_i e_ext0 ?_
        | refine vb_i e_ext1 ?_
        | refine vb_i e_ext2 ?_
        | refine vb_i (lss64 _ _ _) ?_
        | refine vb_i (leq64 _ _ _) ?_
        | refine vb_i (gtr64 _ _ _) ?_
        | refine vb_i (geq64 _ _ _) ?_
        | refine vb_i (eql64 _ _ _) ?_
        | refine vb_i (neq64 _ _ _) ?_
        | refine vb_i (eqls _ _) ?_
        | refine vb_i (neqs _ _) ?_
        | (refine vb_i (add64 ?_ ?_) ?_; (· omega); (· omega))
        | (refine vb_i (sub64 ?_ ?_) ?_; (· omega); (· omega))
        | (refine vb_i (mul64 ?_ ?_) ?_; (· omega); (· omega))
        | (refine vb_i (quo64 ?_ ?_ ?_) ?_; (· omega); (· omega); (· omega))
        | (refine vb_i (rem64 ?_ ?_) ?_; (· omega); (· omega))
        | refine vb_i (e_lenSt _) ?_
        | refine vb_i (e_lenSl _ _ _) ?_
        | refine vb_i e_lenNil ?_
        | refine vb_i (lenSl_view (by assumption)) ?_
        | refine vb_i (e_ptrNil _ _) ?_
        | refine vb_i (e_ptrNilN _ _) ?_
        | refine vb_i (e_nilNil _) ?_
        | refine vb_i (e_nilNilN _) ?_
        | refine vb_i (e_pickT _ _) ?_
        | refine vb_i (e_pickF _ _) ?_
        | refine vb_i e_notd ?_
        | refine vb_i e_boolNe ?_
        | refine vb_i e_boolEq ?_
        | refine vb_i (e_not _) ?_
        | refine vb_i (e_nilCheck _) ?_
        | refine vb_i (e_fieldAddr _ _) ?_
        | refine hb_i (e_alloc _ _) ?_
        | (refine vb_i (adds ?_) ?_; (· first | omega | (simp only [List.length_cons, List.length_nil, List.length_append]; omega)))
        obtain ⟨C2, _, hS, r2, _, hk2⟩ := ((RunN.start B).push (.cells 0 .exact (List.replicate 32 (.int .u8 0)))).Next (by simp) ha (hx.pre ((p0.trans (pre_newO B)).trans (pre_app _ _)))
        refine cb_i _ _ hS ?_
        have gz : C2[(newO B).length]? = some (.cells 0 .exact (List.replicate 32 (.int .u8 0))) := by rw [hk2 _ (.inr rfl), app_get0]; rfl
        repeat with_reducible first
        | refine isB_T ?_
        | refine isB_F ?_
        | (refine isB_ct ?_ ?_; (· first | omega | rfl | assumption | trivial))
        | (refine isB_cf ?_ ?_; (· first | omega | assumption))
        | refine onE_i ?_
        | (refine onE_s ?_ ?_; (· decide))
        | refine vb_i e_ext0 ?_
        | refine vb_i e_ext1 ?_
        | refine vb_i e_ext2 ?_
        | refine vb_i (lss64 _ _ _) ?_
        | refine vb_i (leq64 _ _ _) ?_
        | refine vb_i (gtr64 _ _ _) ?_
        | refine vb_i (geq64 _ _ _) ?_
        | refine vb_i (eql64 _ _ _) ?_
        | refine vb_i (neq64 _ _ _) ?_
        | refine vb_i (eqls _ _) ?_
        | refine vb_i (neqs _ _) ?_
        | (refine vb_i (add64 ?_ ?_) ?_; (· omega); (· omega))
        | (refine vb_i (sub64 ?_ ?_) ?_; (· omega); (· omega))
        | (refine vb_i (mul64 ?_ ?_) ?_; (· omega); (· omega))
        | (refine vb_i (quo64 ?_ ?_ ?_) ?_; (· omega); (· omega); (· omega))
        | (refine vb_i (rem64 ?_ ?_) ?_; (· omega); (· omega))
        | refine vb_i (e_lenSt _) ?_
        | refine vb_i (e_lenSl _ _ _) ?_
        | refine vb_i e_lenNil ?_
        | refine vb_i (lenSl_view (by assumption)) ?_
        | refine vb_i (e_ptrNil _ _) ?_
        | refine vb_i (e_ptrNilN _ _) ?_
        | refine vb_i (e_nilNil _) ?_
        | refine vb_i (e_nilNilN _) ?_
        | refine vb_i (e_pickT _ _) ?_
        | refine vb_i (e_pickF _ _) ?_
        | refine vb_i e_notd ?_
        | refine vb_i e_boolNe ?_
        | refine vb_i e_boolEq ?_
        | refine vb_i (e_not _) ?_
        | refine vb_i (e_nilCheck _) ?_
        | refine vb_i (e_fieldAddr _ _) ?_
        | refine hb_i (e_alloc _ _) ?_
        | (refine vb_i (adds ?_) ?_; (· first | omega | (simp only [List.length_cons, List.length_nil, List.length_append]; omega)))
        with_reducible refine sb_i (store32 gz List.length_replicate (by rw [List.length_map]; exact hv) (cells_byte _)) ?_
        refine ⟨rfl, _, rfl, by rw [List.getElem?_set_self (lt_of_some gz)], ?_⟩
        have hBl := r2.len
        refine pre_of_get (by rw [List.length_set]; omega) fun k hk => ?_
        rw [List.getElem?_set_ne (by rw [newO_len]; omega), pre_get r2.pre hk]
      rintro _ _ D ⟨rfl, k1, rfl, g1, p3⟩
      repeat with_reducible first
      | refine isB_T ?_
      | refine isB_F ?_
      | (refine isB_ct ?_ ?_; (· first | omega | rfl | assumption | trivial))
      | (refine isB_cf ?_ ?_; (· first | omega | assumption))
      | refine onE_i ?_
      | (refine onE_s ?_ ?_; (· decide))
      | refine vb_i e_ext0 ?_
      | refine vb_i e_ext1 ?_
      | refine vb_i e_ext2 ?_
      | refine vb_i (lss64 _ _ _) ?_
      | refine vb_i (leq64 _ _ _) ?_
      | refine vb_i (gtr64 _ _ _) ?_
      | refine vb_i (geq64 _ _ _) ?_
      | refine vb_i (eql64 _ _ _) ?_
      | refine vb_i (neq64 _ _ _) ?_
      | refine vb_i (eqls _ _) ?_
      | refine vb_i (neqs _ _) ?_
      | (refine vb_i (add64 ?_ ?_) ?_; (· omega); (· omega))
      | (refine vb_i (sub64 ?_ ?_) ?_; (· omega); (· omega))
      | (refine vb_i (mul64 ?_ ?_) ?_; (· omega); (· omega))
      | (refine vb_i (quo64 ?_ ?_ ?_) ?_; (· omega); (· omega); (· omega))
      | (refine vb_i (rem64 ?_ ?_) ?_; (· omega); (· omega))
      | refine vb_i (e_lenSt _) ?_
      | refine vb_i (e_lenSl _ _ _) ?_
      | refine vb_i e_lenNil ?_
      | refine vb_i (lenSl_view (by assumption)) ?_
      | refine vb_i (e_ptrNil _ _) ?_
      | refine vb_i (e_ptrNilN _ _) ?_
      | refine vb_i (e_nilNil _) ?_
      | refine vb_i (e_nilNilN _) ?_
      | refine vb_i (e_pickT _ _) ?_
      | refine vb_i (e_pickF _ _) ?_
      | refine vb_i e_notd ?_
      | refine vb_i e_boolNe ?_
      | refine vb_i e_boolEq ?_
      | refine vb_i (e_not _) ?_
      | refine vb_i (e_nilCheck _) ?_
      | refine vb_i (e_fieldAddr _ _) ?_
      | refine hb_i (e_alloc _ _) ?_
      | (refine vb_i (adds ?_) ?_; (· first | omega | (simp only [List.length_cons, List.length_nil, List.length_append]; omega)))
      simp only [evB]
      refine vb_i (e_loadAll (by rw [pre_get p3 (lt_of_some g0)]; exact g0) ham) ?_
      refine hb_i (two_slices _ vx vy) ?_
      have p4 : B <+: D ++ [AObj.cells 0 .exact [x, y]] := p3.trans (pre_app _ _)
      refine cb_i _ _ ⟨_, _, a, [x, y], [l, m], rfl, ha, ⟨view_ex (n := 2) (app_get0 _ _) rfl, by simp, ?_, fun _ _ _ _ _ _ e => (by cases e), fun _ _ _ _ _ _ _ _ e => by cases e⟩, (along_two a l m).symm, .inl ⟨rfl, rfl⟩⟩ ?_
      · intro i hi
        have : i = 0 ∨ i = 1 := by simp at hi; omega
        rcases this with rfl | rfl
        · exact hx.pre (p0.trans p4)
        · exact hy.pre (p0.trans p4)
      have hw := twoV_len a l m
      have g2 : (D ++ [AObj.cells 0 .exact [x, y]])[k1]? = some (.cells 0 .exact ((nextV a l).map ofByte)) := by rw [pre_get (pre_app _ _) (lt_of_some g1)]; exact g1
      generalize D ++ [AObj.cells 0 .exact [x, y]] = E at *
      repeat with_reducible first
      | refine isB_T ?_
      | refine isB_F ?_
      | (refine isB_ct ?_ ?_; (· first | omega | rfl | assumption | trivial))
      | (refine isB_cf ?_ ?_; (· first | omega | assumption))
      | refine onE_i ?_
      | (refine onE_s ?_ ?_; (· decide))
      | refine vb_i e_ext0 ?_
      | refine vb_i e_ext1 ?_
      | refine vb_i e_ext2 ?_
      | refine vb_i (lss64 _ _ _) ?_
      | refine vb_i (leq64 _ _ _) ?_
      | refine vb_i (gtr64 _ _ _) ?_
      | refine vb_i (geq64 _ _ _) ?_
      | refine vb_i (eql64 _ _ _) ?_
      | refine vb_i (neq64 _ _ _) ?_
      | refine vb_i (eqls _ _) ?_
      | refine vb_i (neqs _ _) ?_
      | (refine vb_i (add64 ?_ ?_) ?_; (· omega); (· omega))
      | (refine vb_i (sub64 ?_ ?_) ?_; (· omega); (· omega))
      | (refine vb_i (mul64 ?_ ?_) ?_; (· omega); (· omega))
      | (refine vb_i (quo64 ?_ ?_ ?_) ?_; (· omega); (· omega); (· omega))
      | (refine vb_i (rem64 ?_ ?_) ?_; (· omega); (· omega))
      | refine vb_i (e_lenSt _) ?_
      | refine vb_i (e_lenSl _ _ _) ?_
      | refine vb_i e_lenNil ?_
      | refine vb_i (lenSl_view (by assumption)) ?_
      | refine vb_i (e_ptrNil _ _) ?_
      | refine vb_i (e_ptrNilN _ _) ?_
      | refine vb_i (e_nilNil _) ?_
      | refine vb_i (e_nilNilN _) ?_
      | refine vb_i (e_pickT _ _) ?_
      | refine vb_i (e_pickF _ _) ?_
      | refine vb_i e_notd ?_
      | refine vb_i e_boolNe ?_
      | refine vb_i e_boolEq ?_
      | refine vb_i (e_not _) ?_
      | refine vb_i (e_nilCheck _) ?_
      | refine vb_i (e_fieldAddr _ _) ?_
      | refine hb_i (e_alloc _ _) ?_
      | (refine vb_i (adds ?_) ?_; (· first | omega | (simp only [List.length_cons, List.length_nil, List.length_append]; omega)))
      with_reducible refine sb_i (store_new List.length_replicate (by rw [List.length_map]; exact hw) (cells_byte _)) ?_
      have g3 : (E ++ [AObj.cells 0 .exact ((twoV a l m).map ofByte)])[k1]? = some (.cells 0 .exact ((nextV a l).map ofByte)) := by rw [pre_get (pre_app _ _) (lt_of_some g2)]; exact g2
      have g4 : (E ++ [AObj.cells 0 .exact ((twoV a l m).map ofByte)])[E.length]? = some (.cells 0 .exact ((twoV a l m).map ofByte)) := by rw [app_get0]; rfl
      have p5 : B <+: E ++ [AObj.cells 0 .exact ((twoV a l m).map ofByte)] := p4.trans (pre_app _ _)
      generalize hK2 : E.length = k2 at *
      generalize E ++ [AObj.cells 0 .exact ((twoV a l m).map ofByte)] = F at *
      refine vb_i (e_loadAll (by rw [pre_get p5 (lt_of_some g0)]; exact g0) ham) ?_
      refine cb_i (.tup [.agg (a.map ofByte), .int .i64 0]) _ ⟨_, _, a, [], [], rfl, ha, ⟨⟨rfl, .inl ⟨rfl, rfl⟩⟩, by simp, fun i hi => (by simp at hi), fun _ _ _ _ _ _ e => (by cases e), fun _ _ _ _ _ _ _ _ e => by cases e⟩, rfl, .inl ⟨rfl, rfl⟩⟩ ?_
      repeat with_reducible first
      | refine isB_T ?_
      | refine isB_F ?_
      | (refine isB_ct ?_ ?_; (· first | omega | rfl | assumption | trivial))
      | (refine isB_cf ?_ ?_; (· first | omega | assumption))
      | refine onE_i ?_
      | (refine onE_s ?_ ?_; (· decide))
      | refine vb_i e_ext0 ?_
      | refine vb_i e_ext1 ?_
      | refine vb_i e_ext2 ?_
      | refine vb_i (lss64 _ _ _) ?_
      | refine vb_i (leq64 _ _ _) ?_
      | refine vb_i (gtr64 _ _ _) ?_
      | refine vb_i (geq64 _ _ _) ?_
      | refine vb_i (eql64 _ _ _) ?_
      | refine vb_i (neq64 _ _ _) ?_
      | refine vb_i (eqls _ _) ?_
      | refine vb_i (neqs _ _) ?_
      | (refine vb_i (add64 ?_ ?_) ?_; (· omega); (· omega))
      | (refine vb_i (sub64 ?_ ?_) ?_; (· omega); (· omega))
      | (refine vb_i (mul64 ?_ ?_) ?_; (· omega); (· omega))
      | (refine vb_i (quo64 ?_ ?_ ?_) ?_; (· omega); (· omega); (· omega))
      | (refine vb_i (rem64 ?_ ?_) ?_; (· omega); (· omega))
      | refine vb_i (e_lenSt _) ?_
      | refine vb_i (e_lenSl _ _ _) ?_
      | refine vb_i e_lenNil ?_
      | refine vb_i (lenSl_view (by assumption)) ?_
      | refine vb_i (e_ptrNil _ _) ?_
      | refine vb_i (e_ptrNilN _ _) ?_
      | refine vb_i (e_nilNil _) ?_
      | refine vb_i (e_nilNilN _) ?_
      | refine vb_i (e_pickT _ _) ?_
      | refine vb_i (e_pickF _ _) ?_
      | refine vb_i e_notd ?_
      | refine vb_i e_boolNe ?_
      | refine vb_i e_boolEq ?_
      | refine vb_i (e_not _) ?_
      | refine vb_i (e_nilCheck _) ?_
      | refine vb_i (e_fieldAddr _ _) ?_
      | refine hb_i (e_alloc _ _) ?_
      | (refine vb_i (adds ?_) ?_; (· first | omega | (simp only [List.length_cons, List.length_nil, List.length_append]; omega)))
      with_reducible refine sb_i (store_new List.length_replicate ham (cells_byte _)) ?_
      have g5 : (F ++ [AObj.cells 0 .exact (a.map ofByte)])[k1]? = some (.cells 0 .exact ((nextV a l).map ofByte)) := by rw [pre_get (pre_app _ _) (lt_of_some g3)]; exact g3
      have g6 : (F ++ [AObj.cells 0 .exact (a.map ofByte)])[k2]? = some (.cells 0 .exact ((twoV a l m).map ofByte)) := by rw [pre_get (pre_app _ _) (lt_of_some g4)]; exact g4
      have g7 : (F ++ [AObj.cells 0 .exact (a.map ofByte)])[F.length]? = some (.cells 0 .exact (a.map ofByte)) := by rw [app_get0]; rfl
      have p6 : B <+: F ++ [AObj.cells 0 .exact (a.map ofByte)] := p5.trans (pre_app _ _)
      generalize hK3 : F.length = k3 at *
      generalize F ++ [AObj.cells 0 .exact (a.map ofByte)] = G at *
      refine vb_i (e_loadAll (by rw [pre_get p6 (lt_of_some g0)]; exact g0) ham) ?_
      refine cb_i _ _ (law_next ha (hx.pre (p0.trans p6))) ?_
      repeat with_reducible first
      | refine isB_T ?_
      | refine isB_F ?_
      | (refine isB_ct ?_ ?_; (· first | omega | rfl | assumption | trivial))
      | (refine isB_cf ?_ ?_; (· first | omega | assumption))
      | refine onE_i ?_
      | (refine onE_s ?_ ?_; (· decide))
      | refine vb_i e_ext0 ?_
      | refine vb_i e_ext1 ?_
      | refine vb_i e_ext2 ?_
      | refine vb_i (lss64 _ _ _) ?_
      | refine vb_i (leq64 _ _ _) ?_
      | refine vb_i (gtr64 _ _ _) ?_
      | refine vb_i (geq64 _ _ _) ?_
      | refine vb_i (eql64 _ _ _) ?_
      | refine vb_i (neq64 _ _ _) ?_
      | refine vb_i (eqls _ _) ?_
      | refine vb_i (neqs _ _) ?_
      | (refine vb_i (add64 ?_ ?_) ?_; (· omega); (· omega))
      | (refine vb_i (sub64 ?_ ?_) ?_; (· omega); (· omega))
      | (refine vb_i (mul64 ?_ ?_) ?_; (· omega); (· omega))
      | (refine vb_i (quo64 ?_ ?_ ?_) ?_; (· omega); (· omega); (· omega))
      | (refine vb_i (rem64 ?_ ?_) ?_; (· omega); (· omega))
      | refine vb_i (e_lenSt _) ?_
      | refine vb_i (e_lenSl _ _ _) ?_
      | refine vb_i e_lenNil ?_
      | refine vb_i (lenSl_view (by assumption)) ?_
      | refine vb_i (e_ptrNil _ _) ?_
      | refine vb_i (e_ptrNilN _ _) ?_
      | refine vb_i (e_nilNil _) ?_
      | refine vb_i (e_nilNilN _) ?_
      | refine vb_i (e_pickT _ _) ?_
      | refine vb_i (e_pickF _ _) ?_
      | refine vb_i e_notd ?_
      | refine vb_i e_boolNe ?_
      | refine vb_i e_boolEq ?_
      | refine vb_i (e_not _) ?_
      | refine vb_i (e_nilCheck _) ?_
      | refine vb_i (e_fieldAddr _ _) ?_
      | refine hb_i (e_alloc _ _) ?_
      | (refine vb_i (adds ?_) ?_; (· first | omega | (simp only [List.length_cons, List.length_nil, List.length_append]; omega)))
      with_reducible refine sb_i (store_new List.length_replicate (by rw [List.length_map]; exact hv) (cells_byte _)) ?_
      have q1 : (G ++ [AObj.cells 0 .exact ((nextV a l).map ofByte)])[k1]? = some (.cells 0 .exact ((nextV a l).map ofByte)) := by rw [pre_get (pre_app _ _) (lt_of_some g5)]; exact g5
      have q2 : (G ++ [AObj.cells 0 .exact ((nextV a l).map ofByte)])[k2]? = some (.cells 0 .exact ((twoV a l m).map ofByte)) := by rw [pre_get (pre_app _ _) (lt_of_some g6)]; exact g6
      have q3 : (G ++ [AObj.cells 0 .exact ((nextV a l).map ofByte)])[k3]? = some (.cells 0 .exact (a.map ofByte)) := by rw [pre_get (pre_app _ _) (lt_of_some g7)]; exact g7
      have q4 : (G ++ [AObj.cells 0 .exact ((nextV a l).map ofByte)])[G.length]? = some (.cells 0 .exact ((nextV a l).map ofByte)) := by rw [app_get0]; rfl
      have p7 : B <+: G ++ [AObj.cells 0 .exact ((nextV a l).map ofByte)] := p6.trans (pre_app _ _)
      have hk24 : k2 < G.length := lt_of_some g6
      have hk4 : B.length ≤ G.length := p6.length_le
      generalize hK4 : G.length = k4 at *
      generalize G ++ [AObj.cells 0 .exact ((nextV a l).map ofByte)] = Q at *
      refine JoinP.mk (fun e vs C => e = .normal ∧ vs = [.bool false] ∧ C = Q) ?_ ?_
      · with_reducible refine vb_i (e_loadAll q1 (by rw [List.length_map]; exact hv)) ?_
        with_reducible refine vb_i (e_loadAll q4 (by rw [List.length_map]; exact hv)) ?_
        with_reducible refine vb_i (e_neBytes hv hv) ?_
        with_reducible refine isB_cf ?_ ?_
        · exact not_not_intro rfl
        repeat with_reducible first
        | refine isB_T ?_
        | refine isB_F ?_
        | (refine isB_ct ?_ ?_; (· first | omega | rfl | assumption | trivial))
        | (refine isB_cf ?_ ?_; (· first | omega | assumption))
        | refine onE_i ?_
        | (refine onE_s ?_ ?_; (· decide))
        | refine vb_i e_ext0 ?_
        | refine vb_i e_ext1 ?_
        | refine vb_i e_ext2 ?_
        | refine vb_i (lss64 _ _ _) ?_
        | refine vb_i (leq64 _ _ _) ?_
        | refine vb_i (gtr64 _ _ _) ?_
        | refine vb_i (geq64 _ _ _) ?_
        | refine vb_i (eql64 _ _ _) ?_
        | refine vb_i (neq64 _ _ _) ?_
        | refine vb_i (eqls _ _) ?_
        | refine vb_i (neqs _ _) ?_
        | (refine vb_i (add64 ?_ ?_) ?_; (· omega); (· omega))
        | (refine vb_i (sub64 ?_ ?_) ?_; (· omega); (· omega))
        | (refine vb_i (mul64 ?_ ?_) ?_; (· omega); (· omega))
        | (refine vb_i (quo64 ?_ ?_ ?_) ?_; (· omega); (· omega); (· omega))
        | (refine vb_i (rem64 ?_ ?_) ?_; (· omega); (· omega))
        | refine vb_i (e_lenSt _) ?_
        | refine vb_i (e_lenSl _ _ _) ?_
        | refine vb_i e_lenNil ?_
        | refine vb_i (lenSl_view (by assumption)) ?_
        | refine vb_i (e_ptrNil _ _) ?_
        | refine vb_i (e_ptrNilN _ _) ?_
        | refine vb_i (e_nilNil _) ?_
        | refine vb_i (e_nilNilN _) ?_
        | refine vb_i (e_pickT _ _) ?_
        | refine vb_i (e_pickF _ _) ?_
        | refine vb_i e_notd ?_
        | refine vb_i e_boolNe ?_
        | refine vb_i e_boolEq ?_
        | refine vb_i (e_not _) ?_
        | refine vb_i (e_nilCheck _) ?_
        | refine vb_i (e_fieldAddr _ _) ?_
        | refine hb_i (e_alloc _ _) ?_
        | (refine vb_i (adds ?_) ?_; (· first | omega | (simp only [List.length_cons, List.length_nil, List.length_append]; omega)))
        with_reducible refine vb_i (e_loadAll q3 ham) ?_
        refine vb_i (e_loadAll (by rw [pre_get p7 (lt_of_some g0)]; exact g0) ham) ?_
        with_reducible refine vb_i (e_neBytes ha ha) ?_
        with_reducible refine isB_cf ?_ ?_
        · exact not_not_intro rfl
        repeat with_reducible first
        | refine isB_T ?_
        | refine isB_F ?_
        | (refine isB_ct ?_ ?_; (· first | omega | rfl | assumption | trivial))
        | (refine isB_cf ?_ ?_; (· first | omega | assumption))
        | refine onE_i ?_
        | (refine onE_s ?_ ?_; (· decide))
        | refine vb_i e_ext0 ?_
        | refine vb_i e_ext1 ?_
        | refine vb_i e_ext2 ?_
        | refine vb_i (lss64 _ _ _) ?_
        | refine vb_i (leq64 _ _ _) ?_
        | refine vb_i (gtr64 _ _ _) ?_
        | refine vb_i (geq64 _ _ _) ?_
        | refine vb_i (eql64 _ _ _) ?_
        | refine vb_i (neq64 _ _ _) ?_
        | refine vb_i (eqls _ _) ?_
        | refine vb_i (neqs _ _) ?_
        | (refine vb_i (add64 ?_ ?_) ?_; (· omega); (· omega))
        | (refine vb_i (sub64 ?_ ?_) ?_; (· omega); (· omega))
        | (refine vb_i (mul64 ?_ ?_) ?_; (· omega); (· omega))
        | (refine vb_i (quo64 ?_ ?_ ?_) ?_; (· omega); (· omega); (· omega))
        | (refine vb_i (rem64 ?_ ?_) ?_; (· omega); (· omega))
        | refine vb_i (e_lenSt _) ?_
        | refine vb_i (e_lenSl _ _ _) ?_
        | refine vb_i e_lenNil ?_
        | refine vb_i (lenSl_view (by assumption)) ?_
        | refine vb_i (e_ptrNil _ _) ?_
        | refine vb_i (e_ptrNilN _ _) ?_
        | refine vb_i (e_nilNil _) ?_
        | refine vb_i (e_nilNilN _) ?_
        | refine vb_i (e_pickT _ _) ?_
        | refine vb_i (e_pickF _ _) ?_
        | refine vb_i e_notd ?_
        | refine vb_i e_boolNe ?_
        | refine vb_i e_boolEq ?_
        | refine vb_i (e_not _) ?_
        | refine vb_i (e_nilCheck _) ?_
        | refine vb_i (e_fieldAddr _ _) ?_
        | refine hb_i (e_alloc _ _) ?_
        | (refine vb_i (adds ?_) ?_; (· first | omega | (simp only [List.length_cons, List.length_nil, List.length_append]; omega)))
        exact ⟨rfl, rfl, rfl⟩
      · rintro _ _ C ⟨rfl, rfl, rfl⟩
        repeat with_reducible first
        | refine isB_T ?_
        | refine isB_F ?_
        | (refine isB_ct ?_ ?_; (· first | omega | rfl | assumption | trivial))
        | (refine isB_cf ?_ ?_; (· first | omega | assumption))
        | refine onE_i ?_
        | (refine onE_s ?_ ?_; (· decide))
        | refine vb_i e_ext0 ?_
        | refine vb_i e_ext1 ?_
        | refine vb_i e_ext2 ?_
        | refine vb_i (lss64 _ _ _) ?_
        | refine vb_i (leq64 _ _ _) ?_
        | refine vb_i (gtr64 _ _ _) ?_
        | refine vb_i (geq64 _ _ _) ?_
        | refine vb_i (eql64 _ _ _) ?_
        | refine vb_i (neq64 _ _ _) ?_
        | refine vb_i (eqls _ _) ?_
        | refine vb_i (neqs _ _) ?_
        | (refine vb_i (add64 ?_ ?_) ?_; (· omega); (· omega))
        | (refine vb_i (sub64 ?_ ?_) ?_; (· omega); (· omega))
        | (refine vb_i (mul64 ?_ ?_) ?_; (· omega); (· omega))
        | (refine vb_i (quo64 ?_ ?_ ?_) ?_; (· omega); (· omega); (· omega))
        | (refine vb_i (rem64 ?_ ?_) ?_; (· omega); (· omega))
        | refine vb_i (e_lenSt _) ?_
        | refine vb_i (e_lenSl _ _ _) ?_
        | refine vb_i e_lenNil ?_
        | refine vb_i (lenSl_view (by assumption)) ?_
        | refine vb_i (e_ptrNil _ _) ?_
        | refine vb_i (e_ptrNilN _ _) ?_
        | refine vb_i (e_nilNil _) ?_
        | refine vb_i (e_nilNilN _) ?_
        | refine vb_i (e_pickT _ _) ?_
        | refine vb_i (e_pickF _ _) ?_
        | refine vb_i e_notd ?_
        | refine vb_i e_boolNe ?_
        | refine vb_i e_boolEq ?_
        | refine vb_i (e_not _) ?_
        | refine vb_i (e_nilCheck _) ?_
        | refine vb_i (e_fieldAddr _ _) ?_
        | refine hb_i (e_alloc _ _) ?_
        | (refine vb_i (adds ?_) ?_; (· first | omega | (simp only [List.length_cons, List.length_nil, List.length_append]; omega)))
        refine JoinP.mk (fun e vs D => e = .normal ∧ vs = [.int .i64 (twoE l m)] ∧ D[k2]? = some (.cells 0 .exact ((twoV a l m).map ofByte)) ∧ D[k4]? = some (.cells 0 .exact ((twoW a l m).map ofByte)) ∧ H' <+: D) ?_ ?_
        · by_cases hg : nextE l = 0
          · repeat with_reducible first
            | refine isB_T ?_
            | refine isB_F ?_
            | (refine isB_ct ?_ ?_; (· first | omega | rfl | assumption | trivial))
            | (refine isB_cf ?_ ?_; (· first | omega | assumption))
            | refine onE_i ?_
            | (refine onE_s ?_ ?_; (· decide))
            | refine vb_i e_ext0 ?_
            | refine vb_i e_ext1 ?_
            | refine vb_i e_ext2 ?_
            | refine vb_i (lss64 _ _ _) ?_
            | refine vb_i (leq64 _ _ _) ?_
            | refine vb_i (gtr64 _ _ _) ?_
            | refine vb_i (geq64 _ _ _) ?_
            | refine vb_i (eql64 _ _ _) ?_
            | refine vb_i (neq64 _ _ _) ?_
            | refine vb_i (eqls _ _) ?_
            | refine vb_i (neqs _ _) ?_
            | (refine vb_i (add64 ?_ ?_) ?_; (· omega); (· omega))
            | (refine vb_i (sub64 ?_ ?_) ?_; (· omega); (· omega))
            | (refine vb_i (mul64 ?_ ?_) ?_; (· omega); (· omega))
            | (refine vb_i (quo64 ?_ ?_ ?_) ?_; (· omega); (· omega); (· omega))
            | (refine vb_i (rem64 ?_ ?_) ?_; (· omega); (· omega))
            | refine vb_i (e_lenSt _) ?_
            | refine vb_i (e_lenSl _ _ _) ?_
            | refine vb_i e_lenNil ?_
            | refine vb_i (lenSl_view (by assumption)) ?_
            | refine vb_i (e_ptrNil _ _) ?_
            | refine vb_i (e_ptrNilN _ _) ?_
            | refine vb_i (e_nilNil _) ?_
            | refine vb_i (e_nilNilN _) ?_
            | refine vb_i (e_pickT _ _) ?_
            | refine vb_i (e_pickF _ _) ?_
            | refine vb_i e_notd ?_
            | refine vb_i e_boolNe ?_
            | refine vb_i e_boolEq ?_
            | refine vb_i (e_not _) ?_
            | refine vb_i (e_nilCheck _) ?_
            | refine vb_i (e_fieldAddr _ _) ?_
            | refine hb_i (e_alloc _ _) ?_
            | (refine vb_i (adds ?_) ?_; (· first | omega | (simp only [List.length_cons, List.length_nil, List.length_append]; omega)))
            with_reducible refine vb_i (e_loadAll q4 (by rw [List.length_map]; exact hv)) ?_
            refine cb_i _ _ (law_next hv (hy.pre (p0.trans p7))) ?_
            repeat with_reducible first
            | refine isB_T ?_
            | refine isB_F ?_
            | (refine isB_ct ?_ ?_; (· first | omega | rfl | assumption | trivial))
            | (refine isB_cf ?_ ?_; (· first | omega | assumption))
            | refine onE_i ?_
            | (refine onE_s ?_ ?_; (· decide))
            | refine vb_i e_ext0 ?_
            | refine vb_i e_ext1 ?_
            | refine vb_i e_ext2 ?_
            | refine vb_i (lss64 _ _ _) ?_
            | refine vb_i (leq64 _ _ _) ?_
            | refine vb_i (gtr64 _ _ _) ?_
            | refine vb_i (geq64 _ _ _) ?_
            | refine vb_i (eql64 _ _ _) ?_
            | refine vb_i (neq64 _ _ _) ?_
            | refine vb_i (eqls _ _) ?_
            | refine vb_i (neqs _ _) ?_
            | (refine vb_i (add64 ?_ ?_) ?_; (· omega); (· omega))
            | (refine vb_i (sub64 ?_ ?_) ?_; (· omega); (· omega))
            | (refine vb_i (mul64 ?_ ?_) ?_; (· omega); (· omega))
            | (refine vb_i (quo64 ?_ ?_ ?_) ?_; (· omega); (· omega); (· omega))
            | (refine vb_i (rem64 ?_ ?_) ?_; (· omega); (· omega))
            | refine vb_i (e_lenSt _) ?_
            | refine vb_i (e_lenSl _ _ _) ?_
            | refine vb_i e_lenNil ?_
            | refine vb_i (lenSl_view (by assumption)) ?_
            | refine vb_i (e_ptrNil _ _) ?_
            | refine vb_i (e_ptrNilN _ _) ?_
            | refine vb_i (e_nilNil _) ?_
            | refine vb_i (e_nilNilN _) ?_
            | refine vb_i (e_pickT _ _) ?_
            | refine vb_i (e_pickF _ _) ?_
            | refine vb_i e_notd ?_
            | refine vb_i e_boolNe ?_
            | refine vb_i e_boolEq ?_
            | refine vb_i (e_not _) ?_
            | refine vb_i (e_nilCheck _) ?_
            | refine vb_i (e_fieldAddr _ _) ?_
            | refine hb_i (e_alloc _ _) ?_
            | (refine vb_i (adds ?_) ?_; (· first | omega | (simp only [List.length_cons, List.length_nil, List.length_append]; omega)))
            have hv2 := nextV_len (nextV a l) m
            with_reducible refine sb_i (store32 q4 (by rw [List.length_map]; exact hv) (by rw [List.length_map]; exact hv2) (cells_byte _)) ?_
            refine ⟨rfl, by rw [twoE, if_pos hg], ?_, ?_, ?_⟩
            · rw [List.getElem?_set_ne (by omega)]; exact q2
            · rw [List.getElem?_set_self (lt_of_some q4), twoW, if_pos hg]
            · refine pre_of_get (by rw [List.length_set]; exact (p0.trans p7).length_le) fun k hk => ?_
              have := p0.length_le
              rw [List.getElem?_set_ne (by omega), pre_get (p0.trans p7) hk]
          · repeat with_reducible first
            | refine isB_T ?_
            | refine isB_F ?_
            | (refine isB_ct ?_ ?_; (· first | omega | rfl | assumption | trivial))
            | (refine isB_cf ?_ ?_; (· first | omega | assumption))
            | refine onE_i ?_
            | (refine onE_s ?_ ?_; (· decide))
            | refine vb_i e_ext0 ?_
            | refine vb_i e_ext1 ?_
            | refine vb_i e_ext2 ?_
            | refine vb_i (lss64 _ _ _) ?_
            | refine vb_i (leq64 _ _ _) ?_
            | refine vb_i (gtr64 _ _ _) ?_
            | refine vb_i (geq64 _ _ _) ?_
            | refine vb_i (eql64 _ _ _) ?_
            | refine vb_i (neq64 _ _ _) ?_
            | refine vb_i (eqls _ _) ?_
            | refine vb_i (neqs _ _) ?_
            | (refine vb_i (add64 ?_ ?_) ?_; (· omega); (· omega))
            | (refine vb_i (sub64 ?_ ?_) ?_; (· omega); (· omega))
            | (refine vb_i (mul64 ?_ ?_) ?_; (· omega); (· omega))
            | (refine vb_i (quo64 ?_ ?_ ?_) ?_; (· omega); (· omega); (· omega))
            | (refine vb_i (rem64 ?_ ?_) ?_; (· omega); (· omega))
            | refine vb_i (e_lenSt _) ?_
            | refine vb_i (e_lenSl _ _ _) ?_
            | refine vb_i e_lenNil ?_
            | refine vb_i (lenSl_view (by assumption)) ?_
            | refine vb_i (e_ptrNil _ _) ?_
            | refine vb_i (e_ptrNilN _ _) ?_
            | refine vb_i (e_nilNil _) ?_
            | refine vb_i (e_nilNilN _) ?_
            | refine vb_i (e_pickT _ _) ?_
            | refine vb_i (e_pickF _ _) ?_
            | refine vb_i e_notd ?_
            | refine vb_i e_boolNe ?_
            | refine vb_i e_boolEq ?_
            | refine vb_i (e_not _) ?_
            | refine vb_i (e_nilCheck _) ?_
            | refine vb_i (e_fieldAddr _ _) ?_
            | refine hb_i (e_alloc _ _) ?_
            | (refine vb_i (adds ?_) ?_; (· first | omega | (simp only [List.length_cons, List.length_nil, List.length_append]; omega)))
            exact ⟨rfl, by rw [twoE, if_neg hg], q2, by rw [twoW, if_neg hg]; exact q4, p0.trans p7⟩
        · rintro _ _ D ⟨rfl, rfl, d1, d2, p8⟩
          have hw2 := twoW_len a l m
          by_cases hE : twoE l m = 0
          · have hVW : twoV a l m = twoW a l m := by rw [twoV, if_pos hE]
            rw [hVW] at d1
            rw [hE]
            repeat with_reducible first
            | refine isB_T ?_
            | refine isB_F ?_
            | (refine isB_ct ?_ ?_; (· first | omega | rfl | assumption | trivial))
            | (refine isB_cf ?_ ?_; (· first | omega | assumption))
            | refine onE_i ?_
            | (refine onE_s ?_ ?_; (· decide))
            | refine vb_i e_ext0 ?_
            | refine vb_i e_ext1 ?_
            | refine vb_i e_ext2 ?_
            | refine vb_i (lss64 _ _ _) ?_
            | refine vb_i (leq64 _ _ _) ?_
            | refine vb_i (gtr64 _ _ _) ?_
            | refine vb_i (geq64 _ _ _) ?_
            | refine vb_i (eql64 _ _ _) ?_
            | refine vb_i (neq64 _ _ _) ?_
            | refine vb_i (eqls _ _) ?_
            | refine vb_i (neqs _ _) ?_
            | (refine vb_i (add64 ?_ ?_) ?_; (· omega); (· omega))
            | (refine vb_i (sub64 ?_ ?_) ?_; (· omega); (· omega))
            | (refine vb_i (mul64 ?_ ?_) ?_; (· omega); (· omega))
            | (refine vb_i (quo64 ?_ ?_ ?_) ?_; (· omega); (· omega); (· omega))
            | (refine vb_i (rem64 ?_ ?_) ?_; (· omega); (· omega))
            | refine vb_i (e_lenSt _) ?_
            | refine vb_i (e_lenSl _ _ _) ?_
            | refine vb_i e_lenNil ?_
            | refine vb_i (lenSl_view (by assumption)) ?_
            | refine vb_i (e_ptrNil _ _) ?_
            | refine vb_i (e_ptrNilN _ _) ?_
            | refine vb_i (e_nilNil _) ?_
            | refine vb_i (e_nilNilN _) ?_
            | refine vb_i (e_pickT _ _) ?_
            | refine vb_i (e_pickF _ _) ?_
            | refine vb_i e_notd ?_
            | refine vb_i e_boolNe ?_
            | refine vb_i e_boolEq ?_
            | refine vb_i (e_not _) ?_
            | refine vb_i (e_nilCheck _) ?_
            | refine vb_i (e_fieldAddr _ _) ?_
            | refine hb_i (e_alloc _ _) ?_
            | (refine vb_i (adds ?_) ?_; (· first | omega | (simp only [List.length_cons, List.length_nil, List.length_append]; omega)))
            simp only [evB]
            repeat with_reducible first
            | refine isB_T ?_
            | refine isB_F ?_
            | (refine isB_ct ?_ ?_; (· first | omega | rfl | assumption | trivial))
            | (refine isB_cf ?_ ?_; (· first | omega | assumption))
            | refine onE_i ?_
            | (refine onE_s ?_ ?_; (· decide))
            | refine vb_i e_ext0 ?_
            | refine vb_i e_ext1 ?_
            | refine vb_i e_ext2 ?_
            | refine vb_i (lss64 _ _ _) ?_
            | refine vb_i (leq64 _ _ _) ?_
            | refine vb_i (gtr64 _ _ _) ?_
            | refine vb_i (geq64 _ _ _) ?_
            | refine vb_i (eql64 _ _ _) ?_
            | refine vb_i (neq64 _ _ _) ?_
            | refine vb_i (eqls _ _) ?_
            | refine vb_i (neqs _ _) ?_
            | (refine vb_i (add64 ?_ ?_) ?_; (· omega); (· omega))
            | (refine vb_i (sub64 ?_ ?_) ?_; (· omega); (· omega))
            | (refine vb_i (mul64 ?_ ?_) ?_; (· omega); (· omega))
            | (refine vb_i (quo64 ?_ ?_ ?_) ?_; (· omega); (· omega); (· omega))
            | (refine vb_i (rem64 ?_ ?_) ?_; (· omega); (· omega))
            | refine vb_i (e_lenSt _) ?_
            | refine vb_i (e_lenSl _ _ _) ?_
            | refine vb_i e_lenNil ?_
            | refine vb_i (lenSl_view (by assumption)) ?_
            | refine vb_i (e_ptrNil _ _) ?_
            | refine vb_i (e_ptrNilN _ _) ?_
            | refine vb_i (e_nilNil _) ?_
            | refine vb_i (e_nilNilN _) ?_
            | refine vb_i (e_pickT _ _) ?_
            | refine vb_i (e_pickF _ _) ?_
            | refine vb_i e_notd ?_
            | refine vb_i e_boolNe ?_
            | refine vb_i e_boolEq ?_
            | refine vb_i (e_not _) ?_
            | refine vb_i (e_nilCheck _) ?_
            | refine vb_i (e_fieldAddr _ _) ?_
            | refine hb_i (e_alloc _ _) ?_
            | (refine vb_i (adds ?_) ?_; (· first | omega | (simp only [List.length_cons, List.length_nil, List.length_append]; omega)))
            refine cb_i _ _ ⟨rfl, rfl, rfl⟩ ?_
            repeat with_reducible first
            | refine isB_T ?_
            | refine isB_F ?_
            | (refine isB_ct ?_ ?_; (· first | omega | rfl | assumption | trivial))
            | (refine isB_cf ?_ ?_; (· first | omega | assumption))
            | refine onE_i ?_
            | (refine onE_s ?_ ?_; (· decide))
            | refine vb_i e_ext0 ?_
            | refine vb_i e_ext1 ?_
            | refine vb_i e_ext2 ?_
            | refine vb_i (lss64 _ _ _) ?_
            | refine vb_i (leq64 _ _ _) ?_
            | refine vb_i (gtr64 _ _ _) ?_
            | refine vb_i (geq64 _ _ _) ?_
            | refine vb_i (eql64 _ _ _) ?_
            | refine vb_i (neq64 _ _ _) ?_
            | refine vb_i (eqls _ _) ?_
            | refine vb_i (neqs _ _) ?_
            | (refine vb_i (add64 ?_ ?_) ?_; (· omega); (· omega))
            | (refine vb_i (sub64 ?_ ?_) ?_; (· omega); (· omega))
            | (refine vb_i (mul64 ?_ ?_) ?_; (· omega); (· omega))
            | (refine vb_i (quo64 ?_ ?_ ?_) ?_; (· omega); (· omega); (· omega))
            | (refine vb_i (rem64 ?_ ?_) ?_; (· omega); (· omega))
            | refine vb_i (e_lenSt _) ?_
            | refine vb_i (e_lenSl _ _ _) ?_
            | refine vb_i e_lenNil ?_
            | refine vb_i (lenSl_view (by assumption)) ?_
            | refine vb_i (e_ptrNil _ _) ?_
            | refine vb_i (e_ptrNilN _ _) ?_
            | refine vb_i (e_nilNil _) ?_
            | refine vb_i (e_nilNilN _) ?_
            | refine vb_i (e_pickT _ _) ?_
            | refine vb_i (e_pickF _ _) ?_
            | refine vb_i e_notd ?_
            | refine vb_i e_boolNe ?_
            | refine vb_i e_boolEq ?_
            | refine vb_i (e_not _) ?_
            | refine vb_i (e_nilCheck _) ?_
            | refine vb_i (e_fieldAddr _ _) ?_
            | refine hb_i (e_alloc _ _) ?_
            | (refine vb_i (adds ?_) ?_; (· first | omega | (simp only [List.length_cons, List.length_nil, List.length_append]; omega)))
            with_reducible refine vb_i (e_loadAll d1 (by rw [List.length_map]; exact hw2)) ?_
            with_reducible refine vb_i (e_loadAll d2 (by rw [List.length_map]; exact hw2)) ?_
            with_reducible refine vb_i (e_eqBytes hw2 hw2) ?_
            repeat with_reducible first
            | refine isB_T ?_
            | refine isB_F ?_
            | (refine isB_ct ?_ ?_; (· first | omega | rfl | assumption | trivial))
            | (refine isB_cf ?_ ?_; (· first | omega | assumption))
            | refine onE_i ?_
            | (refine onE_s ?_ ?_; (· decide))
            | refine vb_i e_ext0 ?_
            | refine vb_i e_ext1 ?_
            | refine vb_i e_ext2 ?_
            | refine vb_i (lss64 _ _ _) ?_
            | refine vb_i (leq64 _ _ _) ?_
            | refine vb_i (gtr64 _ _ _) ?_
            | refine vb_i (geq64 _ _ _) ?_
            | refine vb_i (eql64 _ _ _) ?_
            | refine vb_i (neq64 _ _ _) ?_
            | refine vb_i (eqls _ _) ?_
            | refine vb_i (neqs _ _) ?_
            | (refine vb_i (add64 ?_ ?_) ?_; (· omega); (· omega))
            | (refine vb_i (sub64 ?_ ?_) ?_; (· omega); (· omega))
            | (refine vb_i (mul64 ?_ ?_) ?_; (· omega); (· omega))
            | (refine vb_i (quo64 ?_ ?_ ?_) ?_; (· omega); (· omega); (· omega))
            | (refine vb_i (rem64 ?_ ?_) ?_; (· omega); (· omega))
            | refine vb_i (e_lenSt _) ?_
            | refine vb_i (e_lenSl _ _ _) ?_
            | refine vb_i e_lenNil ?_
            | refine vb_i (lenSl_view (by assumption)) ?_
            | refine vb_i (e_ptrNil _ _) ?_
            | refine vb_i (e_ptrNilN _ _) ?_
            | refine vb_i (e_nilNil _) ?_
            | refine vb_i (e_nilNilN _) ?_
            | refine vb_i (e_pickT _ _) ?_
            | refine vb_i (e_pickF _ _) ?_
            | refine vb_i e_notd ?_
            | refine vb_i e_boolNe ?_
            | refine vb_i e_boolEq ?_
            | refine vb_i (e_not _) ?_
            | refine vb_i (e_nilCheck _) ?_
            | refine vb_i (e_fieldAddr _ _) ?_
            | refine hb_i (e_alloc _ _) ?_
            | (refine vb_i (adds ?_) ?_; (· first | omega | (simp only [List.length_cons, List.length_nil, List.length_append]; omega)))
            exact fin_bool rfl p8
          · have hVW : twoV a l m = zs 32 := by rw [twoV, if_neg hE]
            rw [hVW] at d1 hw
            repeat with_reducible first
            | refine isB_T ?_
            | refine isB_F ?_
            | (refine isB_ct ?_ ?_; (· first | omega | rfl | assumption | trivial))
            | (refine isB_cf ?_ ?_; (· first | omega | assumption))
            | refine onE_i ?_
            | (refine onE_s ?_ ?_; (· decide))
            | refine vb_i e_ext0 ?_
            | refine vb_i e_ext1 ?_
            | refine vb_i e_ext2 ?_
            | refine vb_i (lss64 _ _ _) ?_
            | refine vb_i (leq64 _ _ _) ?_
            | refine vb_i (gtr64 _ _ _) ?_
            | refine vb_i (geq64 _ _ _) ?_
            | refine vb_i (eql64 _ _ _) ?_
            | refine vb_i (neq64 _ _ _) ?_
            | refine vb_i (eqls _ _) ?_
            | refine vb_i (neqs _ _) ?_
            | (refine vb_i (add64 ?_ ?_) ?_; (· omega); (· omega))
            | (refine vb_i (sub64 ?_ ?_) ?_; (· omega); (· omega))
            | (refine vb_i (mul64 ?_ ?_) ?_; (· omega); (· omega))
            | (refine vb_i (quo64 ?_ ?_ ?_) ?_; (· omega); (· omega); (· omega))
            | (refine vb_i (rem64 ?_ ?_) ?_; (· omega); (· omega))
            | refine vb_i (e_lenSt _) ?_
            | refine vb_i (e_lenSl _ _ _) ?_
            | refine vb_i e_lenNil ?_
            | refine vb_i (lenSl_view (by assumption)) ?_
            | refine vb_i (e_ptrNil _ _) ?_
            | refine vb_i (e_ptrNilN _ _) ?_
            | refine vb_i (e_nilNil _) ?_
            | refine vb_i (e_nilNilN _) ?_
            | refine vb_i (e_pickT _ _) ?_
            | refine vb_i (e_pickF _ _) ?_
            | refine vb_i e_notd ?_
            | refine vb_i e_boolNe ?_
            | refine vb_i e_boolEq ?_
            | refine vb_i (e_not _) ?_
            | refine vb_i (e_nilCheck _) ?_
            | refine vb_i (e_fieldAddr _ _) ?_
            | refine hb_i (e_alloc _ _) ?_
            | (refine vb_i (adds ?_) ?_; (· first | omega | (simp only [List.length_cons, List.length_nil, List.length_append]; omega)))
            simp only [evB]
            repeat with_reducible first
            | refine isB_T ?_
            | refine isB_F ?_
            | (refine isB_ct ?_ ?_; (· first | omega | rfl | assumption | trivial))
            | (refine isB_cf ?_ ?_; (· first | omega | assumption))
            | refine onE_i ?_
            | (refine onE_s ?_ ?_; (· decide))
            | refine vb_i e_ext0 ?_
            | refine vb_i e_ext1 ?_
            | refine vb_i e_ext2 ?_
            | refine vb_i (lss64 _ _ _) ?_
            | refine vb_i (leq64 _ _ _) ?_
            | refine vb_i (gtr64 _ _ _) ?_
            | refine vb_i (geq64 _ _ _) ?_
            | refine vb_i (eql64 _ _ _) ?_
            | refine vb_i (neq64 _ _ _) ?_
            | refine vb_i (eqls _ _) ?_
            | refine vb_i (neqs _ _) ?_
            | (refine vb_i (add64 ?_ ?_) ?_; (· omega); (· omega))
            | (refine vb_i (sub64 ?_ ?_) ?_; (· omega); (· omega))
            | (refine vb_i (mul64 ?_ ?_) ?_; (· omega); (· omega))
            | (refine vb_i (quo64 ?_ ?_ ?_) ?_; (· omega); (· omega); (· omega))
            | (refine vb_i (rem64 ?_ ?_) ?_; (· omega); (· omega))
            | refine vb_i (e_lenSt _) ?_
            | refine vb_i (e_lenSl _ _ _) ?_
            | refine vb_i e_lenNil ?_
            | refine vb_i (lenSl_view (by assumption)) ?_
            | refine vb_i (e_ptrNil _ _) ?_
            | refine vb_i (e_ptrNilN _ _) ?_
            | refine vb_i (e_nilNil _) ?_
            | refine vb_i (e_nilNilN _) ?_
            | refine vb_i (e_pickT _ _) ?_
            | refine vb_i (e_pickF _ _) ?_
            | refine vb_i e_notd ?_
            | refine vb_i e_boolNe ?_
            | refine vb_i e_boolEq ?_
            | refine vb_i (e_not _) ?_
            | refine vb_i (e_nilCheck _) ?_
            | refine vb_i (e_fieldAddr _ _) ?_
            | refine hb_i (e_alloc _ _) ?_
            | (refine vb_i (adds ?_) ?_; (· first | omega | (simp only [List.length_cons, List.length_nil, List.length_append]; omega)))
            refine cb_i _ _ ⟨rfl, rfl, rfl⟩ ?_
            repeat with_reducible first
            | refine isB_T ?_
            | refine isB_F ?_
            | (refine isB_ct ?_ ?_; (· first | omega | rfl | assumption | trivial))
            | (refine isB_cf ?_ ?_; (· first | omega | assumption))
            | refine onE_i ?_
            | (refine onE_s ?_ ?_; (· decide))
            | refine vb_i e_ext0 ?_
            | refine vb_i e_ext1 ?_
            | refine vb_i e_ext2 ?_
            | refine vb_i (lss64 _ _ _) ?_
            | refine vb_i (leq64 _ _ _) ?_
            | refine vb_i (gtr64 _ _ _) ?_
            | refine vb_i (geq64 _ _ _) ?_
            | refine vb_i (eql64 _ _ _) ?_
            | refine vb_i (neq64 _ _ _) ?_
            | refine vb_i (eqls _ _) ?_
            | refine vb_i (neqs _ _) ?_
            | (refine vb_i (add64 ?_ ?_) ?_; (· omega); (· omega))
            | (refine vb_i (sub64 ?_ ?_) ?_; (· omega); (· omega))
            | (refine vb_i (mul64 ?_ ?_) ?_; (· omega); (· omega))
            | (refine vb_i (quo64 ?_ ?_ ?_) ?_; (· omega); (· omega); (· omega))
            | (refine vb_i (rem64 ?_ ?_) ?_; (· omega); (· omega))
            | refine vb_i (e_lenSt _) ?_
            | refine vb_i (e_lenSl _ _ _) ?_
            | refine vb_i e_lenNil ?_
            | refine vb_i (lenSl_view (by assumption)) ?_
            | refine vb_i (e_ptrNil _ _) ?_
            | refine vb_i (e_ptrNilN _ _) ?_
            | refine vb_i (e_nilNil _) ?_
            | refine vb_i (e_nilNilN _) ?_
            | refine vb_i (e_pickT _ _) ?_
            | refine vb_i (e_pickF _ _) ?_
            | refine vb_i e_notd ?_
            | refine vb_i e_boolNe ?_
            | refine vb_i e_boolEq ?_
            | refine vb_i (e_not _) ?_
            | refine vb_i (e_nilCheck _) ?_
            | refine vb_i (e_fieldAddr _ _) ?_
            | refine hb_i (e_alloc _ _) ?_
            | (refine vb_i (adds ?_) ?_; (· first | omega | (simp only [List.length_cons, List.length_nil, List.length_append]; omega)))
            with_reducible refine vb_i (e_loadAll d1 (by rw [List.length_map]; exact hw)) ?_
            with_reducible refine vb_i build_zs ?_
            with_reducible refine vb_i (e_eqBytes hw hw) ?_
            repeat with_reducible first
            | refine isB_T ?_
            | refine isB_F ?_
            | (refine isB_ct ?_ ?_; (· first | omega | rfl | assumption | trivial))
            | (refine isB_cf ?_ ?_; (· first | omega | assumption))
            | refine onE_i ?_
            | (refine onE_s ?_ ?_; (· decide))
            | refine vb_i e_ext0 ?_
            | refine vb_i e_ext1 ?_
            | refine vb_i e_ext2 ?_
            | refine vb_i (lss64 _ _ _) ?_
            | refine vb_i (leq64 _ _ _) ?_
            | refine vb_i (gtr64 _ _ _) ?_
            | refine vb_i (geq64 _ _ _) ?_
            | refine vb_i (eql64 _ _ _) ?_
            | refine vb_i (neq64 _ _ _) ?_
            | refine vb_i (eqls _ _) ?_
            | refine vb_i (neqs _ _) ?_
            | (refine vb_i (add64 ?_ ?_) ?_; (· omega); (· omega))
            | (refine vb_i (sub64 ?_ ?_) ?_; (· omega); (· omega))
            | (refine vb_i (mul64 ?_ ?_) ?_; (· omega); (· omega))
            | (refine vb_i (quo64 ?_ ?_ ?_) ?_; (· omega); (· omega); (· omega))
            | (refine vb_i (rem64 ?_ ?_) ?_; (· omega); (· omega))
            | refine vb_i (e_lenSt _) ?_
            | refine vb_i (e_lenSl _ _ _) ?_
            | refine vb_i e_lenNil ?_
            | refine vb_i (lenSl_view (by assumption)) ?_
            | refine vb_i (e_ptrNil _ _) ?_
            | refine vb_i (e_ptrNilN _ _) ?_
            | refine vb_i (e_nilNil _) ?_
            | refine vb_i (e_nilNilN _) ?_
            | refine vb_i (e_pickT _ _) ?_
            | refine vb_i (e_pickF _ _) ?_
            | refine vb_i e_notd ?_
            | refine vb_i e_boolNe ?_
            | refine vb_i e_boolEq ?_
            | refine vb_i (e_not _) ?_
            | refine vb_i (e_nilCheck _) ?_
            | refine vb_i (e_fieldAddr _ _) ?_
            | refine hb_i (e_alloc _ _) ?_
            | (refine vb_i (adds ?_) ?_; (· first | omega | (simp only [List.length_cons, List.length_nil, List.length_append]; omega)))
            exact fin_bool (by simp) p8
end Go.Sh

/- Functions that leave what was there as it was, 2. -/
namespace Go.Sh
open Go Go.Abs

theorem cellaretlaw14_ChainNexts.quiet {args : List AVal} {H : AHeap} {r : AVal} {H' : AHeap} (h : S_cellaretlaw14_ChainNexts args H r H') : H <+: H' := by
  unfold S_cellaretlaw14_ChainNexts at h; grind [pre_app, pre_of_eq, newO]
end Go.Sh
