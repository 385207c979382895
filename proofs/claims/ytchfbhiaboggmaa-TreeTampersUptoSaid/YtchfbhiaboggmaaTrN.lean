/- One text of these: TreP5, TreP6, TreP7, TreP8, TreP9, TrePa, TreW2, TrePb, TrePc, TrePd, TrePe, TrePf, TrePg, TrePh, TrePi, TrePj, TrePk, TrePl, TrePm, TrePn, TrePo, TreA. -/
import Derived.Test.YtchfbhiaboggmaaTrM
import Derived.Test.YtchfbhiaboggmaaAbsE
import Derived.Test.YtchfbhiaboggmaaAbsF

/- Trees: telling a leaf's block. -/
namespace Go.Sh
open Go Go.Abs

section
variable {H0 B : AHeap} {own : Nat → Prop} {R : List Part} {L : RL} {v : RV} {n : Int} {i m : Nat} {lv : AVal} {T : List (List UInt8)} {t b km sp sm : Nat} {d : Int} {root : List UInt8} {s : AVal} {K S : List PutV} {dd : List D32}
theorem tdown_bad {k : Int} (hk : k < 0 ∨ 64 ≤ k) : ∃ C, S_tree_Tree_down [.ptr ⟨t, 0, 0⟩, .int .i64 k] B (.tup [wayV .nils (zs 32), .int .i64 3]) C ∧ B <+: C := by
  obtain ⟨r, C, h, rfl, k⟩ := tree_Tree_down.out (x0 := .ptr ⟨t, 0, 0⟩) (x1 := .int .i64 k) (H := B) (Q := fun r C => r = .tup [wayV .nils (zs 32), .int .i64 3] ∧ B <+: C) (by
    unfold tree_Tree_downV.w
    have hs : Sep B (fun _ => False) B [] := Sep.start B
    refine s_alloc hs fun b1 C1 _ hs => ?_
    refine vb_i (e_ptrNil _ _) ?_
    refine isB_F ?_
    refine cb_i _ _ ⟨k, rfl, .inl ⟨hk, rfl, rfl⟩⟩ ?_
    refine vb_i e_ext0 ?_
    refine vb_i e_ext1 ?_
    refine vb_i (neq64 _ _ _) ?_
    refine isB_ct (by decide) ?_
    refine vb_bld (cs := .nils :: (zs 32).map ofByte) rfl ?_
    refine s_storeA hs rfl rfl rfl rfl fun G hs => ?_
    exact fin_ret (rvs_c (e_loadAll hs.g0 rfl) (rvs_v (rvs_nil _))) ⟨rfl, hs.pre fun _ x => x⟩)
  exact ⟨C, h, k⟩
/-- A leaf's answer. -/
def leafR (y : List UInt8) : AVal := if y = zs 64 then .tup [.str [], .bool false, .int .i64 0] else .tup [.str y, .bool true, .int .i64 0]
theorem tget_spec {k : Nat} (h : Sep H0 own B (rparts L v (Part.orc i m lv T :: .obj t (.cells 0 .exact (tcells (.ptr ⟨L.p, 0, 0⟩) (.ptr ⟨i, 0, 0⟩) d root (.ptr ⟨sp, 0, 0⟩) (.map km))) :: kmP km K :: sheetP sp sm S :: R)))
    (c : Calm v n) (hf : v.fault = 0) (hn : n ≤ 900000) (hT : T.length ≤ 900000) (hk : k < 64) (hd : d = 0 ∨ d = 1) (hr : root.length = 32) (ti : TI dd K T) (hroot : root = (val dd 6 0).1) :
    ∃ r C v' lv' T' K', S_tree_Tree_Get [.ptr ⟨t, 0, 0⟩, .int .i64 k] B r C ∧ Calm v' (n + 7) ∧ v'.fault = 0 ∧ (∀ e, v'.dev e = v.dev e) ∧ (∀ x ∈ T, x ∈ T') ∧ T'.length ≤ T.length + 7 ∧ TI dd K' T' ∧ (HO dd K v d → HO dd K' v d ∧ ∀ a, getL K a ≠ none → getL K' a ≠ none) ∧
      ((r = .tup [.str [], .bool false, .int .i64 12] ∧ (HO dd K v d → getL S (224 + k) = none ∧ sum (0 :: nowAt v d (224 + k)) ≠ (val dd 0 k).1)) ∨
       (∃ y, r = leafR y ∧ ((getL S (224 + k) = some y) ∨ (getL S (224 + k) = none ∧ y = nowAt v d (224 + k) ∧ (0 :: y) ∈ T' ∧ (NoClash T' ∨ HO dd K v d → sum (0 :: y) = (val dd 0 k).1))))) ∧
      Sep H0 own C (rparts L v' (Part.orc i m lv' T' :: .obj t (.cells 0 .exact (tcells (.ptr ⟨L.p, 0, 0⟩) (.ptr ⟨i, 0, 0⟩) d root (.ptr ⟨sp, 0, 0⟩) (.map km))) :: kmP km K' :: sheetP sp sm S :: R)) := by
  obtain ⟨r, C, h1, v', lv', T', K', h2⟩ := tree_Tree_Get.out (x0 := .ptr ⟨t, 0, 0⟩) (x1 := .int .i64 k) (H := B) (Q := fun r C => ∃ v' lv' T' K', Calm v' (n + 7) ∧ v'.fault = 0 ∧ (∀ e, v'.dev e = v.dev e) ∧ (∀ x ∈ T, x ∈ T') ∧ T'.length ≤ T.length + 7 ∧ TI dd K' T' ∧ (HO dd K v d → HO dd K' v d ∧ ∀ a, getL K a ≠ none → getL K' a ≠ none) ∧
      ((r = .tup [.str [], .bool false, .int .i64 12] ∧ (HO dd K v d → getL S (224 + k) = none ∧ sum (0 :: nowAt v d (224 + k)) ≠ (val dd 0 k).1)) ∨
       (∃ y, r = leafR y ∧ ((getL S (224 + k) = some y) ∨ (getL S (224 + k) = none ∧ y = nowAt v d (224 + k) ∧ (0 :: y) ∈ T' ∧ (NoClash T' ∨ HO dd K v d → sum (0 :: y) = (val dd 0 k).1))))) ∧
      Sep H0 own C (rparts L v' (Part.orc i m lv' T' :: .obj t (.cells 0 .exact (tcells (.ptr ⟨L.p, 0, 0⟩) (.ptr ⟨i, 0, 0⟩) d root (.ptr ⟨sp, 0, 0⟩) (.map km))) :: kmP km K' :: sheetP sp sm S :: R))) (by
    unfold tree_Tree_Get.w
    refine s_boxS h rfl fun b C1 hs => ?_
    refine vb_ld hs.g0 rfl ?_
    have hs := rp_in (X := [_, _, _, _]) (rp_out (X := [_, _, _, _]) (rp_in (X := [_]) hs)).b3
    obtain ⟨r, C2, v1, lv1, T1, K1, hc, c1, f1, hdev1, hT1, hTl1, ti1, ho1, hcase⟩ := tdown_spec hs c hf hn hT hk hd hr ti hroot
    refine cb_i _ _ hc ?_
    rcases hcase with ⟨rfl, hno, hs⟩ | ⟨x, bl, D, rfl, hbl, hbl64, hD, hgood, ⟨_, hsup⟩, hs⟩
    · refine vb_i e_ext0 ?_
      refine vb_i e_ext1 ?_
      refine s_alloc hs fun a C3 _ hs => ?_
      refine s_storeA hs rfl rfl rfl rfl fun C4 hs => ?_
      refine vb_i (neq64 _ _ _) ?_
      refine isB_ct (by decide) ?_
      have hs := rp_out (X := [_, _, _, _, _]) hs.tail
      have hs := rp_in (X := [_, _, _, _]) (hs.f3.tail : Sep H0 own C4 ([_, _, _, _] ++ rparts L v1 R))
      exact fin_ret (rvs_v (rvs_v (rvs_v (rvs_nil _)))) ⟨v1, lv1, T1, K1, calm_le c1 (by omega), f1, hdev1, hT1, by omega, ti1, fun h => absurd h hno, .inl ⟨rfl, fun h => absurd h hno⟩, hs⟩
    · have hxs : x.sc = true := Own.sc hs.head
      refine vb_i e_ext0 ?_
      refine vb_i e_ext1 ?_
      refine s_alloc hs fun a C3 _ hs => ?_
      refine s_storeA hs rfl (by simp [hD]) rfl (by rw [List.all_cons, cells_byte D, sc_cell hxs]; rfl) fun C4 hs => ?_
      refine vb_i (neq64 _ _ _) ?_
      refine isB_cf (by decide) ?_
      have hs := rp_out (X := [_, _, _, _, _, _, _]) (rp_in (X := [_, _]) hs)
      refine cb_i _ _ (leafAt_spec k) ?_
      rw [if_pos (by omega), if_pos (by omega)]
      refine vb_i e_ext0 ?_
      refine vb_i e_ext1 ?_
      refine vb_ld hs.g5 rfl ?_
      refine vb_i (e_nilCheck _) ?_
      refine vb_i (e_fieldAddr _ _) ?_
      refine tc_s hs.g3 hr ?_
      obtain ⟨C5, hc, ek⟩ := get_sheet (i := sp) (m := sm) (l := S) hs.tail.tail.tail.tail.tail.tail.head (224 + (k : Int))
      refine cb_i _ _ hc ?_
      have hs := hs.quiet ek
      refine vb_i e_ext0 ?_
      refine vb_i e_ext1 ?_
      refine JoinP.mk (fun e vs F => e = .normal ∧ ∃ v2 lv2 T2, (Calm v2 (n + 7) ∧ v2.fault = 0 ∧ (∀ e, v2.dev e = v.dev e) ∧ (∀ x ∈ T, x ∈ T2) ∧ T2.length ≤ T.length + 7 ∧ TI dd K1 T2) ∧
        ((vs = [.int .i64 12, .str []] ∧ (HO dd K v d → getL S (224 + k) = none ∧ sum (0 :: nowAt v d (224 + k)) ≠ (val dd 0 k).1)) ∨
         (∃ y, vs = [.int .i64 0, .str y] ∧ ((getL S (224 + k) = some y) ∨ (getL S (224 + k) = none ∧ y = nowAt v d (224 + k) ∧ (0 :: y) ∈ T2 ∧ (NoClash T2 ∨ HO dd K v d → sum (0 :: y) = (val dd 0 k).1))))) ∧
        Sep H0 own F (rparts L v2 (Part.orc i m lv2 T2 :: .obj t (.cells 0 .exact (tcells (.ptr ⟨L.p, 0, 0⟩) (.ptr ⟨i, 0, 0⟩) d root (.ptr ⟨sp, 0, 0⟩) (.map km))) :: kmP km K1 :: sheetP sp sm S :: R))) ?_ ?_
      · cases hg : getL S (224 + (k : Int)) with
        | some y =>
          refine vb_i (v := .bool false) rfl ?_
          refine isB_F ?_
          have hs := rp_in (X := [_, _, _, _]) (hs.tail.tail.f3.tail : Sep H0 own C5 ([_, _, _, _] ++ rparts L v1 R))
          exact ⟨rfl, v1, lv1, T1, ⟨calm_le c1 (by omega), f1, hdev1, hT1, by omega, ti1⟩, .inr ⟨y, rfl, .inl rfl⟩, hs⟩
        | none =>
          refine vb_i (v := .bool true) rfl ?_
          refine isB_T ?_
          refine vb_ld hs.g5 rfl ?_
          refine vb_i (e_fieldAddr _ _) ?_
          refine vb_ldP hs.g0 (by rw [List.length_cons, List.length_map, hD]; rfl) (by rw [List.drop_succ_cons, List.drop_zero, List.take_of_length_le (by rw [List.length_map, hD]; exact Nat.le_refl _)]) ?_
          have hm : mayG d (224 + (k : Int)) = 0 := by
            unfold mayG
            rw [if_neg (by omega), if_neg (by omega)]
          obtain ⟨C6, v2, lv2, hc, c2, f2, hdev2, hs⟩ := tread_spec (g := TreeF.get1) (b := b) (.inr rfl) (rp_in (X := [_, _, _, _, _, _, _]) (hs.b6.b6.f3.b2 : Sep H0 own C5 ([_, _, _, _, _, _, _] ++ rparts L v1 R))) c1 f1 (by omega) (by omega) hm hD
          have hpf : pfx TreeF.get1 = 0 := rfl
          rw [hpf] at hc hs
          have hnow : nowAt v1 d (224 + (k : Int)) = nowAt v d (224 + (k : Int)) := by unfold nowAt; rw [hdev1]
          rw [hnow] at hc hs
          have hks : ∀ x ∈ T1, x ∈ keepT T1 (0 :: nowAt v d (224 + k)) := fun x hx => by unfold keepT; split <;> simp [hx]
          have hkm : (0 :: nowAt v d (224 + k)) ∈ keepT T1 (0 :: nowAt v d (224 + k)) := by unfold keepT; split <;> simp_all
          have hkl := (keepT_len T1 (0 :: nowAt v d (224 + k))).2
          have hs := rp_out (X := [_, _, _, _, _, _, _]) hs
          have hs := rp_in (X := [_, _, _, _]) (hs.f2.tail.f4.tail.f4.tail : Sep H0 own C6 ([_, _, _, _] ++ rparts L v2 R))
          have pack : Calm v2 (n + 7) ∧ v2.fault = 0 ∧ (∀ e, v2.dev e = v.dev e) ∧ (∀ x ∈ T, x ∈ keepT T1 (0 :: nowAt v d (224 + k))) ∧ (keepT T1 (0 :: nowAt v d (224 + k))).length ≤ T.length + 7 ∧ TI dd K1 (keepT T1 (0 :: nowAt v d (224 + k))) :=
            ⟨calm_le c2 (by omega), f2, fun e => (hdev2 e).trans (hdev1 e), fun x hx => hks x (hT1 x hx), by omega, ti1.len, fun h => ti1.right (h.sub hks), fun j hj => hks _ (ti1.texts j hj)⟩
          by_cases hsum : sum (0 :: nowAt v d (224 + k)) = D
          · rw [if_pos hsum] at hc
            refine cb_i _ _ hc ?_
            refine vb_i e_ext0 ?_
            refine vb_i e_ext1 ?_
            exact ⟨rfl, v2, lv2, _, pack, .inr ⟨_, rfl, .inr ⟨rfl, rfl, hkm, fun h => by rw [hsum]; exact (hgood (h.imp (fun h => h.sub hks) id)).2⟩⟩, hs⟩
          · rw [if_neg hsum] at hc
            refine cb_i _ _ hc ?_
            refine vb_i e_ext0 ?_
            refine vb_i e_ext1 ?_
            exact ⟨rfl, v2, lv2, _, pack, .inl ⟨rfl, fun h => ⟨rfl, fun e => hsum (e.trans (hgood (.inr h)).2.symm)⟩⟩, hs⟩
      rintro e vs F ⟨rfl, v2, lv2, T2, ⟨c2, f2, hdev2, hT2, hTl2, ti2⟩, hcase, hs⟩
      refine onE_i ?_
      try simp only [evB]
      rcases hcase with ⟨rfl, hno⟩ | ⟨y, rfl, hy⟩
      · refine JoinP.mk (fun e vs G => e = .ret ∧ vs = [.str [], .bool false, .int .i64 12] ∧ F = G) ?_ ?_
        · refine vb_i (neq64 _ _ _) ?_
          refine isB_ct (by decide) ?_
          exact ⟨rfl, rfl, rfl⟩
        rintro e vs G ⟨rfl, rfl, rfl⟩
        repeat first
        | with_reducible refine onE_i ?_
        | ((with_reducible refine onE_s ?_ ?_); (· decide))
        try simp only [evB]
        exact fin_ret (rvs_v (rvs_v (rvs_v (rvs_nil _)))) ⟨v2, lv2, T2, K1, c2, f2, hdev2, hT2, hTl2, ti2, fun h => ⟨ho1 h, hsup⟩, .inl ⟨rfl, hno⟩, hs⟩
      · refine JoinP.mk (fun e vs G => F <+: G ∧ ((e = .ret ∧ vs = [.str [], .bool false, .int .i64 0] ∧ y = zs 64) ∨ (e = .normal ∧ y ≠ zs 64))) ?_ ?_
        · refine vb_i (neq64 _ _ _) ?_
          refine isB_cf (by decide) ?_
          obtain ⟨G, hc, e⟩ := bare18 (B := F)
          refine cb_i _ _ hc ?_
          refine vb_i (eqls _ _) ?_
          refine isB_c (fun h => ⟨e, .inl ⟨rfl, rfl, h⟩⟩) (fun h => ⟨e, .inr ⟨rfl, h⟩⟩)
        rintro e vs G ⟨e, ⟨rfl, rfl, rfl⟩ | ⟨rfl, hz⟩⟩
        · repeat first
          | with_reducible refine onE_i ?_
          | ((with_reducible refine onE_s ?_ ?_); (· decide))
          try simp only [evB]
          exact fin_ret (rvs_v (rvs_v (rvs_v (rvs_nil _)))) ⟨v2, lv2, T2, K1, c2, f2, hdev2, hT2, hTl2, ti2, fun h => ⟨ho1 h, hsup⟩, .inr ⟨zs 64, by unfold leafR; rw [if_pos rfl]; rfl, hy⟩, hs.quiet e⟩
        · refine onE_i ?_
          try simp only [evB]
          exact fin_ret (rvs_v (rvs_v (rvs_v (rvs_nil _)))) ⟨v2, lv2, T2, K1, c2, f2, hdev2, hT2, hTl2, ti2, fun h => ⟨ho1 h, hsup⟩, .inr ⟨y, by unfold leafR; rw [if_neg hz]; rfl, hy⟩, hs.quiet e⟩)
  exact ⟨r, C, v', lv', T', K', h1, h2⟩
end
end Go.Sh

/- Trees: a leaf has another sum. -/
namespace Go.Sh
open Go Go.Abs

/-- What is known, what is to be written, so many levels up. -/
def foldN (a : Int) (K : List PutV) (dd : List D32) (k : Nat) : Nat → List PutV
  | 0 => K
  | j + 1 => setL (foldN a K dd k j) (a + (up k (j + 1) : Nat), nblk dd j (k / 2 ^ (j + 1)))
section
variable {H0 B : AHeap} {own : Nat → Prop} {R : List Part} {L : RL} {v : RV} {n : Int} {i m : Nat} {lv : AVal} {T : List (List UInt8)} {t b km sp sm : Nat} {d : Int} {root : List UInt8} {s : AVal} {K S : List PutV} {dd : List D32}
structure CS where
  j : Nat
  lv : AVal
  T : List (List UInt8)
set_option maxRecDepth 20000 in
theorem tchange_spec {k : Nat} {x : AVal} {D0 : List UInt8} {D : D32} (h : Sep H0 own B (Part.orc i m lv T :: .obj t (.cells 0 .exact (tcells (.ptr ⟨L.p, 0, 0⟩) (.ptr ⟨i, 0, 0⟩) d root (.ptr ⟨sp, 0, 0⟩) (.map km))) :: kmP km K :: sheetP sp sm S :: .sl x 1 6 (strs (blkL dd k)) :: R))
    (hT : T.length ≤ 900000) (hk : k < 64) (hr : root.length = 32) (hD0 : D0.length = 32) (hdl : k < dd.length) :
    ∃ C lv' T', S_tree_Tree_change [.ptr ⟨t, 0, 0⟩, .int .i64 k, wayV x D0, .agg (D.1.map ofByte)] B (.tup []) C ∧ (∀ x ∈ T, x ∈ T') ∧ T'.length ≤ T.length + 6 ∧ (∀ j, j < 6 → (1 :: nblk (dd.set k D) j (k / 2 ^ (j + 1))) ∈ T') ∧
      Sep H0 own C (Part.orc i m lv' T' :: .obj t (.cells 0 .exact (tcells (.ptr ⟨L.p, 0, 0⟩) (.ptr ⟨i, 0, 0⟩) d (val (dd.set k D) 6 0).1 (.ptr ⟨sp, 0, 0⟩) (.map km))) :: kmP km (foldN 0 K (dd.set k D) k 6) :: sheetP sp sm (foldN 161 S (dd.set k D) k 6) :: .sl x 1 6 (strs (blkL dd k)) :: R) := by
  have hxs : x.sc = true := Own.sc h.tail.tail.tail.tail.head
  obtain ⟨r, C, h1, lv', T', rfl, h2⟩ := tree_Tree_change.out (x0 := .ptr ⟨t, 0, 0⟩) (x1 := .int .i64 k) (x2 := wayV x D0) (x3 := .agg (D.1.map ofByte)) (H := B) (Q := fun r C => ∃ lv' T', r = .tup [] ∧ (∀ x ∈ T, x ∈ T') ∧ T'.length ≤ T.length + 6 ∧ (∀ j, j < 6 → (1 :: nblk (dd.set k D) j (k / 2 ^ (j + 1))) ∈ T') ∧
      Sep H0 own C (Part.orc i m lv' T' :: .obj t (.cells 0 .exact (tcells (.ptr ⟨L.p, 0, 0⟩) (.ptr ⟨i, 0, 0⟩) d (val (dd.set k D) 6 0).1 (.ptr ⟨sp, 0, 0⟩) (.map km))) :: kmP km (foldN 0 K (dd.set k D) k 6) :: sheetP sp sm (foldN 161 S (dd.set k D) k 6) :: .sl x 1 6 (strs (blkL dd k)) :: R)) (by
    unfold tree_Tree_change.w
    refine s_box h rfl fun b1 C1 _ hs => ?_
    refine s_box hs rfl fun b2 C2 _ hs => ?_
    simp only [wayV, AVal.cells] at hs
    refine cb_i _ _ ⟨k, rfl, .inr ⟨by omega, by omega, rfl, rfl⟩⟩ ?_
    rw [Int.toNat_natCast]
    have hs := hs.new (.cells 0 .opn (ints (path k)))
    have hs : Sep H0 own (C2 ++ [AObj.cells 0 .opn (ints (path k))]) (.sl (.slice ⟨C2.length, 0, 0⟩ 6 (.op 1)) 1 6 (ints (path k)) :: _) := hs.as rfl fun h => ⟨rfl, .inr (.inr ⟨_, 0, rfl, h⟩)⟩
    generalize (.slice ⟨C2.length, 0, 0⟩ 6 (.op 1) : AVal) = pv at *
    generalize C2 ++ [AObj.cells 0 .opn (ints (path k))] = C3 at hs
    refine vb_i e_ext0 ?_
    refine vb_i e_ext1 ?_
    refine vb_len hs.o0.view ?_
    refine LoopP.ruleG (α := CS) (fun z => [.int .i64 (z.j : Int)])
      (fun z E => (z.j ≤ 6 ∧ (∀ x ∈ T, x ∈ z.T) ∧ z.T.length ≤ T.length + z.j ∧ (∀ y, y < z.j → (1 :: nblk (dd.set k D) y (k / 2 ^ (y + 1))) ∈ z.T)) ∧
        Sep H0 own E (.sl pv 1 6 (ints (path k)) :: .obj b2 (.cells 0 .exact ((val (dd.set k D) z.j (k / 2 ^ z.j)).1.map ofByte)) :: .obj b1 (.cells 0 .exact (x :: D0.map ofByte)) :: Part.orc i m z.lv z.T :: .obj t (.cells 0 .exact (tcells (.ptr ⟨L.p, 0, 0⟩) (.ptr ⟨i, 0, 0⟩) d root (.ptr ⟨sp, 0, 0⟩) (.map km))) ::
          kmP km (foldN 0 K (dd.set k D) k z.j) :: sheetP sp sm (foldN 161 S (dd.set k D) k z.j) :: .sl x 1 6 (strs (blkL dd k)) :: R))
      (fun z => 6 - z.j) ⟨0, lv, T⟩ (by simp) ⟨⟨Nat.zero_le _, fun _ h => h, by dsimp only; omega, fun y hy => absurd hy (Nat.not_lt_zero y)⟩, ?_⟩ ?_
    · show Sep H0 own C3 (_ :: .obj b2 (.cells 0 .exact ((val (dd.set k D) 0 (k / 2 ^ 0)).1.map ofByte)) :: _)
      rw [Nat.pow_zero, Nat.div_one, val_at dd hdl]
      exact hs
    clear hs
    rintro ⟨j, lw, T2⟩ E Kn ⟨⟨hj, hT2, hTl, hin⟩, hs⟩ hkk
    simp only at hj hT2 hTl hin hs
    unfold tree_Tree_change.L3 tree_Tree_change.L3.b
    try simp only [evB]
    refine vb_i (lss64 _ _ _) ?_
    by_cases hj6 : j = 6
    · subst hj6
      refine isB_cf (by decide) ?_
      refine onE_i ?_
      refine vb_ldA hs.g1 (by simp [(val (dd.set k D) 6 (k / 2 ^ 6)).2]) ?_
      refine vb_i (e_nilCheck _) ?_
      refine vb_i (e_fieldAddr _ _) ?_
      refine s_storeN (n := 32) hs.f4 rfl (by simp [(val (dd.set k D) 6 (k / 2 ^ 6)).2]) (by rw [tc_len hr]; dsimp only; omega) (cells_byte _) fun F hs => ?_
      have hs : Sep H0 own F (.obj t (.cells 0 .exact (tcells (.ptr ⟨L.p, 0, 0⟩) (.ptr ⟨i, 0, 0⟩) d (val (dd.set k D) 6 (k / 2 ^ 6)).1 (.ptr ⟨sp, 0, 0⟩) (.map km))) :: _) := (tset_root hr (val (dd.set k D) 6 (k / 2 ^ 6)).2) ▸ hs
      rw [show k / 2 ^ 6 = 0 by omega] at hs
      exact fin_normal (rvs_nil _) ⟨lw, T2, rfl, hT2, hTl, hin, hs.d1.d1.d1.f1⟩
    refine isB_ct (by omega) ?_
    obtain ⟨_, _, hside, hhit, hup⟩ := path_facts k hk j (by omega)
    have hsd : sideR (k : Int) (up k (j + 1) : Nat) = [.int .i64 (((k / 2 ^ j) % 2 : Nat) : Int), .int .i64 0] := by
      unfold sideR
      rw [if_neg (by omega), Int.toNat_natCast, hhit, ← hside]
    have hs2 : (k / 2 ^ j) % 2 < 2 := Nat.mod_lt _ (by decide)
    refine vb_addrN hs.o0.view (by omega) ?_
    refine vb_el0 hs.o0.view (path_at (by omega)) ?_
    refine cb_i _ _ ⟨_, _, rfl, rfl, rfl⟩ ?_
    rw [hsd]
    refine vb_i e_ext0 ?_
    refine vb_i e_ext1 ?_
    refine vb_i (e_fieldAddr _ _) ?_
    refine vb_ld hs.g2 rfl ?_
    have hov : Own E x 1 6 (strs (blkL dd k)) := hs.tail.tail.tail.tail.tail.tail.tail.head
    refine vb_addrN hov.view (by omega) ?_
    refine vb_el0 hov.view (x := .str (nblk dd j (k / 2 ^ (j + 1)))) (by simp [strs, blkL, List.getElem?_range (show j < 6 by omega)]) ?_
    refine vb_ldA hs.g1 (by simp [(val (dd.set k D) j (k / 2 ^ j)).2]) ?_
    have hmay : mayR (nblk dd j (k / 2 ^ (j + 1))) (((k / 2 ^ j) % 2 : Nat) : Int) = 0 := by
      unfold mayR
      rw [if_neg (by rw [nblk_len]; omega), if_neg (by omega)]
    refine cb_i _ _ ⟨_, _, _, rfl, (val (dd.set k D) j (k / 2 ^ j)).2, rfl, .inr ⟨hmay, rfl⟩⟩ ?_
    rw [nblk_with dd j k D _ rfl]
    refine vb_i e_ext0 ?_
    refine vb_i e_ext1 ?_
    refine vb_i (e_nilCheck _) ?_
    refine vb_i (e_fieldAddr _ _) ?_
    refine tc_k hs.g4 hr ?_
    refine km_put hs.f5 _ _ fun E1 hs => ?_
    refine cb_i _ _ (nodeAt_spec (up k (j + 1) : Nat)) ?_
    rw [if_pos (by omega), if_pos (by omega)]
    refine vb_i e_ext0 ?_
    refine vb_i e_ext1 ?_
    refine vb_i (e_nilCheck _) ?_
    refine vb_i (e_fieldAddr _ _) ?_
    refine tc_s hs.g5 hr ?_
    obtain ⟨E2, hc, hs⟩ := set_sheet hs.f6 (161 + (up k (j + 1) : Nat)) (nblk (dd.set k D) j (k / 2 ^ (j + 1)))
    refine cb_i _ _ hc ?_
    refine vb_i (e_nilCheck _) ?_
    refine vb_i (e_fieldAddr _ _) ?_
    refine vb_ld hs.g6 rfl ?_
    obtain ⟨E3, lw2, hc, hs⟩ := Node_spec hs.f5 (by omega) (nblk_len (dd.set k D) j (k / 2 ^ (j + 1)))
    refine cb_i _ _ hc ?_
    refine vb_i e_ext0 ?_
    refine vb_i e_ext1 ?_
    refine s_storeA hs.f4 rfl (by simp [sum_len]) (by simp [(val (dd.set k D) j (k / 2 ^ j)).2]) (cells_byte _) fun E4 hs => ?_
    refine vb_i (add64 (by omega) (by omega)) ?_
    have hkl := (keepT_len T2 (1 :: nblk (dd.set k D) j (k / 2 ^ (j + 1)))).2
    have hks : ∀ x ∈ T2, x ∈ keepT T2 (1 :: nblk (dd.set k D) j (k / 2 ^ (j + 1))) := fun x hx => by unfold keepT; split <;> simp [hx]
    have hkm : (1 :: nblk (dd.set k D) j (k / 2 ^ (j + 1))) ∈ keepT T2 (1 :: nblk (dd.set k D) j (k / 2 ^ (j + 1))) := by unfold keepT; split <;> simp_all
    refine hkk ⟨j + 1, lw2, keepT T2 (1 :: nblk (dd.set k D) j (k / 2 ^ (j + 1)))⟩ E4 ⟨⟨by dsimp only; omega, fun x hx => hks x (hT2 x hx), by dsimp only; omega, fun y hy => ?_⟩, ?_⟩ (by dsimp only; omega)
    · dsimp only at hy ⊢
      by_cases e : y = j
      · rw [e]; exact hkm
      · exact hks _ (hin y (by omega))
    · have hs := hs.f2.f3.f6.f4.f6.f5.f6
      show Sep H0 own E4 (_ :: .obj b2 (.cells 0 .exact ((val (dd.set k D) (j + 1) (k / 2 ^ (j + 1))).1.map ofByte)) :: _)
      rw [val_sum]
      have e0 : (0 : Int) + (up k (j + 1) : Nat) = (up k (j + 1) : Nat) := by omega
      unfold foldN
      dsimp only
      rw [e0]
      exact hs)
  exact ⟨C, lv', T', h1, h2⟩
end
end Go.Sh

/- Trees: an honest tree, and a leaf that gets a block. -/
namespace Go.Sh
open Go Go.Abs

theorem foldN_rise {a : Int} {K : List PutV} {dd : List D32} {k : Nat} (h : Rising K) : ∀ j, Rising (foldN a K dd k j)
  | 0 => h
  | j + 1 => rise_set (foldN_rise h j) _
/-- What stands at a place behind so many levels. -/
theorem foldN_get {a : Int} {K : List PutV} {dd : List D32} {k : Nat} (hr : Rising K) (hk : k < 64) : ∀ j, j ≤ 6 → ∀ b : Int,
    (∃ i, i < j ∧ b = a + (up k (i + 1) : Nat) ∧ getL (foldN a K dd k j) b = some (nblk dd i (k / 2 ^ (i + 1)))) ∨ ((∀ i, i < j → b ≠ a + (up k (i + 1) : Nat)) ∧ getL (foldN a K dd k j) b = getL K b)
  | 0, _, b => .inr ⟨fun i h => absurd h (Nat.not_lt_zero i), rfl⟩
  | j + 1, hj, b => by
    have hs : getL (foldN a K dd k (j + 1)) b = if b = a + (up k (j + 1) : Nat) then some (nblk dd j (k / 2 ^ (j + 1))) else getL (foldN a K dd k j) b := getL_set _ _ _ _ (foldN_rise hr j)
    by_cases e : b = a + (up k (j + 1) : Nat)
    · exact .inl ⟨j, Nat.lt_succ_self j, e, by rw [hs, if_pos e]⟩
    · rw [if_neg e] at hs
      rcases foldN_get hr hk j (by omega) b with ⟨i, h1, h2, h3⟩ | ⟨h1, h2⟩
      · exact .inl ⟨i, by omega, h2, by rw [hs, h3]⟩
      · refine .inr ⟨fun i hi => ?_, by rw [hs, h2]⟩
        rcases Nat.lt_or_eq_of_le (Nat.le_of_lt_succ hi) with h | rfl
        · exact h1 i h
        · exact e
/-- At a node. -/
theorem foldN_node {a : Int} {K : List PutV} {dd : List D32} {k n : Nat} (hr : Rising K) (hk : k < 64) :
    (getL (foldN a K dd k 6) (a + n) = some (ndB dd n)) ∨ ((∀ i, i < 6 → n ≠ up k (i + 1)) ∧ getL (foldN a K dd k 6) (a + n) = getL K (a + n)) := by
  rcases foldN_get (a := a) (K := K) (dd := dd) hr hk 6 (Nat.le_refl _) (a + n) with ⟨i, h1, h2, h3⟩ | ⟨h1, h2⟩
  · have e : n = up k (i + 1) := by omega
    exact .inl (by rw [h3, e, ndB_up dd hk h1])
  · exact .inr ⟨fun i hi e => h1 i hi (by rw [e]), h2⟩
theorem foldN_off {a b : Int} {K : List PutV} {dd : List D32} {k : Nat} (hr : Rising K) (hk : k < 64) (hb : b < a ∨ a + 63 ≤ b) : getL (foldN a K dd k 6) b = getL K b := by
  rcases foldN_get (a := a) (K := K) (dd := dd) hr hk 6 (Nat.le_refl _) b with ⟨i, h1, h2, h3⟩ | ⟨h1, h2⟩
  · have := (path_facts k hk i h1).2.2.2.2
    omega
  · exact h2
/-- A tree to which nobody else writes. -/
structure HT (m : List PutV) (S K : List PutV) (v : RV) (d : Int) (T : List (List UInt8)) (root : List UInt8) : Prop where
  mok : MOk m
  root : root = (val (digs m) 6 0).1
  len : ∀ p ∈ K, (0 ≤ p.1 ∧ p.1 < 63) ∧ p.2.length = 64
  known : ∀ p ∈ K, p.2 = ndB (digs m) p.1.toNat
  texts : ∀ j, j < 63 → (1 :: ndB (digs m) j) ∈ T
  leafT : ∀ l, l < 64 → (0 :: leafB m l) ∈ T
  nodeS : ∀ j : Nat, j < 63 → ∀ s, getL S (161 + j) = some s → s = ndB (digs m) j ∧ getL K j ≠ none
  nodeD : ∀ j : Nat, j < 63 → getL S (161 + j) = none → nowAt v d (161 + j) = ndB (digs m) j
  leafE : ∀ l : Nat, l < 64 → (getL S (224 + l)).getD (nowAt v d (224 + l)) = leafB m l
  keys : ∀ p ∈ S, (161 ≤ p.1 ∧ p.1 < 288) ∧ p.2.length = 64
  riseK : Rising K
  riseS : Rising S
theorem HT.ti {m S K : List PutV} {v : RV} {d : Int} {T : List (List UInt8)} {root : List UInt8} (h : HT m S K v d T root) : TI (digs m) K T := ⟨h.len, fun _ => h.known, h.texts⟩
theorem HT.ho {m S K : List PutV} {v : RV} {d : Int} {T : List (List UInt8)} {root : List UInt8} (h : HT m S K v d T root) : HO (digs m) K v d :=
  ⟨h.known, fun j hj hn => by
    cases hs : getL S (161 + (j : Int)) with
    | none => exact h.nodeD j hj hs
    | some s => exact absurd hn (h.nodeS j hj s hs).2⟩
/-- A leaf has got a block. -/
theorem HT.put {m S K K1 : List PutV} {v v' : RV} {d : Int} {T T' : List (List UInt8)} {root : List UInt8} (h : HT m S K v d T root) {k : Nat} {s : List UInt8} (hk : k < 64) (hs : s.length = 64)
    (ti : TI (digs m) K1 T') (ho : HO (digs m) K1 v d) (hr1 : Rising K1) (hgot : ∀ j, j < 6 → getL K1 (up k (j + 1)) ≠ none) (hsup : ∀ j : Nat, getL K j ≠ none → getL K1 j ≠ none) (hdev : ∀ e, v'.dev e = v.dev e) (hT : ∀ x ∈ T, x ∈ T')
    (h0 : (0 :: s) ∈ T') (h1 : ∀ j, j < 6 → (1 :: nblk ((digs m).set k (sumD (0 :: s))) j (k / 2 ^ (j + 1))) ∈ T') :
    HT (putM m k s) (setL (foldN 161 S ((digs m).set k (sumD (0 :: s))) k 6) (224 + (k : Int), s)) (foldN 0 K1 ((digs m).set k (sumD (0 :: s))) k 6) v' d T' (val ((digs m).set k (sumD (0 :: s))) 6 0).1 := by
  have hnow : ∀ e a, nowAt v' e a = nowAt v e a := fun e a => by unfold nowAt; rw [hdev]
  have hdd : digs (putM m k s) = (digs m).set k (sumD (0 :: s)) := digs_put h.mok
  have hSr := foldN_rise (a := 161) (dd := (digs m).set k (sumD (0 :: s))) (k := k) h.riseS 6
  have hne : ∀ j, j < 63 → (∀ i, i < 6 → j ≠ up k (i + 1)) → ndB ((digs m).set k (sumD (0 :: s))) j = ndB (digs m) j := fun j hj hn => ndB_ne _ hk hj hn
  have hon : ∀ j : Nat, j < 63 → (getL (foldN 0 K1 ((digs m).set k (sumD (0 :: s))) k 6) j = some (ndB ((digs m).set k (sumD (0 :: s))) j)) ∨ ((∀ i, i < 6 → j ≠ up k (i + 1)) ∧ getL (foldN 0 K1 ((digs m).set k (sumD (0 :: s))) k 6) j = getL K1 j) := fun j hj => by
    have := foldN_node (a := 0) (K := K1) (dd := (digs m).set k (sumD (0 :: s))) (n := j) hr1 hk
    rwa [Int.zero_add] at this
  refine ⟨h.mok.put hk hs, by rw [hdd], ?_, ?_, ?_, ?_, ?_, ?_, ?_, ?_, foldN_rise hr1 6, rise_set hSr _⟩
  · intro p hp
    have hg := getL_some (foldN_rise hr1 6).apart hp
    rcases foldN_get (a := 0) (K := K1) (dd := (digs m).set k (sumD (0 :: s))) hr1 hk 6 (Nat.le_refl _) p.1 with ⟨i, a1, a2, a3⟩ | ⟨_, a2⟩
    · have := (path_facts k hk i a1).2.2.2.2
      rw [hg] at a3
      rw [Option.some.inj a3]
      exact ⟨by omega, nblk_len _ _ _⟩
    · rw [hg] at a2
      exact ti.len p (getL_mem a2.symm)
  · intro p hp
    rw [hdd]
    have hg := getL_some (foldN_rise hr1 6).apart hp
    rcases foldN_get (a := 0) (K := K1) (dd := (digs m).set k (sumD (0 :: s))) hr1 hk 6 (Nat.le_refl _) p.1 with ⟨i, a1, a2, a3⟩ | ⟨a1, a2⟩
    · rw [hg] at a3
      rw [Option.some.inj a3, show p.1.toNat = up k (i + 1) by omega, ndB_up _ hk a1]
    · rw [hg] at a2
      have hm := getL_mem a2.symm
      have hl := (ti.len p hm).1
      rw [ho.known p hm, hne _ (by omega) fun i hi e => a1 i hi (by omega)]
  · intro j hj
    rw [hdd]
    by_cases hp : ∃ i, i < 6 ∧ j = up k (i + 1)
    · obtain ⟨i, hi, rfl⟩ := hp
      rw [ndB_up _ hk hi]
      exact h1 i hi
    · rw [hne j hj fun i hi e => hp ⟨i, hi, e⟩]
      exact ti.texts j hj
  · intro l hl
    rw [leafB_put h.mok]
    split
    · exact h0
    · exact hT _ (h.leafT l hl)
  · intro j hj s' hg
    rw [hdd]
    rw [getL_set _ _ _ _ hSr, if_neg (by omega)] at hg
    rcases hon j hj with hK | ⟨hnp, hK⟩
    · refine ⟨?_, by rw [hK]; simp⟩
      rcases foldN_node (a := 161) (K := S) (dd := (digs m).set k (sumD (0 :: s))) (n := j) h.riseS hk with hF | ⟨hn, hF⟩
      · rw [hF] at hg; exact (Option.some.inj hg).symm
      · rw [hF] at hg
        rw [hne j hj hn]
        exact (h.nodeS j hj s' hg).1
    · rcases foldN_get (a := 161) (K := S) (dd := (digs m).set k (sumD (0 :: s))) h.riseS hk 6 (Nat.le_refl _) (161 + (j : Int)) with ⟨i, a1, a2, _⟩ | ⟨_, hF⟩
      · exact absurd (by omega) (hnp i a1)
      · rw [hF] at hg
        obtain ⟨b1, b2⟩ := h.nodeS j hj s' hg
        exact ⟨by rw [b1, hne j hj hnp], by rw [hK]; exact hsup j b2⟩
  · intro j hj hg
    rw [hdd, hnow]
    rw [getL_set _ _ _ _ hSr, if_neg (by omega)] at hg
    rcases foldN_node (a := 161) (K := S) (dd := (digs m).set k (sumD (0 :: s))) (n := j) h.riseS hk with hF | ⟨hn, hF⟩
    · rw [hF] at hg; cases hg
    · rw [hF] at hg
      rw [hne j hj hn]
      exact h.nodeD j hj hg
  · intro l hl
    rw [getL_set _ _ _ _ hSr, leafB_put h.mok, hnow]
    by_cases e : l = k
    · rw [if_pos (by rw [e]), if_pos e]; rfl
    · rw [if_neg (by omega), if_neg e, foldN_off h.riseS hk (by omega)]
      exact h.leafE l hl
  · intro p hp
    rcases mem_set hp with e | hp
    · rw [e]; exact ⟨by dsimp only; omega, hs⟩
    · have hg := getL_some hSr.apart hp
      rcases foldN_get (a := 161) (K := S) (dd := (digs m).set k (sumD (0 :: s))) h.riseS hk 6 (Nat.le_refl _) p.1 with ⟨i, a1, a2, a3⟩ | ⟨_, a2⟩
      · have := (path_facts k hk i a1).2.2.2.2
        rw [hg] at a3
        rw [Option.some.inj a3]
        exact ⟨by omega, nblk_len _ _ _⟩
      · rw [hg] at a2
        exact h.keys p (getL_mem a2.symm)
end Go.Sh

/- Trees: Put. -/
namespace Go.Sh
open Go Go.Abs

section
variable {H0 B : AHeap} {own : Nat → Prop} {R : List Part} {L : RL} {v : RV} {n : Int} {i m : Nat} {lv : AVal} {T : List (List UInt8)} {t b km sp sm : Nat} {d : Int} {root : List UInt8} {K S M : List PutV}
theorem tput_bad {k : Int} {s : List UInt8} (h : ¬ (0 ≤ k ∧ k < 64) ∨ s.length ≠ 64) : ∃ C, S_tree_Tree_Put [.ptr ⟨t, 0, 0⟩, .int .i64 k, .str s] B (.int .i64 (if 0 ≤ k ∧ k < 64 then 6 else 3)) C ∧ B <+: C := by
  obtain ⟨r, C, h, rfl, k⟩ := tree_Tree_Put.out (x0 := .ptr ⟨t, 0, 0⟩) (x1 := .int .i64 k) (x2 := .str s) (H := B) (Q := fun r C => r = .int .i64 (if 0 ≤ k ∧ k < 64 then 6 else 3) ∧ B <+: C) (by
    unfold tree_Tree_Put.w
    refine cb_i _ _ (leafAt_spec k) ?_
    refine vb_i e_ext0 ?_
    refine vb_i e_ext1 ?_
    refine vb_i (e_ptrNil _ _) ?_
    refine isB_F ?_
    refine vb_i (neq64 _ _ _) ?_
    by_cases hk : 0 ≤ k ∧ k < 64
    · rw [if_pos hk, if_pos hk, if_pos hk]
      refine isB_cf (by decide) ?_
      refine vb_i (e_lenSt _) ?_
      refine vb_i (neq64 _ _ _) ?_
      refine isB_ct (by have := h.resolve_left (fun g => g hk); omega) ?_
      exact fin_ret (rvs_v (rvs_nil _)) ⟨rfl, List.prefix_refl _⟩
    · rw [if_neg hk, if_neg hk, if_neg hk]
      refine isB_ct (by decide) ?_
      exact fin_ret (rvs_v (rvs_nil _)) ⟨rfl, List.prefix_refl _⟩)
  exact ⟨C, h, k⟩
theorem tput_spec {k : Nat} {s : List UInt8} (h : Sep H0 own B (rparts L v (Part.orc i m lv T :: .obj t (.cells 0 .exact (tcells (.ptr ⟨L.p, 0, 0⟩) (.ptr ⟨i, 0, 0⟩) d root (.ptr ⟨sp, 0, 0⟩) (.map km))) :: kmP km K :: sheetP sp sm S :: R)))
    (c : Calm v n) (hf : v.fault = 0) (hn : n ≤ 900000) (hT : T.length ≤ 800000) (hk : k < 64) (hd : d = 0 ∨ d = 1) (hs64 : s.length = 64) (ht : HT M S K v d T root) :
    ∃ C v' lv' T' K' S' root', S_tree_Tree_Put [.ptr ⟨t, 0, 0⟩, .int .i64 k, .str s] B (.int .i64 0) C ∧ Calm v' (n + 6) ∧ v'.fault = 0 ∧ (∀ e, v'.dev e = v.dev e) ∧ (∀ x ∈ T, x ∈ T') ∧ T'.length ≤ T.length + 13 ∧ HT (putM M k s) S' K' v' d T' root' ∧
      Sep H0 own C (rparts L v' (Part.orc i m lv' T' :: .obj t (.cells 0 .exact (tcells (.ptr ⟨L.p, 0, 0⟩) (.ptr ⟨i, 0, 0⟩) d root' (.ptr ⟨sp, 0, 0⟩) (.map km))) :: kmP km K' :: sheetP sp sm S' :: R)) := by
  have hr : root.length = 32 := by rw [ht.root]; exact (val (digs M) 6 0).2
  obtain ⟨r, C, h1, v', lv', T', K', S', root', rfl, h2⟩ := tree_Tree_Put.out (x0 := .ptr ⟨t, 0, 0⟩) (x1 := .int .i64 k) (x2 := .str s) (H := B) (Q := fun r C => ∃ v' lv' T' K' S' root', r = .int .i64 0 ∧ Calm v' (n + 6) ∧ v'.fault = 0 ∧ (∀ e, v'.dev e = v.dev e) ∧ (∀ x ∈ T, x ∈ T') ∧ T'.length ≤ T.length + 13 ∧ HT (putM M k s) S' K' v' d T' root' ∧
      Sep H0 own C (rparts L v' (Part.orc i m lv' T' :: .obj t (.cells 0 .exact (tcells (.ptr ⟨L.p, 0, 0⟩) (.ptr ⟨i, 0, 0⟩) d root' (.ptr ⟨sp, 0, 0⟩) (.map km))) :: kmP km K' :: sheetP sp sm S' :: R))) (by
    unfold tree_Tree_Put.w
    refine cb_i _ _ (leafAt_spec k) ?_
    rw [if_pos (by omega), if_pos (by omega)]
    refine vb_i e_ext0 ?_
    refine vb_i e_ext1 ?_
    refine vb_i (e_ptrNil _ _) ?_
    refine isB_F ?_
    refine vb_i (neq64 _ _ _) ?_
    refine isB_cf (by decide) ?_
    refine vb_i (e_lenSt _) ?_
    refine vb_i (neq64 _ _ _) ?_
    refine isB_cf (by omega) ?_
    obtain ⟨r, C2, v1, lv1, T1, K1, hc, c1, f1, hdev1, hT1, hTl1, ti1, ho1, hcase⟩ := tdown_spec h c hf hn (by omega) hk hd hr ht.ti ht.root
    refine cb_i _ _ hc ?_
    rcases hcase with ⟨rfl, hno, hs⟩ | ⟨x, bl, D, rfl, hbl, hbl64, hD, hgood, ⟨hgot, hsup⟩, hs⟩
    · exact absurd ht.ho hno
    obtain ⟨rfl, hDv⟩ := hgood (.inr ht.ho)
    have hxs : x.sc = true := Own.sc hs.head
    refine vb_i e_ext0 ?_
    refine vb_i e_ext1 ?_
    refine s_alloc hs fun a C3 _ hs => ?_
    refine s_storeA hs rfl (by simp [hD]) rfl (by rw [List.all_cons, cells_byte D, sc_cell hxs]; rfl) fun C4 hs => ?_
    refine vb_i (neq64 _ _ _) ?_
    refine isB_cf (by decide) ?_
    have hs := rp_out (X := [_, _, _, _, _, _]) (rp_in (X := [_, _]) hs)
    refine vb_i (e_nilCheck _) ?_
    refine vb_i (e_fieldAddr _ _) ?_
    refine vb_ld hs.g3 rfl ?_
    have hr1 : Rising K1 := hs.tail.tail.tail.tail.head.1
    have hs : Sep H0 own C4 (Part.orc i m lv1 T1 :: _) := hs.f2
    obtain ⟨C5, lv2, hc, hs⟩ := Leaf_spec hs (by omega) hs64
    refine cb_i _ _ hc ?_
    refine vb_i e_ext0 ?_
    refine vb_i e_ext1 ?_
    refine s_alloc hs fun a2 C6 _ hs => ?_
    refine s_storeA hs rfl (by simp [sum_len]) rfl (cells_byte _) fun C7 hs => ?_
    refine vb_ldA hs.g2 (by simp [hD]) ?_
    refine vb_ldA hs.g0 (by simp [sum_len]) ?_
    have hkl := (keepT_len T1 (0 :: s)).2
    have hks : ∀ x ∈ T1, x ∈ keepT T1 (0 :: s) := fun x hx => by unfold keepT; split <;> simp [hx]
    have hkm : (0 :: s) ∈ keepT T1 (0 :: s) := by unfold keepT; split <;> simp_all
    obtain ⟨C8, lv3, T3, hc, hT3, hTl3, hin3, hs⟩ := tchange_spec (x := x) (D0 := D) (D := sumD (0 :: s)) (dd := digs M) hs.f3.f6.f6.f6.f5 (by omega) hk hr hD (by rw [digs_len]; exact hk)
    refine cb_i _ _ hc ?_
    refine vb_i (e_nilCheck _) ?_
    refine vb_i (e_fieldAddr _ _) ?_
    refine tc_s hs.g1 (val _ 6 0).2 ?_
    obtain ⟨C9, hc, hs⟩ := set_sheet hs.f3 (224 + (k : Int)) s
    refine cb_i _ _ hc ?_
    have hs := rp_in (X := [_, _, _, _]) (hs.b3.f4.tail.f4.tail.f4.tail : Sep H0 own C9 ([_, _, _, _] ++ rparts L v1 R))
    have hTT : ∀ x ∈ T1, x ∈ T3 := fun x hx => hT3 x (hks x hx)
    have hput := ht.put (v' := v1) (T' := T3) hk hs64 ⟨ti1.len, fun h => ti1.right (h.sub hTT), fun j hj => hTT _ (ti1.texts j hj)⟩ (ho1 ht.ho) hr1 hgot (fun j h => hsup j h) hdev1 (fun x hx => hTT x (hT1 x hx)) (hT3 _ hkm) hin3
    exact fin_ret (rvs_v (rvs_nil _)) ⟨v1, lv3, T3, _, _, _, rfl, c1, f1, hdev1, fun x hx => hTT x (hT1 x hx), by omega, hput, hs⟩)
  exact ⟨C, v', lv', T', K', S', root', h1, h2⟩
end
end Go.Sh

/- Trees: Sheet, Root, Known, Done, Forget, Clear. -/
namespace Go.Sh
open Go Go.Abs

section
variable {H0 B : AHeap} {own : Nat → Prop} {R : List Part} {t km sp sm : Nat} {d : Int} {root : List UInt8} {K S : List PutV} {r o : AVal}
theorem tsheet_spec {s : AVal} {k : AVal} (hg : B[t]? = some (.cells 0 .exact (tcells r o d root s k))) (hr : root.length = 32) : S_tree_Tree_Sheet [.ptr ⟨t, 0, 0⟩] B s B := by
  obtain ⟨r, C, h, rfl, rfl⟩ := tree_Tree_Sheet.out (x0 := .ptr ⟨t, 0, 0⟩) (H := B) (Q := fun r C => r = s ∧ C = B) (by
    unfold tree_Tree_Sheet.w
    refine vb_i (e_ptrNil _ _) ?_
    refine isB_F ?_
    refine vb_i (e_nilCheck _) ?_
    refine vb_i (e_fieldAddr _ _) ?_
    refine tc_s hg hr ?_
    exact fin_ret (rvs_v (rvs_nil _)) ⟨List.prefix_refl _, rfl, rfl⟩)
  exact h
theorem tknown_spec {s : AVal} (hg : B[t]? = some (.cells 0 .exact (tcells r o d root s (.map km)))) (hr : root.length = 32) (hk : (kmP km K).ok B) : S_tree_Tree_Known [.ptr ⟨t, 0, 0⟩] B (.int .i64 K.length) B := by
  obtain ⟨r, C, h, rfl, rfl⟩ := tree_Tree_Known.out (x0 := .ptr ⟨t, 0, 0⟩) (H := B) (Q := fun r C => r = .int .i64 K.length ∧ C = B) (by
    unfold tree_Tree_Known.w
    refine vb_i (e_ptrNil _ _) ?_
    refine isB_F ?_
    refine vb_i (e_nilCheck _) ?_
    refine vb_i (e_fieldAddr _ _) ?_
    refine tc_k hg hr ?_
    obtain ⟨_, w, es, h4, h5⟩ := hk
    refine vb_i (v := .int .i64 K.length) (by simp only [lenMp, h4]; rw [ments_len, h5.length_eq]) ?_
    exact fin_ret (rvs_v (rvs_nil _)) ⟨List.prefix_refl _, rfl, rfl⟩)
  exact h
theorem troot_spec {s k : AVal} (hg : B[t]? = some (.cells 0 .exact (tcells r o d root s k))) (hr : root.length = 32) : ∃ C, S_tree_Tree_Root [.ptr ⟨t, 0, 0⟩] B (.agg (root.map ofByte)) C ∧ B <+: C := by
  obtain ⟨r, C, h, rfl, k⟩ := tree_Tree_Root.out (x0 := .ptr ⟨t, 0, 0⟩) (H := B) (Q := fun r C => r = .agg (root.map ofByte) ∧ B <+: C) (by
    unfold tree_Tree_Root.w
    have hs : Sep B (fun _ => False) B [] := Sep.start B
    refine s_alloc hs fun a C1 h1 hs => ?_
    refine vb_i (e_ptrNil _ _) ?_
    refine isB_F ?_
    refine vb_i (e_nilCheck _) ?_
    refine vb_i (e_fieldAddr _ _) ?_
    refine tc_root (by obtain ⟨w, rfl⟩ := h1; rw [List.getElem?_append_left (lt_of_some hg)]; exact hg) hr ?_
    refine s_storeA hs rfl (by simp [hr]) rfl (cells_byte _) fun C2 hs => ?_
    exact fin_ret (rvs_c (e_loadAll hs.g0 (by simp [hr])) (rvs_nil _)) ⟨hs.pre fun _ x => x, rfl, hs.pre fun _ x => x⟩)
  exact ⟨C, h, k⟩
theorem tdone_spec {s : AVal} (hs : Sep H0 own B (sheetP sp sm S :: R)) (hg : B[t]? = some (.cells 0 .exact (tcells r o d root (.ptr ⟨sp, 0, 0⟩) s))) (hr : root.length = 32) :
    ∃ m' C, S_tree_Tree_Done [.ptr ⟨t, 0, 0⟩] B (.tup []) C ∧ Sep H0 own C (sheetP sp m' [] :: R) := by
  obtain ⟨r, C, h, rfl, m', k⟩ := tree_Tree_Done.out (x0 := .ptr ⟨t, 0, 0⟩) (H := B) (Q := fun r C => r = .tup [] ∧ ∃ m', Sep H0 own C (sheetP sp m' [] :: R)) (by
    unfold tree_Tree_Done.w
    refine vb_i (e_ptrNilN _ _) ?_
    refine isB_T ?_
    refine vb_i (e_nilCheck _) ?_
    refine vb_i (e_fieldAddr _ _) ?_
    refine tc_s hg hr ?_
    obtain ⟨m', C, hc, hs⟩ := clear_sheet hs
    refine cb_i _ _ hc ?_
    exact fin_normal (rvs_nil _) ⟨rfl, m', hs⟩)
  exact ⟨m', C, h, k⟩
theorem tforget_spec {s : AVal} (hs : Sep H0 own B (.obj t (.cells 0 .exact (tcells r o d root s (.map km))) :: kmP km K :: R)) (hr : root.length = 32) :
    ∃ m' C, S_tree_Tree_Forget [.ptr ⟨t, 0, 0⟩] B (.tup []) C ∧ Sep H0 own C (.obj t (.cells 0 .exact (tcells r o d root s (.map m'))) :: kmP m' [] :: R) := by
  obtain ⟨r', C, h, rfl, m', k⟩ := tree_Tree_Forget.out (x0 := .ptr ⟨t, 0, 0⟩) (H := B) (Q := fun r' C => r' = .tup [] ∧ ∃ m', Sep H0 own C (.obj t (.cells 0 .exact (tcells r o d root s (.map m'))) :: kmP m' [] :: R)) (by
    unfold tree_Tree_Forget.w
    refine vb_i (e_ptrNilN _ _) ?_
    refine isB_T ?_
    refine km_new hs fun j C1 _ hs => ?_
    refine vb_i (e_nilCheck _) ?_
    refine vb_i (e_fieldAddr _ _) ?_
    refine s_store1 hs.f1 rfl rfl (by rw [tc_len hr]; show 0 + 36 < 37; omega) fun C2 hs => ?_
    rw [Nat.zero_add, tset_k hr] at hs
    exact fin_normal (rvs_nil _) ⟨rfl, j, hs.f2.tail⟩)
  exact ⟨m', C, h, k⟩
theorem tclear_of {x : AVal} {k : Int} {e : AVal} {P : AHeap → Prop} (h : ∀ B1, B <+: B1 → ∃ C, S_tree_Tree_Put [x, .int .i64 k, .str (zs 64)] B1 e C ∧ P C) : ∃ C, S_tree_Tree_Clear [x, .int .i64 k] B e C ∧ P C := by
  obtain ⟨r', C, h', e', k'⟩ := tree_Tree_Clear.out (x0 := x) (x1 := .int .i64 k) (H := B) (Q := fun r C => r = e ∧ P C) (by
    unfold tree_Tree_Clear.w
    obtain ⟨C1, hc, e1⟩ := bare18 (B := B)
    refine cb_i _ _ hc ?_
    obtain ⟨C2, hc, e2⟩ := h C1 e1
    refine cb_i _ _ hc ?_
    exact fin_ret (rvs_v (rvs_nil _)) ⟨rfl, e2⟩)
  exact ⟨C, e' ▸ h', k'⟩
end
end Go.Sh

/- Trees: New. -/
namespace Go.Sh
open Go Go.Abs

theorem newfill {p o q m : Nat} {d : Int} {root : List UInt8} (hr : root.length = 32) :
    fillA (fun k => ([(0, 1), (1, 1), (2, 1), (3, 32), (35, 1), (36, 1)] : List (Nat × Nat))[k]?) [.nilp, .nilp, .int .i64 0, .int .u8 0, .int .u8 0, .int .u8 0, .int .u8 0, .int .u8 0, .int .u8 0, .int .u8 0, .int .u8 0, .int .u8 0, .int .u8 0, .int .u8 0, .int .u8 0, .int .u8 0, .int .u8 0, .int .u8 0, .int .u8 0, .int .u8 0, .int .u8 0, .int .u8 0, .int .u8 0, .int .u8 0, .int .u8 0, .int .u8 0, .int .u8 0, .int .u8 0, .int .u8 0, .int .u8 0, .int .u8 0, .int .u8 0, .int .u8 0, .int .u8 0, .int .u8 0, .nilp, .nilm]
      [(0, .ptr ⟨p, 0, 0⟩), (1, .ptr ⟨o, 0, 0⟩), (2, .int .i64 d), (3, .agg (root.map ofByte)), (4, .ptr ⟨q, 0, 0⟩), (5, .map m)] = some (tcells (.ptr ⟨p, 0, 0⟩) (.ptr ⟨o, 0, 0⟩) d root (.ptr ⟨q, 0, 0⟩) (.map m)) := by
  rcases root with _ | ⟨a0, root⟩
  · exact absurd hr (by simp)
  rcases root with _ | ⟨a1, root⟩
  · exact absurd hr (by simp)
  rcases root with _ | ⟨a2, root⟩
  · exact absurd hr (by simp)
  rcases root with _ | ⟨a3, root⟩
  · exact absurd hr (by simp)
  rcases root with _ | ⟨a4, root⟩
  · exact absurd hr (by simp)
  rcases root with _ | ⟨a5, root⟩
  · exact absurd hr (by simp)
  rcases root with _ | ⟨a6, root⟩
  · exact absurd hr (by simp)
  rcases root with _ | ⟨a7, root⟩
  · exact absurd hr (by simp)
  rcases root with _ | ⟨a8, root⟩
  · exact absurd hr (by simp)
  rcases root with _ | ⟨a9, root⟩
  · exact absurd hr (by simp)
  rcases root with _ | ⟨a10, root⟩
  · exact absurd hr (by simp)
  rcases root with _ | ⟨a11, root⟩
  · exact absurd hr (by simp)
  rcases root with _ | ⟨a12, root⟩
  · exact absurd hr (by simp)
  rcases root with _ | ⟨a13, root⟩
  · exact absurd hr (by simp)
  rcases root with _ | ⟨a14, root⟩
  · exact absurd hr (by simp)
  rcases root with _ | ⟨a15, root⟩
  · exact absurd hr (by simp)
  rcases root with _ | ⟨a16, root⟩
  · exact absurd hr (by simp)
  rcases root with _ | ⟨a17, root⟩
  · exact absurd hr (by simp)
  rcases root with _ | ⟨a18, root⟩
  · exact absurd hr (by simp)
  rcases root with _ | ⟨a19, root⟩
  · exact absurd hr (by simp)
  rcases root with _ | ⟨a20, root⟩
  · exact absurd hr (by simp)
  rcases root with _ | ⟨a21, root⟩
  · exact absurd hr (by simp)
  rcases root with _ | ⟨a22, root⟩
  · exact absurd hr (by simp)
  rcases root with _ | ⟨a23, root⟩
  · exact absurd hr (by simp)
  rcases root with _ | ⟨a24, root⟩
  · exact absurd hr (by simp)
  rcases root with _ | ⟨a25, root⟩
  · exact absurd hr (by simp)
  rcases root with _ | ⟨a26, root⟩
  · exact absurd hr (by simp)
  rcases root with _ | ⟨a27, root⟩
  · exact absurd hr (by simp)
  rcases root with _ | ⟨a28, root⟩
  · exact absurd hr (by simp)
  rcases root with _ | ⟨a29, root⟩
  · exact absurd hr (by simp)
  rcases root with _ | ⟨a30, root⟩
  · exact absurd hr (by simp)
  rcases root with _ | ⟨a31, root⟩
  · exact absurd hr (by simp)
  have e : root = [] := by simp at hr; exact hr
  subst e
  rfl

section
variable {B : AHeap} {d : Int} {root : List UInt8} {p o : Nat}
theorem tnew_spec (hr : root.length = 32) (hd : d = 0 ∨ d = 1) : ∃ t sp sm km C, S_tree_New [.ptr ⟨p, 0, 0⟩, .ptr ⟨o, 0, 0⟩, .int .i64 d, .agg (root.map ofByte)] B (.tup [.ptr ⟨t, 0, 0⟩, .int .i64 0]) C ∧ B <+: C ∧
    Sep B (fun _ => False) C [.obj t (.cells 0 .exact (tcells (.ptr ⟨p, 0, 0⟩) (.ptr ⟨o, 0, 0⟩) d root (.ptr ⟨sp, 0, 0⟩) (.map km))), kmP km [], sheetP sp sm []] := by
  obtain ⟨r, C, h, t, sp, sm, km, rfl, k, hs⟩ := tree_New.out (x0 := .ptr ⟨p, 0, 0⟩) (x1 := .ptr ⟨o, 0, 0⟩) (x2 := .int .i64 d) (x3 := .agg (root.map ofByte)) (H := B) (Q := fun r C => ∃ t sp sm km, r = .tup [.ptr ⟨t, 0, 0⟩, .int .i64 0] ∧ B <+: C ∧
      Sep B (fun _ => False) C [.obj t (.cells 0 .exact (tcells (.ptr ⟨p, 0, 0⟩) (.ptr ⟨o, 0, 0⟩) d root (.ptr ⟨sp, 0, 0⟩) (.map km))), kmP km [], sheetP sp sm []]) (by
    unfold tree_New.w
    have hs : Sep B (fun _ => False) B [] := Sep.start B
    refine s_box hs rfl fun a C1 h1 hs => ?_
    refine vb_i (e_ptrNil _ _) ?_
    refine isB_F ?_
    refine vb_i (neq64 _ _ _) ?_
    rcases hd with rfl | rfl
    · refine isB_cf (by decide) ?_
      refine vb_ldA hs.g0 (by show (root.map ofByte).length = 32; rw [List.length_map, hr]) ?_
      obtain ⟨sp, sm, C2, hc, e2, h2⟩ := sheet_new (B := C1)
      refine cb_i _ _ hc ?_
      have hs := hs.call0 (h2.own_of fun _ x => x.elim)
      refine km_new hs fun km C3 _ hs => ?_
      refine vb_bld (newfill hr) ?_
      refine s_box hs (by rfl) fun t C4 _ hs => ?_
      have hs : Sep B (fun _ => False) C4 [.obj t (.cells 0 .exact (tcells _ _ _ root _ _)), kmP km [], sheetP sp sm []] := hs.f3.tail
      have hb := hs.pre fun _ x => x
      exact fin_ret (rvs_v (rvs_v (rvs_nil _))) ⟨hb, t, sp, sm, km, rfl, hb, hs⟩
    · refine isB_ct (by decide) ?_
      refine vb_i (neq64 _ _ _) ?_
      refine isB_cf (by decide) ?_
      refine vb_ldA hs.g0 (by show (root.map ofByte).length = 32; rw [List.length_map, hr]) ?_
      obtain ⟨sp, sm, C2, hc, e2, h2⟩ := sheet_new (B := C1)
      refine cb_i _ _ hc ?_
      have hs := hs.call0 (h2.own_of fun _ x => x.elim)
      refine km_new hs fun km C3 _ hs => ?_
      refine vb_bld (newfill hr) ?_
      refine s_box hs (by rfl) fun t C4 _ hs => ?_
      have hs : Sep B (fun _ => False) C4 [.obj t (.cells 0 .exact (tcells _ _ _ root _ _)), kmP km [], sheetP sp sm []] := hs.f3.tail
      have hb := hs.pre fun _ x => x
      exact fin_ret (rvs_v (rvs_v (rvs_nil _))) ⟨hb, t, sp, sm, km, rfl, hb, hs⟩)
  exact ⟨t, sp, sm, km, C, h, k, hs⟩
end
end Go.Sh

/- What Go functions come to over abstract values, printed by a program (wx.py); of each function its own text is what is told of it. -/
namespace Go.Sh
open Go Go.Abs

def cellaretlaw18_Made.L5.b (v3 : AVal) (v1 : AVal) (x0 : AVal) (x12_5 : AVal) (H18 : AHeap) (Kn19 : List AVal → AHeap → Prop) (Ke20 : AExit → List AVal → AHeap → Prop) : Prop :=
 vb (aBin .lss x12_5 (.int .i64 63)) fun v21 =>
 isB v21 fun b22 => cond b22
 (cb (S_node_High [x12_5] H18) fun v23 H24 =>
 vb (aExtract v23 0) fun v25 =>
 vb (aExtract v23 1) fun v26 =>
 cb (S_node_Bare [v3, v25] H24) fun v27 H28 =>
 vb (aExtract v27 0) fun v29 =>
 vb (aExtract v27 1) fun v30 =>
 vb (aExtract v27 2) fun v31 =>
 hb (aAlloc H28 (List.replicate 32 (.int .u8 0))) fun v32 H33 =>
 sb (aStore H33 32 v32 v30) fun H34 =>
 vb (aBin .add (.int .i64 161) x12_5) fun v35 =>
 cb (S_rig_Rig_Write [v1, x0, v35, v29] H34) fun v36 H37 =>
 vb (aBin .neq v36 (.int .i64 0)) fun v38 =>
 isB v38 fun b39 => cond b39
 (Ke20 .ret [.nilp, .nilp, .nilp] H37)
 (vb (aBin .add x12_5 (.int .i64 1)) fun v40 =>
 Kn19 [v40] H37))
 (Ke20 (.exit 0) [.undef, .undef, .undef] H18)

def cellaretlaw18_Made.L5 (v3 : AVal) (v1 : AVal) (x0 : AVal) : Body := fun vs H Kn Ke => cellaretlaw18_Made.L5.b v3 v1 x0 (vs.getD 0 .undef) H Kn Ke

def cellaretlaw18_Made.w (x0 : AVal) (H : AHeap) (K : AVal → AHeap → Prop) : Prop :=
 cb (S_rig_New [] H) fun v1 H2 =>
 cb (S_oracle_New [] H2) fun v3 H4 =>
 cb (S_node_Bare [v3, .int .i64 6] H4) fun v5 H6 =>
 vb (aExtract v5 0) fun v7 =>
 vb (aExtract v5 1) fun v8 =>
 vb (aExtract v5 2) fun v9 =>
 hb (aAlloc H6 (List.replicate 32 (.int .u8 0))) fun v10 H11 =>
 sb (aStore H11 32 v10 v8) fun H12 =>
 vb (aLoad H12 true 32 v10) fun v13 =>
 cb (S_tree_New [v1, v3, x0, v13] H12) fun v14 H15 =>
 vb (aExtract v14 0) fun v16 =>
 vb (aExtract v14 1) fun v17 =>
 LoopP (cellaretlaw18_Made.L5 v3 v1 x0) [.int .i64 0] H15 fun e41 vs42 H43 =>
 onE e41 (.exit 0)
 (vb (aBin .neq v17 (.int .i64 0)) fun v44 =>
 isB v44 fun b45 => cond b45
 (fin .ret [.v (.nilp), .v (.nilp), .v (.nilp)] H43 K)
 (fin .ret [.v (v16), .v (v1), .v (v3)] H43 K))
 (onE e41 .ret
 (fin .ret [.v (vs42.getD 0 .undef), .v (vs42.getD 1 .undef), .v (vs42.getD 2 .undef)] H43 K)
 (False))

def S_cellaretlaw18_Made : Abs.Spec := fun args H r H' => ∃ x0 : AVal, args = [x0] ∧ (cellaretlaw18_Made.w x0 H fun r1 H1 => r1 = r ∧ H1 = H') ∧ H <+: H'
theorem cellaretlaw18_Made.ok (args : List AVal) (H : AHeap) (r : AVal) (H' : AHeap) (h : S_cellaretlaw18_Made args H r H') : ∃ x0 : AVal, args = [x0] ∧ cellaretlaw18_Made.w x0 H fun r1 H1 => r1 = r ∧ H1 = H' := by
  obtain ⟨x0, h1, h2, _⟩ := h
  exact ⟨x0, h1, h2⟩
theorem cellaretlaw18_Made.quiet {args : List AVal} {H : AHeap} {r : AVal} {H' : AHeap} (h : S_cellaretlaw18_Made args H r H') : H <+: H' := by
  obtain ⟨_, _, _, h⟩ := h
  exact h
set_option maxRecDepth 100000 in
theorem cellaretlaw18_Made.ex (x0 : AVal) (H : AHeap) : Ex fun K : AVal × AHeap → Prop => cellaretlaw18_Made.w x0 H fun r H => K (r, H) := by
  unfold cellaretlaw18_Made.w
  repeat with_reducible first
    | exact Ex.pt _
    | exact Ex.fin
    | exact Ex.no
    | refine Ex.vb fun _ => ?_
    | refine Ex.hb fun _ _ => ?_
    | refine Ex.sb fun _ => ?_
    | refine Ex.cb fun _ _ => ?_
    | refine Ex.isB fun _ => ?_
    | refine Ex.cond ?_ ?_
    | refine Ex.onE ?_ ?_
    | refine Ex.join ?_ fun _ _ _ => ?_
    | refine Ex.loop (fun _ _ => ?_) fun _ _ _ => ?_
    | (unfold cellaretlaw18_Made.L5; unfold cellaretlaw18_Made.L5.b)

theorem cellaretlaw18_Made.out {x0 : AVal} {H : AHeap} {Q : AVal → AHeap → Prop} (h : cellaretlaw18_Made.w x0 H fun r H' => (H <+: H') ∧ Q r H') : ∃ r H', S_cellaretlaw18_Made [x0] H r H' ∧ Q r H' := by
  obtain ⟨r, H', h1, h2⟩ := (cellaretlaw18_Made.ex x0 H).out h
  exact ⟨r, H', ⟨_, rfl, h1, h2.1⟩, h2.2⟩

def cellaretlaw18_Write.L3.b (v3 : AVal) (x1 : AVal) (x2 : AVal) (x8_3 : AVal) (H5 : AHeap) (Kn6 : List AVal → AHeap → Prop) (Ke7 : AExit → List AVal → AHeap → Prop) : Prop :=
 vb (lenSl v3) fun v8 =>
 vb (aBin .lss x8_3 v8) fun v9 =>
 isB v9 fun b10 => cond b10
 (vb (aIndexAddr 2 v3 x8_3) fun v11 =>
 vb (aFieldAddr 0 v11) fun v12 =>
 vb (aLoad H5 false 1 v12) fun v13 =>
 vb (aIndexAddr 2 v3 x8_3) fun v14 =>
 vb (aFieldAddr 1 v14) fun v15 =>
 vb (aLoad H5 false 1 v15) fun v16 =>
 cb (S_rig_Rig_Write [x1, x2, v13, v16] H5) fun v17 H18 =>
 vb (aBin .neq v17 (.int .i64 0)) fun v19 =>
 isB v19 fun b20 => cond b20
 (Ke7 .ret [.bool false] H18)
 (vb (aBin .add x8_3 (.int .i64 1)) fun v21 =>
 Kn6 [v21] H18))
 (Ke7 (.exit 0) [.undef] H5)

def cellaretlaw18_Write.L3 (v3 : AVal) (x1 : AVal) (x2 : AVal) : Body := fun vs H Kn Ke => cellaretlaw18_Write.L3.b v3 x1 x2 (vs.getD 0 .undef) H Kn Ke

def cellaretlaw18_Write.w (x0 : AVal) (x1 : AVal) (x2 : AVal) (H : AHeap) (K : AVal → AHeap → Prop) : Prop :=
 cb (S_tree_Tree_Sheet [x0] H) fun v1 H2 =>
 cb (S_over_Sheet_Puts [v1] H2) fun v3 H4 =>
 LoopP (cellaretlaw18_Write.L3 v3 x1 x2) [.int .i64 0] H4 fun e22 vs23 H24 =>
 onE e22 (.exit 0)
 (cb (S_tree_Tree_Done [x0] H24) fun v25 H26 =>
 fin .ret [.v (.bool true)] H26 K)
 (onE e22 .ret
 (fin .ret [.v (vs23.getD 0 .undef)] H24 K)
 (False))

def S_cellaretlaw18_Write : Abs.Spec := fun args H r H' => ∃ x0 x1 x2 : AVal, args = [x0, x1, x2] ∧ (cellaretlaw18_Write.w x0 x1 x2 H fun r1 H1 => r1 = r ∧ H1 = H')
theorem cellaretlaw18_Write.ok (args : List AVal) (H : AHeap) (r : AVal) (H' : AHeap) (h : S_cellaretlaw18_Write args H r H') : ∃ x0 x1 x2 : AVal, args = [x0, x1, x2] ∧ cellaretlaw18_Write.w x0 x1 x2 H fun r1 H1 => r1 = r ∧ H1 = H' := by
  obtain ⟨x0, x1, x2, h1, h2⟩ := h
  exact ⟨x0, x1, x2, h1, h2⟩
set_option maxRecDepth 100000 in
theorem cellaretlaw18_Write.ex (x0 x1 x2 : AVal) (H : AHeap) : Ex fun K : AVal × AHeap → Prop => cellaretlaw18_Write.w x0 x1 x2 H fun r H => K (r, H) := by
  unfold cellaretlaw18_Write.w
  repeat with_reducible first
    | exact Ex.pt _
    | exact Ex.fin
    | exact Ex.no
    | refine Ex.vb fun _ => ?_
    | refine Ex.hb fun _ _ => ?_
    | refine Ex.sb fun _ => ?_
    | refine Ex.cb fun _ _ => ?_
    | refine Ex.isB fun _ => ?_
    | refine Ex.cond ?_ ?_
    | refine Ex.onE ?_ ?_
    | refine Ex.join ?_ fun _ _ _ => ?_
    | refine Ex.loop (fun _ _ => ?_) fun _ _ _ => ?_
    | (unfold cellaretlaw18_Write.L3; unfold cellaretlaw18_Write.L3.b)

theorem cellaretlaw18_Write.out {x0 x1 x2 : AVal} {H : AHeap} {Q : AVal → AHeap → Prop} (h : cellaretlaw18_Write.w x0 x1 x2 H fun r H' => Q r H') : ∃ r H', S_cellaretlaw18_Write [x0, x1, x2] H r H' ∧ Q r H' := by
  obtain ⟨r, H', h1, h2⟩ := (cellaretlaw18_Write.ex x0 x1 x2 H).out h
  exact ⟨r, H', ⟨_, _, _, rfl, h1⟩, h2⟩

def cellaretlaw18_short.w (x0 : AVal) (H : AHeap) (K : AVal → AHeap → Prop) : Prop :=
 hb (aBox H x0) fun v1 H2 =>
 vb (aFieldAddr 2 v1) fun v3 =>
 vb (aLoad H2 false 1 v3) fun v4 =>
 vb (lenSt v4) fun v5 =>
 vb (aBin .lss v5 (.int .i64 300)) fun v6 =>
 fin .ret [.v (v6)] H2 K

def S_cellaretlaw18_short : Abs.Spec := fun args H r H' => ∃ x0 : AVal, args = [x0] ∧ (cellaretlaw18_short.w x0 H fun r1 H1 => r1 = r ∧ H1 = H') ∧ H <+: H'
theorem cellaretlaw18_short.ok (args : List AVal) (H : AHeap) (r : AVal) (H' : AHeap) (h : S_cellaretlaw18_short args H r H') : ∃ x0 : AVal, args = [x0] ∧ cellaretlaw18_short.w x0 H fun r1 H1 => r1 = r ∧ H1 = H' := by
  obtain ⟨x0, h1, h2, _⟩ := h
  exact ⟨x0, h1, h2⟩
theorem cellaretlaw18_short.quiet {args : List AVal} {H : AHeap} {r : AVal} {H' : AHeap} (h : S_cellaretlaw18_short args H r H') : H <+: H' := by
  obtain ⟨_, _, _, h⟩ := h
  exact h
set_option maxRecDepth 100000 in
theorem cellaretlaw18_short.ex (x0 : AVal) (H : AHeap) : Ex fun K : AVal × AHeap → Prop => cellaretlaw18_short.w x0 H fun r H => K (r, H) := by
  unfold cellaretlaw18_short.w
  repeat with_reducible first
    | exact Ex.pt _
    | exact Ex.fin
    | exact Ex.no
    | refine Ex.vb fun _ => ?_
    | refine Ex.hb fun _ _ => ?_
    | refine Ex.sb fun _ => ?_
    | refine Ex.cb fun _ _ => ?_
    | refine Ex.isB fun _ => ?_
    | refine Ex.cond ?_ ?_
    | refine Ex.onE ?_ ?_
    | refine Ex.join ?_ fun _ _ _ => ?_
    | refine Ex.loop (fun _ _ => ?_) fun _ _ _ => ?_

theorem cellaretlaw18_short.out {x0 : AVal} {H : AHeap} {Q : AVal → AHeap → Prop} (h : cellaretlaw18_short.w x0 H fun r H' => (H <+: H') ∧ Q r H') : ∃ r H', S_cellaretlaw18_short [x0] H r H' ∧ Q r H' := by
  obtain ⟨r, H', h1, h2⟩ := (cellaretlaw18_short.ex x0 H).out h
  exact ⟨r, H', ⟨_, rfl, h1, h2.1⟩, h2.2⟩

def cellaretlaw18_set.w (x0 : AVal) (x1 : AVal) (x2 : AVal) (H : AHeap) (K : AVal → AHeap → Prop) : Prop :=
 cb (S_cellaretref01_Zeros [.int .i64 64] H) fun v1 H2 =>
 vb (aBin .eql x2 v1) fun v3 =>
 isB v3 fun b4 => cond b4
 (cb (S_cellaretref16_Drop [x0, x1] H2) fun v5 H6 =>
 fin .ret [.v (v5)] H6 K)
 (vb (aBuild [.int .i64 0, .str []] (fun k => ([(0, 1), (1, 1)] : List (Nat × Nat))[k]?) [(0, x1), (1, x2)]) fun v7 =>
 cb (S_cellaretref16_Set [x0, v7] H2) fun v8 H9 =>
 fin .ret [.v (v8)] H9 K)

def S_cellaretlaw18_set : Abs.Spec := fun args H r H' => ∃ x0 x1 x2 : AVal, args = [x0, x1, x2] ∧ (cellaretlaw18_set.w x0 x1 x2 H fun r1 H1 => r1 = r ∧ H1 = H')
theorem cellaretlaw18_set.ok (args : List AVal) (H : AHeap) (r : AVal) (H' : AHeap) (h : S_cellaretlaw18_set args H r H') : ∃ x0 x1 x2 : AVal, args = [x0, x1, x2] ∧ cellaretlaw18_set.w x0 x1 x2 H fun r1 H1 => r1 = r ∧ H1 = H' := by
  obtain ⟨x0, x1, x2, h1, h2⟩ := h
  exact ⟨x0, x1, x2, h1, h2⟩
set_option maxRecDepth 100000 in
theorem cellaretlaw18_set.ex (x0 x1 x2 : AVal) (H : AHeap) : Ex fun K : AVal × AHeap → Prop => cellaretlaw18_set.w x0 x1 x2 H fun r H => K (r, H) := by
  unfold cellaretlaw18_set.w
  repeat with_reducible first
    | exact Ex.pt _
    | exact Ex.fin
    | exact Ex.no
    | refine Ex.vb fun _ => ?_
    | refine Ex.hb fun _ _ => ?_
    | refine Ex.sb fun _ => ?_
    | refine Ex.cb fun _ _ => ?_
    | refine Ex.isB fun _ => ?_
    | refine Ex.cond ?_ ?_
    | refine Ex.onE ?_ ?_
    | refine Ex.join ?_ fun _ _ _ => ?_
    | refine Ex.loop (fun _ _ => ?_) fun _ _ _ => ?_

theorem cellaretlaw18_set.out {x0 x1 x2 : AVal} {H : AHeap} {Q : AVal → AHeap → Prop} (h : cellaretlaw18_set.w x0 x1 x2 H fun r H' => Q r H') : ∃ r H', S_cellaretlaw18_set [x0, x1, x2] H r H' ∧ Q r H' := by
  obtain ⟨r, H', h1, h2⟩ := (cellaretlaw18_set.ex x0 x1 x2 H).out h
  exact ⟨r, H', ⟨_, _, _, rfl, h1⟩, h2⟩

def cellaretlaw18_do.w (x0 : AVal) (x1 : AVal) (x2 : AVal) (x3 : AVal) (x4 : AVal) (H : AHeap) (K : AVal → AHeap → Prop) : Prop :=
 hb (aBox H x4) fun v1 H2 =>
 JoinP (fun Kj3 => vb (aFieldAddr 1 v1) fun v4 =>
 vb (aLoad H2 false 1 v4) fun v5 =>
 vb (aBin .geq v5 (.int .i64 0)) fun v6 =>
 isB v6 fun b7 => cond b7
 (vb (aFieldAddr 1 v1) fun v8 =>
 vb (aLoad H2 false 1 v8) fun v9 =>
 vb (aBin .lss v9 (.int .i64 64)) fun v10 =>
 Kj3 .normal [v10] H2)
 (Kj3 .normal [.bool false] H2))
 (fun e11 vs12 H13 =>
 onE e11 .normal
 (vb (aFieldAddr 2 v1) fun v14 =>
 vb (aLoad H13 false 1 v14) fun v15 =>
 JoinP (fun Kj16 => vb (lenSt v15) fun v17 =>
 vb (aBin .lss v17 (.int .i64 64)) fun v18 =>
 isB v18 fun b19 => cond b19
 (vb (aFieldAddr 1 v1) fun v20 =>
 vb (aLoad H13 false 1 v20) fun v21 =>
 vb (aBin .rem v21 (.int .i64 5)) fun v22 =>
 vb (aBin .neq v22 (.int .i64 4)) fun v23 =>
 isB v23 fun b24 => cond b24
 (cb (S_cellaretref01_Full [v15, .int .i64 64] H13) fun v25 H26 =>
 Kj16 .normal [v25] H26)
 (Kj16 .normal [v15] H13))
 (Kj16 .normal [v15] H13))
 (fun e27 vs28 H29 =>
 onE e27 .normal
 (vb (aFieldAddr 0 v1) fun v30 =>
 vb (aLoad H29 false 1 v30) fun v31 =>
 JoinP (fun Kj32 => vb (aBin .eql v31 (.int .i64 0)) fun v33 =>
 isB v33 fun b34 => cond b34
 (Kj32 .normal [v33] H29)
 (vb (aBin .eql v31 (.int .i64 1)) fun v35 =>
 isB v35 fun b36 => cond b36
 (Kj32 .normal [v35] H29)
 (vb (aBin .eql v31 (.int .i64 2)) fun v37 =>
 Kj32 .normal [v37] H29)))
 (fun e38 vs39 H40 =>
 onE e38 .normal
 (isB (vs39.getD 0 .undef) fun b41 => cond b41
 (vb (aFieldAddr 1 v1) fun v42 =>
 vb (aLoad H40 false 1 v42) fun v43 =>
 cb (S_tree_Tree_Put [x0, v43, vs28.getD 0 .undef] H40) fun v44 H45 =>
 vb (aUn .not (vs12.getD 0 .undef)) fun v46 =>
 isB v46 fun b47 => cond b47
 (vb (aBin .eql v44 (.int .i64 3)) fun v48 =>
 fin .ret [.v (x3), .v (v48)] H45 K)
 (vb (lenSt (vs28.getD 0 .undef)) fun v49 =>
 vb (aBin .neq v49 (.int .i64 64)) fun v50 =>
 isB v50 fun b51 => cond b51
 (vb (aBin .eql v44 (.int .i64 6)) fun v52 =>
 fin .ret [.v (x3), .v (v52)] H45 K)
 (vb (aFieldAddr 1 v1) fun v53 =>
 vb (aLoad H45 false 1 v53) fun v54 =>
 cb (S_cellaretlaw18_set [x3, v54, vs28.getD 0 .undef] H45) fun v55 H56 =>
 vb (aBin .eql v44 (.int .i64 0)) fun v57 =>
 fin .ret [.v (v55), .v (v57)] H56 K)))
 (vb (aBin .eql v31 (.int .i64 5)) fun v58 =>
 isB v58 fun b59 => cond b59
 (vb (aFieldAddr 1 v1) fun v60 =>
 vb (aLoad H40 false 1 v60) fun v61 =>
 cb (S_tree_Tree_Clear [x0, v61] H40) fun v62 H63 =>
 vb (aUn .not (vs12.getD 0 .undef)) fun v64 =>
 isB v64 fun b65 => cond b65
 (vb (aBin .eql v62 (.int .i64 3)) fun v66 =>
 fin .ret [.v (x3), .v (v66)] H63 K)
 (vb (aFieldAddr 1 v1) fun v67 =>
 vb (aLoad H63 false 1 v67) fun v68 =>
 cb (S_cellaretref16_Drop [x3, v68] H63) fun v69 H70 =>
 vb (aBin .eql v62 (.int .i64 0)) fun v71 =>
 fin .ret [.v (v69), .v (v71)] H70 K))
 (vb (aBin .eql v31 (.int .i64 6)) fun v72 =>
 isB v72 fun b73 => cond b73
 (cb (S_cellaretlaw18_Write [x0, x1, x2] H40) fun v74 H75 =>
 fin .ret [.v (x3), .v (v74)] H75 K)
 (vb (aBin .eql v31 (.int .i64 7)) fun v76 =>
 isB v76 fun b77 => cond b77
 (cb (S_cellaretlaw18_Write [x0, x1, x2] H40) fun v78 H79 =>
 cb (S_tree_Tree_Forget [x0] H79) fun v80 H81 =>
 isB v78 fun b82 => cond b82
 (cb (S_tree_Tree_Known [x0] H81) fun v83 H84 =>
 vb (aBin .eql v83 (.int .i64 0)) fun v85 =>
 fin .ret [.v (x3), .v (v85)] H84 K)
 (fin .ret [.v (x3), .v (.bool false)] H81 K))
 (vb (aFieldAddr 1 v1) fun v86 =>
 vb (aLoad H40 false 1 v86) fun v87 =>
 cb (S_tree_Tree_Get [x0, v87] H40) fun v88 H89 =>
 vb (aExtract v88 0) fun v90 =>
 vb (aExtract v88 1) fun v91 =>
 vb (aExtract v88 2) fun v92 =>
 vb (aUn .not (vs12.getD 0 .undef)) fun v93 =>
 isB v93 fun b94 => cond b94
 (vb (aBin .eql v90 (.str [])) fun v95 =>
 isB v95 fun b96 => cond b96
 (vb (aUn .not v91) fun v97 =>
 isB v97 fun b98 => cond b98
 (vb (aBin .eql v92 (.int .i64 3)) fun v99 =>
 fin .ret [.v (x3), .v (v99)] H89 K)
 (fin .ret [.v (x3), .v (.bool false)] H89 K))
 (fin .ret [.v (x3), .v (.bool false)] H89 K))
 (vb (aFieldAddr 1 v1) fun v100 =>
 vb (aLoad H89 false 1 v100) fun v101 =>
 cb (S_cellaretref16_At [x3, v101] H89) fun v102 H103 =>
 vb (aBin .lss v102 (.int .i64 0)) fun v104 =>
 isB v104 fun b105 => cond b105
 (vb (aBin .eql v90 (.str [])) fun v106 =>
 isB v106 fun b107 => cond b107
 (vb (aUn .not v91) fun v108 =>
 isB v108 fun b109 => cond b109
 (vb (aBin .eql v92 (.int .i64 0)) fun v110 =>
 fin .ret [.v (x3), .v (v110)] H103 K)
 (fin .ret [.v (x3), .v (.bool false)] H103 K))
 (fin .ret [.v (x3), .v (.bool false)] H103 K))
 (isB v91 fun b111 => cond b111
 (vb (aBin .eql v92 (.int .i64 0)) fun v112 =>
 isB v112 fun b113 => cond b113
 (vb (aIndexAddr 2 x3 v102) fun v114 =>
 vb (aFieldAddr 1 v114) fun v115 =>
 vb (aLoad H103 false 1 v115) fun v116 =>
 vb (aBin .eql v90 v116) fun v117 =>
 fin .ret [.v (x3), .v (v117)] H103 K)
 (fin .ret [.v (x3), .v (.bool false)] H103 K))
 (fin .ret [.v (x3), .v (.bool false)] H103 K))))))))
 (False)))
 (False)))
 (False))

def S_cellaretlaw18_do : Abs.Spec := fun args H r H' => ∃ x0 x1 x2 x3 x4 : AVal, args = [x0, x1, x2, x3, x4] ∧ (cellaretlaw18_do.w x0 x1 x2 x3 x4 H fun r1 H1 => r1 = r ∧ H1 = H')
theorem cellaretlaw18_do.ok (args : List AVal) (H : AHeap) (r : AVal) (H' : AHeap) (h : S_cellaretlaw18_do args H r H') : ∃ x0 x1 x2 x3 x4 : AVal, args = [x0, x1, x2, x3, x4] ∧ cellaretlaw18_do.w x0 x1 x2 x3 x4 H fun r1 H1 => r1 = r ∧ H1 = H' := by
  obtain ⟨x0, x1, x2, x3, x4, h1, h2⟩ := h
  exact ⟨x0, x1, x2, x3, x4, h1, h2⟩
set_option maxRecDepth 100000 in
theorem cellaretlaw18_do.ex (x0 x1 x2 x3 x4 : AVal) (H : AHeap) : Ex fun K : AVal × AHeap → Prop => cellaretlaw18_do.w x0 x1 x2 x3 x4 H fun r H => K (r, H) := by
  unfold cellaretlaw18_do.w
  repeat with_reducible first
    | exact Ex.pt _
    | exact Ex.fin
    | exact Ex.no
    | refine Ex.vb fun _ => ?_
    | refine Ex.hb fun _ _ => ?_
    | refine Ex.sb fun _ => ?_
    | refine Ex.cb fun _ _ => ?_
    | refine Ex.isB fun _ => ?_
    | refine Ex.cond ?_ ?_
    | refine Ex.onE ?_ ?_
    | refine Ex.join ?_ fun _ _ _ => ?_
    | refine Ex.loop (fun _ _ => ?_) fun _ _ _ => ?_

theorem cellaretlaw18_do.out {x0 x1 x2 x3 x4 : AVal} {H : AHeap} {Q : AVal → AHeap → Prop} (h : cellaretlaw18_do.w x0 x1 x2 x3 x4 H fun r H' => Q r H') : ∃ r H', S_cellaretlaw18_do [x0, x1, x2, x3, x4] H r H' ∧ Q r H' := by
  obtain ⟨r, H', h1, h2⟩ := (cellaretlaw18_do.ex x0 x1 x2 x3 x4 H).out h
  exact ⟨r, H', ⟨_, _, _, _, _, rfl, h1⟩, h2⟩

def cellaretlaw18_awake.w (H : AHeap) (K : AVal → AHeap → Prop) : Prop :=
 cb (S_cellaretlaw18_Made [.int .i64 1] H) fun v1 H2 =>
 vb (aExtract v1 0) fun v3 =>
 vb (aExtract v1 1) fun v4 =>
 vb (aExtract v1 2) fun v5 =>
 vb (aEql false .ptr H2 v3 .nilp) fun v6 =>
 isB v6 fun b7 => cond b7
 (fin .ret [.v (.bool false)] H2 K)
 (cb (S_cellaretref01_Full [.str [97], .int .i64 64] H2) fun v8 H9 =>
 cb (S_tree_Tree_Put [v3, .int .i64 5, v8] H9) fun v10 H11 =>
 cb (S_cellaretlaw18_Write [v3, v4, .int .i64 1] H11) fun v12 H13 =>
 cb (S_tree_Tree_Forget [v3] H13) fun v14 H15 =>
 cb (S_tree_Tree_Get [v3, .int .i64 5] H15) fun v16 H17 =>
 vb (aExtract v16 0) fun v18 =>
 vb (aExtract v16 1) fun v19 =>
 vb (aExtract v16 2) fun v20 =>
 cb (S_tree_Tree_Get [v3, .int .i64 6] H17) fun v21 H22 =>
 vb (aExtract v21 0) fun v23 =>
 vb (aExtract v21 1) fun v24 =>
 vb (aExtract v21 2) fun v25 =>
 vb (aBin .eql v10 (.int .i64 0)) fun v26 =>
 isB v26 fun b27 => cond b27
 (isB v12 fun b28 => cond b28
 (vb (aBin .eql v20 (.int .i64 0)) fun v29 =>
 isB v29 fun b30 => cond b30
 (vb (aBin .eql v25 (.int .i64 0)) fun v31 =>
 isB v31 fun b32 => cond b32
 (vb (aBin .eql v18 v8) fun v33 =>
 isB v33 fun b34 => cond b34
 (isB v19 fun b35 => cond b35
 (vb (aUn .not v24) fun v36 =>
 fin .ret [.v (v36)] H22 K)
 (fin .ret [.v (.bool false)] H22 K))
 (fin .ret [.v (.bool false)] H22 K))
 (fin .ret [.v (.bool false)] H22 K))
 (fin .ret [.v (.bool false)] H22 K))
 (fin .ret [.v (.bool false)] H22 K))
 (fin .ret [.v (.bool false)] H22 K))

def S_cellaretlaw18_awake : Abs.Spec := fun args H r H' => args = [] ∧ (cellaretlaw18_awake.w H fun r1 H1 => r1 = r ∧ H1 = H') ∧ H <+: H'
theorem cellaretlaw18_awake.ok (args : List AVal) (H : AHeap) (r : AVal) (H' : AHeap) (h : S_cellaretlaw18_awake args H r H') : args = [] ∧ cellaretlaw18_awake.w H fun r1 H1 => r1 = r ∧ H1 = H' := by
  obtain ⟨h1, h2, _⟩ := h
  exact ⟨h1, h2⟩
theorem cellaretlaw18_awake.quiet {args : List AVal} {H : AHeap} {r : AVal} {H' : AHeap} (h : S_cellaretlaw18_awake args H r H') : H <+: H' := by
  obtain ⟨_, _, h⟩ := h
  exact h
set_option maxRecDepth 100000 in
theorem cellaretlaw18_awake.ex (H : AHeap) : Ex fun K : AVal × AHeap → Prop => cellaretlaw18_awake.w H fun r H => K (r, H) := by
  unfold cellaretlaw18_awake.w
  repeat with_reducible first
    | exact Ex.pt _
    | exact Ex.fin
    | exact Ex.no
    | refine Ex.vb fun _ => ?_
    | refine Ex.hb fun _ _ => ?_
    | refine Ex.sb fun _ => ?_
    | refine Ex.cb fun _ _ => ?_
    | refine Ex.isB fun _ => ?_
    | refine Ex.cond ?_ ?_
    | refine Ex.onE ?_ ?_
    | refine Ex.join ?_ fun _ _ _ => ?_
    | refine Ex.loop (fun _ _ => ?_) fun _ _ _ => ?_

theorem cellaretlaw18_awake.out {H : AHeap} {Q : AVal → AHeap → Prop} (h : cellaretlaw18_awake.w H fun r H' => (H <+: H') ∧ Q r H') : ∃ r H', S_cellaretlaw18_awake [] H r H' ∧ Q r H' := by
  obtain ⟨r, H', h1, h2⟩ := (cellaretlaw18_awake.ex H).out h
  exact ⟨r, H', ⟨rfl, h1, h2.1⟩, h2.2⟩

def cellaretlaw18_TreeTampers.L6.b (x0 : AVal) (v3 : AVal) (v4 : AVal) (x10_6 : AVal) (x11_6 : AVal) (H16 : AHeap) (Kn17 : List AVal → AHeap → Prop) (Ke18 : AExit → List AVal → AHeap → Prop) : Prop :=
 JoinP (fun Kj19 => vb (lenSl x0) fun v20 =>
 vb (aBin .lss x11_6 v20) fun v21 =>
 isB v21 fun b22 => cond b22
 (vb (aBin .lss x11_6 (.int .i64 20)) fun v23 =>
 isB v23 fun b24 => cond b24
 (Kj19 .normal [] H16)
 (Kj19 (.exit 0) [] H16))
 (Kj19 (.exit 0) [] H16))
 (fun e25 vs26 H27 =>
 onE e25 (.exit 0)
 (Ke18 (.exit 0) [x10_6] H27)
 (onE e25 .normal
 (vb (aIndexAddr 3 x0 x11_6) fun v28 =>
 vb (aLoad H27 true 3 v28) fun v29 =>
 cb (S_cellaretlaw18_short [v29] H27) fun v30 H31 =>
 isB v30 fun b32 => cond b32
 (vb (aIndexAddr 3 x0 x11_6) fun v33 =>
 vb (aLoad H31 true 3 v33) fun v34 =>
 cb (S_cellaretlaw18_do [v3, v4, .int .i64 0, x10_6, v34] H31) fun v35 H36 =>
 vb (aExtract v35 0) fun v37 =>
 vb (aExtract v35 1) fun v38 =>
 vb (aBin .add x11_6 (.int .i64 1)) fun v39 =>
 Kn17 [v37, v39] H36)
 (vb (aBin .add x11_6 (.int .i64 1)) fun v40 =>
 Kn17 [x10_6, v40] H31))
 (False)))

def cellaretlaw18_TreeTampers.L6 (x0 : AVal) (v3 : AVal) (v4 : AVal) : Body := fun vs H Kn Ke => cellaretlaw18_TreeTampers.L6.b x0 v3 v4 (vs.getD 0 .undef) (vs.getD 1 .undef) H Kn Ke

def cellaretlaw18_TreeTampers.L15.b (x2 : AVal) (x1 : AVal) (v4 : AVal) (v50 : AVal) (vs42 : List AVal) (v5 : AVal) (x14_15 : AVal) (H60 : AHeap) (Kn61 : List AVal → AHeap → Prop) (Ke62 : AExit → List AVal → AHeap → Prop) : Prop :=
 JoinP (fun Kj63 => vb (lenSl x2) fun v64 =>
 vb (aBin .lss x14_15 v64) fun v65 =>
 isB v65 fun b66 => cond b66
 (vb (aBin .lss x14_15 (.int .i64 30)) fun v67 =>
 isB v67 fun b68 => cond b68
 (Kj63 .normal [] H60)
 (Kj63 (.exit 2) [] H60))
 (Kj63 (.exit 2) [] H60))
 (fun e69 vs70 H71 =>
 onE e69 (.exit 2)
 (Ke62 (.exit 2) [.undef] H71)
 (onE e69 .normal
 (JoinP (fun Kj72 => vb (lenSl x1) fun v73 =>
 vb (aBin .lss x14_15 v73) fun v74 =>
 isB v74 fun b75 => cond b75
 (vb (aIndexAddr 2 x1 x14_15) fun v76 =>
 vb (aFieldAddr 1 v76) fun v77 =>
 vb (aLoad H71 false 1 v77) fun v78 =>
 vb (lenSt v78) fun v79 =>
 vb (aBin .leq v79 (.int .i64 64)) fun v80 =>
 isB v80 fun b81 => cond b81
 (vb (aIndexAddr 2 x1 x14_15) fun v82 =>
 vb (aFieldAddr 0 v82) fun v83 =>
 vb (aLoad H71 false 1 v83) fun v84 =>
 vb (aIndexAddr 2 x1 x14_15) fun v85 =>
 vb (aFieldAddr 1 v85) fun v86 =>
 vb (aLoad H71 false 1 v86) fun v87 =>
 cb (S_cellaretref01_Full [v87, .int .i64 64] H71) fun v88 H89 =>
 cb (S_rig_Rig_Tamper [v4, .int .i64 0, v84, v88] H89) fun v90 H91 =>
 Kj72 .normal [] H91)
 (Kj72 .normal [] H71))
 (Kj72 .normal [] H71))
 (fun e92 vs93 H94 =>
 onE e92 .normal
 (vb (aIndexAddr 1 x2 x14_15) fun v95 =>
 vb (aLoad H94 false 1 v95) fun v96 =>
 vb (aBin .rem v96 (.int .u8 64)) fun v97 =>
 vb (aInt2 .i64 v97) fun v98 =>
 cb (S_tree_Tree_Get [v50, v98] H94) fun v99 H100 =>
 vb (aExtract v99 0) fun v101 =>
 vb (aExtract v99 1) fun v102 =>
 vb (aExtract v99 2) fun v103 =>
 cb (S_cellaretref16_At [vs42.getD 0 .undef, v98] H100) fun v104 H105 =>
 JoinP (fun Kj106 => vb (aBin .eql v103 (.int .i64 0)) fun v107 =>
 isB v107 fun b108 => cond b108
 (vb (aBin .lss v104 (.int .i64 0)) fun v109 =>
 isB v109 fun b110 => cond b110
 (vb (aUn .not v102) fun v111 =>
 isB v111 fun b112 => cond b112
 (vb (aBin .eql v101 (.str [])) fun v113 =>
 isB v113 fun b114 => cond b114
 (Kj106 .normal [.bool true] H105)
 (vb (aBin .geq v104 (.int .i64 0)) fun v115 =>
 isB v115 fun b116 => cond b116
 (isB v102 fun b117 => cond b117
 (vb (aIndexAddr 2 (vs42.getD 0 .undef) v104) fun v118 =>
 vb (aFieldAddr 1 v118) fun v119 =>
 vb (aLoad H105 false 1 v119) fun v120 =>
 vb (aBin .eql v101 v120) fun v121 =>
 Kj106 .normal [v121] H105)
 (Kj106 .normal [.bool false] H105))
 (Kj106 .normal [.bool false] H105)))
 (vb (aBin .geq v104 (.int .i64 0)) fun v122 =>
 isB v122 fun b123 => cond b123
 (isB v102 fun b124 => cond b124
 (vb (aIndexAddr 2 (vs42.getD 0 .undef) v104) fun v125 =>
 vb (aFieldAddr 1 v125) fun v126 =>
 vb (aLoad H105 false 1 v126) fun v127 =>
 vb (aBin .eql v101 v127) fun v128 =>
 Kj106 .normal [v128] H105)
 (Kj106 .normal [.bool false] H105))
 (Kj106 .normal [.bool false] H105)))
 (vb (aBin .geq v104 (.int .i64 0)) fun v129 =>
 isB v129 fun b130 => cond b130
 (isB v102 fun b131 => cond b131
 (vb (aIndexAddr 2 (vs42.getD 0 .undef) v104) fun v132 =>
 vb (aFieldAddr 1 v132) fun v133 =>
 vb (aLoad H105 false 1 v133) fun v134 =>
 vb (aBin .eql v101 v134) fun v135 =>
 Kj106 .normal [v135] H105)
 (Kj106 .normal [.bool false] H105))
 (Kj106 .normal [.bool false] H105)))
 (Kj106 .normal [.bool false] H105))
 (fun e136 vs137 H138 =>
 onE e136 .normal
 (JoinP (fun Kj139 => isB (vs137.getD 0 .undef) fun b140 => cond b140
 (Kj139 (.exit 3) [] H138)
 (vb (aBin .eql v103 (.int .i64 12)) fun v141 =>
 isB v141 fun b142 => cond b142
 (vb (aUn .not v102) fun v143 =>
 isB v143 fun b144 => cond b144
 (vb (aBin .eql v101 (.str [])) fun v145 =>
 isB v145 fun b146 => cond b146
 (Kj139 (.exit 3) [] H138)
 (Kj139 .normal [] H138))
 (Kj139 .normal [] H138))
 (Kj139 .normal [] H138)))
 (fun e147 vs148 H149 =>
 onE e147 (.exit 3)
 (vb (aBin .add x14_15 (.int .i64 1)) fun v150 =>
 Kn61 [v150] H149)
 (onE e147 .normal
 (cb (S_oracle_Oracle_Collide [v5] H149) fun v151 H152 =>
 vb (aExtract v151 0) fun v153 =>
 vb (aExtract v151 1) fun v154 =>
 vb (aExtract v151 2) fun v155 =>
 Ke62 .ret [v155] H152)
 (False))))
 (False)))
 (False)))
 (False)))

def cellaretlaw18_TreeTampers.L15 (x2 : AVal) (x1 : AVal) (v4 : AVal) (v50 : AVal) (vs42 : List AVal) (v5 : AVal) : Body := fun vs H Kn Ke => cellaretlaw18_TreeTampers.L15.b x2 x1 v4 v50 vs42 v5 (vs.getD 0 .undef) H Kn Ke

def cellaretlaw18_TreeTampers.w (x0 : AVal) (x1 : AVal) (x2 : AVal) (H : AHeap) (K : AVal → AHeap → Prop) : Prop :=
 cb (S_cellaretlaw18_Made [.int .i64 0] H) fun v1 H2 =>
 vb (aExtract v1 0) fun v3 =>
 vb (aExtract v1 1) fun v4 =>
 vb (aExtract v1 2) fun v5 =>
 JoinP (fun Kj6 => vb (aEql false .ptr H2 v3 .nilp) fun v7 =>
 isB v7 fun b8 => cond b8
 (Kj6 .ret [.bool false] H2)
 (cb (S_cellaretlaw18_awake [] H2) fun v9 H10 =>
 vb (aUn .not v9) fun v11 =>
 isB v11 fun b12 => cond b12
 (Kj6 .ret [.bool false] H10)
 (Kj6 .normal [.bool false] H10)))
 (fun e13 vs14 H15 =>
 onE e13 .normal
 (LoopP (cellaretlaw18_TreeTampers.L6 x0 v3 v4) [.nils, .int .i64 0] H15 fun e41 vs42 H43 =>
 onE e41 (.exit 0)
 (cb (S_cellaretlaw18_Write [v3, v4, .int .i64 0] H43) fun v44 H45 =>
 cb (S_tree_Tree_Root [v3] H45) fun v46 H47 =>
 cb (S_tree_New [v4, v5, .int .i64 0, v46] H47) fun v48 H49 =>
 vb (aExtract v48 0) fun v50 =>
 vb (aExtract v48 1) fun v51 =>
 JoinP (fun Kj52 => vb (aBin .neq v51 (.int .i64 0)) fun v53 =>
 isB v53 fun b54 => cond b54
 (Kj52 .ret [.bool false] H49)
 (vb (aEql false .ptr H49 v50 .nilp) fun v55 =>
 isB v55 fun b56 => cond b56
 (Kj52 .ret [.bool false] H49)
 (Kj52 .normal [vs14.getD 0 .undef] H49)))
 (fun e57 vs58 H59 =>
 onE e57 .normal
 (LoopP (cellaretlaw18_TreeTampers.L15 x2 x1 v4 v50 vs42 v5) [.int .i64 0] H59 fun e156 vs157 H158 =>
 onE e156 (.exit 2)
 (fin .ret [.v (.bool true)] H158 K)
 (onE e156 .ret
 (fin .ret [.v (vs157.getD 0 .undef)] H158 K)
 (False)))
 (onE e57 .ret
 (fin .ret [.v (vs58.getD 0 .undef)] H59 K)
 (False))))
 (False))
 (onE e13 .ret
 (fin .ret [.v (vs14.getD 0 .undef)] H15 K)
 (False)))

end Go.Sh

/- The laws of trees: set. -/
namespace Go.Sh
open Go Go.Abs

section
variable {B : AHeap}
theorem set18_spec {x : AVal} {l : List PutV} {k : Nat} {s : List UInt8} (hv : View B x 2 l.length (flat putC l)) (hn : l.length ≤ 1099511627776) :
    ∃ sv C, S_cellaretlaw18_set [x, .int .i64 k, .str s] B sv C ∧ B <+: C ∧ Sep B (fun _ => False) C [.sl sv 2 (putM l k s).length (flat putC (putM l k s))] := by
  obtain ⟨r, C, h, e, hs⟩ := cellaretlaw18_set.out (x0 := x) (x1 := .int .i64 k) (x2 := .str s) (H := B) (Q := fun r C => B <+: C ∧ Sep B (fun _ => False) C [.sl r 2 (putM l k s).length (flat putC (putM l k s))]) (by
    unfold cellaretlaw18_set.w
    have hz : S_cellaretref01_Zeros [.int .i64 64] B (.str (zs 64)) B := ⟨64, rfl, by omega, rfl, rfl⟩
    refine cb_i _ _ hz ?_
    refine vb_i (eqls _ _) ?_
    refine isB_c (fun h1 => ?_) (fun h1 => ?_)
    · obtain ⟨sv, C, hc, e, hs⟩ := drop_spec (a := (k : Int)) hv hn
      refine cb_i _ _ hc ?_
      refine fin_ret (rvs_v (rvs_nil _)) ?_
      unfold putM
      rw [if_pos h1]
      exact ⟨e, hs⟩
    · refine vb_bld (cs := putC ((k : Int), s)) rfl ?_
      obtain ⟨sv, C, hc, e, hs⟩ := set_spec (p := ((k : Int), s)) hv hn
      refine cb_i _ _ hc ?_
      refine fin_ret (rvs_v (rvs_nil _)) ?_
      unfold putM
      rw [if_neg h1]
      exact ⟨e, hs⟩)
  exact ⟨r, C, h, e, hs⟩
end
end Go.Sh

/- The laws of trees: the digests of a row of blocks (plain law). -/
namespace Go.Sh
open Go Go.Abs

theorem getL_snoc {a : List PutV} {p : PutV} (h : ∀ q ∈ a, q.1 ≠ p.1) (b : Int) : getL (a ++ [p]) b = if b = p.1 then some p.2 else getL a b := by
  unfold getL
  rw [List.find?_append]
  by_cases e : b = p.1
  · rw [if_pos e, List.find?_eq_none.2 (fun q hq => by have := h q hq; simp; omega)]
    simp [e]
  · rw [if_neg e]
    have : ([p] : List PutV).find? (fun p => decide (p.1 = b)) = none := by simp; omega
    rw [this]; simp
theorem take_no {m : List PutV} (h : Rising m) {j : Nat} {p : PutV} (hp : m[j]? = some p) : ∀ q ∈ m.take j, q.1 ≠ p.1 := by
  have h1 : Rising (m.take j ++ [p]) := by
    have : m.take (j + 1) = m.take j ++ [p] := by rw [List.take_add_one, hp]; rfl
    rw [← this]
    exact List.Pairwise.sublist (List.take_sublist _ _) h
  intro q hq
  have := (List.pairwise_append.1 h1).2.2 q hq p (by simp)
  unfold rising at this
  omega
theorem digs_nil : sums64 [] = digs [] := by
  unfold sums64 digs
  refine List.map_congr_left fun i hi => ?_
  rw [if_neg (by simp)]
  rfl
end Go.Sh

/- The laws of trees: root. -/
namespace Go.Sh
open Go Go.Abs

section
variable {B : AHeap}
end
end Go.Sh

/- The laws of trees: short. -/
namespace Go.Sh
open Go Go.Abs

section
variable {B : AHeap}
theorem short18_spec {a b : Int} {s : List UInt8} : ∃ C, S_cellaretlaw18_short [.agg [.int .i64 a, .int .i64 b, .str s]] B (.bool (decide (s.length < 300))) C ∧ B <+: C := by
  obtain ⟨r, C, h, rfl, k⟩ := cellaretlaw18_short.out (x0 := .agg [.int .i64 a, .int .i64 b, .str s]) (H := B) (Q := fun r C => r = .bool (decide (s.length < 300)) ∧ B <+: C) (by
    unfold cellaretlaw18_short.w
    have hs : Sep B (fun _ => False) B [] := Sep.start B
    refine s_box hs rfl fun i C1 h1 hs => ?_
    refine vb_i (e_fieldAddr _ _) ?_
    refine vb_ld hs.g0 rfl ?_
    refine vb_i (e_lenSt _) ?_
    refine vb_i (lss64 _ _ _) ?_
    refine fin_ret (rvs_v (rvs_nil _)) ⟨h1, ?_, h1⟩
    exact congrArg AVal.bool (decide_eq_decide.2 (by omega)))
  exact ⟨C, h, k⟩
end
end Go.Sh

/- The laws of trees: Write. -/
namespace Go.Sh
open Go Go.Abs

section
variable {H0 B : AHeap} {own : Nat → Prop} {R : List Part} {L : RL} {v : RV} {n : Int} {t sp sm : Nat} {d : Int} {root : List UInt8} {S : List PutV} {r o km : AVal}
theorem Write18_spec (h : Sep H0 own B (rparts L v (.obj t (.cells 0 .exact (tcells r o d root (.ptr ⟨sp, 0, 0⟩) km)) :: sheetP sp sm S :: R)))
    (hr : root.length = 32) (c : Calm v n) (hf : v.fault = 0) (hn : n + S.length ≤ 900000) (hn0 : 0 ≤ n) (hS : Rising S) (hk : ∀ p ∈ S, mayG d p.1 = 0 ∧ p.2.length = 64 ∧ 0 ≤ p.1) :
    ∃ C v' m', S_cellaretlaw18_Write [.ptr ⟨t, 0, 0⟩, .ptr ⟨L.p, 0, 0⟩, .int .i64 d] B (.bool true) C ∧ Calm v' (n + S.length) ∧ v'.fault = 0 ∧
      (∀ e j, (e = 0 ∨ e = 1) → 0 ≤ j → nowAt v' e j = if e = d then (getL S j).getD (nowAt v e j) else nowAt v e j) ∧
      Sep H0 own C (rparts L v' (.obj t (.cells 0 .exact (tcells r o d root (.ptr ⟨sp, 0, 0⟩) km)) :: sheetP sp m' [] :: R)) := by
  obtain ⟨x, C, h1, v', m', rfl, h2⟩ := cellaretlaw18_Write.out (x0 := .ptr ⟨t, 0, 0⟩) (x1 := .ptr ⟨L.p, 0, 0⟩) (x2 := .int .i64 d) (H := B) (Q := fun x C => ∃ v' m', x = .bool true ∧ Calm v' (n + S.length) ∧ v'.fault = 0 ∧
      (∀ e j, (e = 0 ∨ e = 1) → 0 ≤ j → nowAt v' e j = if e = d then (getL S j).getD (nowAt v e j) else nowAt v e j) ∧
      Sep H0 own C (rparts L v' (.obj t (.cells 0 .exact (tcells r o d root (.ptr ⟨sp, 0, 0⟩) km)) :: sheetP sp m' [] :: R))) (by
    unfold cellaretlaw18_Write.w
    have hs := rp_out (X := [_, _]) h
    refine cb_i _ _ (tsheet_spec hs.head hr) ?_
    obtain ⟨sv, C1, hc, e1, h2⟩ := puts_spec (x := .ptr ⟨sp, 0, 0⟩) (l := S) (B := B) (.inr ⟨sp, sm, rfl, hs.tail.head⟩) (by omega)
    refine cb_i _ _ hc ?_
    have hs := hs.call0 (h2.own_of fun _ x => x.elim)
    have hs := rp_in (X := [_, _, _]) hs
    refine LoopP.ruleG (α := Nat) (fun j => [.int .i64 (j : Int)]) (fun k C => k ≤ S.length ∧ ∃ w, Calm w (n + k) ∧ w.fault = 0 ∧ (∀ e j, (e = 0 ∨ e = 1) → 0 ≤ j → nowAt w e j = if e = d then (getL (S.take k) j).getD (nowAt v e j) else nowAt v e j) ∧
      Sep H0 own C (rparts L w ([.sl sv 2 S.length (flat putC S), .obj t (.cells 0 .exact (tcells r o d root (.ptr ⟨sp, 0, 0⟩) km)), sheetP sp sm S] ++ R))) (fun k => S.length - k) 0 (by simp)
      ⟨Nat.zero_le _, v, by simpa using c, hf, fun e j _ _ => by simp [getL], hs⟩ ?_
    rintro k C Kn ⟨hj, w, cw, fw, hw, hs⟩ hk'
    unfold cellaretlaw18_Write.L3 cellaretlaw18_Write.L3.b
    try simp only [evB]
    have hq := rp_out (X := [_, _, _]) hs
    refine vb_len hq.o0.view ?_
    refine vb_i (lss64 _ _ _) ?_
    refine isB_c (fun h1 => ?_) (fun h1 => ?_)
    · have hb := List.getElem?_eq_getElem (l := S) (i := k) (by omega)
      generalize S[k] = p at hb
      have hmem := List.mem_of_getElem? hb
      obtain ⟨p1, p2, p3⟩ := hk p hmem
      refine vb_addrN hq.o0.view (by omega) ?_
      refine vb_i (e_fieldAddr _ _) ?_
      refine vb_el1 hq.o0.view putC_len hb rfl ?_
      refine vb_addrN hq.o0.view (by omega) ?_
      refine vb_i (e_fieldAddr _ _) ?_
      refine vb_el1 hq.o0.view putC_len hb rfl ?_
      obtain ⟨C2, hc, hs2⟩ := rig_Write_spec hs cw.wr (by have := cw.calls; omega) d p.1 p.2
      obtain ⟨c3, f3, e3, w3⟩ := write_calm (d := d) cw p1 p2
      rw [fw, if_neg (by decide)] at e3
      rw [e3] at hc
      rw [fw] at f3
      refine cb_i _ _ hc ?_
      refine vb_i (neq64 _ _ _) ?_
      refine isB_cf (by decide) ?_
      refine vb_i (add64 (by omega) (by omega)) ?_
      refine hk' (k + 1) _ ⟨by omega, _, ?_, f3, fun e j he hj0 => ?_, hs2⟩ (by omega)
      · have : n + ((k + 1 : Nat) : Int) = n + k + 1 := by omega
        rw [this]; exact c3
      · have e0 : S.take (k + 1) = S.take k ++ [p] := by rw [List.take_add_one, hb]; rfl
        rw [w3 (by omega) e j he hj0, hw e j he hj0, e0, getL_snoc (take_no hS hb)]
        by_cases h2 : e = d
        · by_cases h3 : j = p.1
          · simp [h2, h3]
          · simp [h2, h3]
        · simp [h2]
    · obtain rfl : k = S.length := by omega
      rw [List.take_length] at hw
      refine onE_i ?_
      obtain ⟨m', C2, hc, hs2⟩ := tdone_spec hq.f2 hq.tail.head hr
      refine cb_i _ _ hc ?_
      exact fin_ret (rvs_v (rvs_nil _)) ⟨w, m', rfl, cw, fw, hw, rp_in (X := [_, _]) hs2.f1.tail.f1⟩)
  exact ⟨C, v', m', h1, h2⟩
end
end Go.Sh

/- Honest trees: behind Write, behind Forget (plain law). -/
namespace Go.Sh
open Go Go.Abs

theorem getL_nil (a : Int) : getL [] a = none := rfl
theorem HT.write {m S K : List PutV} {v v' : RV} {d : Int} {T : List (List UInt8)} {root : List UInt8} (h : HT m S K v d T root)
    (hw : ∀ j : Int, 0 ≤ j → nowAt v' d j = (getL S j).getD (nowAt v d j)) : HT m [] K v' d T root := by
  refine ⟨h.mok, h.root, h.len, h.known, h.texts, h.leafT, fun j _ s e => ?_, fun j hj _ => ?_, fun l hl => ?_, fun p hp => (by cases hp), h.riseK, List.Pairwise.nil⟩
  · rw [getL_nil] at e; cases e
  · rw [hw _ (by omega)]
    cases hs : getL S (161 + (j : Int)) with
    | none => exact h.nodeD j hj hs
    | some s => exact (h.nodeS j hj s hs).1
  · rw [getL_nil, Option.getD_none, hw _ (by omega)]
    exact h.leafE l hl
theorem HT.forget {m K : List PutV} {v : RV} {d : Int} {T : List (List UInt8)} {root : List UInt8} (h : HT m [] K v d T root) : HT m [] [] v d T root := by
  refine ⟨h.mok, h.root, fun p hp => (by cases hp), fun p hp => (by cases hp), h.texts, h.leafT, fun j _ s e => ?_, h.nodeD, h.leafE, fun p hp => (by cases hp), List.Pairwise.nil, List.Pairwise.nil⟩
  rw [getL_nil] at e; cases e
end Go.Sh

/- Honest trees: behind Get (plain law). -/
namespace Go.Sh
open Go Go.Abs

theorem HT.grow {m S K K' : List PutV} {v v' : RV} {d : Int} {T T' : List (List UInt8)} {root : List UInt8} (h : HT m S K v d T root) (ti : TI (digs m) K' T') (ho : HO (digs m) K' v d) (hr : Rising K')
    (hsup : ∀ a, getL K a ≠ none → getL K' a ≠ none) (hT : ∀ x ∈ T, x ∈ T') (hdev : ∀ e, v'.dev e = v.dev e) : HT m S K' v' d T' root := by
  have hnow : ∀ e a, nowAt v' e a = nowAt v e a := fun e a => by unfold nowAt; rw [hdev]
  refine ⟨h.mok, h.root, ti.len, ho.known, ti.texts, fun l hl => hT _ (h.leafT l hl), fun j hj s e => ⟨(h.nodeS j hj s e).1, hsup _ (h.nodeS j hj s e).2⟩, fun j hj e => ?_, fun l hl => ?_, h.keys, hr, h.riseS⟩
  · rw [hnow]; exact h.nodeD j hj e
  · rw [hnow]; exact h.leafE l hl
end Go.Sh

/- Honest trees: calls of a tree that is held. -/
namespace Go.Sh
open Go Go.Abs

theorem rise_len : ∀ {l : List PutV} {a b : Int}, Rising l → (∀ p ∈ l, a ≤ p.1 ∧ p.1 < b) → a ≤ b → (l.length : Int) ≤ b - a
  | [], a, b, _, _, h => by simp; omega
  | p :: l, a, b, hr, hk, _ => by
    obtain ⟨h1, h2⟩ := List.pairwise_cons.1 hr
    have h3 := hk p List.mem_cons_self
    have := rise_len (l := l) (a := p.1 + 1) (b := b) h2 (fun q hq => ⟨by have := h1 q hq; unfold rising at this; omega, (hk q (List.mem_cons_of_mem _ hq)).2⟩) (by omega)
    rw [List.length_cons]; omega
theorem MOk.len {m : List PutV} (h : MOk m) : m.length ≤ 64 := by
  have := rise_len h.rise (a := 0) (b := 64) (fun p hp => (h.each p hp).1) (by decide)
  omega
theorem HT.lenS {m S K : List PutV} {v : RV} {d : Int} {T : List (List UInt8)} {root : List UInt8} (h : HT m S K v d T root) : S.length ≤ 127 := by
  have := rise_len h.riseS (a := 161) (b := 288) (fun p hp => (h.keys p hp).1) (by decide)
  omega
/-- What a tree has. -/
structure TV where
  v : RV
  lv : AVal
  T : List (List UInt8)
  km : Nat
  sm : Nat
  root : List UInt8
  K : List PutV
  S : List PutV
/-- Where a tree is. -/
structure TL where
  L : RL
  i : Nat
  m : Nat
  t : Nat
  sp : Nat
  d : Int
def tparts (W : TL) (z : TV) (R : List Part) : List Part :=
  rparts W.L z.v (Part.orc W.i W.m z.lv z.T :: .obj W.t (.cells 0 .exact (tcells (.ptr ⟨W.L.p, 0, 0⟩) (.ptr ⟨W.i, 0, 0⟩) W.d z.root (.ptr ⟨W.sp, 0, 0⟩) (.map z.km))) :: kmP z.km z.K :: sheetP W.sp z.sm z.S :: R)
structure TH (z : TV) (M : List PutV) (d : Int) (n : Int) (q : Nat) : Prop where
  c : Calm z.v n
  f : z.v.fault = 0
  q : z.T.length ≤ q
  ht : HT M z.S z.K z.v d z.T z.root
theorem TH.le {z : TV} {M : List PutV} {d n n' : Int} {q q' : Nat} (g : TH z M d n q) (h1 : n ≤ n') (h2 : q ≤ q') : TH z M d n' q' := ⟨calm_le g.c h1, g.f, Nat.le_trans g.q h2, g.ht⟩
theorem TH.root {z : TV} {M : List PutV} {d n : Int} {q : Nat} (g : TH z M d n q) : z.root.length = 32 := by rw [g.ht.root]; exact (val (digs M) 6 0).2

section
variable {H0 B : AHeap} {own : Nat → Prop} {R : List Part} {W : TL} {z : TV} {M : List PutV} {n : Int} {q : Nat} {t : Nat}
theorem tget_bad {k : Int} (hk : k < 0 ∨ 64 ≤ k) : ∃ C, S_tree_Tree_Get [.ptr ⟨t, 0, 0⟩, .int .i64 k] B (.tup [.str [], .bool false, .int .i64 3]) C ∧ B <+: C := by
  obtain ⟨r, C, h, rfl, k⟩ := tree_Tree_Get.out (x0 := .ptr ⟨t, 0, 0⟩) (x1 := .int .i64 k) (H := B) (Q := fun r C => r = .tup [.str [], .bool false, .int .i64 3] ∧ B <+: C) (by
    unfold tree_Tree_Get.w
    have hs : Sep B (fun _ => False) B [] := Sep.start B
    refine s_boxS hs rfl fun b C1 hs => ?_
    refine vb_ld hs.g0 rfl ?_
    obtain ⟨C2, hc, e⟩ := tdown_bad (B := C1) (t := t) hk
    refine cb_i _ _ hc ?_
    have hs := hs.quiet e
    refine vb_i e_ext0 ?_
    refine vb_i e_ext1 ?_
    refine s_alloc hs fun a C3 _ hs => ?_
    refine s_storeA hs rfl rfl rfl rfl fun C4 hs => ?_
    refine vb_i (neq64 _ _ _) ?_
    refine isB_ct (by decide) ?_
    exact fin_ret (rvs_v (rvs_v (rvs_v (rvs_nil _)))) ⟨rfl, hs.pre fun _ x => x⟩)
  exact ⟨C, h, k⟩
theorem th_put (h : Sep H0 own B (tparts W z R)) (g : TH z M W.d n q) (hn : n ≤ 900000) (hq : q ≤ 800000) (hd : W.d = 0 ∨ W.d = 1) (k : Int) (s : List UInt8) :
    ∃ C z', S_tree_Tree_Put [.ptr ⟨W.t, 0, 0⟩, .int .i64 k, .str s] B (.int .i64 (if 0 ≤ k ∧ k < 64 then if s.length = 64 then 0 else 6 else 3)) C ∧
      TH z' (if (0 ≤ k ∧ k < 64) ∧ s.length = 64 then putM M k.toNat s else M) W.d (n + 6) (q + 13) ∧ (∀ x ∈ z.T, x ∈ z'.T) ∧ Sep H0 own C (tparts W z' R) := by
  by_cases hk : 0 ≤ k ∧ k < 64
  · by_cases hs : s.length = 64
    · rw [if_pos hk, if_pos hs, if_pos ⟨hk, hs⟩]
      obtain ⟨kk, rfl⟩ : ∃ kk : Nat, k = kk := ⟨k.toNat, by omega⟩
      obtain ⟨C, v', lv', T', K', S', root', hc, c', f', _, hT, hTl, ht', hs'⟩ := tput_spec h g.c g.f hn (Nat.le_trans g.q hq) (k := kk) (by omega) hd hs g.ht
      exact ⟨C, ⟨v', lv', T', z.km, z.sm, root', K', S'⟩, hc, ⟨c', f', by have := g.q; dsimp only; omega, ht'⟩, hT, hs'⟩
    · obtain ⟨C, hc, e⟩ := tput_bad (B := B) (t := W.t) (k := k) (s := s) (.inr hs)
      rw [if_pos hk] at hc
      rw [if_pos hk, if_neg hs, if_neg (fun h => hs h.2)]
      exact ⟨C, z, hc, g.le (by omega) (by omega), fun _ h => h, h.quiet e⟩
  · obtain ⟨C, hc, e⟩ := tput_bad (B := B) (t := W.t) (k := k) (s := s) (.inl hk)
    rw [if_neg hk] at hc
    rw [if_neg hk, if_neg (fun h => hk h.1)]
    exact ⟨C, z, hc, g.le (by omega) (by omega), fun _ h => h, h.quiet e⟩
theorem th_clear (h : Sep H0 own B (tparts W z R)) (g : TH z M W.d n q) (hn : n ≤ 900000) (hq : q ≤ 800000) (hd : W.d = 0 ∨ W.d = 1) (k : Int) :
    ∃ C z', S_tree_Tree_Clear [.ptr ⟨W.t, 0, 0⟩, .int .i64 k] B (.int .i64 (if 0 ≤ k ∧ k < 64 then 0 else 3)) C ∧
      TH z' (if 0 ≤ k ∧ k < 64 then dropL M k else M) W.d (n + 6) (q + 13) ∧ (∀ x ∈ z.T, x ∈ z'.T) ∧ Sep H0 own C (tparts W z' R) := by
  obtain ⟨C, hc, z', h1, h2⟩ := tclear_of (B := B) (x := .ptr ⟨W.t, 0, 0⟩) (k := k) (e := .int .i64 (if 0 ≤ k ∧ k < 64 then 0 else 3)) (P := fun C => ∃ z', TH z' (if 0 ≤ k ∧ k < 64 then dropL M k else M) W.d (n + 6) (q + 13) ∧ (∀ x ∈ z.T, x ∈ z'.T) ∧ Sep H0 own C (tparts W z' R)) (fun B1 e => by
    obtain ⟨C, z', hc, h1, h2⟩ := th_put (h.quiet e) g hn hq hd k (zs 64)
    rw [if_pos (zs_len 64)] at hc
    refine ⟨C, hc, z', ?_, h2⟩
    by_cases hk : 0 ≤ k ∧ k < 64
    · rw [if_pos ⟨hk, zs_len 64⟩] at h1
      rw [if_pos hk]
      unfold putM at h1
      rw [if_pos rfl, show ((k.toNat : Nat) : Int) = k by omega] at h1
      exact h1
    · rw [if_neg (fun h => hk h.1)] at h1
      rw [if_neg hk]
      exact h1)
  exact ⟨C, z', hc, h1, h2⟩
theorem th_get (h : Sep H0 own B (tparts W z R)) (g : TH z M W.d n q) (hn : n ≤ 900000) (hq : q ≤ 800000) (hd : W.d = 0 ∨ W.d = 1) {k : Nat} (hk : k < 64) :
    ∃ C z', S_tree_Tree_Get [.ptr ⟨W.t, 0, 0⟩, .int .i64 k] B (leafR (leafB M k)) C ∧ TH z' M W.d (n + 7) (q + 7) ∧ (∀ x ∈ z.T, x ∈ z'.T) ∧ (z'.S = z.S ∧ z'.root = z.root) ∧ Sep H0 own C (tparts W z' R) := by
  obtain ⟨r, C, v', lv', T', K', hc, c', f', hdev, hT, hTl, ti, ho, hcase, hs⟩ := tget_spec h g.c g.f hn (Nat.le_trans g.q (by omega)) hk hd g.root g.ht.ti g.ht.root
  have hH := g.ht.ho
  have hl := g.ht.leafE k hk
  have hv := digs_val M hk
  obtain ⟨ho1, ho2⟩ := ho hH
  have hr1 : Rising K' := by
    have h1 := rp_out (X := [_, _, _, _]) hs
    exact h1.tail.tail.head.1
  have e : r = leafR (leafB M k) := by
    rcases hcase with ⟨_, h2⟩ | ⟨y, rfl, h2 | ⟨h2, h3, _⟩⟩
    · obtain ⟨h3, h4⟩ := h2 hH
      rw [h3, Option.getD_none] at hl
      rw [hl, hv] at h4
      exact absurd rfl h4
    · rw [h2, Option.getD_some] at hl
      rw [hl]
    · rw [h2, Option.getD_none] at hl
      rw [h3, hl]
  exact ⟨C, ⟨v', lv', T', z.km, z.sm, z.root, K', z.S⟩, e ▸ hc, ⟨c', f', by have := g.q; dsimp only; omega, g.ht.grow ti ho1 hr1 ho2 hT hdev⟩, hT, ⟨rfl, rfl⟩, hs⟩
theorem th_write (h : Sep H0 own B (tparts W z R)) (g : TH z M W.d n q) (hn : n ≤ 800000) (hd : W.d = 0 ∨ W.d = 1) :
    ∃ C z', S_cellaretlaw18_Write [.ptr ⟨W.t, 0, 0⟩, .ptr ⟨W.L.p, 0, 0⟩, .int .i64 W.d] B (.bool true) C ∧ TH z' M W.d (n + 127) q ∧ (z'.T = z.T ∧ z'.S = [] ∧ z'.root = z.root) ∧ Sep H0 own C (tparts W z' R) := by
  have hs := rp_in (X := [_, _, _, _]) (rp_out (X := [_, _, _, _]) h).f3.f2
  have h127 := g.ht.lenS
  have hn0 : 0 ≤ n := Int.le_trans g.c.calls.1 g.c.calls.2
  obtain ⟨C, v', m', hc, c', f', hnow, hs⟩ := Write18_spec hs g.root g.c g.f (by omega) hn0 g.ht.riseS (fun p hp => by
    obtain ⟨h1, h2⟩ := g.ht.keys p hp
    refine ⟨?_, h2, by omega⟩
    unfold mayG
    rw [if_neg (by omega), if_neg (by omega)])
  have hs := (rp_out (X := [_, _, _, _]) hs).f2.f3.b2
  exact ⟨C, ⟨v', z.lv, z.T, z.km, m', z.root, z.K, []⟩, hc, ⟨calm_le c' (by omega), f', g.q, g.ht.write fun j hj => by rw [hnow W.d j hd hj, if_pos rfl]⟩, ⟨rfl, rfl, rfl⟩, rp_in (X := [_, _, _, _]) hs⟩
theorem th_forget (h : Sep H0 own B (tparts W z R)) (g : TH z M W.d n q) (hS : z.S = []) :
    ∃ C z', S_tree_Tree_Forget [.ptr ⟨W.t, 0, 0⟩] B (.tup []) C ∧ TH z' M W.d n q ∧ (z'.T = z.T ∧ z'.S = [] ∧ z'.root = z.root) ∧ z'.K = [] ∧ Sep H0 own C (tparts W z' R) := by
  have hs := (rp_out (X := [_, _, _, _]) h).f2.f2
  obtain ⟨m', C, hc, hs⟩ := tforget_spec hs g.root
  have hht := g.ht
  rw [hS] at hht
  exact ⟨C, ⟨z.v, z.lv, z.T, m', z.sm, z.root, [], z.S⟩, hc, ⟨g.c, g.f, g.q, by dsimp only; rw [hS]; exact hht.forget⟩, ⟨rfl, hS, rfl⟩, rfl, rp_in (X := [_, _, _, _]) hs.f2⟩
theorem th_known (h : Sep H0 own B (tparts W z R)) (g : TH z M W.d n q) : S_tree_Tree_Known [.ptr ⟨W.t, 0, 0⟩] B (.int .i64 z.K.length) B := by
  have hs := rp_out (X := [_, _, _, _]) h
  exact tknown_spec hs.g1 g.root hs.tail.tail.head
theorem th_root (h : Sep H0 own B (tparts W z R)) (g : TH z M W.d n q) : ∃ C, S_tree_Tree_Root [.ptr ⟨W.t, 0, 0⟩] B (.agg (((val (digs M) 6 0).1).map ofByte)) C ∧ B <+: C := by
  have hs := rp_out (X := [_, _, _, _]) h
  have := troot_spec (B := B) hs.g1 g.root
  rwa [g.ht.root] at this
end
end Go.Sh

/- The laws of trees: do. -/
namespace Go.Sh
open Go Go.Abs

section
variable {H0 B : AHeap} {own : Nat → Prop} {R X : List Part} {W : TL} {z : TV} {M : List PutV} {n : Int} {q : Nat} {x : AVal} {k l : Int} {s : List UInt8}
theorem tp_in (h : Sep H0 own B (X ++ tparts W z R)) : Sep H0 own B (tparts W z (X ++ R)) := sep_rot (A := X) (C := [_, _, _, _, _, _, _]) h
theorem tp_out (h : Sep H0 own B (tparts W z (X ++ R))) : Sep H0 own B (X ++ tparts W z R) := sep_rot (A := [_, _, _, _, _, _, _]) (C := X) h
theorem getL_no {m : List PutV} (hr : Rising m) {a : Int} (h : getL m a = none) : ∀ p ∈ m, p.1 ≠ a := fun p hp e => by
  have := getL_some hr.apart hp
  rw [e, h] at this; cases this
theorem leafR_none {m : List PutV} {j : Nat} (h : getL m j = none) : leafR (leafB m j) = .tup [.str [], .bool false, .int .i64 0] := by
  unfold leafR leafB
  rw [h, Option.getD_none, if_pos rfl]
theorem leafR_some {m : List PutV} (hm : MOk m) {j : Nat} {y : List UInt8} (h : getL m j = some y) : leafR (leafB m j) = .tup [.str y, .bool true, .int .i64 0] := by
  unfold leafR leafB
  rw [h, Option.getD_some, if_neg (hm.each _ (getL_mem h)).2.2]
theorem do18_spec (h : Sep H0 own B (tparts W z (.sl x 2 M.length (flat putC M) :: R))) (g : TH z M W.d n q) (hn : n ≤ 700000) (hq : q ≤ 700000) (hd : W.d = 0 ∨ W.d = 1) :
    ∃ C z' M' x', S_cellaretlaw18_do [.ptr ⟨W.t, 0, 0⟩, .ptr ⟨W.L.p, 0, 0⟩, .int .i64 W.d, x, .agg [.int .i64 k, .int .i64 l, .str s]] B (.tup [x', .bool true]) C ∧
      TH z' M' W.d (n + 127) (q + 13) ∧ (∀ y ∈ z.T, y ∈ z'.T) ∧ (k = 3 → M' = M ∧ z'.S = z.S ∧ x' = x) ∧ Sep H0 own C (tparts W z' (.sl x' 2 M'.length (flat putC M') :: R)) := by
  have hM := g.ht.mok
  have h64 := hM.len
  obtain ⟨r, C, h1, z', M', x', rfl, h2⟩ := cellaretlaw18_do.out (x0 := .ptr ⟨W.t, 0, 0⟩) (x1 := .ptr ⟨W.L.p, 0, 0⟩) (x2 := .int .i64 W.d) (x3 := x) (x4 := .agg [.int .i64 k, .int .i64 l, .str s]) (H := B) (Q := fun r C => ∃ z' M' x', r = .tup [x', .bool true] ∧
      TH z' M' W.d (n + 127) (q + 13) ∧ (∀ y ∈ z.T, y ∈ z'.T) ∧ (k = 3 → M' = M ∧ z'.S = z.S ∧ x' = x) ∧ Sep H0 own C (tparts W z' (.sl x' 2 M'.length (flat putC M') :: R))) (by
    unfold cellaretlaw18_do.w
    refine s_box h rfl fun b C1 _ hs => ?_
    simp only [AVal.cells] at hs
    refine JoinP.mk (fun e vs D => e = .normal ∧ vs = [.bool (decide (0 ≤ l ∧ l < 64))] ∧ C1 = D) ?_ ?_
    · refine vb_i (e_fieldAddr _ _) ?_
      refine vb_ld hs.g0 rfl ?_
      refine vb_i (geq64 _ _ _) ?_
      refine isB_c (fun h1 => ?_) (fun h1 => ?_)
      · refine vb_i (e_fieldAddr _ _) ?_
        refine vb_ld hs.g0 rfl ?_
        refine vb_i (lss64 _ _ _) ?_
        exact ⟨rfl, congrArg (fun b => [AVal.bool b]) (decide_eq_decide.2 (by omega)), rfl⟩
      · exact ⟨rfl, congrArg (fun b => [AVal.bool b]) (decide_eq_false (by omega)).symm, rfl⟩
    rintro e vs D ⟨rfl, rfl, rfl⟩
    refine onE_i ?_
    try simp only [evB]
    refine vb_i (e_fieldAddr _ _) ?_
    refine vb_ld hs.g0 rfl ?_
    refine JoinP.mk (fun e vs D => e = .normal ∧ (∃ s', vs = [.str s']) ∧ C1 = D) ?_ ?_
    · refine vb_i (e_lenSt _) ?_
      refine vb_i (lss64 _ _ _) ?_
      refine isB_c (fun h1 => ?_) (fun h1 => ?_)
      · refine vb_i (e_fieldAddr _ _) ?_
        refine vb_ld hs.g0 rfl ?_
        refine vb_i (v := .int .i64 (l.tmod 5)) rfl ?_
        refine vb_i (neq64 _ _ _) ?_
        refine isB_c (fun h2 => ?_) (fun h2 => ?_)
        · have hz : S_cellaretref01_Full [.str s, .int .i64 64] C1 (.str (full s 64)) C1 := ⟨s, 64, rfl, by omega, rfl, rfl⟩
          refine cb_i _ _ hz ?_
          exact ⟨rfl, ⟨_, rfl⟩, rfl⟩
        · exact ⟨rfl, ⟨_, rfl⟩, rfl⟩
      · exact ⟨rfl, ⟨_, rfl⟩, rfl⟩
    rintro e vs D ⟨rfl, ⟨s', rfl⟩, rfl⟩
    refine onE_i ?_
    try simp only [evB]
    refine vb_i (e_fieldAddr _ _) ?_
    refine vb_ld hs.g0 rfl ?_
    refine JoinP.mk (fun e vs D => e = .normal ∧ vs = [.bool (decide (k = 0 ∨ k = 1 ∨ k = 2))] ∧ C1 = D) ?_ ?_
    · refine vb_i (eql64 _ _ _) ?_
      refine isB_c (fun h1 => ?_) (fun h1 => ?_)
      · exact ⟨rfl, congrArg (fun b => [AVal.bool b]) (decide_eq_decide.2 (by omega)), rfl⟩
      refine vb_i (eql64 _ _ _) ?_
      refine isB_c (fun h2 => ?_) (fun h2 => ?_)
      · exact ⟨rfl, congrArg (fun b => [AVal.bool b]) (decide_eq_decide.2 (by omega)), rfl⟩
      refine vb_i (eql64 _ _ _) ?_
      exact ⟨rfl, congrArg (fun b => [AVal.bool b]) (decide_eq_decide.2 (by omega)), rfl⟩
    rintro e vs D ⟨rfl, rfl, rfl⟩
    refine onE_i ?_
    try simp only [evB]
    refine isB_c (fun k0 => ?_) (fun k0 => ?_)
    · refine vb_i (e_fieldAddr _ _) ?_
      refine vb_ld hs.g0 rfl ?_
      obtain ⟨C2, z', hc, g', hT, hs⟩ := th_put (tp_in (X := [_]) hs) g (by omega) (by omega) hd l s'
      refine cb_i _ _ hc ?_
      have hs := tp_out (X := [_, _]) hs
      by_cases hin : 0 ≤ l ∧ l < 64
      · rw [decide_eq_true hin]
        rw [if_pos hin]
        refine vb_i (v := .bool false) rfl ?_
        refine isB_F ?_
        refine vb_i (e_lenSt _) ?_
        refine vb_i (neq64 _ _ _) ?_
        by_cases hl : s'.length = 64
        · rw [if_pos ⟨hin, hl⟩] at g'
          rw [if_pos hl]
          refine isB_cf (by omega) ?_
          refine vb_i (e_fieldAddr _ _) ?_
          refine vb_ld hs.g0 rfl ?_
          obtain ⟨ll, rfl⟩ : ∃ ll : Nat, l = ll := ⟨l.toNat, by omega⟩
          obtain ⟨sv, C3, hc, e, h3⟩ := set18_spec (k := ll) (s := s') hs.o1.view (by omega)
          refine cb_i _ _ hc ?_
          have hs := hs.call0 (h3.own_of fun _ x => x.elim)
          have hs := hs.f1.tail.f1
          refine vb_i (eql64 _ _ _) ?_
          exact fin_ret (rvs_v (rvs_v (rvs_nil _))) ⟨z', _, sv, rfl, g'.le (by omega) (by omega), hT, fun e => absurd e (by omega), tp_in (X := [_]) hs.tail⟩
        · rw [if_neg (fun h => hl h.2)] at g'
          rw [if_neg hl]
          refine isB_ct (by omega) ?_
          refine vb_i (eql64 _ _ _) ?_
          exact fin_ret (rvs_v (rvs_v (rvs_nil _))) ⟨z', M, x, rfl, g'.le (by omega) (by omega), hT, fun e => absurd e (by omega), tp_in (X := [_]) hs.tail⟩
      · rw [if_neg (fun h => hin h.1)] at g'
        rw [decide_eq_false hin, if_neg hin]
        refine vb_i (v := .bool true) rfl ?_
        refine isB_T ?_
        refine vb_i (eql64 _ _ _) ?_
        exact fin_ret (rvs_v (rvs_v (rvs_nil _))) ⟨z', M, x, rfl, g'.le (by omega) (by omega), hT, fun e => absurd e (by omega), tp_in (X := [_]) hs.tail⟩
    refine vb_i (eql64 _ _ _) ?_
    refine isB_c (fun k5 => ?_) (fun k5 => ?_)
    · refine vb_i (e_fieldAddr _ _) ?_
      refine vb_ld hs.g0 rfl ?_
      obtain ⟨C2, z', hc, g', hT, hs⟩ := th_clear (tp_in (X := [_]) hs) g (by omega) (by omega) hd l
      refine cb_i _ _ hc ?_
      have hs := tp_out (X := [_, _]) hs
      by_cases hin : 0 ≤ l ∧ l < 64
      · rw [if_pos hin] at g'
        rw [decide_eq_true hin, if_pos hin]
        refine vb_i (v := .bool false) rfl ?_
        refine isB_F ?_
        refine vb_i (e_fieldAddr _ _) ?_
        refine vb_ld hs.g0 rfl ?_
        obtain ⟨sv, C3, hc, e, h3⟩ := drop_spec (a := l) hs.o1.view (by omega)
        refine cb_i _ _ hc ?_
        have hs := hs.call0 (h3.own_of fun _ x => x.elim)
        have hs := hs.f1.tail.f1
        refine vb_i (eql64 _ _ _) ?_
        exact fin_ret (rvs_v (rvs_v (rvs_nil _))) ⟨z', _, sv, rfl, g'.le (by omega) (by omega), hT, fun e => absurd e (by omega), tp_in (X := [_]) hs.tail⟩
      · rw [if_neg hin] at g'
        rw [decide_eq_false hin, if_neg hin]
        refine vb_i (v := .bool true) rfl ?_
        refine isB_T ?_
        refine vb_i (eql64 _ _ _) ?_
        exact fin_ret (rvs_v (rvs_v (rvs_nil _))) ⟨z', M, x, rfl, g'.le (by omega) (by omega), hT, fun e => absurd e (by omega), tp_in (X := [_]) hs.tail⟩
    refine vb_i (eql64 _ _ _) ?_
    refine isB_c (fun k6 => ?_) (fun k6 => ?_)
    · obtain ⟨C2, z', hc, g', ⟨hT, _, _⟩, hs⟩ := th_write (tp_in (X := [_]) hs) g (by omega) hd
      refine cb_i _ _ hc ?_
      have hs := tp_out (X := [_, _]) hs
      exact fin_ret (rvs_v (rvs_v (rvs_nil _))) ⟨z', M, x, rfl, g'.le (by omega) (by omega), fun y hy => hT ▸ hy, fun e => absurd e (by omega), tp_in (X := [_]) hs.tail⟩
    refine vb_i (eql64 _ _ _) ?_
    refine isB_c (fun k7 => ?_) (fun k7 => ?_)
    · obtain ⟨C2, z1, hc, g1, ⟨hT, hS, _⟩, hs⟩ := th_write (tp_in (X := [_]) hs) g (by omega) hd
      refine cb_i _ _ hc ?_
      obtain ⟨C3, z2, hc, g2, ⟨hT2, _, _⟩, hK, hs⟩ := th_forget hs g1 hS
      refine cb_i _ _ hc ?_
      refine isB_T ?_
      refine cb_i _ _ (th_known hs g2) ?_
      refine vb_i (eql64 _ _ _) ?_
      have hs := tp_out (X := [_, _]) hs
      exact fin_ret (rvs_v (rvs_v (rvs_nil _))) ⟨z2, M, x, by rw [hK]; rfl, g2.le (by omega) (by omega), fun y hy => by rw [hT2, hT]; exact hy, fun e => absurd e (by omega), tp_in (X := [_]) hs.tail⟩
    refine vb_i (e_fieldAddr _ _) ?_
    refine vb_ld hs.g0 rfl ?_
    by_cases hin : 0 ≤ l ∧ l < 64
    · rw [decide_eq_true hin]
      obtain ⟨ll, rfl⟩ : ∃ ll : Nat, l = ll := ⟨l.toNat, by omega⟩
      obtain ⟨C2, z', hc, g', hT, ⟨hS, _⟩, hs⟩ := th_get (tp_in (X := [_]) hs) g (by omega) (by omega) hd (k := ll) (by omega)
      have hs := tp_out (X := [_, _]) hs
      cases hg : getL M (ll : Int) with
      | none =>
        rw [leafR_none hg] at hc
        refine cb_i _ _ hc ?_
        refine vb_i e_ext0 ?_
        refine vb_i e_ext1 ?_
        refine vb_i e_ext2 ?_
        refine vb_i (v := .bool false) rfl ?_
        refine isB_F ?_
        refine vb_i (e_fieldAddr _ _) ?_
        refine vb_ld hs.g0 rfl ?_
        obtain ⟨C3, hc, e⟩ := at_spec (a := (ll : Int)) hs.o1.view (by omega)
        rw [at_no (getL_no hM.rise hg)] at hc
        refine cb_i _ _ hc ?_
        have hs := hs.quiet e
        refine vb_i (lss64 _ _ _) ?_
        refine isB_ct (by omega) ?_
        refine vb_i (eqls _ _) ?_
        refine isB_ct rfl ?_
        refine vb_i (v := .bool true) rfl ?_
        refine isB_T ?_
        refine vb_i (eql64 _ _ _) ?_
        exact fin_ret (rvs_v (rvs_v (rvs_nil _))) ⟨z', M, x, rfl, g'.le (by omega) (by omega), hT, fun _ => ⟨rfl, hS, rfl⟩, tp_in (X := [_]) hs.tail⟩
      | some y =>
        rw [leafR_some hM hg] at hc
        refine cb_i _ _ hc ?_
        refine vb_i e_ext0 ?_
        refine vb_i e_ext1 ?_
        refine vb_i e_ext2 ?_
        refine vb_i (v := .bool false) rfl ?_
        refine isB_F ?_
        refine vb_i (e_fieldAddr _ _) ?_
        refine vb_ld hs.g0 rfl ?_
        obtain ⟨j, hj⟩ := List.mem_iff_getElem?.1 (getL_mem hg)
        have hlt := (List.getElem?_eq_some_iff.1 hj).1
        obtain ⟨C3, hc, e⟩ := at_spec (a := (ll : Int)) hs.o1.view (by omega)
        have ha := at_yes (take_no hM.rise hj) hj
        dsimp only at ha
        rw [ha] at hc
        refine cb_i _ _ hc ?_
        have hs := hs.quiet e
        refine vb_i (lss64 _ _ _) ?_
        refine isB_cf (by omega) ?_
        refine isB_T ?_
        refine vb_i (eql64 _ _ _) ?_
        refine isB_ct rfl ?_
        refine vb_addrN hs.o1.view hlt ?_
        refine vb_i (e_fieldAddr _ _) ?_
        refine vb_el1 hs.o1.view putC_len hj rfl ?_
        refine vb_i (eqls _ _) ?_
        exact fin_ret (rvs_v (rvs_v (rvs_nil _))) ⟨z', M, x, by rw [decide_eq_true rfl]; rfl, g'.le (by omega) (by omega), hT, fun _ => ⟨rfl, hS, rfl⟩, tp_in (X := [_]) hs.tail⟩
    · rw [decide_eq_false hin]
      obtain ⟨C2, hc, e⟩ := tget_bad (B := C1) (t := W.t) (k := l) (by omega)
      refine cb_i _ _ hc ?_
      have hs := tp_out (X := [_, _]) (tp_in (X := [_]) (hs.quiet e))
      refine vb_i e_ext0 ?_
      refine vb_i e_ext1 ?_
      refine vb_i e_ext2 ?_
      refine vb_i (v := .bool true) rfl ?_
      refine isB_T ?_
      refine vb_i (eqls _ _) ?_
      refine isB_ct rfl ?_
      refine vb_i (v := .bool true) rfl ?_
      refine isB_T ?_
      refine vb_i (eql64 _ _ _) ?_
      exact fin_ret (rvs_v (rvs_v (rvs_nil _))) ⟨z, M, x, rfl, g.le (by omega) (by omega), fun _ h => h, fun _ => ⟨rfl, rfl, rfl⟩, tp_in (X := [_]) hs.tail⟩)
  exact ⟨C, z', M', x', h1, h2⟩
end
end Go.Sh

/- The laws of trees: a tree that is made. -/
namespace Go.Sh
open Go Go.Abs

theorem bare_facts : ∀ n, n < 63 → 2 * (n + 1 - 2 ^ hops n) + 1 < wd (5 - hops n) := by decide +kernel
/-- A tree of bare leaves. -/
theorem ndB_bare {n : Nat} (hn : n < 63) : ndB (digs []) n = bw (6 - hops n) := by
  have h1 := (node_facts n hn).1
  have h2 := bare_facts n hn
  unfold ndB nblk
  rw [← digs_nil, val_bare _ (by omega) _ (by omega), val_bare _ (by omega) _ h2, show 6 - hops n = 5 - hops n + 1 by omega]
  rfl
theorem leafB_nil (l : Nat) : leafB [] l = zs 64 := rfl
theorem root_bare : (bd 6).1 = (val (digs []) 6 0).1 := by rw [← digs_nil, val_bare 6 (Nat.le_refl _) 0 (by decide)]
theorem bareT_mem {T : List (List UInt8)} (h : ∀ s ∈ BareT 6, s ∈ T) : (∀ n, n < 63 → (1 :: ndB (digs []) n) ∈ T) ∧ ∀ l, l < 64 → (0 :: leafB [] l) ∈ T := by
  constructor
  · intro n hn
    have h1 := (node_facts n hn).1
    rw [ndB_bare hn]
    refine h _ ?_
    unfold BareT bareT
    rw [List.mem_append, List.mem_append]
    refine .inl (.inl (List.mem_cons_of_mem _ ?_))
    exact List.mem_map.2 ⟨5 - hops n, List.mem_range.2 (by omega), by rw [show 5 - hops n + 1 = 6 - hops n by omega]⟩
  · intro l _
    rw [leafB_nil, ← bw0]
    refine h _ ?_
    unfold BareT bareT
    rw [List.mem_append, List.mem_append]
    exact .inl (.inl List.mem_cons_self)
theorem BareT_len (h : Nat) : (BareT h).length ≤ h + 3 := by
  unfold BareT
  rw [List.length_append, List.length_append, bareT_len]
  split <;> simp
theorem MOk.nil : MOk [] := ⟨List.Pairwise.nil, fun p h => (by cases h)⟩
theorem now_rig0 (d i : Int) : nowAt rig0 d i = zs 64 := by
  have h : ∀ l : List Bk, (∀ b ∈ l, b = bk0) → (l.getD i.toNat bk0).now = zs 64 := fun l h => by
    rw [List.getD_eq_getElem?_getD]
    cases hg : l[i.toNat]? with
    | none => rfl
    | some b => rw [h b (List.mem_of_getElem? hg)]; rfl
  unfold nowAt bkAt
  refine h _ fun b hb => ?_
  unfold RV.dev at hb
  split at hb <;> exact List.eq_of_mem_replicate hb

section
variable {H0 B : AHeap} {own : Nat → Prop} {R : List Part} {i m : Nat} {lv : AVal} {T : List (List UInt8)} {d : Int}
theorem bare_spec18 (h : Sep H0 own B (Part.orc i m lv T :: R)) (hT : T.length ≤ 1000000) {k : Nat} (hk : k ≤ 6) :
    ∃ C lv', S_node_Bare [.ptr ⟨i, 0, 0⟩, .int .i64 k] B (.tup [.str (bw k), .agg ((bd k).1.map ofByte), .int .i64 0]) C ∧ Sep H0 own C (Part.orc i m lv' (keepTs T (BareT k)) :: R) := by
  obtain ⟨C, lv', h1, h2⟩ := orc_sums h (ss := BareT k) (by have := BareT_len k; omega) (fun y hy => by rw [BareT_short k y hy]; omega)
  exact ⟨C, lv', ⟨_, _, rfl, .inr ⟨k, rfl, hk, rfl, h1⟩⟩, h2⟩
set_option maxRecDepth 20000 in
theorem made_spec (hd : d = 0 ∨ d = 1) : ∃ C W z, S_cellaretlaw18_Made [.int .i64 d] B (.tup [.ptr ⟨W.t, 0, 0⟩, .ptr ⟨W.L.p, 0, 0⟩, .ptr ⟨W.i, 0, 0⟩]) C ∧ B <+: C ∧ W.d = d ∧ TH z [] d 63 1000 ∧ Sep B (fun _ => False) C (tparts W z []) := by
  obtain ⟨r, C, h, W, z, rfl, h1, h2⟩ := cellaretlaw18_Made.out (x0 := .int .i64 d) (H := B) (Q := fun r C => ∃ W z, r = .tup [.ptr ⟨W.t, 0, 0⟩, .ptr ⟨W.L.p, 0, 0⟩, .ptr ⟨W.i, 0, 0⟩] ∧ B <+: C ∧ W.d = d ∧ TH z [] d 63 1000 ∧ Sep B (fun _ => False) C (tparts W z [])) (by
    unfold cellaretlaw18_Made.w
    obtain ⟨C1, L, hc, hs⟩ := rig_New_spec (B := B)
    refine cb_i _ _ hc ?_
    obtain ⟨i, m, C2, hc, hs⟩ : ∃ i m C2, S_oracle_New [] C1 (.ptr ⟨i, 0, 0⟩) C2 ∧ Sep B (fun _ => False) C2 (Part.orc i m .nils [] :: rparts L rig0 []) := ⟨_, _, _, ⟨rfl, rfl, rfl⟩, orc_new hs⟩
    refine cb_i _ _ hc ?_
    obtain ⟨C3, lv, hc, hs⟩ := bare_spec18 hs (by simp) (k := 6) (Nat.le_refl _)
    refine cb_i _ _ hc ?_
    refine vb_i e_ext0 ?_
    refine vb_i e_ext1 ?_
    refine vb_i e_ext2 ?_
    have h32 := (bd 6).2
    refine s_alloc hs fun a C4 _ hs => ?_
    refine s_storeA hs rfl (by simp [h32]) rfl (cells_byte _) fun C5 hs => ?_
    refine vb_ldA hs.g0 (by simp [h32]) ?_
    obtain ⟨t, sp, sm, km, C6, hc, _, h6⟩ := tnew_spec (B := C5) (p := L.p) (o := i) (d := d) (root := (bd 6).1) h32 hd
    refine cb_i _ _ hc ?_
    have hs := hs.call0 (h6.own_of fun _ x => x.elim)
    refine vb_i e_ext0 ?_
    refine vb_i e_ext1 ?_
    have hs : Sep B (fun _ => False) C6 (rparts L rig0 ([Part.orc i m lv (keepTs [] (BareT 6)), .obj t (.cells 0 .exact (tcells (.ptr ⟨L.p, 0, 0⟩) (.ptr ⟨i, 0, 0⟩) d (bd 6).1 (.ptr ⟨sp, 0, 0⟩) (.map km))), kmP km [], sheetP sp sm []] ++ [])) := rp_in (X := [_, _, _, _]) (hs.f3.tail.f3 : Sep B (fun _ => False) C6 ([_, _, _, _] ++ rparts L rig0 []))
    have hlen := (keepTs_len (BareT 6) []).2
    have hbl := BareT_len 6
    have hmem : ∀ s ∈ BareT 6, s ∈ keepTs [] (BareT 6) := fun s h => (keepTs_mem _ _ _).2 (.inr h)
    generalize keepTs [] (BareT 6) = T0 at hs hlen hmem
    refine LoopP.ruleG (α := Nat × RV × AVal × List (List UInt8)) (fun y => [.int .i64 (y.1 : Int)]) (fun y C => (y.1 ≤ 63 ∧ Calm y.2.1 y.1 ∧ y.2.1.fault = 0 ∧ y.2.2.2.length ≤ 9 + 9 * y.1 ∧ (∀ s ∈ BareT 6, s ∈ y.2.2.2) ∧ (∀ j : Nat, j < y.1 → nowAt y.2.1 d (161 + j) = ndB (digs []) j) ∧ ∀ l : Nat, l < 64 → nowAt y.2.1 d (224 + l) = zs 64) ∧
        Sep B (fun _ => False) C (rparts L y.2.1 ([Part.orc i m y.2.2.1 y.2.2.2, .obj t (.cells 0 .exact (tcells (.ptr ⟨L.p, 0, 0⟩) (.ptr ⟨i, 0, 0⟩) d (bd 6).1 (.ptr ⟨sp, 0, 0⟩) (.map km))), kmP km [], sheetP sp sm []] ++ [])))
      (fun y => 63 - y.1) (0, rig0, lv, T0) (by simp) ⟨⟨Nat.zero_le _, calm_rig0, rfl, by simp at hlen ⊢; omega, hmem, fun j h => absurd h (Nat.not_lt_zero j), fun l _ => now_rig0 _ _⟩, hs⟩ ?_
    rintro ⟨j, v, lv, T⟩ C Kn ⟨⟨hj, c, hf, hT, hm, hn1, hn2⟩, hs⟩ hk
    dsimp only at hj c hf hT hm hn1 hn2 hs
    unfold cellaretlaw18_Made.L5 cellaretlaw18_Made.L5.b
    try simp only [evB]
    refine vb_i (lss64 _ _ _) ?_
    refine isB_c (fun h1 => ?_) (fun h1 => ?_)
    · have hj' : j < 63 := by omega
      have hh := (node_facts j hj').1
      have hH : S_node_High [.int .i64 (j : Int)] C (.tup [.int .i64 ((6 - hops j : Nat) : Int), .int .i64 0]) C := ⟨(j : Int), rfl, by unfold highR; rw [if_neg (by omega), Int.toNat_natCast, show (6 : Int) - hops j = ((6 - hops j : Nat) : Int) by omega], rfl⟩
      refine cb_i _ _ hH ?_
      refine vb_i e_ext0 ?_
      refine vb_i e_ext1 ?_
      obtain ⟨C7, lv', hc, hs⟩ := bare_spec18 (rp_out (X := [_]) hs) (by omega) (k := 6 - hops j) (by omega)
      refine cb_i _ _ hc ?_
      refine vb_i e_ext0 ?_
      refine vb_i e_ext1 ?_
      refine vb_i e_ext2 ?_
      have h32 := (bd (6 - hops j)).2
      refine s_alloc hs fun a C8 _ hs => ?_
      refine s_storeA hs rfl (by simp [h32]) rfl (cells_byte _) fun C9 hs => ?_
      refine vb_i (add64 (by omega) (by omega)) ?_
      have hs := rp_in (X := [_]) hs.tail
      have hmay : mayG d (161 + (j : Int)) = 0 := by
        unfold mayG
        rw [if_neg (by omega), if_neg (by omega)]
      obtain ⟨C10, hc, hs⟩ := rig_Write_spec hs c.wr (by have := c.calls; omega) d (161 + (j : Int)) (bw (6 - hops j))
      obtain ⟨c3, f3, e3, w3⟩ := write_calm c hmay (bw_len (6 - hops j))
      rw [hf, if_neg (by decide)] at e3
      rw [e3] at hc
      rw [hf] at f3
      refine cb_i _ _ hc ?_
      refine vb_i (neq64 _ _ _) ?_
      refine isB_cf (by decide) ?_
      refine vb_i (add64 (by omega) (by omega)) ?_
      have hkl := (keepTs_len (BareT (6 - hops j)) T).2
      have hbl := BareT_len (6 - hops j)
      refine hk (j + 1, v.write d (161 + (j : Int)) (bw (6 - hops j)), lv', keepTs T (BareT (6 - hops j))) _ ⟨⟨hj', ?_, f3, by dsimp only; omega, fun s h => (keepTs_mem _ _ _).2 (.inl (hm s h)), fun l hl => ?_, fun l hl => ?_⟩, hs⟩ (by dsimp only; omega)
      · dsimp only; rw [Int.natCast_add]; exact c3
      · dsimp only at hl ⊢
        rw [w3 (by omega) d _ hd (by omega)]
        by_cases e : l = j
        · rw [if_pos ⟨rfl, by omega⟩, e, ndB_bare hj']
        · rw [if_neg (fun h => e (by omega))]
          exact hn1 l (by omega)
      · dsimp only
        rw [w3 (by omega) d _ hd (by omega), if_neg (fun h => by omega)]
        exact hn2 l hl
    · obtain rfl : j = 63 := by omega
      refine onE_i ?_
      refine vb_i (neq64 _ _ _) ?_
      refine isB_cf (by decide) ?_
      obtain ⟨ht1, ht2⟩ := bareT_mem hm
      refine fin_ret (rvs_v (rvs_v (rvs_v (rvs_nil _)))) ⟨hs.pre fun _ x => x, ⟨L, i, m, t, sp, d⟩, ⟨v, lv, T, km, sm, (bd 6).1, [], []⟩, rfl, hs.pre fun _ x => x, rfl, ⟨c, hf, by dsimp only; omega, ?_⟩, hs⟩
      exact ⟨MOk.nil, root_bare, fun p h => (by cases h), fun p h => (by cases h), ht1, ht2, fun j _ s e => (by rw [getL_nil] at e; cases e), fun j hj _ => hn1 j hj, fun l hl => by rw [getL_nil, Option.getD_none, leafB_nil]; exact hn2 l hl, fun p h => (by cases h), List.Pairwise.nil, List.Pairwise.nil⟩)
  exact ⟨C, W, z, h, h1, h2⟩
theorem awake18 : ∃ C, S_cellaretlaw18_awake [] B (.bool true) C ∧ B <+: C := by
  obtain ⟨r, C, h, rfl, k⟩ := cellaretlaw18_awake.out (H := B) (Q := fun r C => r = .bool true ∧ B <+: C) (by
    unfold cellaretlaw18_awake.w
    obtain ⟨C1, W, z, hc, _, hd, g, hs⟩ := made_spec (B := B) (d := 1) (.inr rfl)
    refine cb_i _ _ hc ?_
    refine vb_i e_ext0 ?_
    refine vb_i e_ext1 ?_
    refine vb_i e_ext2 ?_
    refine vb_i (e_ptrNil _ _) ?_
    refine isB_F ?_
    have hz : S_cellaretref01_Full [.str [97], .int .i64 64] C1 (.str (full [97] 64)) C1 := ⟨[97], 64, rfl, by omega, rfl, rfl⟩
    refine cb_i _ _ hz ?_
    have hl : (full [97] 64).length = 64 := by decide
    have hne : full [97] 64 ≠ zs 64 := by decide
    generalize full [97] 64 = a at hl hne ⊢
    rw [← hd] at g
    obtain ⟨C2, z2, hc, g2, _, hs⟩ := th_put hs g (by omega) (by omega) (by rw [hd]; exact .inr rfl) 5 a
    rw [if_pos (by decide), if_pos hl] at hc
    rw [if_pos ⟨by decide, hl⟩] at g2
    refine cb_i _ _ hc ?_
    obtain ⟨C3, z3, hc, g3, ⟨_, hS, _⟩, hs⟩ := th_write hs g2 (by omega) (by rw [hd]; exact .inr rfl)
    rw [hd] at hc
    refine cb_i _ _ hc ?_
    obtain ⟨C4, z4, hc, g4, ⟨_, _, _⟩, _, hs⟩ := th_forget hs g3 hS
    refine cb_i _ _ hc ?_
    obtain ⟨C5, z5, hc, g5, _, _, hs⟩ := th_get hs g4 (by omega) (by omega) (by rw [hd]; exact .inr rfl) (k := 5) (by omega)
    have e5 : leafR (leafB (putM [] ((5 : Int).toNat) a) 5) = .tup [.str a, .bool true, .int .i64 0] := by
      rw [leafB_put MOk.nil, if_pos (by decide)]
      unfold leafR
      rw [if_neg hne]
    rw [e5] at hc
    refine cb_i _ _ hc ?_
    refine vb_i e_ext0 ?_
    refine vb_i e_ext1 ?_
    refine vb_i e_ext2 ?_
    obtain ⟨C6, z6, hc, g6, _, _, hs⟩ := th_get hs g5 (by omega) (by omega) (by rw [hd]; exact .inr rfl) (k := 6) (by omega)
    have e6 : leafR (leafB (putM [] ((5 : Int).toNat) a) 6) = .tup [.str [], .bool false, .int .i64 0] := by
      rw [leafB_put MOk.nil, if_neg (by decide), leafB_nil]
      unfold leafR
      rw [if_pos rfl]
    rw [e6] at hc
    refine cb_i _ _ hc ?_
    refine vb_i e_ext0 ?_
    refine vb_i e_ext1 ?_
    refine vb_i e_ext2 ?_
    refine vb_i (eql64 _ _ _) ?_
    refine isB_ct rfl ?_
    refine isB_T ?_
    refine vb_i (eql64 _ _ _) ?_
    refine isB_ct rfl ?_
    refine vb_i (eql64 _ _ _) ?_
    refine isB_ct rfl ?_
    refine vb_i (eqls _ _) ?_
    refine isB_ct rfl ?_
    refine isB_T ?_
    refine vb_i (v := .bool true) rfl ?_
    exact fin_ret (rvs_v (rvs_nil _)) ⟨hs.pre fun _ x => x, rfl, hs.pre fun _ x => x⟩)
  exact ⟨C, h, k⟩
end
end Go.Sh

/- What is told of a tree is what was put last. -/
namespace Go.Sh
open Go Go.Abs

theorem int_of_u8 {n : Nat} (h : n < 256) : aInt2 .i64 (.int .u8 n) = some (.int .i64 n) := by
  have : IntKind.wrap .i64 (n : Int) = n := wrap64 (by omega) (by omega)
  show some (AVal.int .i64 (IntKind.wrap .i64 (n : Int))) = _
  rw [this]
theorem rem_u8 {d : Int} {k : Nat} (h0 : 0 ≤ d) (hk : 0 < k) : aBin .rem (.int .u8 d) (.int .u8 k) = some (.int .u8 ((d.toNat % k : Nat) : Int)) := by
  obtain ⟨n, rfl⟩ : ∃ n : Nat, d = n := ⟨d.toNat, by omega⟩
  show (if (k : Int) = 0 then none else some (AVal.int .u8 ((n : Int).tmod k))) = _
  rw [if_neg (by omega), Int.toNat_natCast, Int.tmod_eq_emod_of_nonneg (by omega)]
  rfl
section
variable {B : AHeap}
theorem start18 {C : AHeap} {W : TL} {z : TV} {R : List Part} (hs : Sep B (fun _ => False) C (tparts W z R)) {K : AExit → List AVal → AHeap → Prop} (k : ∀ D, Sep B (fun _ => False) D (tparts W z R) → K .normal [.bool false] D) :
    JoinP (fun Kj8 => vb (aEql false .ptr C (.ptr ⟨W.t, 0, 0⟩) .nilp) fun v9 =>
      isB v9 fun b10 => cond b10
        (Kj8 .ret [.bool false] C)
        (cb (S_cellaretlaw18_awake [] C) fun v11 H12 =>
        vb (aUn .not v11) fun v13 =>
          isB v13 fun b14 => cond b14
            (Kj8 .ret [.bool false] H12)
            (Kj8 .normal [.bool false] H12))) K := by
  refine JoinP.mk (fun e vs D => e = .normal ∧ vs = [.bool false] ∧ C <+: D) ?_ ?_
  · refine vb_i (e_ptrNil _ _) ?_
    refine isB_F ?_
    obtain ⟨D, hc, e⟩ := awake18 (B := C)
    refine cb_i _ _ hc ?_
    refine vb_i (v := .bool false) rfl ?_
    refine isB_F ?_
    exact ⟨rfl, rfl, e⟩
  · rintro e vs D ⟨rfl, rfl, h⟩
    exact k D (hs.quiet h)
end
end Go.Sh

/- A tree of the same root tells the same. -/
namespace Go.Sh
open Go Go.Abs

section
variable {H0 B : AHeap} {own : Nat → Prop} {R X : List Part} {W : TL} {z : TV} {M : List PutV} {n : Int} {q : Nat} {x : AVal}
/-- The loop that acts on a tree (Told, Tampers). -/
theorem acts18 {l : List ActV} {top : Int} {N : Nat} (ht : top = N) (hN : N ≤ 30) (hv : View H0 x 3 l.length (flat actC l)) (hs : Sep H0 (fun _ => False) B (tparts W z [])) (g : TH z [] 0 63 1000) (hd : W.d = 0) {Bd : Body}
    (hB : ∀ sv j H Kn Ke, (JoinP (fun Kj19 => vb (lenSl x) fun v20 =>
        vb (aBin .lss j v20) fun v21 =>
        isB v21 fun b22 => cond b22
          (vb (aBin .lss j (.int .i64 top)) fun v23 =>
            isB v23 fun b24 => cond b24
              (Kj19 .normal [] H)
              (Kj19 (.exit 0) [] H))
          (Kj19 (.exit 0) [] H))
      (fun e25 _vs26 H27 =>
        onE e25 (.exit 0)
          (Ke (.exit 0) [sv] H27)
        (onE e25 .normal
          (vb (aIndexAddr 3 x j) fun v28 =>
          vb (aLoad H27 true 3 v28) fun v29 =>
          cb (S_cellaretlaw18_short [v29] H27) fun v30 H31 =>
          isB v30 fun b32 => cond b32
            (vb (aIndexAddr 3 x j) fun v33 =>
            vb (aLoad H31 true 3 v33) fun v34 =>
            cb (S_cellaretlaw18_do [.ptr ⟨W.t, 0, 0⟩, .ptr ⟨W.L.p, 0, 0⟩, .int .i64 0, sv, v34] H31) fun v35 H36 =>
            vb (aExtract v35 0) fun v37 =>
            vb (aExtract v35 1) fun _v38 =>
            vb (aBin .add j (.int .i64 1)) fun v39 =>
            Kn [v37, v39] H36)
            (vb (aBin .add j (.int .i64 1)) fun v40 =>
            Kn [sv, v40] H31))
        (False)))) → Bd [sv, j] H Kn Ke) {K : AExit → List AVal → AHeap → Prop}
    (k : ∀ C sv z' M, TH z' M 0 4000 1500 → Sep H0 (fun _ => False) C (tparts W z' [.sl sv 2 M.length (flat putC M)]) → K (.exit 0) [sv] C) : LoopP Bd [.nils, .int .i64 0] B K := by
  subst ht
  have hs : Sep H0 (fun _ => False) B (tparts W z ([.sl .nils 2 ([] : List PutV).length (flat putC [])] ++ [])) := tp_in (X := [_]) (s_nils hs 2)
  refine LoopP.ruleG (α := AVal × Nat × TV × List PutV) (fun y => [y.1, .int .i64 (y.2.1 : Int)]) (fun y C => (y.2.1 ≤ N ∧ TH y.2.2.1 y.2.2.2 0 (63 + 127 * (y.2.1 : Int)) (1000 + 13 * y.2.1)) ∧
      Sep H0 (fun _ => False) C (tparts W y.2.2.1 ([.sl y.1 2 y.2.2.2.length (flat putC y.2.2.2)] ++ []))) (fun y => N - y.2.1) (.nils, 0, z, []) (by simp) ⟨⟨Nat.zero_le _, g⟩, hs⟩ ?_
  rintro ⟨sv, j, z, M⟩ C Kn ⟨⟨h1, g⟩, hs⟩ hk
  dsimp only at h1 g hs
  refine hB _ _ _ _ _ ?_
  dsimp only
  have hv' := hv.pre (hs.pre fun _ x => x)
  refine JoinP.mk (fun e vs E => C = E ∧ ((e = .normal ∧ j < l.length ∧ j < N) ∨ (e = .exit 0))) ?_ ?_
  · refine vb_len hv' ?_
    refine vb_i (lss64 _ _ _) ?_
    refine isB_c (fun h4 => ?_) (fun h4 => ?_)
    · refine vb_i (lss64 _ _ _) ?_
      refine isB_c (fun h5 => ?_) (fun h5 => ?_)
      · exact ⟨rfl, .inl ⟨rfl, by omega, by omega⟩⟩
      · exact ⟨rfl, .inr rfl⟩
    · exact ⟨rfl, .inr rfl⟩
  rintro _ _ _ ⟨rfl, ⟨rfl, h4, h5⟩ | rfl⟩
  · have hb := List.getElem?_eq_getElem h4
    generalize l[j] = a at hb
    obtain ⟨k, n, s⟩ := a
    refine onE_s (by decide) ?_
    refine onE_i ?_
    refine vb_addrN hv' h4 ?_
    refine vb_elN hv' actC_len hb ?_
    obtain ⟨D2, hc, e⟩ := short18_spec (B := C) (a := k) (b := n) (s := s)
    have hs := hs.quiet e
    have hv' := hv.pre (hs.pre fun _ x => x)
    refine cb_i _ _ hc ?_
    by_cases hlen : s.length < 300
    · rw [decide_eq_true hlen]
      refine isB_T ?_
      refine vb_addrN hv' h4 ?_
      refine vb_elN hv' actC_len hb ?_
      rw [← hd] at g
      obtain ⟨D3, z', M', sv', hc, g', _, _, hs⟩ := do18_spec (k := k) (l := n) (s := s) hs g (by omega) (by omega) (.inl hd)
      rw [hd] at g' hc
      refine cb_i _ _ hc ?_
      refine vb_i e_ext0 ?_
      refine vb_i e_ext1 ?_
      refine vb_i (add64 (by omega) (by omega)) ?_
      refine hk (sv', j + 1, z', M') _ ⟨⟨h5, g'.le (by dsimp only; omega) (by dsimp only; omega)⟩, hs⟩ (by dsimp only; omega)
    · rw [decide_eq_false hlen]
      refine isB_F ?_
      refine vb_i (add64 (by omega) (by omega)) ?_
      refine hk (sv, j + 1, z, M) _ ⟨⟨h5, g.le (by dsimp only; omega) (by dsimp only; omega)⟩, hs⟩ (by dsimp only; omega)
  · refine onE_i ?_
    exact k _ _ _ _ (g.le (by omega) (by omega)) hs
/-- A second tree. -/
theorem second18 {p : AVal} (hs : Sep H0 (fun _ => False) B (tparts W z [.sl x 2 M.length (flat putC M)])) (g : TH z M 0 n q) (hS : z.S = []) (hd : W.d = 0) (hp : p = .agg (((val (digs M) 6 0).1).map ofByte)) :
    ∃ C W' z' R', S_tree_New [.ptr ⟨W.L.p, 0, 0⟩, .ptr ⟨W.i, 0, 0⟩, .int .i64 0, p] B (.tup [.ptr ⟨W'.t, 0, 0⟩, .int .i64 0]) C ∧ W'.L = W.L ∧ W'.i = W.i ∧ W'.d = 0 ∧ TH z' M 0 n q ∧ z'.S = [] ∧ z'.T = z.T ∧
      Sep H0 (fun _ => False) C (tparts W' z' (.sl x 2 M.length (flat putC M) :: R')) := by
  subst hp
  have hr := (val (digs M) 6 0).2
  obtain ⟨t, sp, sm, km, C, hc, _, h6⟩ := tnew_spec (B := B) (p := W.L.p) (o := W.i) (d := 0) hr (.inl rfl)
  have hs := hs.call0 (h6.own_of fun _ x => x.elim)
  have hs := rp_in (X := [_, _, _]) hs
  have hs := (rp_out (X := [_, _, _, _, _, _, _, _]) hs).f3.f7.b4
  have hht := g.ht
  rw [hS] at hht
  have hht := hht.forget
  rw [hht.root] at hht
  exact ⟨C, ⟨W.L, W.i, W.m, t, sp, 0⟩, ⟨z.v, z.lv, z.T, km, sm, (val (digs M) 6 0).1, [], []⟩, _, hc, rfl, rfl, rfl, ⟨g.c, g.f, g.q, hht⟩, rfl, rfl, rp_in (X := [_, _, _, _, _, _, _, _]) hs⟩
end
end Go.Sh

/- Whatever else was written, a tree tells what was put, or that somebody did, or two texts have one sum. -/
namespace Go.Sh
open Go Go.Abs

theorem tamper_any {v : RV} {n d i : Int} {s : List UInt8} (c : Calm v n) : Calm (v.tamper d i s) n ∧ (v.tamper d i s).fault = v.fault := by
  by_cases h : tamperE d i s = 0
  · obtain ⟨h1, h2⟩ := tamper_ok h
    exact tamper_calm c h1 h2
  · unfold RV.tamper
    rw [if_neg h]
    exact ⟨c, rfl⟩
theorem collide18 {T : List (List UInt8)} (h : ¬ NoClash T) : ∃ s t, collideR T = [.str s, .str t, .bool true] := by
  unfold collideR
  rw [sums_len, Nat.min_self]
  cases hp : pairs T (sums T) T.length with
  | none => exact absurd (no_clash_of hp) h
  | some p => exact ⟨_, _, rfl⟩
/-- A tree to whose device somebody writes. -/
structure TX (z : TV) (M : List PutV) (n : Int) (q : Nat) : Prop where
  c : Calm z.v n
  f : z.v.fault = 0
  q : z.T.length ≤ q
  ti : TI (digs M) z.K z.T
  root : z.root = (val (digs M) 6 0).1
  S : z.S = []
  leafT : ∀ l, l < 64 → (0 :: leafB M l) ∈ z.T
  mok : MOk M
theorem TX.le {z : TV} {M : List PutV} {n n' : Int} {q q' : Nat} (g : TX z M n q) (h1 : n ≤ n') (h2 : q ≤ q') : TX z M n' q' := ⟨calm_le g.c h1, g.f, Nat.le_trans g.q h2, g.ti, g.root, g.S, g.leafT, g.mok⟩
section
variable {H0 B : AHeap} {own : Nat → Prop} {R : List Part} {W : TL} {z : TV} {M : List PutV} {n : Int} {q : Nat}
theorem th_getx (h : Sep H0 own B (tparts W z R)) (g : TX z M n q) (hn : n ≤ 900000) (hq : q ≤ 800000) (hd : W.d = 0) {k : Nat} (hk : k < 64) :
    ∃ C z' y is f, S_tree_Tree_Get [.ptr ⟨W.t, 0, 0⟩, .int .i64 k] B (.tup [.str y, .bool is, .int .i64 f]) C ∧ TX z' M (n + 7) (q + 7) ∧
      ((f = 12 ∧ y = [] ∧ is = false) ∨ (f = 0 ∧ (NoClash z'.T → (getL M k = none → is = false ∧ y = []) ∧ ∀ y0, getL M k = some y0 → is = true ∧ y = y0))) ∧ Sep H0 own C (tparts W z' R) := by
  have hr : z.root.length = 32 := by rw [g.root]; exact (val (digs M) 6 0).2
  obtain ⟨r, C, v', lv', T', K', hc, c', f', hdev, hT, hTl, ti, _, hcase, hs⟩ := tget_spec h g.c g.f hn (Nat.le_trans g.q (by omega)) hk (.inl hd) hr g.ti g.root
  have gz : TX ⟨v', lv', T', z.km, z.sm, z.root, K', z.S⟩ M (n + 7) (q + 7) := ⟨c', f', by have := g.q; dsimp only; omega, ti, g.root, g.S, fun l hl => hT _ (g.leafT l hl), g.mok⟩
  rcases hcase with ⟨rfl, _⟩ | ⟨y, rfl, h2⟩
  · exact ⟨C, _, [], false, 12, hc, gz, .inl ⟨rfl, rfl, rfl⟩, hs⟩
  · have hy : NoClash T' → y = leafB M k := fun hN => by
      rcases h2 with h2 | ⟨_, _, h4, h5⟩
      · rw [g.S, getL_nil] at h2; cases h2
      · have h6 := h5 (.inl hN)
        rw [digs_val M hk] at h6
        exact (List.cons.inj (hN _ _ h4 (hT _ (g.leafT k hk)) h6)).2
    by_cases hz : y = zs 64
    · have e : leafR y = .tup [.str [], .bool false, .int .i64 0] := by unfold leafR; rw [if_pos hz]
      rw [e] at hc
      refine ⟨C, _, [], false, 0, hc, gz, .inr ⟨rfl, fun hN => ⟨fun _ => ⟨rfl, rfl⟩, fun y0 h0 => ?_⟩⟩, hs⟩
      have h7 := hy hN
      unfold leafB at h7
      rw [h0, Option.getD_some, hz] at h7
      exact absurd h7.symm (g.mok.each _ (getL_mem h0)).2.2
    · have e : leafR y = .tup [.str y, .bool true, .int .i64 0] := by unfold leafR; rw [if_neg hz]
      rw [e] at hc
      refine ⟨C, _, y, true, 0, hc, gz, .inr ⟨rfl, fun hN => ⟨fun h0 => ?_, fun y0 h0 => ⟨rfl, ?_⟩⟩⟩, hs⟩
      · have h7 := hy hN
        unfold leafB at h7
        rw [h0, Option.getD_none] at h7
        exact absurd h7 hz
      · have h7 := hy hN
        unfold leafB at h7
        rw [h0, Option.getD_some] at h7
        exact h7
end
def S_cellaretlaw18_TreeTampers : Abs.Spec := fun args H r H' => ∃ (x x1 x2 : AVal) (l : List ActV) (l1 : List PutV) (bs : List UInt8), args = [x, x1, x2] ∧ (View H x 3 l.length (flat actC l) ∧ l.length ≤ 9223372036854775807) ∧
  (View H x1 2 l1.length (flat putC l1) ∧ l1.length ≤ 9223372036854775807) ∧ (View H x2 1 bs.length (bs.map ofByte) ∧ bs.length ≤ 9223372036854775807) ∧ r = .bool true ∧ H' = H
set_option maxRecDepth 20000 in
theorem cellaretlaw18_TreeTampers.ok (args : List AVal) (H : AHeap) (r : AVal) (H' : AHeap) (h : S_cellaretlaw18_TreeTampers args H r H') : ∃ x0 x1 x2, args = [x0, x1, x2] ∧ cellaretlaw18_TreeTampers.w x0 x1 x2 H fun r1 H1 => Weak H r1 H1 r H' := by
  obtain ⟨x, x1, x2, l, l1, bs, rfl, ⟨hv, hl⟩, ⟨hv1, hl1⟩, ⟨hv2, hl2⟩, rfl, rfl⟩ := h
  refine ⟨_, _, _, rfl, ?_⟩
  unfold cellaretlaw18_TreeTampers.w
  obtain ⟨C, W, z, hc, _, hd, g, hs⟩ := made_spec (B := H') (d := 0) (.inl rfl)
  refine cb_i _ _ hc ?_
  refine vb_i e_ext0 ?_
  refine vb_i e_ext1 ?_
  refine vb_i e_ext2 ?_
  refine start18 hs fun D hs => ?_
  refine onE_i ?_
  refine acts18 (top := 20) (N := 20) rfl (by decide) hv hs g hd (fun sv j H Kn Ke h => h) fun C sv z M g hs => ?_
  refine onE_i ?_
  rw [← hd] at g
  obtain ⟨C2, z, hc, g, ⟨_, hS, _⟩, hs⟩ := th_write hs g (by omega) (.inl hd)
  rw [hd] at hc
  refine cb_i _ _ hc ?_
  obtain ⟨C3, hc, e⟩ := th_root hs g
  have hs := hs.quiet e
  refine cb_i _ _ hc ?_
  rw [hd] at g
  obtain ⟨C4, W', z', R', hc, hL, hi, hd', g, hS, _, hs⟩ := second18 hs g hS hd rfl
  refine cb_i _ _ hc ?_
  refine vb_i e_ext0 ?_
  refine vb_i e_ext1 ?_
  refine JoinP.mk (fun e vs D => e = .normal ∧ C4 = D) ?_ ?_
  · refine vb_i (neq64 _ _ _) ?_
    refine isB_cf (by decide) ?_
    refine vb_i (e_ptrNil _ _) ?_
    refine isB_F ?_
    exact ⟨rfl, rfl⟩
  rintro e vs D ⟨rfl, rfl⟩
  refine onE_i ?_
  have gx : TX z' M 4200 1500 := ⟨calm_le g.c (by omega), g.f, g.q, g.ht.ti, g.ht.root, hS, g.ht.leafT, g.ht.mok⟩
  refine LoopP.ruleG (α := Nat × TV) (fun y => [.int .i64 (y.1 : Int)]) (fun y C => (y.1 ≤ 30 ∧ TX y.2 M (4200 + 7 * (y.1 : Int)) (1500 + 7 * y.1)) ∧
      Sep H' (fun _ => False) C (tparts W' y.2 (.sl sv 2 M.length (flat putC M) :: R'))) (fun y => 30 - y.1) (0, z') (by simp) ⟨⟨Nat.zero_le _, gx⟩, hs⟩ ?_
  rintro ⟨j, z⟩ C Kn ⟨⟨h1, g⟩, hs⟩ hk
  dsimp only at h1 g hs
  have hM := g.mok
  have h64 := hM.len
  unfold cellaretlaw18_TreeTampers.L15 cellaretlaw18_TreeTampers.L15.b
  try simp only [evB]
  refine JoinP.mk (fun e vs E => C = E ∧ ((e = .normal ∧ j < bs.length ∧ j < 30) ∨ (e = .exit 2))) ?_ ?_
  · refine vb_len (hv2.pre (hs.pre fun _ x => x)) ?_
    refine vb_i (lss64 _ _ _) ?_
    refine isB_c (fun h4 => ?_) (fun h4 => ?_)
    · refine vb_i (lss64 _ _ _) ?_
      refine isB_c (fun h5 => ?_) (fun h5 => ?_)
      · exact ⟨rfl, .inl ⟨rfl, by omega, by omega⟩⟩
      · exact ⟨rfl, .inr rfl⟩
    · exact ⟨rfl, .inr rfl⟩
  rintro _ _ _ ⟨rfl, ⟨rfl, h4, h5⟩ | rfl⟩
  · have hb := List.getElem?_eq_getElem h4
    generalize bs[j] = bt at hb
    refine onE_s (by decide) ?_
    refine onE_i ?_
    refine JoinP.mk (fun e vs E => e = .normal ∧ ∃ z', TX z' M (4200 + 7 * (j : Int)) (1500 + 7 * j) ∧ Sep H' (fun _ => False) E (tparts W' z' (.sl sv 2 M.length (flat putC M) :: R'))) ?_ ?_
    · have hv1' := hv1.pre (hs.pre fun _ x => x)
      refine vb_len hv1' ?_
      refine vb_i (lss64 _ _ _) ?_
      refine isB_c (fun h6 => ?_) (fun h6 => ?_)
      · have h6' : j < l1.length := by omega
        have hb1 := List.getElem?_eq_getElem h6'
        generalize l1[j] = p at hb1
        refine vb_addrN hv1' h6' ?_
        refine vb_i (e_fieldAddr _ _) ?_
        refine vb_el1 hv1' putC_len hb1 rfl ?_
        refine vb_i (e_lenSt _) ?_
        refine vb_i (leq64 _ _ _) ?_
        refine isB_c (fun h7 => ?_) (fun h7 => ?_)
        · refine vb_addrN hv1' h6' ?_
          refine vb_i (e_fieldAddr _ _) ?_
          refine vb_el1 hv1' putC_len hb1 rfl ?_
          refine vb_addrN hv1' h6' ?_
          refine vb_i (e_fieldAddr _ _) ?_
          refine vb_el1 hv1' putC_len hb1 rfl ?_
          have hz : S_cellaretref01_Full [.str p.2, .int .i64 64] C (.str (full p.2 64)) C := ⟨p.2, 64, rfl, by omega, rfl, rfl⟩
          refine cb_i _ _ hz ?_
          obtain ⟨C5, hc, hs⟩ := rig_Tamper_spec hs g.c.wr 0 p.1 (full p.2 64)
          rw [hL] at hc
          refine cb_i _ _ hc ?_
          obtain ⟨t1, t2⟩ := tamper_any (d := 0) (i := p.1) (s := full p.2 64) g.c
          exact ⟨rfl, ⟨z.v.tamper 0 p.1 (full p.2 64), z.lv, z.T, z.km, z.sm, z.root, z.K, z.S⟩, ⟨t1, t2.trans g.f, g.q, g.ti, g.root, g.S, g.leafT, g.mok⟩, hs⟩
        · exact ⟨rfl, z, g, hs⟩
      · exact ⟨rfl, z, g, hs⟩
    rintro e vs E ⟨rfl, z', g, hs⟩
    refine onE_i ?_
    try simp only [evB]
    have hv2' := hv2.pre (hs.pre fun _ x => x)
    refine vb_addrN hv2' h4 ?_
    refine vb_el0 hv2' (x := ofByte bt) (by rw [List.getElem?_map, hb]; rfl) ?_
    refine vb_i (rem_u8 (d := (bt.toNat : Int)) (k := 64) (by omega) (by decide)) ?_
    rw [Int.toNat_natCast]
    have hk64 : bt.toNat % 64 < 64 := by omega
    generalize bt.toNat % 64 = k at hk64 ⊢
    refine vb_i (int_of_u8 (by omega)) ?_
    obtain ⟨C6, z2, y, is, f, hc, g2, hcase, hs⟩ := th_getx hs g (by omega) (by omega) hd' hk64
    refine cb_i _ _ hc ?_
    refine vb_i e_ext0 ?_
    refine vb_i e_ext1 ?_
    refine vb_i e_ext2 ?_
    have hq := tp_out (X := [_]) hs
    obtain ⟨C7, hc, e7⟩ := at_spec (a := (k : Int)) hq.o0.view (by omega)
    refine cb_i _ _ hc ?_
    clear hq
    have hs := hs.quiet e7
    have hv0 := (tp_out (X := [_]) hs).o0.view
    have hnext : Kn [.int .i64 ((j : Int) + 1)] C7 := hk (j + 1, z2) _ ⟨⟨h5, g2.le (by dsimp only; omega) (by dsimp only; omega)⟩, hs⟩ (by dsimp only; omega)
    refine JoinP.mk (fun e vs E => e = .normal ∧ C7 = E ∧ ∃ b, vs = [.bool b] ∧ (b = true ∨ (f = 12 ∧ y = [] ∧ is = false) ∨ (f = 0 ∧ ¬ NoClash z2.T))) ?_ ?_
    · refine vb_i (eql64 _ _ _) ?_
      rcases hcase with ⟨rfl, rfl, rfl⟩ | ⟨rfl, hB⟩
      · refine isB_cf (by decide) ?_
        exact ⟨rfl, rfl, _, rfl, .inr (.inl ⟨rfl, rfl, rfl⟩)⟩
      refine isB_ct rfl ?_
      refine vb_i (lss64 _ _ _) ?_
      cases hg : getL M (k : Int) with
      | none =>
        have ha := at_no (getL_no hM.rise hg)
        rw [ha]
        refine isB_ct (by decide) ?_
        refine vb_i (e_not _) ?_
        cases is with
        | false =>
          refine isB_T ?_
          refine vb_i (eqls _ _) ?_
          refine isB_c (fun h => ⟨rfl, rfl, _, rfl, .inl rfl⟩) (fun h => ?_)
          refine vb_i (geq64 _ _ _) ?_
          refine isB_cf (by decide) ?_
          exact ⟨rfl, rfl, _, rfl, .inr (.inr ⟨rfl, fun hN => h ((hB hN).1 hg).2⟩)⟩
        | true =>
          refine isB_F ?_
          refine vb_i (geq64 _ _ _) ?_
          refine isB_cf (by decide) ?_
          exact ⟨rfl, rfl, _, rfl, .inr (.inr ⟨rfl, fun hN => absurd ((hB hN).1 hg).1 (by decide)⟩)⟩
      | some y0 =>
        obtain ⟨i, hi⟩ := List.mem_iff_getElem?.1 (getL_mem hg)
        have hlt := (List.getElem?_eq_some_iff.1 hi).1
        have ha := at_yes (take_no hM.rise hi) hi
        dsimp only at ha
        rw [ha]
        refine isB_cf (by omega) ?_
        refine vb_i (geq64 _ _ _) ?_
        refine isB_ct (by omega) ?_
        cases is with
        | false =>
          refine isB_F ?_
          exact ⟨rfl, rfl, _, rfl, .inr (.inr ⟨rfl, fun hN => absurd ((hB hN).2 y0 hg).1 (by decide)⟩)⟩
        | true =>
          refine isB_T ?_
          refine vb_addrN hv0 hlt ?_
          refine vb_i (e_fieldAddr _ _) ?_
          refine vb_el1 hv0 putC_len hi rfl ?_
          refine vb_i (eqls _ _) ?_
          refine ⟨rfl, rfl, _, rfl, ?_⟩
          by_cases hyy : y = y0
          · exact .inl (decide_eq_true hyy)
          · exact .inr (.inr ⟨rfl, fun hN => hyy ((hB hN).2 y0 hg).2⟩)
    rintro e vs E ⟨rfl, rfl, b, rfl, hb⟩
    refine onE_i ?_
    try simp only [evB]
    refine JoinP.mk (fun e vs E => C7 = E ∧ (e = .exit 3 ∨ (e = .normal ∧ ¬ NoClash z2.T))) ?_ ?_
    · cases b with
      | true => exact isB_T ⟨rfl, .inl rfl⟩
      | false =>
        refine isB_F ?_
        refine vb_i (eql64 _ _ _) ?_
        rcases hb with hb | ⟨rfl, rfl, rfl⟩ | ⟨rfl, hN⟩
        · cases hb
        · refine isB_ct rfl ?_
          refine vb_i (v := .bool true) rfl ?_
          refine isB_T ?_
          refine vb_i (eqls _ _) ?_
          refine isB_ct rfl ?_
          exact ⟨rfl, .inl rfl⟩
        · refine isB_cf (by decide) ?_
          exact ⟨rfl, .inr ⟨rfl, hN⟩⟩
    rintro e vs E ⟨rfl, rfl | ⟨rfl, hN⟩⟩
    · refine onE_i ?_
      refine vb_i (add64 (by omega) (by omega)) ?_
      exact hnext
    · refine onE_s (by decide) ?_
      refine onE_i ?_
      have hq := rp_out (X := [_, _, _, _]) hs
      have hC := Collide_spec hq (Nat.le_trans g2.q (by omega))
      obtain ⟨s, t, e⟩ := collide18 hN
      rw [hi, e] at hC
      refine cb_i _ _ hC ?_
      refine vb_i e_ext0 ?_
      refine vb_i e_ext1 ?_
      refine vb_i e_ext2 ?_
      refine onE_s (by decide) ?_
      refine onE_i ?_
      try simp only [evB]
      exact fin_bool rfl (hs.pre fun _ x => x)
  · refine onE_i ?_
    refine onE_i ?_
    exact fin_bool rfl (hs.pre fun _ x => x)
end Go.Sh

/- A nil tree tells nothing. -/
namespace Go.Sh
open Go Go.Abs

section
variable {B : AHeap} {d : Int} {p : Nat}
end
end Go.Sh

/- Arguments of the laws of trees: a row of bytes. -/
namespace Go.Sh
open Go Go.Abs
section
variable {H : Type} {P : Program} {B : AHeap} {top : Bool}
theorem bytes_view18 {t e : TypeId} {a : AVal} {d : DataW H} (ht : P.underlying t = some (.slice e)) (hk : flatK P 9 e = some [.int .u8]) (hc : P.cellsOf e = 1) (h : Arg P B true t [a] d) :
    ∃ l : List UInt8, View B a 1 l.length (l.map ofByte) ∧ l.length ≤ 9223372036854775807 := by
  obtain ⟨l, hv, hl, _⟩ := h.viewR (fun b : UInt8 => [ofByte b]) (fun _ _ => True) (fun _ => by rw [hc]; rfl) ht (fun cs d hd => by
    obtain ⟨_, _, rfl, ⟨n, rfl, h1, h2⟩, rfl⟩ := Arg.fit 9 e _ hk cs d hd
    obtain ⟨b, hb⟩ := byte_of h1 h2
    exact ⟨b, by rw [hb], trivial⟩)
  rw [hc, flatten_one ofByte l] at hv
  exact ⟨l, hv, Nat.le_trans hl (by decide)⟩
end
end Go.Sh
