/- The functions of the package sha: a hasher is given bytes. -/
import Derived.Test.YtgcjchcmnlifmaaShaP6
import Derived.Test.YtgcjchcmnlifmaaAbs26
namespace Go.Sh
open Go Go.Abs

theorem hcells_set9 (all : List UInt8) (rv x : AVal) : (hcells all rv).set 9 x = (eat (all.length / 64) first all).map U ++ [rv, x] := by
  have := eat_len (all.length / 64) first all rfl
  simp only [hcells]
  rw [List.set_append_right _ _ (by simp [this])]
  simp [this]

theorem eight_get8 {l : List W32} (h : l.length = 8) (x y : AVal) : (l.map U ++ [x, y]).getD 8 .undef = x := by
  simp [List.getD, h]
theorem eight_set8 {l : List W32} (h : l.length = 8) (x y z : AVal) : (l.map U ++ [x, y]).set 8 z = l.map U ++ [z, y] := by
  rw [List.set_append_right _ _ (by simp [h])]; simp [h]
theorem eight_take {l : List W32} (h : l.length = 8) (x y : AVal) : ((l.map U ++ [x, y]).drop 0).take 8 = l.map U := by simp [h]
theorem eight_splice {l k : List W32} (h : l.length = 8) (h' : k.length = 8) (x y : AVal) : splice (l.map U ++ [x, y]) 0 (k.map U) = k.map U ++ [x, y] := by simp [splice, h, h']
theorem eight_len {l : List W32} (h : l.length = 8) (x y : AVal) : (l.map U ++ [x, y]).length = 10 := by simp [h]

theorem RenL.append {ρ σ : Nat → Nat} {n : Nat} : ∀ {xs ys xs' ys' : List AVal}, RenL ρ σ n xs ys → RenL ρ σ n xs' ys' → RenL ρ σ n (xs ++ xs') (ys ++ ys')
  | [], _, _, _, h, h' => by simp only [RenL] at h; subst h; exact h'
  | x :: xs, _, _, _, h, h' => by
    simp only [RenL] at h; obtain ⟨y, ys, rfl, h1, h2⟩ := h
    exact renL_cons h1 (RenL.append h2 h')

theorem sha_Hasher_Add.ok (args : List AVal) (H : AHeap) (r : AVal) (H' : AHeap) (h : S_sha_Hasher_Add args H r H') : ∃ x0 x1, args = [x0, x1] ∧ sha_Hasher_Add.w x0 x1 H fun r1 H1 => Weak H r1 H1 r H' := by
  rcases h with ⟨s, rfl, rfl, rfl⟩ | ⟨i, v, s, all, rv, rfl, hr, hT, rfl, rfl⟩
  · refine ⟨_, _, rfl, ?_⟩
    unfold sha_Hasher_Add.w
    simp only [ev]
    exact fin_ret (rvs_v (rvs_nil _)) (Weak.plain rfl (List.prefix_refl _))
  · refine ⟨_, _, rfl, ?_⟩
    unfold sha_Hasher_Add.w
    have hc := hr.cell
    have hi := lt_of_some hc
    have h10 := hcells_len all rv
    have hq8 := eat_len (all.length / 64) first all rfl
    have hTl : (all ++ s).length = all.length + s.length := List.length_append
    rw [hTl] at hT
    have hgi : ∀ o, (H.set i o)[i]? = some o := fun o => List.getElem?_set_self hi
    have ov := hr.own.view
    have hrl : (rest all).length = all.length - 64 * (all.length / 64) := by simp [rest]
    simp (disch := first | omega | (simp only [evS]; done) | (simp only [eight_len hq8] <;> omega) | fail) only [ev, evH, hc, hcells_9, Nat.zero_add, hcells_set9, hgi, eight_get8 hq8, lenSl_view ov]
    have ov2 := ov.set hr.ne (.cells v .exact ((eat (all.length / 64) first all).map U ++ [rv, .int .i64 ((all.length : Int) + s.length)]))
    generalize hH10 : H.set i (.cells v .exact ((eat (all.length / 64) first all).map U ++ [rv, .int .i64 ((all.length : Int) + s.length)])) = H10 at *
    obtain ⟨b0, hb1, hb2, hb3, hb4⟩ := slice_full (h := some (.int .i64 ((rest all).length : Int))) (m := some (.int .i64 ((rest all).length : Int))) (hi := (rest all).length) ov2
      (fun d => by rw [bnd_int (by omega)]; rfl) (fun d => by rw [bnd_int (by omega)]; rfl) rfl (Nat.le_refl _)
      (by
        by_cases e : rest all = []
        · exact .inr (hr.full e)
        · exact .inl (List.length_pos_iff.2 e))
    rw [hb1, vb_some]
    obtain ⟨b1, B1, ha1, ha2, ha3, ha4⟩ := append_full (bytes := 1) (m := s.length) (xs := s.map ofByte) hb2 hb4 (by simp) (by simp only [room]; omega) (by simp only [room]; omega)
    have happ : aAppend H10 1 1 b0 (.str s) = some (b1, B1) := by
      rw [aAppend]
      simp only [srcLen, srcCells, List.take_length]
      exact ha1
    rw [happ, hb_some]
    have hl10 : H10.length = H.length := by rw [← hH10]; simp
    have keep0 : ∀ k, k < H.length → k ≠ i → B1[k]? = H[k]? := fun k hk hne => by
      rw [pre_get ha3 (by omega), ← hH10, List.getElem?_set_ne (Ne.symm hne)]
    have hB1i : B1[i]? = some (.cells v .exact ((eat (all.length / 64) first (all ++ s)).map U ++ [rv, .int .i64 ((all ++ s).length : Int)])) := by
      rw [pre_get ha3 (by omega), ← hH10, hgi, eat_app _ first all s (by omega), hTl, Int.natCast_add]
    have hid1 : slId b1 ≠ some i := by
      rcases ha4 with e | e
      · rw [e, hb3]; exact hr.ne
      · rw [e]; intro e'; cases e'; omega
    have hv1 : View B1 b1 1 ((all ++ s).length - 64 * (all.length / 64)) (((all ++ s).drop (64 * (all.length / 64))).map ofByte) := by
      have e1 : (rest all).length + s.length = (all ++ s).length - 64 * (all.length / 64) := by omega
      have e2 : List.take ((rest all).length * 1) ((rest all).map ofByte) ++ s.map ofByte = ((all ++ s).drop (64 * (all.length / 64))).map ofByte := by
        rw [Nat.mul_one, ← List.map_take, List.take_length, ← List.map_append, List.drop_append_of_le_length (by omega)]; rfl
      rw [← e1, ← e2]; exact ha2
    have hlB : H.length ≤ B1.length := by have := ha3.length_le; omega
    clear ha1 ha2 ha3 ha4 hb1 hb2 hb3 hb4 ov2 happ
    generalize hTT : all ++ s = T at *
    generalize hqq : all.length / 64 = q at *
    refine LoopP.ruleG (α := AVal × Nat) (fun a => [a.1])
      (fun a B => q ≤ a.2 ∧ 64 * a.2 ≤ T.length ∧ H.length ≤ B.length ∧ (∀ k, k < H.length → k ≠ i → B[k]? = H[k]?) ∧ B[i]? = some (.cells v .exact ((eat a.2 first T).map U ++ [rv, .int .i64 T.length])) ∧
        slId a.1 ≠ some i ∧ View B a.1 1 (T.length - 64 * a.2) ((T.drop (64 * a.2)).map ofByte)) (fun a => T.length - 64 * a.2) (b1, q) rfl ⟨Nat.le_refl _, by simp only; omega, hlB, keep0, hB1i, hid1, hv1⟩ ?_
    rintro ⟨b, j⟩ B Kn ⟨hj1, hj2, hlB, keep, hBi, hid, hv⟩ hn
    simp only at hj1 hj2 hBi hid hv
    unfold sha_Hasher_Add.L5 sha_Hasher_Add.L5.b
    have he := eat_len j first T rfl
    simp (disch := first | omega | (simp only [eight_len he] <;> omega) | fail) only [List.getD_cons_zero, ev, evH, x_loadN, x_ldN, hBi, lenSl_view hv, Nat.zero_add, eight_take he]
    refine isB_d (fun h1 => ?_) (fun h1 => ?_)
    · rw [cond_true]
      obtain ⟨c, hc1, hc2, hc3, hc4⟩ := slice_full (h := some (.int .i64 64)) (m := some (.int .i64 64)) (hi := 64) hv (fun d => rfl) (fun d => rfl) rfl (by omega) (.inl (by omega))
      have hbs : aBytes2Str B c = some (.str ((T.drop (64 * j)).take 64)) := bytes_str (by rw [List.map_take]; exact hc2)
      rw [hc1, vb_some, hbs, vb_some]
      refine cb_i _ _ ⟨_, _, rfl, he, by simp; omega, rfl, rfl⟩ ?_
      have hwl := work_len (eat j first T) ((T.drop (64 * j)).take 64)
      simp (disch := first | omega | (simp only [evS]; done) | (simp only [len_map, eight_len he, hwl] <;> omega) | fail) only [ev, evH, x_storeN, x_stN, hBi, eight_splice he hwl]
      have hv2 := hv.set hid (.cells v .exact ((work (eat j first T) ((T.drop (64 * j)).take 64)).map U ++ [rv, .int .i64 T.length]))
      obtain ⟨d, hd1, hd2, hd3⟩ := slice_view (l := some (.int .i64 64)) (h := none) (lo := 64) (hi := T.length - 64 * j) hv2 rfl rfl (by omega) (Nat.le_refl _)
      rw [hd1, vb_some]
      refine hn (d, j + 1) _ ⟨by simp only; omega, by simp only; omega, by simp; omega, fun k hk hne => ?_, ?_, by simp only; rw [hd3]; exact hid, ?_⟩ (by simp only; omega)
      · rw [List.getElem?_set_ne (Ne.symm hne)]; exact keep k hk hne
      · rw [List.getElem?_set_self (lt_of_some hBi), eat_succ]
      · have e1 : T.length - 64 * j - 64 = T.length - 64 * (j + 1) := by omega
        have e2 : List.take ((T.length - 64 * j - 64) * 1) (List.drop (64 * 1) ((T.drop (64 * j)).map ofByte)) = (T.drop (64 * (j + 1))).map ofByte := by
          rw [← List.map_drop, List.drop_drop, ← List.map_take]
          rw [show 64 * j + 64 * 1 = 64 * (j + 1) by omega, List.take_of_length_le (by simp; omega)]
        rw [e2, e1] at hd2
        exact hd2
    · have hj : j = T.length / 64 := by omega
      subst hj
      rw [cond_false]
      have hrest : T.drop (64 * (T.length / 64)) = rest T := rfl
      have hrlen : (rest T).length = T.length - 64 * (T.length / 64) := by simp [rest]
      rw [hrest, ← hrlen] at hv
      have hplain : ∀ x ∈ (eat (T.length / 64) first T).map U ++ [.nils, .int .i64 T.length], x.plain = true := by
        intro x hx
        simp only [List.mem_append] at hx
        rcases hx with hx | hx
        · exact map_plain U_plain _ x hx
        · simp only [List.mem_cons, List.not_mem_nil, or_false] at hx
          rcases hx with rfl | rfl <;> rfl
      unfold addH
      refine append_nils hv (by simp only [room]; omega) (by simp only [room]; omega) (fun h0 => ?_) (fun h0 => ?_)
      · have hz : rest T = [] := List.eq_nil_of_length_eq_zero h0
        rw [if_pos hz]
        simp (disch := first | omega | (simp only [evS]; done) | (simp only [eight_len he] <;> omega) | fail) only [ev, evH, hBi, Nat.zero_add, eight_set8 he]
        refine fin_ret (rvs_v (rvs_nil _)) ?_
        refine Weak.chg hi (List.getElem?_set_self (lt_of_some hBi)) ⟨_, rfl, RenL.plain hplain⟩ (fun k hk hne => by rw [List.getElem?_set_ne (Ne.symm hne)]; exact keep k hk hne) ?_
        simp only [tup1, Ren]; exact ⟨hi, rfl⟩
      · have hz : rest T ≠ [] := List.length_pos_iff.1 h0
        have hrv : addRv H T = .slice ⟨H.length, 0, 0⟩ (rest T).length (.op 1) := if_neg hz
        rw [if_neg hz, hrv]
        have hBi2 : (B ++ [.cells 0 .opn ((rest T).map ofByte)])[i]? = some (.cells v .exact ((eat (T.length / 64) first T).map U ++ [rv, .int .i64 T.length])) := by
          rw [List.getElem?_append_left (lt_of_some hBi)]; exact hBi
        simp (disch := first | omega | (simp only [evS]; done) | (simp only [eight_len he] <;> omega) | fail) only [ev, evH, hBi2, Nat.zero_add, eight_set8 he]
        refine fin_ret (rvs_v (rvs_nil _)) ?_
        refine Weak.chgNew (q := B.length) (w := 0) hi (List.getElem?_set_self (lt_of_some hBi2)) hlB ?_ (map_plain (fun _ => rfl) _) ⟨_, rfl, ?_⟩ (fun k hk hne => ?_) ?_
        · rw [List.getElem?_set_ne (by have := lt_of_some hBi; omega)]; simp
        · refine RenL.append (RenL.plain (map_plain U_plain _)) (renL_cons ?_ (renL_cons (Ren.plain rfl) renL_nil))
          simp [Ren]
        · rw [List.getElem?_set_ne (Ne.symm hne), List.getElem?_append_left (by omega)]; exact keep k hk hne
        · have : i ≠ H.length := by omega
          simp only [tup1, Ren, this, if_false]; exact ⟨by omega, rfl⟩
end Go.Sh
