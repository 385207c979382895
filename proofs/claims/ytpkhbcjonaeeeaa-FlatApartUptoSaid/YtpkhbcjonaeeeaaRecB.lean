/- One text of these: RecP6, RecP7, RecP8, RecP9, RecPa, RecPb, RecW2, RecPc, RecPd, RecPe, RecPf, RecW3, RecPg, RecPh, RecPi. -/
import Derived.Test.YtpkhbcjonaeeeaaRecA

/- A record's blocks. -/
namespace Go.Sh
open Go Go.Abs

theorem join_flat : ∀ (xs : List (List UInt8)), Lib.join xs [] = xs.flatten
  | [] => rfl
  | x :: xs => by rw [Lib.join_cons]; simp [Lib.joinTail]
def rowsN (l : List Nat) : List (List Nat) := (List.range ((l.length + 31) / 32)).map fun k => (l.drop (32 * k)).take 32
def atsN (q : Rcd) : List Nat := q.puts.map fun p => p.pos.toNat
def hdR (q : Rcd) : List UInt8 := [114, 99] ++ beB 4 q.seq.toNat ++ beB 2 q.puts.length ++ q.root
def rowB (c : List Nat) : List UInt8 := full (c.map (beB 2)).flatten 64
def headsR (l : List Nat) : List (List UInt8) := (rowsN l).map rowB
def layR (q : Rcd) : List (List UInt8) := full (hdR q) 64 :: headsR (atsN q) ++ q.puts.map Pt.b
theorem okF_all : ∀ {l : List Pt} {last : Int}, 160 ≤ last → okF last l = true → ∀ p ∈ l, 160 < p.pos ∧ p.pos < 288 ∧ p.b.length = 64
  | p :: l, last, h, hk, x, hx => by
    simp only [okF, Bool.and_eq_true, decide_eq_true_eq] at hk
    unfold okP at hk
    rcases List.mem_cons.1 hx with rfl | hx
    · omega
    · exact okF_all (by omega) hk.2 x hx
theorem good_inv {q : Rcd} (h : goodR q = true) : okSeq q ∧ ∀ p ∈ q.puts, 160 < p.pos ∧ p.pos < 288 ∧ p.b.length = 64 := by
  simp only [goodR, Bool.and_eq_true, decide_eq_true_eq] at h
  exact ⟨h.1, okF_all (Int.le_refl _) h.2⟩
theorem flat_beB (w : Nat) (c : List Nat) : ((c.map (beB w)).flatten).length = c.length * w := by
  rw [List.length_flatten, List.map_map]
  have : (List.length ∘ beB w) = fun _ => w := by funext n; exact beB_len w n
  rw [this, List.map_const', List.sum_replicate_nat]
theorem View.loc {B C : AHeap} {sv : AVal} {es n : Nat} {cs : List AVal} (h : ∀ i ∈ (slId sv).toList, C[i]? = B[i]?) (k : View B sv es n cs) : View C sv es n cs := by
  obtain ⟨h1, h2⟩ := k
  refine ⟨h1, ?_⟩
  rcases h2 with h2 | ⟨i, v, off, c, kd, cs', rfl, h3, h4⟩
  · exact .inl h2
  · exact .inr ⟨i, v, off, c, kd, cs', rfl, by rw [h i (by simp [slId])]; exact h3, h4⟩
theorem View.lt {B : AHeap} {sv : AVal} {es n : Nat} {cs : List AVal} (h : View B sv es n cs) {i : Nat} (hi : slId sv = some i) : i < B.length := by
  obtain ⟨_, ⟨rfl, _⟩ | ⟨j, v, off, c, kd, cs', rfl, h3, _⟩⟩ := h
  · cases hi
  · simp only [slId, Option.some.injEq] at hi; subst hi; exact lt_of_some h3
/-- A slice that nobody changes. -/
def Part.vw (sv : AVal) (es n : Nat) (cs : List AVal) : Part where
  ids := (slId sv).toList
  ok B := View B sv es n cs
  loc _ _ h k := View.loc h k
  live _ h i hi := View.lt h (by simpa using hi)
theorem e_min64 (a b : Int) : aFold aMin2 (.int .i64 a) [.int .i64 b] = some (.int .i64 (if b < a then b else a)) := rfl
section
variable {B : AHeap}
theorem block_spec {x : AVal} {xs : List (List UInt8)} (hv : View B x 1 xs.length (strs xs)) (hn : xs.length ≤ 64) (hl : xs.flatten.length ≤ 64) : ∃ C, S_record_block [x] B (.str (full xs.flatten 64)) C ∧ B <+: C := by
  obtain ⟨r, C, h, rfl, k⟩ := record_block.out (x0 := x) (H := B) (Q := fun r C => r = .str (full xs.flatten 64) ∧ B <+: C) (by
    unfold record_block.w
    refine cb_i _ _ ⟨rfl, x, [], xs, rfl, hv, by omega, by rw [join_flat]; omega, rfl⟩ ?_
    rw [join_flat]
    obtain ⟨C, hc, k⟩ := be_Pad_spec (B := B) (n := 64) (by decide) hl
    refine cb_i _ _ hc ?_
    repeat with_reducible first
    | refine vb_i e_ext0 ?_
    | refine vb_i e_ext1 ?_
    exact fin_ret (rvs_v (rvs_nil _)) ⟨k, rfl, k⟩)
  exact ⟨C, h, k⟩
theorem e_sliceArr32 {i v off : Nat} : aSliceArr 32 1 (.ptr ⟨i, v, off⟩) none none none = some (.slice ⟨i, v, off⟩ 32 (.ex 32)) := by
  simp [aSliceArr, bnd]
theorem rec_root {H : AHeap} {i v : Nat} {kd : Kd} {q : Rcd} {x : AVal} (h : H[i]? = some (.cells v kd (rcells q x))) (hr : q.root.length = 32) : View H (.slice ⟨i, v, 1⟩ 32 (.ex 32)) 1 32 (q.root.map ofByte) :=
  ⟨by simp [hr], .inr ⟨i, v, 1, _, kd, _, rfl, h, fun _ => by rw [rcells_len hr]; omega, by unfold rcells; rw [List.drop_succ_cons, List.drop_zero, List.take_left' (by simp [hr])], Nat.le_refl _⟩⟩
theorem s_own {H0 C : AHeap} {own : Nat → Prop} {R : List Part} {i n es : Nat} {cs : List AVal} (h : Sep H0 own C (.obj i (.cells 0 .exact cs) :: R)) (hl : cs.length = n * es) : Sep H0 own C (.sl (.slice ⟨i, 0, 0⟩ n (.ex n)) es n cs :: R) :=
  h.as rfl fun h => ⟨hl, .inr (.inl ⟨i, 0, rfl, h⟩)⟩
theorem lay_bad {x : AVal} {q : Rcd} (hq : RecAt B q x) (hl : q.puts.length ≤ 9223372036854775807) (he : checkE q ≠ 0) : ∃ C, S_record_Lay [recV q x] B (.tup [.nils, .int .i64 (checkE q)]) C ∧ B <+: C := by
  obtain ⟨r, C, h, rfl, k⟩ := record_Lay.out (x0 := recV q x) (H := B) (Q := fun r C => r = .tup [.nils, .int .i64 (checkE q)] ∧ B <+: C) (by
    unfold record_Lay.w
    have hs : Sep B (fun _ => False) B [] := Sep.start B
    refine s_box hs rfl fun i C1 _ hs => ?_
    simp only [recV, AVal.cells] at hs
    repeat first
    | ((with_reducible apply vb_recA); (· exact hs.g0); (· exact hq.1); (· rfl))
    obtain ⟨C, hc, k⟩ := check_spec (B := C1) ⟨hq.1, hs.rv hq.2⟩ hl
    refine cb_i _ _ hc ?_
    have hs := hs.quiet k
    repeat first
    | ((with_reducible refine isB_ct ?_ ?_); (· omega))
    | with_reducible refine vb_i (neq64 _ _ _) ?_
    exact fin_ret (rvs_v (rvs_v (rvs_nil _))) ⟨hs.pre fun _ x => x, rfl, hs.pre fun _ x => x⟩)
  exact ⟨C, h, k⟩
theorem rowsN_step {l : List Nat} {j : Nat} (h : 32 * j < l.length) : (List.range (j + 1)).map (fun k => (l.drop (32 * k)).take 32) = (List.range j).map (fun k => (l.drop (32 * k)).take 32) ++ [(l.drop (32 * j)).take 32] := by
  rw [List.range_succ, List.map_append]; rfl
theorem lay_good {x : AVal} {q : Rcd} (hq : RecAt B q x) (h64 : q.puts.length ≤ 64) (hg : goodR q = true) :
    ∃ r C, S_record_Lay [recV q x] B (.tup [r, .int .i64 0]) C ∧ Sep B (fun _ => False) C [.sl r 1 (layR q).length (strs (layR q))] := by
  obtain ⟨hr, hv⟩ := hq
  obtain ⟨hsq, hpt⟩ := good_inv hg
  have he : checkE q = 0 := by unfold checkE; rw [if_neg (by omega), if_pos hg]
  obtain ⟨r, C, h, r', rfl, k⟩ := record_Lay.out (x0 := recV q x) (H := B) (Q := fun r C => ∃ r', r = .tup [r', .int .i64 0] ∧ Sep B (fun _ => False) C [.sl r' 1 (layR q).length (strs (layR q))]) (by
    unfold record_Lay.w
    have hs : Sep B (fun _ => False) B [] := Sep.start B
    refine s_box hs rfl fun i C1 _ hs => ?_
    simp only [recV, AVal.cells] at hs
    repeat first
    | ((with_reducible apply vb_recA); (· exact hs.g0); (· exact hr); (· rfl))
    obtain ⟨C, hc, k⟩ := check_spec (B := C1) ⟨hr, hs.rv hv⟩ (by omega)
    refine cb_i _ _ hc ?_
    have hs := hs.quiet k
    rw [he]
    repeat first
    | ((with_reducible apply vb_rec0); (· exact hs.g0))
    | ((with_reducible refine isB_cf ?_ ?_); (· omega))
    | with_reducible refine vb_i (neq64 _ _ _) ?_
    | with_reducible refine vb_i (e_fieldAddr _ _) ?_
    unfold okSeq at hsq
    rw [show q.seq = ((q.seq.toNat : Nat) : Int) by omega]
    obtain ⟨C3, hc, k⟩ := be_Put_spec (B := C) (w := 4) (n := q.seq.toNat) (by decide) (by decide) (by omega)
    refine cb_i _ _ hc ?_
    have hs := hs.quiet k
    repeat first
    | ((with_reducible apply vb_rec33); (· exact hs.g0); (· assumption))
    | with_reducible refine vb_i e_ext0 ?_
    | with_reducible refine vb_i e_ext1 ?_
    | with_reducible refine vb_i (e_fieldAddr _ _) ?_
    | ((with_reducible apply vb_len); (· first | exact hs.o0.view | exact hs.o1.view | exact hs.o2.view | exact hs.o3.view | exact hs.o4.view | exact hs.o5.view | exact hs.o6.view | exact hs.rv hv | exact hs.rv hv2 | exact hs.rv hv3 | exact hs.rv hv4 | exact hs.view hkv hko | assumption))
    obtain ⟨C4, hc, k⟩ := be_Put_spec (B := C3) (w := 2) (n := q.puts.length) (by decide) (by decide) (by omega)
    refine cb_i _ _ hc ?_
    have hs := hs.quiet k
    repeat first
    | with_reducible refine vb_i e_ext0 ?_
    | with_reducible refine vb_i e_ext1 ?_
    | with_reducible refine vb_i (e_fieldAddr _ _) ?_
    refine vb_i e_sliceArr32 ?_
    refine vb_i (bytes_str (rec_root hs.g0 hr)) ?_
    refine s_row (es := 1) (n := 4) (z := [.str []]) hs rfl fun t C5 _ hs => ?_
    obtain ⟨C6, hc, k⟩ := block_spec (xs := [[114, 99], beB 4 q.seq.toNat, beB 2 q.puts.length, q.root]) (view_row hs.g0 rfl) (by simp) (by simp [beB_len, hr])
    refine cb_i _ _ hc ?_
    have hs := (hs.quiet k).tail
    rw [show full [[114, 99], beB 4 q.seq.toNat, beB 2 q.puts.length, q.root].flatten 64 = full (hdR q) 64 by simp [hdR]]
    refine s_row (es := 1) (n := 1) (z := [.str []]) hs rfl fun o C7 _ hs => ?_
    have hs := (s_own (n := 1) (es := 1) hs rfl).f1
    repeat first
    | ((with_reducible apply vb_rec33); (· exact hs.g0); (· assumption))
    | with_reducible refine vb_i (e_fieldAddr _ _) ?_
    | ((with_reducible apply vb_len); (· first | exact hs.o0.view | exact hs.o1.view | exact hs.o2.view | exact hs.o3.view | exact hs.o4.view | exact hs.o5.view | exact hs.o6.view | exact hs.rv hv | exact hs.rv hv2 | exact hs.rv hv3 | exact hs.rv hv4 | exact hs.view hkv hko | assumption))
    have hs := s_nils hs 1
    refine LoopP.ruleG (α := AVal × Nat) (fun a => [a.1, .int .i64 (a.2 : Int)])
      (fun a C => a.2 ≤ q.puts.length ∧ Sep B (fun _ => False) C [.sl a.1 1 a.2 (nums ((atsN q).take a.2)), .obj i (.cells 0 .exact (rcells q x)), .sl (.slice ⟨o, 0, 0⟩ 1 (.ex 1)) 1 1 (strs [full (hdR q) 64])]) (fun a => q.puts.length - a.2) (.nils, 0) (by simp)
      ⟨by omega, hs⟩ ?_
    clear hs
    rintro ⟨sv, j⟩ C Kn ⟨hj, hs⟩ hk
    unfold record_Lay.L9 record_Lay.L9.b
    try simp only [evB]
    by_cases hjn : j < q.puts.length
    · have hb := List.getElem?_eq_getElem hjn
      have hm := hpt _ (List.getElem_mem hjn)
      have ht : (atsN q).take (j + 1) = (atsN q).take j ++ [q.puts[j].pos.toNat] := by
        rw [List.take_succ_eq_append_getElem (by simpa [atsN] using hjn)]; simp [atsN]
      generalize q.puts[j] = p at hb hm ht
      repeat first
      | ((with_reducible refine isB_ct ?_ ?_); (· omega))
      | with_reducible refine vb_i (lss64 _ _ _) ?_
      | ((with_reducible apply vb_addrN); (· first | exact hs.o0.view | exact hs.o1.view | exact hs.o2.view | exact hs.o3.view | exact hs.o4.view | exact hs.o5.view | exact hs.o6.view | exact hs.rv hv | exact hs.rv hv2 | exact hs.rv hv3 | exact hs.rv hv4 | exact hs.view hkv hko | assumption); (· omega))
      refine vb_i (el_ldN ptc_len (hs.rv hv) hb) ?_
      refine s_alloc hs fun t C2 _ hs => ?_
      refine s_storeA hs rfl rfl rfl rfl fun C3 hs => ?_
      repeat first
      | with_reducible refine vb_i (e_fieldAddr _ _) ?_
      | ((with_reducible apply vb_ld); (· first | exact hs.g0 | exact hs.g1 | exact hs.g2 | exact hs.g3 | exact hs.g4 | exact hs.g5 | exact hs.g6 | exact hs.rd hg | exact hs.rd hg2 | exact hs.rd hg3 | exact hs.rd hg4 | assumption); (· rfl))
      rw [show p.pos = ((p.pos.toNat : Nat) : Int) by omega]
      refine s_push (es := 1) (m := 1) (xs := nums [p.pos.toNat]) hs.tail rfl (by decide) rfl rfl (by unfold room; omega) (by unfold room; omega) fun s' _ hs => ?_
      repeat first
      | ((with_reducible refine vb_i (add64 ?_ ?_) ?_); (· omega); (· omega))
      refine hk (s', j + 1) _ ⟨by show j + 1 ≤ _; omega, ?_⟩ (by show q.puts.length - (j + 1) < q.puts.length - j; omega)
      rw [ht]
      simpa [nums] using hs
    obtain rfl : j = q.puts.length := by omega
    repeat first
    | ((with_reducible refine isB_cf ?_ ?_); (· omega))
    | with_reducible refine onE_i ?_
    | with_reducible refine vb_i (lss64 _ _ _) ?_
    try simp only [evB]
    rw [List.take_of_length_le (by simp [atsN])] at hs
    have hal : (atsN q).length = q.puts.length := by simp [atsN]
    have hs := hs.as (b := Part.vw sv 1 (atsN q).length (nums (atsN q))) rfl fun h => by rw [hal]; exact h.view
    refine LoopP.ruleG (α := AVal × AVal × Nat) (fun a => [a.1, a.2.1])
      (fun a C => a.2.2 ≤ (q.puts.length + 31) / 32 ∧ Sep B (fun _ => False) C [Part.vw a.2.1 1 ((atsN q).drop (32 * a.2.2)).length (nums ((atsN q).drop (32 * a.2.2))), .obj i (.cells 0 .exact (rcells q x)),
        .sl a.1 1 (1 + a.2.2) (strs (full (hdR q) 64 :: (((List.range a.2.2).map fun k => ((atsN q).drop (32 * k)).take 32).map rowB)))]) (fun a => (q.puts.length + 31) / 32 - a.2.2) (.slice ⟨o, 0, 0⟩ 1 (.ex 1), sv, 0) (by simp)
      ⟨Nat.zero_le _, by simpa using hs⟩ ?_
    clear hs
    rintro ⟨out, a, j⟩ C Kn ⟨hj, hs⟩ hk
    unfold record_Lay.L13 record_Lay.L13.b
    try simp only [evB]
    simp only at hj hs
    have hva := hs.head
    refine vb_i (lenSl_view hva) ?_
    have hdl : ((atsN q).drop (32 * j)).length = q.puts.length - 32 * j := by rw [List.length_drop, hal]
    by_cases hjn : 32 * j < q.puts.length
    · repeat first
      | ((with_reducible refine isB_ct ?_ ?_); (· omega))
      | with_reducible refine vb_i (gtr64 _ _ _) ?_
      | ((with_reducible apply vb_len); (· first | exact hs.o0.view | exact hs.o1.view | exact hs.o2.view | exact hs.o3.view | exact hs.o4.view | exact hs.o5.view | exact hs.o6.view | exact hs.rv hv | exact hs.rv hv2 | exact hs.rv hv3 | exact hs.rv hv4 | exact hs.view hkv hko | assumption))
      refine vb_i (e_min64 _ _) ?_
      obtain ⟨m, hm, hm2⟩ : ∃ m : Nat, (if (32 : Int) < ((((atsN q).drop (32 * j)).length : Nat) : Int) then (32 : Int) else ((((atsN q).drop (32 * j)).length : Nat) : Int)) = (m : Int) ∧ m = min (q.puts.length - 32 * j) 32 := by
        refine ⟨min (q.puts.length - 32 * j) 32, ?_, rfl⟩
        rw [hdl]; split <;> omega
      rw [hm]
      have hbn : ∀ d, bnd d (some (.int .i64 (m : Int))) = some m := fun d => by rw [bnd_int (by omega), Int.toNat_natCast]
      obtain ⟨a1, e1, hv1, hid1, _⟩ := slice_full (h := some (.int .i64 (m : Int))) (m := some (.int .i64 (m : Int))) (hi := m) hva hbn hbn rfl (by rw [hdl]; omega) (.inl (by rw [hdl]; omega))
      refine vb_i e1 ?_
      have hrow : ((atsN q).drop (32 * j)).take m = ((atsN q).drop (32 * j)).take 32 := by
        by_cases h : 32 ≤ q.puts.length - 32 * j
        · rw [hm2, Nat.min_eq_right h]
        · rw [List.take_of_length_le (by rw [hdl]; omega), List.take_of_length_le (by rw [hdl]; omega)]
      have hr1 : (nums ((atsN q).drop (32 * j))).take (m * 1) = nums (((atsN q).drop (32 * j)).take 32) := by
        rw [Nat.mul_one, ← hrow]; simp [nums, List.map_take]
      have hrl : (((atsN q).drop (32 * j)).take 32).length = m := by rw [← hrow, List.length_take, hdl]; omega
      rw [hr1, ← hrl] at hv1
      obtain ⟨C2, hc, k⟩ := be_Row_spec hv1 (by omega) (w := 2) (by decide) (by decide) (fun n hn => by
        have hn := List.mem_of_mem_drop (List.mem_of_mem_take hn)
        simp only [atsN, List.mem_map] at hn
        obtain ⟨p, hp, rfl⟩ := hn
        have := hpt p hp
        omega)
      refine cb_i _ _ hc ?_
      have hs := hs.quiet k
      repeat first
      | with_reducible refine vb_i e_ext0 ?_
      | with_reducible refine vb_i e_ext1 ?_
      refine s_row (es := 1) (n := 1) (z := [.str []]) hs rfl fun t C5 _ hs => ?_
      obtain ⟨C6, hc, k⟩ := block_spec (xs := [((((atsN q).drop (32 * j)).take 32).map (beB 2)).flatten]) (view_row hs.g0 rfl) (by simp) (by rw [List.flatten_singleton, flat_beB, hrl]; omega)
      refine cb_i _ _ hc ?_
      have hs := (hs.quiet k).tail
      rw [List.flatten_singleton, show full ((((atsN q).drop (32 * j)).take 32).map (beB 2)).flatten 64 = rowB (((atsN q).drop (32 * j)).take 32) from rfl]
      refine s_push (es := 1) (m := 1) (xs := strs [rowB (((atsN q).drop (32 * j)).take 32)]) hs.f2 rfl (by decide) rfl rfl (by unfold room; omega) (by unfold room; omega) fun out' C7 hs => ?_
      have hva := hs.tail.head
      obtain ⟨a2, e2, hv2, hid2⟩ := slice_view (l := some (.int .i64 (m : Int))) (h := none) (lo := m) (hi := ((atsN q).drop (32 * j)).length) hva (hbn 0) rfl (by rw [hdl]; omega) (Nat.le_refl _)
      refine vb_i e2 ?_
      have hdr : ((atsN q).drop (32 * j)).drop m = (atsN q).drop (32 * (j + 1)) := by
        rw [List.drop_drop]
        by_cases h32 : m = 32
        · rw [h32, Nat.mul_add]
        · rw [List.drop_of_length_le (by omega), List.drop_of_length_le (by omega)]
      have hv2' : View C7 a2 1 ((atsN q).drop (32 * (j + 1))).length (nums ((atsN q).drop (32 * (j + 1)))) := by
        rw [← hdr]
        rw [Nat.mul_one, Nat.mul_one] at hv2
        have e3 : ((nums ((atsN q).drop (32 * j))).drop m).take (((atsN q).drop (32 * j)).length - m) = nums (((atsN q).drop (32 * j)).drop m) := by
          rw [List.take_of_length_le (Nat.le_of_eq (by rw [List.length_drop, nums_len]))]; simp [nums, List.map_drop]
        rw [e3] at hv2
        rw [List.length_drop]; exact hv2
      have hs := hs.f1.as (b := Part.vw a2 1 ((atsN q).drop (32 * (j + 1))).length (nums ((atsN q).drop (32 * (j + 1))))) (by simp only [Part.vw, hid2]) fun _ => hv2'
      refine hk (out', a2, j + 1) _ ⟨by show j + 1 ≤ _; omega, ?_⟩ (by show _ - (j + 1) < _ - j; omega)
      have hs := hs.f2.f1
      rw [show (List.range (j + 1)).map (fun k => ((atsN q).drop (32 * k)).take 32) = (List.range j).map (fun k => ((atsN q).drop (32 * k)).take 32) ++ [((atsN q).drop (32 * j)).take 32] by rw [List.range_succ, List.map_append]; rfl]
      simpa [strs, Nat.add_assoc] using hs
    obtain rfl : j = (q.puts.length + 31) / 32 := by omega
    repeat first
    | ((with_reducible refine isB_cf ?_ ?_); (· omega))
    | with_reducible refine onE_i ?_
    | with_reducible refine vb_i (gtr64 _ _ _) ?_
    | with_reducible refine vb_i (e_fieldAddr _ _) ?_
    try simp only [evB]
    have hs := hs.tail
    rw [show ((List.range ((q.puts.length + 31) / 32)).map fun k => ((atsN q).drop (32 * k)).take 32).map rowB = headsR (atsN q) by unfold headsR rowsN; rw [hal]] at hs
    have hhl : (headsR (atsN q)).length = (q.puts.length + 31) / 32 := by simp [headsR, rowsN, hal]
    repeat first
    | ((with_reducible apply vb_rec33); (· exact hs.g0); (· assumption))
    | ((with_reducible apply vb_len); (· first | exact hs.o0.view | exact hs.o1.view | exact hs.o2.view | exact hs.o3.view | exact hs.o4.view | exact hs.o5.view | exact hs.o6.view | exact hs.rv hv | exact hs.rv hv2 | exact hs.rv hv3 | exact hs.rv hv4 | exact hs.view hkv hko | assumption))
    refine LoopP.ruleG (α := AVal × Nat) (fun a => [a.1, .int .i64 (a.2 : Int)])
      (fun a C => a.2 ≤ q.puts.length ∧ Sep B (fun _ => False) C [.sl a.1 1 (1 + (q.puts.length + 31) / 32 + a.2) (strs (full (hdR q) 64 :: headsR (atsN q) ++ (q.puts.take a.2).map Pt.b)), .obj i (.cells 0 .exact (rcells q x))]) (fun a => q.puts.length - a.2) (out, 0) (by simp)
      ⟨Nat.zero_le _, by simpa using hs.f1⟩ ?_
    clear hs
    rintro ⟨sv, j⟩ C Kn ⟨hj, hs⟩ hk
    unfold record_Lay.L19 record_Lay.L19.b
    try simp only [evB]
    by_cases hjn : j < q.puts.length
    · have hb := List.getElem?_eq_getElem hjn
      have ht : (q.puts.take (j + 1)).map Pt.b = (q.puts.take j).map Pt.b ++ [q.puts[j].b] := by
        rw [List.take_succ_eq_append_getElem hjn, List.map_append]; rfl
      generalize q.puts[j] = p at hb ht
      repeat first
      | ((with_reducible refine isB_ct ?_ ?_); (· omega))
      | with_reducible refine vb_i (lss64 _ _ _) ?_
      | ((with_reducible apply vb_addrN); (· first | exact hs.o0.view | exact hs.o1.view | exact hs.o2.view | exact hs.o3.view | exact hs.o4.view | exact hs.o5.view | exact hs.o6.view | exact hs.rv hv | exact hs.rv hv2 | exact hs.rv hv3 | exact hs.rv hv4 | exact hs.view hkv hko | assumption); (· omega))
      refine vb_i (el_ldN ptc_len (hs.rv hv) hb) ?_
      refine s_alloc hs fun t C2 _ hs => ?_
      refine s_storeA hs rfl rfl rfl rfl fun C3 hs => ?_
      repeat first
      | with_reducible refine vb_i (e_fieldAddr _ _) ?_
      | ((with_reducible apply vb_ld); (· first | exact hs.g0 | exact hs.g1 | exact hs.g2 | exact hs.g3 | exact hs.g4 | exact hs.g5 | exact hs.g6 | exact hs.rd hg | exact hs.rd hg2 | exact hs.rd hg3 | exact hs.rd hg4 | assumption); (· rfl))
      refine s_push (es := 1) (m := 1) (xs := strs [p.b]) hs.tail rfl (by decide) rfl rfl (by unfold room; omega) (by unfold room; omega) fun s' _ hs => ?_
      repeat first
      | ((with_reducible refine vb_i (add64 ?_ ?_) ?_); (· omega); (· omega))
      refine hk (s', j + 1) _ ⟨by show j + 1 ≤ _; omega, ?_⟩ (by show q.puts.length - (j + 1) < q.puts.length - j; omega)
      rw [ht]
      simpa [strs, Nat.add_assoc] using hs
    obtain rfl : j = q.puts.length := by omega
    repeat first
    | ((with_reducible refine isB_cf ?_ ?_); (· omega))
    | with_reducible refine onE_i ?_
    | with_reducible refine vb_i (lss64 _ _ _) ?_
    try simp only [evB]
    rw [List.take_length] at hs
    refine fin_ret (rvs_v (rvs_v (rvs_nil _))) ⟨hs.pre fun _ x => x, sv, rfl, ?_⟩
    have hs := hs.f1.tail
    rw [show (layR q).length = 1 + (q.puts.length + 31) / 32 + q.puts.length by simp [layR, hhl]; omega]
    exact hs)
  exact ⟨r', C, h, k⟩
end
end Go.Sh

/- The document's record: may it be; its blocks; the same. -/
namespace Go.Sh
open Go Go.Abs

section
variable {B : AHeap}
theorem right_spec {x : AVal} {q : Rcd} (hq : RecAt B q x) (hl : q.puts.length ≤ 9223372036854775807) : ∃ C, S_cellaretref13_Right [recV q x] B (.bool (goodR q)) C ∧ B <+: C := by
  obtain ⟨hr, hv⟩ := hq
  obtain ⟨r, C, h, rfl, k⟩ := cellaretref13_Right.out (x0 := recV q x) (H := B) (Q := fun r C => r = .bool (goodR q) ∧ B <+: C) (by
    unfold cellaretref13_Right.w
    have hs : Sep B (fun _ => False) B [] := Sep.start B
    refine s_box hs rfl fun i C1 _ hs => ?_
    simp only [recV, AVal.cells] at hs
    refine JoinP.mk (fun e vs C => C1 = C ∧ ((e = .ret ∧ vs = [.bool false] ∧ ¬ okSeq q) ∨ (e = .normal ∧ okSeq q))) ?_ ?_
    · repeat first
      | ((with_reducible apply vb_rec0); (· exact hs.g0))
      | with_reducible refine vb_i (lss64 _ _ _) ?_
      | with_reducible refine vb_i (e_fieldAddr _ _) ?_
      refine isB_c (fun h1 => ?_) (fun h1 => ?_)
      · exact ⟨rfl, .inl ⟨rfl, rfl, fun h => by unfold okSeq at h; omega⟩⟩
      · repeat first
        | ((with_reducible apply vb_rec0); (· exact hs.g0))
        | with_reducible refine vb_i (gtr64 _ _ _) ?_
        | with_reducible refine vb_i (e_fieldAddr _ _) ?_
        refine isB_c (fun h2 => ?_) (fun h2 => ?_)
        · exact ⟨rfl, .inl ⟨rfl, rfl, fun h => by unfold okSeq at h; omega⟩⟩
        · exact ⟨rfl, .inr ⟨rfl, by unfold okSeq; omega⟩⟩
    rintro e vs C ⟨rfl, ⟨rfl, rfl, h1⟩ | ⟨rfl, h1⟩⟩
    · repeat first
      | with_reducible refine onE_i ?_
      | ((with_reducible refine onE_s ?_ ?_); (· decide))
      try simp only [evB]
      refine fin_ret (rvs_v (rvs_nil _)) ⟨hs.pre fun _ x => x, ?_, hs.pre fun _ x => x⟩
      unfold goodR; rw [decide_eq_false h1]; rfl
    repeat first
    | with_reducible refine onE_i ?_
    refine LoopP.ruleG (α := Nat × Int) (fun a => [.int .i64 (a.1 : Int)])
      (fun a C => a.1 ≤ q.puts.length ∧ okF 160 q.puts = okF a.2 (q.puts.drop a.1) ∧ ((a.1 = 0 ∧ a.2 = 160) ∨ (0 < a.1 ∧ 160 < a.2 ∧ ∃ p, q.puts[a.1 - 1]? = some p ∧ p.pos = a.2)) ∧ Sep B (fun _ => False) C [.obj i (.cells 0 .exact (rcells q x))]) (fun a => q.puts.length - a.1) (0, 160) (by simp)
      ⟨Nat.zero_le _, by simp, .inl ⟨rfl, rfl⟩, hs⟩ ?_
    clear hs
    rintro ⟨j, last⟩ C Kn ⟨hj, hok, hlast, hs⟩ hk
    simp only at hj hok hlast
    unfold cellaretref13_Right.L4 cellaretref13_Right.L4.b
    try simp only [evB]
    have hv' := hs.rv hv
    repeat first
    | ((with_reducible apply vb_rec33); (· exact hs.g0); (· assumption))
    | with_reducible refine vb_i (lss64 _ _ _) ?_
    | with_reducible refine vb_i (e_fieldAddr _ _) ?_
    | ((with_reducible apply vb_len); (· first | exact hs.o0.view | exact hs.o1.view | exact hs.o2.view | exact hs.o3.view | exact hs.o4.view | exact hs.o5.view | exact hs.o6.view | exact hs.rv hv | exact hs.rv hv2 | exact hs.rv hv3 | exact hs.rv hv4 | exact hs.view hkv hko | assumption))
    by_cases hjn : j < q.puts.length
    · have hb := List.getElem?_eq_getElem hjn
      rw [List.drop_eq_getElem_cons hjn] at hok
      generalize q.puts[j] = p at hb hok
      have stop : ¬ okP last p → goodR q = false := fun h => by unfold goodR; rw [hok, okF, decide_eq_false h]; simp
      repeat first
      | ((with_reducible apply vb_rec33); (· exact hs.g0); (· assumption))
      | ((with_reducible refine isB_ct ?_ ?_); (· omega))
      | with_reducible refine vb_i (e_fieldAddr _ _) ?_
      | ((with_reducible apply vb_addrN); (· first | exact hs.o0.view | exact hs.o1.view | exact hs.o2.view | exact hs.o3.view | exact hs.o4.view | exact hs.o5.view | exact hs.o6.view | exact hs.rv hv | exact hs.rv hv2 | exact hs.rv hv3 | exact hs.rv hv4 | exact hs.view hkv hko | assumption); (· omega))
      refine vb_i (el_ldN ptc_len hv' hb) ?_
      refine s_alloc hs fun t C2 _ hs => ?_
      refine s_storeA hs rfl rfl rfl rfl fun C3 hs => ?_
      repeat first
      | with_reducible refine vb_i (lss64 _ _ _) ?_
      | with_reducible refine vb_i (e_fieldAddr _ _) ?_
      | ((with_reducible apply vb_ld); (· first | exact hs.g0 | exact hs.g1 | exact hs.g2 | exact hs.g3 | exact hs.g4 | exact hs.g5 | exact hs.g6 | exact hs.rd hg | exact hs.rd hg2 | exact hs.rd hg3 | exact hs.rd hg4 | assumption); (· rfl))
      refine isB_c (fun h1 => ?_) (fun h1 => ?_)
      · repeat first
        | with_reducible refine onE_i ?_
        | ((with_reducible refine onE_s ?_ ?_); (· decide))
        try simp only [evB]
        refine fin_ret (rvs_v (rvs_nil _)) ⟨hs.pre fun _ x => x, ?_, hs.pre fun _ x => x⟩
        rw [stop (by unfold okP; omega)]; rfl
      repeat first
      | with_reducible refine vb_i (gtr64 _ _ _) ?_
      | with_reducible refine vb_i (e_fieldAddr _ _) ?_
      | ((with_reducible apply vb_ld); (· first | exact hs.g0 | exact hs.g1 | exact hs.g2 | exact hs.g3 | exact hs.g4 | exact hs.g5 | exact hs.g6 | exact hs.rd hg | exact hs.rd hg2 | exact hs.rd hg3 | exact hs.rd hg4 | assumption); (· rfl))
      refine isB_c (fun h2 => ?_) (fun h2 => ?_)
      · repeat first
        | with_reducible refine onE_i ?_
        | ((with_reducible refine onE_s ?_ ?_); (· decide))
        try simp only [evB]
        refine fin_ret (rvs_v (rvs_nil _)) ⟨hs.pre fun _ x => x, ?_, hs.pre fun _ x => x⟩
        rw [stop (by unfold okP; omega)]; rfl
      repeat first
      | with_reducible refine vb_i (neq64 _ _ _) ?_
      | with_reducible refine vb_i (e_lenSt _) ?_
      | with_reducible refine vb_i (e_fieldAddr _ _) ?_
      | ((with_reducible apply vb_ld); (· first | exact hs.g0 | exact hs.g1 | exact hs.g2 | exact hs.g3 | exact hs.g4 | exact hs.g5 | exact hs.g6 | exact hs.rd hg | exact hs.rd hg2 | exact hs.rd hg3 | exact hs.rd hg4 | assumption); (· rfl))
      refine isB_c (fun h3 => ?_) (fun h3 => ?_)
      · repeat first
        | with_reducible refine onE_i ?_
        | ((with_reducible refine onE_s ?_ ?_); (· decide))
        try simp only [evB]
        refine fin_ret (rvs_v (rvs_nil _)) ⟨hs.pre fun _ x => x, ?_, hs.pre fun _ x => x⟩
        rw [stop (by unfold okP; omega)]; rfl
      repeat first
      | with_reducible refine vb_i (gtr64 _ _ _) ?_
      have next : okP last p → okF 160 q.puts = okF p.pos (q.puts.drop (j + 1)) := fun h => by rw [hok, okF, decide_eq_true h]; rfl
      rcases hlast with ⟨rfl, rfl⟩ | ⟨hj0, h160, p', hp', rfl⟩
      · repeat first
        | ((with_reducible refine isB_cf ?_ ?_); (· omega))
        | ((with_reducible refine vb_i (add64 ?_ ?_) ?_); (· omega); (· omega))
        refine hk (1, p.pos) _ ⟨by show 1 ≤ _; omega, next (by unfold okP; omega), .inr ⟨by show 0 < 1; omega, by show 160 < p.pos; omega, p, hb, rfl⟩, hs.tail⟩ (by show _ - 1 < _ - 0; omega)
      · have hv' := hs.rv hv
        repeat first
        | ((with_reducible apply vb_rec33); (· exact hs.g1); (· assumption))
        | ((with_reducible refine isB_ct ?_ ?_); (· omega))
        | ((with_reducible refine vb_i (sub64 ?_ ?_) ?_); (· omega); (· omega))
        | with_reducible refine vb_i (e_fieldAddr _ _) ?_
        | ((with_reducible apply vb_ld); (· first | exact hs.g0 | exact hs.g1 | exact hs.g2 | exact hs.g3 | exact hs.g4 | exact hs.g5 | exact hs.g6 | exact hs.rd hg | exact hs.rd hg2 | exact hs.rd hg3 | exact hs.rd hg4 | assumption); (· rfl))
        | ((with_reducible apply vb_addr); (· first | exact hs.o0.view | exact hs.o1.view | exact hs.o2.view | exact hs.o3.view | exact hs.o4.view | exact hs.o5.view | exact hs.o6.view | exact hs.rv hv | exact hs.rv hv2 | exact hs.rv hv3 | exact hs.rv hv4 | exact hs.view hkv hko | assumption); (· omega); (· omega))
        have hj1 : ((j : Int) - 1).toNat = j - 1 := by omega
        rw [hj1]
        refine vb_i (el_ld1 ptc_len (hs.rv hv) hp' rfl) ?_
        repeat first
        | with_reducible refine vb_i (leq64 _ _ _) ?_
        refine isB_c (fun h4 => ?_) (fun h4 => ?_)
        · repeat first
          | with_reducible refine onE_i ?_
          | ((with_reducible refine onE_s ?_ ?_); (· decide))
          try simp only [evB]
          refine fin_ret (rvs_v (rvs_nil _)) ⟨hs.pre fun _ x => x, ?_, hs.pre fun _ x => x⟩
          rw [stop (by unfold okP; omega)]; rfl
        · repeat first
          | ((with_reducible refine vb_i (add64 ?_ ?_) ?_); (· omega); (· omega))
          refine hk (j + 1, p.pos) _ ⟨by show j + 1 ≤ _; omega, next (by unfold okP; omega), .inr ⟨by show 0 < j + 1; omega, by show 160 < p.pos; omega, p, hb, rfl⟩, hs.tail⟩ (by show _ - (j + 1) < _ - j; omega)
    · obtain rfl : j = q.puts.length := by omega
      repeat first
      | ((with_reducible refine isB_cf ?_ ?_); (· omega))
      | with_reducible refine onE_i ?_
      try simp only [evB]
      refine fin_ret (rvs_v (rvs_nil _)) ⟨hs.pre fun _ x => x, ?_, hs.pre fun _ x => x⟩
      unfold goodR; rw [hok, List.drop_length, okF, decide_eq_true h1]; rfl)
  exact ⟨C, h, k⟩
theorem light_spec {x : AVal} {q : Rcd} (hq : RecAt B q x) (hl : q.puts.length ≤ 9223372036854775807) : ∃ (b : Bool) (C : AHeap), S_cellaretlaw13_light [recV q x] B (.bool b) C ∧ B <+: C ∧ (b = true → q.puts.length < 100) := by
  obtain ⟨hr, hv⟩ := hq
  obtain ⟨r, C, h, b, rfl, k, kb⟩ := cellaretlaw13_light.out (x0 := recV q x) (H := B) (Q := fun r C => ∃ b : Bool, r = .bool b ∧ B <+: C ∧ (b = true → q.puts.length < 100)) (by
    unfold cellaretlaw13_light.w
    have hs : Sep B (fun _ => False) B [] := Sep.start B
    refine s_box hs rfl fun i C1 _ hs => ?_
    simp only [recV, AVal.cells] at hs
    refine LoopP.ruleG (α := Nat) (fun j => [.int .i64 (j : Int)]) (fun j C => j ≤ q.puts.length ∧ Sep B (fun _ => False) C [.obj i (.cells 0 .exact (rcells q x))]) (fun j => q.puts.length - j) 0 (by simp)
      ⟨Nat.zero_le _, hs⟩ ?_
    clear hs
    rintro j C Kn ⟨hj, hs⟩ hk
    unfold cellaretlaw13_light.L2 cellaretlaw13_light.L2.b
    try simp only [evB]
    have hv' := hs.rv hv
    refine JoinP.mk (fun e vs D => C = D ∧ ((e = .normal ∧ j < q.puts.length) ∨ e = .exit 0)) ?_ ?_
    · repeat first
      | ((with_reducible apply vb_rec33); (· exact hs.g0); (· assumption))
      | with_reducible refine vb_i (lss64 _ _ _) ?_
      | with_reducible refine vb_i (e_fieldAddr _ _) ?_
      | ((with_reducible apply vb_len); (· first | exact hs.o0.view | exact hs.o1.view | exact hs.o2.view | exact hs.o3.view | exact hs.o4.view | exact hs.o5.view | exact hs.o6.view | exact hs.rv hv | exact hs.rv hv2 | exact hs.rv hv3 | exact hs.rv hv4 | exact hs.view hkv hko | assumption))
      refine isB_c (fun h1 => ?_) (fun h1 => ?_)
      · repeat first
        | with_reducible refine vb_i (lss64 _ _ _) ?_
        refine isB_c (fun h2 => ?_) (fun h2 => ?_)
        · exact ⟨rfl, .inl ⟨rfl, by omega⟩⟩
        · exact ⟨rfl, .inr rfl⟩
      · exact ⟨rfl, .inr rfl⟩
    rintro e vs D ⟨rfl, ⟨rfl, hjn⟩ | rfl⟩
    · have hb := List.getElem?_eq_getElem hjn
      generalize q.puts[j] = p at hb
      repeat first
      | ((with_reducible apply vb_rec33); (· exact hs.g0); (· assumption))
      | with_reducible refine onE_i ?_
      | ((with_reducible refine onE_s ?_ ?_); (· decide))
      | with_reducible refine vb_i (e_fieldAddr _ _) ?_
      | ((with_reducible apply vb_addrN); (· first | exact hs.o0.view | exact hs.o1.view | exact hs.o2.view | exact hs.o3.view | exact hs.o4.view | exact hs.o5.view | exact hs.o6.view | exact hs.rv hv | exact hs.rv hv2 | exact hs.rv hv3 | exact hs.rv hv4 | exact hs.view hkv hko | assumption); (· omega))
      refine vb_i (el_ld1 ptc_len hv' hb rfl) ?_
      repeat first
      | with_reducible refine vb_i (gtr64 _ _ _) ?_
      | with_reducible refine vb_i (e_lenSt _) ?_
      refine isB_c (fun h1 => ?_) (fun h1 => ?_)
      · repeat first
        | with_reducible refine onE_i ?_
        | ((with_reducible refine onE_s ?_ ?_); (· decide))
        try simp only [evB]
        exact fin_ret (rvs_v (rvs_nil _)) ⟨hs.pre fun _ x => x, false, rfl, hs.pre fun _ x => x, by simp⟩
      · repeat first
        | ((with_reducible refine vb_i (add64 ?_ ?_) ?_); (· omega); (· omega))
        exact hk (j + 1) _ ⟨by omega, hs⟩ (by omega)
    · repeat first
      | ((with_reducible apply vb_rec33); (· exact hs.g0); (· assumption))
      | with_reducible refine onE_i ?_
      | with_reducible refine vb_i (lss64 _ _ _) ?_
      | with_reducible refine vb_i (e_fieldAddr _ _) ?_
      | ((with_reducible apply vb_len); (· first | exact hs.o0.view | exact hs.o1.view | exact hs.o2.view | exact hs.o3.view | exact hs.o4.view | exact hs.o5.view | exact hs.o6.view | exact hs.rv hv | exact hs.rv hv2 | exact hs.rv hv3 | exact hs.rv hv4 | exact hs.view hkv hko | assumption))
      exact fin_ret (rvs_v (rvs_nil _)) ⟨hs.pre fun _ x => x, _, rfl, hs.pre fun _ x => x, fun h => by have := of_decide_eq_true h; omega⟩)
  exact ⟨b, C, h, k, kb⟩
end
end Go.Sh

/- The document's records: the same, and their blocks. -/
namespace Go.Sh
open Go Go.Abs

section
variable {B : AHeap}
theorem ref_same_spec {x y : AVal} {p q : Rcd} (hp : RecAt B p x) (hq : RecAt B q y) (hl : p.puts.length ≤ 9223372036854775807) :
    ∃ C, S_cellaretref13_Same [recV p x, recV q y] B (.bool (decide (p = q))) C ∧ B <+: C := by
  obtain ⟨hpr, hpv⟩ := hp
  obtain ⟨hqr, hqv⟩ := hq
  obtain ⟨r, C, h, rfl, k⟩ := cellaretref13_Same.out (x0 := recV p x) (x1 := recV q y) (H := B) (Q := fun r C => r = .bool (decide (p = q)) ∧ B <+: C) (by
    unfold cellaretref13_Same.w
    have hs : Sep B (fun _ => False) B [] := Sep.start B
    refine s_box hs rfl fun i C1 _ hs => ?_
    refine s_box hs rfl fun j C2 _ hs => ?_
    simp only [recV, AVal.cells] at hs
    have hv1 := hs.rv hpv
    have hv2 := hs.rv hqv
    refine JoinP.mk (fun e vs C => C2 = C ∧ ((e = .ret ∧ vs = [.bool false] ∧ p ≠ q) ∨ (e = .normal ∧ p.seq = q.seq ∧ p.root = q.root ∧ p.puts.length = q.puts.length))) ?_ ?_
    · repeat first
      | ((with_reducible apply vb_rec0); (· first | exact hs.g0 | exact hs.g1))
      | with_reducible refine vb_i (neq64 _ _ _) ?_
      | with_reducible refine vb_i (e_fieldAddr _ _) ?_
      refine isB_c (fun h1 => ?_) (fun h1 => ?_)
      · exact ⟨rfl, .inl ⟨rfl, rfl, fun e => h1 (by rw [e])⟩⟩
      have h1 := Decidable.not_not.1 h1
      repeat first
      | ((with_reducible apply vb_recR); (· first | exact hs.g0 | exact hs.g1); (· assumption))
      | with_reducible refine vb_i (e_fieldAddr _ _) ?_
      refine vb_i (e_neBytes (by exact hpr) (by exact hqr)) ?_
      refine isB_c (fun h2 => ?_) (fun h2 => ?_)
      · exact ⟨rfl, .inl ⟨rfl, rfl, fun e => h2 (by rw [e])⟩⟩
      have h2 := Decidable.not_not.1 h2
      repeat first
      | ((with_reducible apply vb_rec33); (· first | exact hs.g0 | exact hs.g1); (· assumption))
      | with_reducible refine vb_i (neq64 _ _ _) ?_
      | with_reducible refine vb_i (e_fieldAddr _ _) ?_
      | ((with_reducible apply vb_len); (· first | exact hs.o0.view | exact hs.o1.view | exact hs.o2.view | exact hs.o3.view | exact hs.o4.view | exact hs.o5.view | exact hs.o6.view | exact hs.rv hv | exact hs.rv hv2 | exact hs.rv hv3 | exact hs.rv hv4 | exact hs.view hkv hko | assumption))
      refine isB_c (fun h3 => ?_) (fun h3 => ?_)
      · exact ⟨rfl, .inl ⟨rfl, rfl, fun e => h3 (by rw [e])⟩⟩
      · exact ⟨rfl, .inr ⟨rfl, h1, h2, by omega⟩⟩
    rintro e vs C ⟨rfl, ⟨rfl, rfl, h1⟩ | ⟨rfl, h1, h2, h3⟩⟩
    · repeat first
      | with_reducible refine onE_i ?_
      | ((with_reducible refine onE_s ?_ ?_); (· decide))
      try simp only [evB]
      rw [decide_eq_false h1]
      exact fin_ret (rvs_v (rvs_nil _)) ⟨hs.pre fun _ x => x, rfl, hs.pre fun _ x => x⟩
    repeat first
    | with_reducible refine onE_i ?_
    refine LoopP.ruleG (α := Nat) (fun j => [.int .i64 (j : Int)]) (fun j C => (j ≤ p.puts.length ∧ upSame p.puts q.puts j) ∧ C2 = C) (fun j => p.puts.length - j) 0 (by simp) ⟨⟨Nat.zero_le _, by simp [upSame]⟩, rfl⟩ ?_
    rintro k C Kn ⟨⟨hj, hu⟩, rfl⟩ hk
    unfold cellaretref13_Same.L4 cellaretref13_Same.L4.b
    try simp only [evB]
    repeat first
    | ((with_reducible apply vb_rec33); (· first | exact hs.g0 | exact hs.g1); (· assumption))
    | with_reducible refine vb_i (lss64 _ _ _) ?_
    | with_reducible refine vb_i (e_fieldAddr _ _) ?_
    | ((with_reducible apply vb_len); (· first | exact hs.o0.view | exact hs.o1.view | exact hs.o2.view | exact hs.o3.view | exact hs.o4.view | exact hs.o5.view | exact hs.o6.view | exact hs.rv hv | exact hs.rv hv2 | exact hs.rv hv3 | exact hs.rv hv4 | exact hs.view hkv hko | assumption))
    by_cases hjn : k < p.puts.length
    · have hb := List.getElem?_eq_getElem hjn
      have hb2 := List.getElem?_eq_getElem (l := q.puts) (i := k) (by omega)
      generalize p.puts[k] = a at hb
      generalize q.puts[k] = b at hb2
      repeat first
      | ((with_reducible apply vb_rec33); (· first | exact hs.g0 | exact hs.g1); (· assumption))
      | ((with_reducible refine isB_ct ?_ ?_); (· omega))
      | with_reducible refine vb_i (e_fieldAddr _ _) ?_
      | ((with_reducible apply vb_addrN); (· first | exact hs.o0.view | exact hs.o1.view | exact hs.o2.view | exact hs.o3.view | exact hs.o4.view | exact hs.o5.view | exact hs.o6.view | exact hs.rv hv | exact hs.rv hv2 | exact hs.rv hv3 | exact hs.rv hv4 | exact hs.view hkv hko | assumption); (· omega))
      refine vb_i (el_ldN ptc_len hv1 hb) ?_
      repeat first
      | ((with_reducible apply vb_rec33); (· first | exact hs.g0 | exact hs.g1); (· assumption))
      | with_reducible refine vb_i (e_fieldAddr _ _) ?_
      | ((with_reducible apply vb_addrN); (· first | exact hs.o0.view | exact hs.o1.view | exact hs.o2.view | exact hs.o3.view | exact hs.o4.view | exact hs.o5.view | exact hs.o6.view | exact hs.rv hv | exact hs.rv hv2 | exact hs.rv hv3 | exact hs.rv hv4 | exact hs.view hkv hko | assumption); (· omega))
      refine vb_i (el_ldN ptc_len hv2 hb2) ?_
      refine vb_i e_nePt ?_
      refine isB_c (fun h4 => ?_) (fun h4 => ?_)
      · repeat first
        | with_reducible refine onE_i ?_
        | ((with_reducible refine onE_s ?_ ?_); (· decide))
        try simp only [evB]
        have : ¬ p = q := fun e => h4 (by rw [e, hb2] at hb; exact (Option.some.inj hb).symm)
        rw [decide_eq_false this]
        exact fin_ret (rvs_v (rvs_nil _)) ⟨hs.pre fun _ x => x, rfl, hs.pre fun _ x => x⟩
      · obtain rfl := Decidable.not_not.1 h4
        repeat first
        | ((with_reducible refine vb_i (add64 ?_ ?_) ?_); (· omega); (· omega))
        exact hk (k + 1) _ ⟨⟨by omega, upSame_step hu hb hb2⟩, rfl⟩ (by omega)
    · obtain rfl : k = p.puts.length := by omega
      repeat first
      | ((with_reducible refine isB_cf ?_ ?_); (· omega))
      | with_reducible refine onE_i ?_
      try simp only [evB]
      rw [decide_eq_true (rec_eq.2 ⟨h1, h2, upSame_end hu h3⟩)]
      exact fin_ret (rvs_v (rvs_nil _)) ⟨hs.pre fun _ x => x, rfl, hs.pre fun _ x => x⟩)
  exact ⟨C, h, k⟩
theorem full_hd {q : Rcd} (hr : q.root.length = 32) : full (hdR q) 64 = hdR q ++ zs 24 := by
  unfold full
  have : (hdR q).length = 40 := by simp [hdR, beB_len, hr]
  rw [if_neg (by omega), this]
theorem ref_lay_spec {x : AVal} {q : Rcd} (hq : RecAt B q x) (h64 : q.puts.length ≤ 64) (hg : goodR q = true) :
    ∃ r C, S_cellaretref13_Lay [recV q x] B r C ∧ Sep B (fun _ => False) C [.sl r 1 (layR q).length (strs (layR q))] := by
  obtain ⟨hr, hv⟩ := hq
  obtain ⟨hsq, hpt⟩ := good_inv hg
  unfold okSeq at hsq
  have hal : (atsN q).length = q.puts.length := by simp [atsN]
  obtain ⟨r, C, h, k⟩ := cellaretref13_Lay.out (x0 := recV q x) (H := B) (Q := fun r C => Sep B (fun _ => False) C [.sl r 1 (layR q).length (strs (layR q))]) (by
    unfold cellaretref13_Lay.w
    have hs : Sep B (fun _ => False) B [] := Sep.start B
    refine s_box hs rfl fun i C1 _ hs => ?_
    simp only [recV, AVal.cells] at hs
    have hv' := hs.rv hv
    repeat first
    | ((with_reducible apply vb_rec0); (· exact hs.g0))
    | with_reducible refine vb_i (e_fieldAddr _ _) ?_
    rw [show q.seq = ((q.seq.toNat : Nat) : Int) by omega]
    obtain ⟨C3, hc, k⟩ := ref_N_spec (B := C1) (w := 4) (n := q.seq.toNat) (by decide) (by decide) (by omega)
    refine cb_i _ _ hc ?_
    have hs := hs.quiet k
    have hv' := hs.rv hv
    repeat first
    | ((with_reducible apply vb_rec33); (· exact hs.g0); (· assumption))
    | ((with_reducible refine vb_i (adds ?_) ?_); (· rw [beB_len]; simp only [List.length_cons, List.length_nil]; omega))
    | with_reducible refine vb_i (e_fieldAddr _ _) ?_
    | ((with_reducible apply vb_len); (· first | exact hs.o0.view | exact hs.o1.view | exact hs.o2.view | exact hs.o3.view | exact hs.o4.view | exact hs.o5.view | exact hs.o6.view | exact hs.rv hv | exact hs.rv hv2 | exact hs.rv hv3 | exact hs.rv hv4 | exact hs.view hkv hko | assumption))
    obtain ⟨C4, hc, k⟩ := ref_N_spec (B := C3) (w := 2) (n := q.puts.length) (by decide) (by decide) (by omega)
    refine cb_i _ _ hc ?_
    have hs := hs.quiet k
    repeat first
    | ((with_reducible refine vb_i (adds ?_) ?_); (· simp only [List.length_append, beB_len, List.length_cons, List.length_nil]; omega))
    | with_reducible refine vb_i (e_fieldAddr _ _) ?_
    refine vb_i e_sliceArr32 ?_
    refine vb_i (bytes_str (rec_root hs.g0 hr)) ?_
    refine vb_i (adds (by simp only [List.length_append, beB_len, List.length_cons, List.length_nil, hr]; omega)) ?_
    refine cb_i _ _ ⟨24, rfl, by decide, rfl, rfl⟩ ?_
    refine vb_i (adds (by simp only [List.length_append, beB_len, List.length_cons, List.length_nil, hr, zs, List.length_replicate]; omega)) ?_
    rw [show [114, 99] ++ beB 4 q.seq.toNat ++ beB 2 q.puts.length ++ q.root ++ zs 24 = full (hdR q) 64 by rw [full_hd hr]; rfl]
    refine s_row (es := 1) (n := 1) (z := [.str []]) (cs := strs [full (hdR q) 64]) hs rfl fun o C7 _ hs => ?_
    have hs := s_own (n := 1) (es := 1) hs rfl
    refine LoopP.ruleG (α := AVal × Nat) (fun a => [a.1, .int .i64 (32 * a.2 : Int)])
      (fun a C => a.2 ≤ (q.puts.length + 31) / 32 ∧ Sep B (fun _ => False) C [.sl a.1 1 (1 + a.2) (strs (full (hdR q) 64 :: (((List.range a.2).map fun k => ((atsN q).drop (32 * k)).take 32).map rowB))), .obj i (.cells 0 .exact (rcells q x))]) (fun a => (q.puts.length + 31) / 32 - a.2) (.slice ⟨o, 0, 0⟩ 1 (.ex 1), 0) (by simp)
      ⟨Nat.zero_le _, by simpa using hs⟩ ?_
    clear hs hv'
    rintro ⟨out, j⟩ C Kn ⟨hj, hs⟩ hk
    simp only at hj hs
    unfold cellaretref13_Lay.L3 cellaretref13_Lay.L3.b
    try simp only [evB]
    have hv' := hs.rv hv
    repeat first
    | ((with_reducible apply vb_rec33); (· exact hs.g1); (· assumption))
    | with_reducible refine vb_i (lss64 _ _ _) ?_
    | with_reducible refine vb_i (e_fieldAddr _ _) ?_
    | ((with_reducible apply vb_len); (· first | exact hs.o0.view | exact hs.o1.view | exact hs.o2.view | exact hs.o3.view | exact hs.o4.view | exact hs.o5.view | exact hs.o6.view | exact hs.rv hv | exact hs.rv hv2 | exact hs.rv hv3 | exact hs.rv hv4 | exact hs.view hkv hko | assumption))
    by_cases hjn : 32 * j < q.puts.length
    · repeat first
      | ((with_reducible refine isB_ct ?_ ?_); (· omega))
      refine LoopP.ruleG (α := Nat) (fun t => [.str ((((atsN q).drop (32 * j)).take t).map (beB 2)).flatten, .int .i64 (32 * (j : Int) + (t : Int))])
        (fun t C => (t ≤ 32 ∧ 32 * j + t ≤ q.puts.length) ∧ Sep B (fun _ => False) C [.sl out 1 (1 + j) (strs (full (hdR q) 64 :: (((List.range j).map fun k => ((atsN q).drop (32 * k)).take 32).map rowB))), .obj i (.cells 0 .exact (rcells q x))]) (fun t => 32 - t) 0 (by simp)
        ⟨⟨by omega, by omega⟩, hs⟩ ?_
      clear hs hv'
      rintro t C Kn' ⟨⟨ht, htn⟩, hs⟩ hk'
      unfold cellaretref13_Lay.L7 cellaretref13_Lay.L7.b
      try simp only [evB]
      have hv' := hs.rv hv
      refine JoinP.mk (fun e vs D => C = D ∧ ((e = .normal ∧ t < 32 ∧ 32 * j + t < q.puts.length) ∨ (e = .exit 2 ∧ ¬ (t < 32 ∧ 32 * j + t < q.puts.length)))) ?_ ?_
      · repeat first
        | ((with_reducible apply vb_rec33); (· exact hs.g1); (· assumption))
        | with_reducible refine vb_i (lss64 _ _ _) ?_
        | with_reducible refine vb_i (e_fieldAddr _ _) ?_
        | ((with_reducible apply vb_len); (· first | exact hs.o0.view | exact hs.o1.view | exact hs.o2.view | exact hs.o3.view | exact hs.o4.view | exact hs.o5.view | exact hs.o6.view | exact hs.rv hv | exact hs.rv hv2 | exact hs.rv hv3 | exact hs.rv hv4 | exact hs.view hkv hko | assumption))
        refine isB_c (fun h1 => ?_) (fun h1 => ?_)
        · repeat first
          | with_reducible refine vb_i (lss64 _ _ _) ?_
          | ((with_reducible refine vb_i (add64 ?_ ?_) ?_); (· omega); (· omega))
          refine isB_c (fun h2 => ?_) (fun h2 => ?_)
          · exact ⟨rfl, .inl ⟨rfl, by omega, by omega⟩⟩
          · exact ⟨rfl, .inr ⟨rfl, by omega⟩⟩
        · exact ⟨rfl, .inr ⟨rfl, by omega⟩⟩
      rintro e vs D ⟨rfl, ⟨rfl, h1, h2⟩ | ⟨rfl, h1⟩⟩
      · have hb := List.getElem?_eq_getElem h2
        have hm := hpt _ (List.getElem_mem h2)
        have hst : ((atsN q).drop (32 * j)).take (t + 1) = ((atsN q).drop (32 * j)).take t ++ [q.puts[32 * j + t].pos.toNat] := by
          rw [List.take_add_one, List.getElem?_drop]
          simp [atsN, List.getElem?_eq_getElem h2]
        generalize q.puts[32 * j + t] = p at hb hm hst
        repeat first
        | ((with_reducible apply vb_rec33); (· exact hs.g1); (· assumption))
        | with_reducible refine onE_i ?_
        | ((with_reducible refine onE_s ?_ ?_); (· decide))
        | with_reducible refine vb_i (e_fieldAddr _ _) ?_
        | ((with_reducible apply vb_addr); (· first | exact hs.o0.view | exact hs.o1.view | exact hs.o2.view | exact hs.o3.view | exact hs.o4.view | exact hs.o5.view | exact hs.o6.view | exact hs.rv hv | exact hs.rv hv2 | exact hs.rv hv3 | exact hs.rv hv4 | exact hs.view hkv hko | assumption); (· omega); (· omega))
        rw [show (32 * (j : Int) + (t : Int)).toNat = 32 * j + t by omega]
        refine vb_i (el_ld1 ptc_len hv' hb rfl) ?_
        rw [show p.pos = ((p.pos.toNat : Nat) : Int) by omega]
        obtain ⟨C4, hc, k⟩ := ref_N_spec (B := C) (w := 2) (n := p.pos.toNat) (by decide) (by decide) (by omega)
        refine cb_i _ _ hc ?_
        have hs := hs.quiet k
        have hfl := flat_beB 2 (((atsN q).drop (32 * j)).take t)
        have htl : (((atsN q).drop (32 * j)).take t).length ≤ 32 := by rw [List.length_take]; omega
        refine vb_i (adds (by rw [hfl, beB_len]; omega)) ?_
        repeat first
        | ((with_reducible refine vb_i (add64 ?_ ?_) ?_); (· omega); (· omega))
        have e3 : ((((atsN q).drop (32 * j)).take t).map (beB 2)).flatten ++ beB 2 p.pos.toNat = ((((atsN q).drop (32 * j)).take (t + 1)).map (beB 2)).flatten := by
          rw [hst]; simp
        rw [e3, show 32 * (j : Int) + (t : Int) + 1 = 32 * (j : Int) + ((t + 1 : Nat) : Int) by omega]
        exact hk' (t + 1) _ ⟨⟨by omega, by omega⟩, hs⟩ (by omega)
      · repeat first
        | with_reducible refine onE_i ?_
        try simp only [evB]
        have e4 : ((atsN q).drop (32 * j)).take t = ((atsN q).drop (32 * j)).take 32 := by
          by_cases h32 : t = 32
          · rw [h32]
          · rw [List.take_of_length_le (by rw [List.length_drop, hal]; omega), List.take_of_length_le (by rw [List.length_drop, hal]; omega)]
        rw [e4]
        refine cb_i _ _ ⟨_, 64, rfl, by decide, rfl, rfl⟩ ?_
        rw [show full ((((atsN q).drop (32 * j)).take 32).map (beB 2)).flatten 64 = rowB (((atsN q).drop (32 * j)).take 32) from rfl]
        refine s_push (es := 1) (m := 1) (xs := strs [rowB (((atsN q).drop (32 * j)).take 32)]) hs rfl (by decide) rfl rfl (by unfold room; omega) (by unfold room; omega) fun out' C7 hs => ?_
        repeat first
        | ((with_reducible refine vb_i (add64 ?_ ?_) ?_); (· omega); (· omega))
        rw [show 32 * (j : Int) + 32 = 32 * ((j + 1 : Nat) : Int) by omega]
        refine hk (out', j + 1) _ ⟨by show j + 1 ≤ _; omega, ?_⟩ (by show _ - (j + 1) < _ - j; omega)
        rw [show (List.range (j + 1)).map (fun k => ((atsN q).drop (32 * k)).take 32) = (List.range j).map (fun k => ((atsN q).drop (32 * k)).take 32) ++ [((atsN q).drop (32 * j)).take 32] by rw [List.range_succ, List.map_append]; rfl]
        simpa [strs, Nat.add_assoc] using hs
    obtain rfl : j = (q.puts.length + 31) / 32 := by omega
    repeat first
    | ((with_reducible refine isB_cf ?_ ?_); (· omega))
    | with_reducible refine onE_i ?_
    try simp only [evB]
    rw [show ((List.range ((q.puts.length + 31) / 32)).map fun k => ((atsN q).drop (32 * k)).take 32).map rowB = headsR (atsN q) by unfold headsR rowsN; rw [hal]] at hs
    have hhl : (headsR (atsN q)).length = (q.puts.length + 31) / 32 := by simp [headsR, rowsN, hal]
    refine LoopP.ruleG (α := AVal × Nat) (fun a => [a.1, .int .i64 (a.2 : Int)])
      (fun a C => a.2 ≤ q.puts.length ∧ Sep B (fun _ => False) C [.sl a.1 1 (1 + (q.puts.length + 31) / 32 + a.2) (strs (full (hdR q) 64 :: headsR (atsN q) ++ (q.puts.take a.2).map Pt.b)), .obj i (.cells 0 .exact (rcells q x))]) (fun a => q.puts.length - a.2) (out, 0) (by simp)
      ⟨Nat.zero_le _, by simpa using hs⟩ ?_
    clear hs hv'
    rintro ⟨sv, j⟩ C Kn ⟨hj, hs⟩ hk
    simp only at hj hs
    unfold cellaretref13_Lay.L12 cellaretref13_Lay.L12.b
    try simp only [evB]
    have hv' := hs.rv hv
    repeat first
    | ((with_reducible apply vb_rec33); (· exact hs.g1); (· assumption))
    | with_reducible refine vb_i (lss64 _ _ _) ?_
    | with_reducible refine vb_i (e_fieldAddr _ _) ?_
    | ((with_reducible apply vb_len); (· first | exact hs.o0.view | exact hs.o1.view | exact hs.o2.view | exact hs.o3.view | exact hs.o4.view | exact hs.o5.view | exact hs.o6.view | exact hs.rv hv | exact hs.rv hv2 | exact hs.rv hv3 | exact hs.rv hv4 | exact hs.view hkv hko | assumption))
    by_cases hjn : j < q.puts.length
    · have hb := List.getElem?_eq_getElem hjn
      have ht : (q.puts.take (j + 1)).map Pt.b = (q.puts.take j).map Pt.b ++ [q.puts[j].b] := by
        rw [List.take_succ_eq_append_getElem hjn, List.map_append]; rfl
      generalize q.puts[j] = p at hb ht
      repeat first
      | ((with_reducible apply vb_rec33); (· exact hs.g1); (· assumption))
      | ((with_reducible refine isB_ct ?_ ?_); (· omega))
      | with_reducible refine vb_i (e_fieldAddr _ _) ?_
      | ((with_reducible apply vb_addrN); (· first | exact hs.o0.view | exact hs.o1.view | exact hs.o2.view | exact hs.o3.view | exact hs.o4.view | exact hs.o5.view | exact hs.o6.view | exact hs.rv hv | exact hs.rv hv2 | exact hs.rv hv3 | exact hs.rv hv4 | exact hs.view hkv hko | assumption); (· omega))
      refine vb_i (el_ld1 ptc_len hv' hb rfl) ?_
      refine s_push (es := 1) (m := 1) (xs := strs [p.b]) hs rfl (by decide) rfl rfl (by unfold room; omega) (by unfold room; omega) fun s' _ hs => ?_
      repeat first
      | ((with_reducible refine vb_i (add64 ?_ ?_) ?_); (· omega); (· omega))
      refine hk (s', j + 1) _ ⟨by show j + 1 ≤ _; omega, ?_⟩ (by show q.puts.length - (j + 1) < q.puts.length - j; omega)
      rw [ht]
      simpa [strs, Nat.add_assoc] using hs
    obtain rfl : j = q.puts.length := by omega
    repeat first
    | ((with_reducible refine isB_cf ?_ ?_); (· omega))
    | with_reducible refine onE_i ?_
    try simp only [evB]
    rw [List.take_length] at hs
    refine fin_ret (rvs_v (rvs_nil _)) ⟨hs.pre fun _ x => x, ?_⟩
    have hs := hs.f1.tail
    rw [show (layR q).length = 1 + (q.puts.length + 31) / 32 + q.puts.length by simp [layR, hhl]; omega]
    exact hs)
  exact ⟨r, C, h, k⟩
end
end Go.Sh

/- What blocks begin with: the head, and one Put. -/
namespace Go.Sh
open Go Go.Abs

def headOk (s : List UInt8) : Prop := s.length = 64 ∧ s.take 2 = [114, 99] ∧ s.drop 40 = zs 24
instance (s : List UInt8) : Decidable (headOk s) := by unfold headOk; infer_instance
def seqOf (s : List UInt8) : Nat := numB ((s.take 6).drop 2)
def cntOf (s : List UInt8) : Nat := numB ((s.take 8).drop 6)
def rootOf (s : List UInt8) : List UInt8 := (s.take 40).drop 8
def posOf (t : List UInt8) (i : Nat) : Nat := numB ((t.take (2 * (i % 32) + 2)).drop (2 * (i % 32)))
section
variable {H0 B : AHeap} {own : Nat → Prop} {R : List Part}
theorem rcells_seq {q : Rcd} {y : AVal} {n : Int} : (rcells q y).set 0 (.int .i64 n) = rcells { q with seq := n } y := rfl
theorem rcells_root {q : Rcd} {y : AVal} {s : List UInt8} (h : q.root.length = 32) (hs : s.length = 32) : splice (rcells q y) 1 (s.map ofByte) = rcells { q with root := s } y := by
  unfold splice rcells
  simp [h, hs]
theorem rcells_puts {q : Rcd} {y z : AVal} {l : List Pt} (h : q.root.length = 32) : (rcells q y).set 33 z = rcells { q with puts := l } z := by
  unfold rcells
  rw [List.set_cons_succ, List.set_append_right _ _ (by simp [h])]
  simp [h]
theorem s_copy32 {i : Nat} {cs : List AVal} {s : List UInt8} {K : AVal → AHeap → Prop} (h : Sep H0 own B (.obj i (.cells 0 .exact cs) :: R)) (hs : s.length = 32) (hl : cs.length = 34)
    (k : ∀ C, Sep H0 own C (.obj i (.cells 0 .exact (splice cs 1 (s.map ofByte))) :: R) → K (.int .i64 32) C) : hb (aCopy B 1 (.slice ⟨i, 0, 1⟩ 32 (.ex 32)) (.str s)) K := by
  have e : aCopy B 1 (.slice ⟨i, 0, 1⟩ 32 (.ex 32)) (.str s) = some (.int .i64 32, B.set i (.cells 0 .exact (splice cs 1 (s.map ofByte)))) := by
    have h1 : srcLen (.str s) = some 32 := by simp [srcLen, hs]
    have h2 : srcCells B 1 32 (.str s) = some (s.map ofByte) := by simp [srcCells, ← hs]
    have h3 := wr_of (H := B) (r := ⟨i, 0, 1⟩) (xs := s.map ofByte) h.g0 rfl (by decide) (by simp [hs, hl]) (cells_byte s)
    unfold aCopy
    simp only [h1, Nat.min_self, h2, h3]
    rfl
  rw [e]
  exact k _ (h.set _)
theorem first_bad {p : AVal} {s : List UInt8} (hb : ¬ headOk s) : ∃ C, S_record_first [.str s, p] B (.int .i64 (-1)) C ∧ B <+: C := by
  obtain ⟨r, C, h, rfl, k⟩ := record_first.out (x0 := .str s) (x1 := p) (H := B) (Q := fun r C => r = .int .i64 (-1) ∧ B <+: C) (by
    unfold record_first.w
    have hs : Sep B (fun _ => False) B [] := Sep.start B
    refine JoinP.mk (fun e vs C => e = .ret ∧ vs = [.int .i64 (-1)] ∧ B <+: C) ?_ ?_
    · repeat first
      | with_reducible refine vb_i (neq64 _ _ _) ?_
      | with_reducible refine vb_i (e_lenSt _) ?_
      refine isB_c (fun h1 => ?_) (fun h1 => ?_)
      · exact ⟨rfl, rfl, List.prefix_refl _⟩
      have h1 : s.length = 64 := by omega
      refine vb_i (e_sliceStrTo (by decide) (by rw [h1]; decide)) ?_
      repeat first
      | with_reducible refine vb_i (neqs _ _) ?_
      refine isB_c (fun h2 => ?_) (fun h2 => ?_)
      · exact ⟨rfl, rfl, List.prefix_refl _⟩
      have h2 := Decidable.not_not.1 h2
      refine vb_i (e_sliceStrFrom (by decide) (by rw [h1]; decide)) ?_
      refine s_make (n := 24) hs rfl rfl (by decide) (by decide) fun sv C _ _ hs => ?_
      rw [fill_zs] at hs
      refine vb_i (bytes_str hs.o0.view) ?_
      repeat first
      | with_reducible refine vb_i (neqs _ _) ?_
      refine isB_c (fun h3 => ?_) (fun h3 => ?_)
      · exact ⟨rfl, rfl, hs.pre fun _ x => x⟩
      exact (hb ⟨h1, h2, Decidable.not_not.1 h3⟩).elim
    rintro e vs C ⟨rfl, rfl, hp⟩
    repeat first
    | with_reducible refine onE_i ?_
    | ((with_reducible refine onE_s ?_ ?_); (· decide))
    try simp only [evB]
    exact fin_ret (rvs_v (rvs_nil _)) ⟨rfl, hp⟩)
  exact ⟨C, h, k⟩
theorem first_good {p : Nat} {q : Rcd} {y : AVal} {s : List UInt8} (h0 : Sep H0 own B (.obj p (.cells 0 .exact (rcells q y)) :: R)) (hr : q.root.length = 32) (hb : headOk s) :
    ∃ C, S_record_first [.str s, .ptr ⟨p, 0, 0⟩] B (.int .i64 (if 64 < cntOf s then -1 else (cntOf s : Int))) C ∧ Sep H0 own C (.obj p (.cells 0 .exact (rcells ⟨seqOf s, rootOf s, q.puts⟩ y)) :: R) := by
  obtain ⟨h1, h2, h3⟩ := hb
  obtain ⟨r, C, h, rfl, k⟩ := record_first.out (x0 := .str s) (x1 := .ptr ⟨p, 0, 0⟩) (H := B)
    (Q := fun r C => r = .int .i64 (if 64 < cntOf s then -1 else (cntOf s : Int)) ∧ Sep H0 own C (.obj p (.cells 0 .exact (rcells ⟨seqOf s, rootOf s, q.puts⟩ y)) :: R)) (by
    unfold record_first.w
    have hs := h0
    refine JoinP.mk (fun e vs C => e = .normal ∧ Sep H0 own C (.obj p (.cells 0 .exact (rcells q y)) :: R)) ?_ ?_
    · repeat first
      | ((with_reducible refine isB_cf ?_ ?_); (· omega))
      | with_reducible refine vb_i (neq64 _ _ _) ?_
      | with_reducible refine vb_i (e_lenSt _) ?_
      refine vb_i (e_sliceStrTo (by decide) (by rw [h1]; decide)) ?_
      rw [show (2 : Int).toNat = 2 from rfl, h2]
      repeat first
      | ((with_reducible refine isB_cf ?_ ?_); (· with_reducible exact not_not_intro rfl))
      | with_reducible refine vb_i (neqs _ _) ?_
      refine vb_i (e_sliceStrFrom (by decide) (by rw [h1]; decide)) ?_
      rw [show (40 : Int).toNat = 40 from rfl, h3]
      refine s_make (n := 24) hs rfl rfl (by decide) (by decide) fun sv C _ _ hs => ?_
      rw [fill_zs] at hs
      refine vb_i (bytes_str hs.o0.view) ?_
      repeat first
      | ((with_reducible refine isB_cf ?_ ?_); (· with_reducible exact not_not_intro rfl))
      | with_reducible refine vb_i (neqs _ _) ?_
      exact ⟨rfl, hs.tail⟩
    rintro e vs C ⟨rfl, hs⟩
    repeat first
    | with_reducible refine onE_i ?_
    refine vb_i (e_sliceStr (by decide) (by decide) (by rw [h1]; decide)) ?_
    obtain ⟨C2, hc, k⟩ := be_Get_spec (B := C) (s := (s.take 6).drop 2) (by intro e; have := congrArg List.length e; simp [h1] at this) (by simp [h1])
    refine cb_i _ _ hc ?_
    have hs := hs.quiet k
    repeat first
    | with_reducible refine vb_i e_ext0 ?_
    | with_reducible refine vb_i e_ext1 ?_
    | with_reducible refine vb_i (e_nilCheck _) ?_
    | with_reducible refine vb_i (e_fieldAddr _ _) ?_
    rw [show (numB ((s.take 6).drop 2) : Int) = (seqOf s : Int) from rfl]
    refine s_store1 hs rfl rfl (by rw [rcells_len hr]; show 0 + 0 < 34; omega) fun C3 hs => ?_
    rw [rcells_seq] at hs
    refine vb_i (e_sliceStr (by decide) (by decide) (by rw [h1]; decide)) ?_
    obtain ⟨C4, hc, k⟩ := be_Get_spec (B := C3) (s := (s.take 8).drop 6) (by intro e; have := congrArg List.length e; simp [h1] at this) (by simp [h1])
    refine cb_i _ _ hc ?_
    have hs := hs.quiet k
    rw [show (numB ((s.take 8).drop 6) : Int) = (cntOf s : Int) from rfl]
    repeat first
    | with_reducible refine vb_i e_ext0 ?_
    | with_reducible refine vb_i e_ext1 ?_
    | with_reducible refine vb_i (e_nilCheck _) ?_
    | with_reducible refine vb_i (e_fieldAddr _ _) ?_
    refine vb_i e_sliceArr32 ?_
    refine vb_i (e_sliceStr (by decide) (by decide) (by rw [h1]; decide)) ?_
    refine s_copy32 hs (s := (s.take 40).drop 8) (by simp [h1]) (rcells_len hr) fun C5 hs => ?_
    rw [rcells_root (q := ⟨seqOf s, q.root, q.puts⟩) hr (by simp [h1])] at hs
    repeat first
    | with_reducible refine vb_i (gtr64 _ _ _) ?_
    refine isB_c (fun h4 => ?_) (fun h4 => ?_)
    · refine fin_ret (rvs_v (rvs_nil _)) ⟨?_, hs⟩
      rw [if_pos (by omega)]; rfl
    · refine fin_ret (rvs_v (rvs_nil _)) ⟨?_, hs⟩
      rw [if_neg (by omega)]; rfl)
  exact ⟨C, h, k⟩
end
end Go.Sh

/- One Put that is read. -/
namespace Go.Sh
open Go Go.Abs

section
variable {H0 B : AHeap} {own : Nat → Prop} {R : List Part} {p bx bb i bodies : Nat} {q : Rcd} {y lv : AVal} {l : List (List UInt8)}
theorem put_bad (g : B[bx]? = some (.cells 0 .exact [lv])) (hv : View B lv 1 l.length (strs l)) (hi : i < 64) (h1 : 1 + i / 32 < l.length) (hb : (l.getD (1 + i / 32) []).length ≠ 64) (x2 x3 : AVal) :
    ∃ C, S_record_Parse_1 [.int .i64 i, .ptr ⟨bx, 0, 0⟩, x2, x3] B (.bool false) C ∧ B <+: C := by
  obtain ⟨r, C, h, rfl, k⟩ := record_Parse_1.out (x0 := .int .i64 i) (x1 := .ptr ⟨bx, 0, 0⟩) (x2 := x2) (x3 := x3) (H := B) (Q := fun r C => r = .bool false ∧ B <+: C) (by
    unfold record_Parse_1.w
    have hs : Sep B (fun _ => False) B [] := Sep.start B
    refine vb_ld g rfl ?_
    repeat first
    | ((with_reducible refine vb_i (add64 ?_ ?_) ?_); (· omega); (· omega))
    | ((with_reducible refine vb_i (quo64 ?_ ?_ ?_) ?_); (· omega); (· omega); (· omega))
    | ((with_reducible apply vb_addr); (· first | exact hs.o0.view | exact hs.o1.view | exact hs.o2.view | exact hs.o3.view | exact hs.o4.view | exact hs.o5.view | exact hs.o6.view | exact hs.rv hv | exact hs.rv hv2 | exact hs.rv hv3 | exact hs.rv hv4 | exact hs.view hkv hko | assumption); (· omega); (· omega))
    rw [show (1 + (i : Int) / 32).toNat = 1 + i / 32 by omega]
    refine vb_el0 hv (strs_at h1) ?_
    repeat first
    | ((with_reducible refine isB_ct ?_ ?_); (· omega))
    | with_reducible refine vb_i (neq64 _ _ _) ?_
    | with_reducible refine vb_i (e_lenSt _) ?_
    exact fin_ret (rvs_v (rvs_nil _)) ⟨rfl, List.prefix_refl _⟩)
  exact ⟨C, h, k⟩
theorem put_good (h0 : Sep H0 own B (.obj p (.cells 0 .exact (rcells q y)) :: .sl y 2 q.puts.length (flat ptc q.puts) :: .obj bx (.cells 0 .exact [lv]) :: .obj bb (.cells 0 .exact [.int .i64 bodies]) :: R))
    (hv : View B lv 1 l.length (strs l)) (hr : q.root.length = 32) (hq : q.puts.length ≤ 64) (hi : i < 64) (h1 : 1 + i / 32 < l.length) (h2 : bodies + i < l.length) (h3 : l.length ≤ 9223372036854775807)
    (hb : (l.getD (1 + i / 32) []).length = 64) :
    ∃ C, S_record_Parse_1 [.int .i64 i, .ptr ⟨bx, 0, 0⟩, .ptr ⟨p, 0, 0⟩, .ptr ⟨bb, 0, 0⟩] B (.bool true) C ∧
      ∃ y', Sep H0 own C (.obj p (.cells 0 .exact (rcells ⟨q.seq, q.root, q.puts ++ [⟨posOf (l.getD (1 + i / 32) []) i, l.getD (bodies + i) []⟩]⟩ y')) :: .sl y' 2 (q.puts.length + 1) (flat ptc (q.puts ++ [⟨posOf (l.getD (1 + i / 32) []) i, l.getD (bodies + i) []⟩])) ::
        .obj bx (.cells 0 .exact [lv]) :: .obj bb (.cells 0 .exact [.int .i64 bodies]) :: R) := by
  obtain ⟨r, C, h, rfl, k⟩ := record_Parse_1.out (x0 := .int .i64 i) (x1 := .ptr ⟨bx, 0, 0⟩) (x2 := .ptr ⟨p, 0, 0⟩) (x3 := .ptr ⟨bb, 0, 0⟩) (H := B)
    (Q := fun r C => r = .bool true ∧ ∃ y', Sep H0 own C (.obj p (.cells 0 .exact (rcells ⟨q.seq, q.root, q.puts ++ [⟨posOf (l.getD (1 + i / 32) []) i, l.getD (bodies + i) []⟩]⟩ y')) :: .sl y' 2 (q.puts.length + 1) (flat ptc (q.puts ++ [⟨posOf (l.getD (1 + i / 32) []) i, l.getD (bodies + i) []⟩])) ::
        .obj bx (.cells 0 .exact [lv]) :: .obj bb (.cells 0 .exact [.int .i64 bodies]) :: R)) (by
    unfold record_Parse_1.w
    have hs := h0
    refine vb_ld hs.g2 rfl ?_
    repeat first
    | ((with_reducible refine vb_i (add64 ?_ ?_) ?_); (· omega); (· omega))
    | ((with_reducible refine vb_i (quo64 ?_ ?_ ?_) ?_); (· omega); (· omega); (· omega))
    | ((with_reducible apply vb_addr); (· first | exact hs.o0.view | exact hs.o1.view | exact hs.o2.view | exact hs.o3.view | exact hs.o4.view | exact hs.o5.view | exact hs.o6.view | exact hs.rv hv | exact hs.rv hv2 | exact hs.rv hv3 | exact hs.rv hv4 | exact hs.view hkv hko | assumption); (· omega); (· omega))
    rw [show (1 + (i : Int) / 32).toNat = 1 + i / 32 by omega]
    refine vb_el0 hv (strs_at h1) ?_
    repeat first
    | ((with_reducible refine isB_cf ?_ ?_); (· omega))
    | with_reducible refine vb_i (neq64 _ _ _) ?_
    | ((with_reducible refine vb_i (add64 ?_ ?_) ?_); (· omega); (· omega))
    | ((with_reducible refine vb_i (mul64 ?_ ?_) ?_); (· omega); (· omega))
    | ((with_reducible refine vb_i (rem64 ?_ ?_) ?_); (· omega); (· omega))
    | with_reducible refine vb_i (e_lenSt _) ?_
    refine vb_i (e_sliceStr (by omega) (by omega) (by omega)) ?_
    rw [show (2 * ((i : Int) % 32) + 2).toNat = 2 * (i % 32) + 2 by omega, show (2 * ((i : Int) % 32)).toNat = 2 * (i % 32) by omega]
    obtain ⟨C2, hc, k⟩ := be_Get_spec (B := B) (s := ((l.getD (1 + i / 32) []).take (2 * (i % 32) + 2)).drop (2 * (i % 32))) (by
      intro e; have := congrArg List.length e; rw [List.length_drop, List.length_take, hb] at this; simp at this; omega) (by rw [List.length_drop, List.length_take, hb]; omega)
    refine cb_i _ _ hc ?_
    have hs := hs.quiet k
    have hv := hv.pre k
    rw [show (numB (((l.getD (1 + i / 32) []).take (2 * (i % 32) + 2)).drop (2 * (i % 32))) : Int) = (posOf (l.getD (1 + i / 32) []) i : Int) from rfl]
    repeat first
    | ((with_reducible apply vb_rec33); (· exact hs.g0); (· assumption))
    | with_reducible refine vb_i e_ext0 ?_
    | with_reducible refine vb_i e_ext1 ?_
    | ((with_reducible refine vb_i (add64 ?_ ?_) ?_); (· omega); (· omega))
    | with_reducible refine vb_i (e_fieldAddr _ _) ?_
    | ((with_reducible apply vb_ld); (· first | exact hs.g0 | exact hs.g1 | exact hs.g2 | exact hs.g3 | exact hs.g4 | exact hs.g5 | exact hs.g6 | exact hs.rd hg | exact hs.rd hg2 | exact hs.rd hg3 | exact hs.rd hg4 | assumption); (· rfl))
    | ((with_reducible apply vb_addr); (· first | exact hs.o0.view | exact hs.o1.view | exact hs.o2.view | exact hs.o3.view | exact hs.o4.view | exact hs.o5.view | exact hs.o6.view | exact hs.rv hv | exact hs.rv hv2 | exact hs.rv hv3 | exact hs.rv hv4 | exact hs.view hkv hko | assumption); (· omega); (· omega))
    rw [show ((bodies : Int) + (i : Int)).toNat = bodies + i by omega]
    refine vb_el0 hv (strs_at h2) ?_
    generalize posOf (l.getD (1 + i / 32) []) i = at_
    generalize l.getD (bodies + i) [] = b
    repeat first
    | ((with_reducible apply vb_bld); (· first | rfl | (simp only [evF, evS]; rfl)))
    refine s_push (es := 2) (m := 1) (xs := ptc ⟨at_, b⟩) hs.f1 rfl (by decide) rfl rfl (by unfold room; omega) (by unfold room; omega) fun y' C5 hs => ?_
    have hsc := hs.o0.sc
    refine vb_i (e_fieldAddr _ _) ?_
    refine s_store1 hs.f1 rfl hsc (by rw [rcells_len hr]; show 0 + 33 < 34; omega) fun C6 hs => ?_
    rw [show (⟨p, 0, 0⟩ : Ref).off + 33 = 33 from rfl, rcells_puts (l := q.puts ++ [⟨at_, b⟩]) hr] at hs
    refine fin_ret (rvs_v (rvs_nil _)) ⟨rfl, y', ?_⟩
    rw [flat_app, flat_one]
    exact hs)
  exact ⟨C, h, k⟩
end
end Go.Sh

/- What blocks begin with. -/
namespace Go.Sh
open Go Go.Abs

def zR : Rcd := ⟨0, zs 32, []⟩
def longN (n : Nat) : Nat := 1 + (n + 31) / 32 + n
def putsOf (l : List (List UInt8)) (n : Nat) : List Pt := (List.range n).map fun i => ⟨posOf (l.getD (1 + i / 32) []) i, l.getD (longN n - n + i) []⟩
def recOf (l : List (List UInt8)) : Rcd := ⟨seqOf (l.getD 0 []), rootOf (l.getD 0 []), putsOf l (cntOf (l.getD 0 []))⟩
def formOk (l : List (List UInt8)) (n : Nat) : Prop := (∀ i, i < n → (l.getD (1 + i / 32) []).length = 64) ∧ goodR (recOf l) = true ∧ layR (recOf l) = l.take (longN n)
instance (l : List (List UInt8)) (n : Nat) : Decidable (formOk l n) := by
  unfold formOk; infer_instance
def parseR (l : List (List UInt8)) : Rcd × Nat × Int :=
  if l.length = 0 then (zR, 0, 5)
  else if ¬ headOk (l.getD 0 []) ∨ 64 < cntOf (l.getD 0 []) then (zR, 0, 6)
  else if l.length < longN (cntOf (l.getD 0 [])) then (zR, 0, 5)
  else if formOk l (cntOf (l.getD 0 [])) then (recOf l, longN (cntOf (l.getD 0 [])), 0) else (zR, 0, 6)
theorem zcells : ([.int .i64 0, .int .u8 0, .int .u8 0, .int .u8 0, .int .u8 0, .int .u8 0, .int .u8 0, .int .u8 0, .int .u8 0, .int .u8 0, .int .u8 0, .int .u8 0, .int .u8 0, .int .u8 0, .int .u8 0, .int .u8 0, .int .u8 0, .int .u8 0, .int .u8 0, .int .u8 0, .int .u8 0, .int .u8 0, .int .u8 0, .int .u8 0, .int .u8 0, .int .u8 0, .int .u8 0, .int .u8 0, .int .u8 0, .int .u8 0, .int .u8 0, .int .u8 0, .int .u8 0, .nils] : List AVal) = rcells zR .nils := rfl
theorem View.defd {B : AHeap} {x : AVal} {es n : Nat} {cs : List AVal} (h : View B x es n cs) : x.defd = true := by
  obtain ⟨_, ⟨rfl, _⟩ | ⟨i, v, off, c, kd, cs', rfl, _⟩⟩ := h <;> rfl
theorem View.one {B : AHeap} {x : AVal} {es n : Nat} {cs : List AVal} (h : View B x es n cs) : x.cells = [x] := by
  obtain ⟨_, ⟨rfl, _⟩ | ⟨i, v, off, c, kd, cs', rfl, _⟩⟩ := h <;> rfl
theorem length_long {n : Nat} (h : n ≤ 64) : lengthR n = (longN n : Nat) := by
  unfold lengthR longN; rw [if_neg (by omega)]; omega
section
variable {H0 B C : AHeap} {own : Nat → Prop} {R : List Part} {v3 : Nat}
theorem rcells_all {q : Rcd} {y : AVal} (hy : y.isCell = true) : (rcells q y).all AVal.isCell = true := by
  unfold rcells
  rw [List.all_cons, List.all_append, cells_byte]
  simp [hy]; rfl
theorem s_zst {q : Rcd} {y : AVal} {K : AHeap → Prop} (h : Sep H0 own C (.obj v3 (.cells 0 .exact (rcells q y)) :: R)) (hr : q.root.length = 32) (k : ∀ C, Sep H0 own C (.obj v3 (.cells 0 .exact (rcells zR .nils)) :: R) → K C) :
    vb (aBuild [.int .i64 0, .int .u8 0, .int .u8 0, .int .u8 0, .int .u8 0, .int .u8 0, .int .u8 0, .int .u8 0, .int .u8 0, .int .u8 0, .int .u8 0, .int .u8 0, .int .u8 0, .int .u8 0, .int .u8 0, .int .u8 0, .int .u8 0, .int .u8 0, .int .u8 0, .int .u8 0, .int .u8 0, .int .u8 0, .int .u8 0, .int .u8 0, .int .u8 0, .int .u8 0, .int .u8 0, .int .u8 0, .int .u8 0, .int .u8 0, .int .u8 0, .int .u8 0, .int .u8 0, .nils] (fun k => ([(0, 1), (1, 32), (33, 1)] : List (Nat × Nat))[k]?) []) fun v => sb (aStore C 34 (.ptr ⟨v3, 0, 0⟩) v) K := by
  rw [zcells]
  refine vb_bld rfl ?_
  exact s_storeA h rfl (rcells_len rfl) (rcells_len hr) (rcells_all rfl) k
theorem parse_end {q : Rcd} {y : AVal} {n e : Int} {K : AVal → AHeap → Prop} (g : C[v3]? = some (.cells 0 .exact (rcells q y))) (hr : q.root.length = 32) (k : K (.tup [recV q y, .int .i64 n, .int .i64 e]) C) :
    fin .ret [.c true 34 (.ptr ⟨v3, 0, 0⟩), .v (.int .i64 n), .v (.int .i64 e)] C K :=
  fin_ret (rvs_c (e_loadAll g (rcells_len hr)) (rvs_v (rvs_v (rvs_nil _)))) k
/-- A record that reads so, and whose row is new. -/
def NewAt (B C : AHeap) (q : Rcd) (y : AVal) : Prop := q.root.length = 32 ∧ Sep B (fun _ => False) C [Part.vw y 2 q.puts.length (flat ptc q.puts)]
theorem NewAt.at {q : Rcd} {y : AVal} (h : NewAt B C q y) : RecAt C q y := ⟨h.1, h.2.head⟩
theorem newAt_zero (h : Sep B (fun _ => False) C R) : NewAt B C zR .nils :=
  ⟨rfl, (s_nils (Sep.drop (R1 := []) (R := R) h) 2).as rfl fun h => h.view⟩
theorem newAt_sl {q : Rcd} {y : AVal} {n : Nat} (h : Sep B (fun _ => False) C (.sl y 2 n (flat ptc q.puts) :: R)) (hr : q.root.length = 32) (hn : q.puts.length = n) : NewAt B C q y := by
  subst hn
  exact ⟨hr, (Sep.drop (R1 := [Part.sl y 2 q.puts.length (flat ptc q.puts)]) (R := R) h).as rfl fun h => h.view⟩
theorem putsOf_len (l : List (List UInt8)) (n : Nat) : (putsOf l n).length = n := by simp [putsOf]
theorem putsOf_step {l : List (List UInt8)} {n j : Nat} (h : j < n) : (putsOf l n).take (j + 1) = (putsOf l n).take j ++ [⟨posOf (l.getD (1 + j / 32) []) j, l.getD (longN n - n + j) []⟩] := by
  rw [List.take_succ_eq_append_getElem (by rw [putsOf_len]; exact h)]
  simp [putsOf]
theorem parse_spec {x : AVal} {l : List (List UInt8)} (hv : View B x 1 l.length (strs l)) (h3 : l.length ≤ 9223372036854775807) :
    ∃ y C, S_record_Parse [x] B (.tup [recV (parseR l).1 y, .int .i64 (parseR l).2.1, .int .i64 (parseR l).2.2]) C ∧ B <+: C ∧ NewAt B C (parseR l).1 y := by
  obtain ⟨r, C, h, y, rfl, k⟩ := record_Parse.out (x0 := x) (H := B) (Q := fun r C => ∃ y, r = .tup [recV (parseR l).1 y, .int .i64 (parseR l).2.1, .int .i64 (parseR l).2.2] ∧ B <+: C ∧ NewAt B C (parseR l).1 y) (by
    unfold record_Parse.w
    have hs : Sep B (fun _ => False) B [] := Sep.start B
    refine s_box hs (View.defd hv) fun bx C1 _ hs => ?_
    rw [View.one hv] at hs
    refine s_alloc hs fun v3 C2 _ hs => ?_
    refine s_alloc hs fun v5 C3 _ hs => ?_
    rw [zcells] at hs
    have bad : ∀ {C : AHeap} {R : List Part} (n : Nat) (e : Int), Sep B (fun _ => False) C (.obj v3 (.cells 0 .exact (rcells zR .nils)) :: R) → parseR l = (zR, n, e) →
        fin .ret [.c true 34 (.ptr ⟨v3, 0, 0⟩), .v (.int .i64 n), .v (.int .i64 e)] C fun r H' => B <+: H' ∧ ∃ y, r = .tup [recV (parseR l).1 y, .int .i64 (parseR l).2.1, .int .i64 (parseR l).2.2] ∧ B <+: H' ∧ NewAt B H' (parseR l).1 y := by
      intro C R n e hs he
      refine parse_end hs.g0 rfl ?_
      rw [he]
      exact ⟨hs.pre fun _ x => x, .nils, rfl, hs.pre fun _ x => x, newAt_zero hs⟩
    refine vb_ld hs.g2 rfl ?_
    refine vb_i (lenSl_view (hs.rv hv)) ?_
    by_cases hl0 : l.length = 0
    · rw [hl0]
      repeat first
      | ((with_reducible refine isB_ct ?_ ?_); (· omega))
      | with_reducible refine vb_i (eql64 _ _ _) ?_
      | ((with_reducible apply vb_ldA); (· first | exact hs.g0 | exact hs.g1 | exact hs.g2 | exact hs.g3 | exact hs.g4 | exact hs.g5 | exact hs.g6 | exact hs.rd hg | exact hs.rd hg2 | exact hs.rd hg3 | exact hs.rd hg4 | assumption); (· rfl))
      | ((with_reducible first | apply s_storeA hs | apply s_storeA hs.f1 | apply s_storeA hs.f2); (· rfl); (· first | rfl | assumption); (· first | rfl | assumption); (· first | rfl | assumption); intro _ hs)
      exact bad 0 5 hs (by unfold parseR; rw [if_pos hl0])
    repeat first
    | ((with_reducible refine isB_cf ?_ ?_); (· omega))
    | with_reducible refine vb_i (eql64 _ _ _) ?_
    | ((with_reducible apply vb_ld); (· first | exact hs.g0 | exact hs.g1 | exact hs.g2 | exact hs.g3 | exact hs.g4 | exact hs.g5 | exact hs.g6 | exact hs.rd hg | exact hs.rd hg2 | exact hs.rd hg3 | exact hs.rd hg4 | assumption); (· rfl))
    | ((with_reducible apply vb_addr); (· first | exact hs.o0.view | exact hs.o1.view | exact hs.o2.view | exact hs.o3.view | exact hs.o4.view | exact hs.o5.view | exact hs.o6.view | exact hs.rv hv | exact hs.rv hv2 | exact hs.rv hv3 | exact hs.rv hv4 | exact hs.view hkv hko | assumption); (· omega); (· omega))
    refine vb_el0 (hs.rv hv) (j := 0) (strs_at (l := l) (j := 0) (by omega)) ?_
    have bad1 : (¬ headOk (l.getD 0 []) ∨ 64 < cntOf (l.getD 0 [])) → parseR l = (zR, 0, 6) := fun h => by unfold parseR; rw [if_neg hl0, if_pos h]
    generalize hsd : l.getD 0 [] = s at *
    by_cases hb : ¬ headOk s
    · obtain ⟨C4, hc, k⟩ := first_bad (B := C3) (p := .ptr ⟨v5, 0, 0⟩) hb
      refine cb_i _ _ hc ?_
      have hs := hs.quiet k
      repeat first
      | ((with_reducible refine isB_ct ?_ ?_); (· omega))
      | with_reducible refine vb_i (lss64 _ _ _) ?_
      | ((with_reducible apply vb_bld); (· first | rfl | (simp only [evF, evS]; rfl)))
      | ((with_reducible first | apply s_storeA hs | apply s_storeA hs.f1 | apply s_storeA hs.f2); (· rfl); (· first | rfl | assumption); (· first | rfl | assumption); (· first | rfl | assumption); intro _ hs)
      exact bad 0 6 hs (bad1 (.inl hb))
    have hb := Decidable.not_not.1 hb
    obtain ⟨C4, hc, hs⟩ := first_good hs rfl hb
    refine cb_i _ _ hc ?_
    by_cases h64 : 64 < cntOf s
    · rw [if_pos h64]
      repeat first
      | ((with_reducible refine isB_ct ?_ ?_); (· omega))
      | with_reducible refine vb_i (lss64 _ _ _) ?_
      | ((with_reducible apply vb_bld); (· first | rfl | (simp only [evF, evS]; rfl)))
      | ((with_reducible first | apply s_storeA hs | apply s_storeA hs.f1 | apply s_storeA hs.f2); (· rfl); (· first | rfl | assumption); (· first | rfl | assumption); (· first | rfl | assumption); intro _ hs)
      exact bad 0 6 hs (bad1 (.inr h64))
    rw [if_neg h64]
    have h64 : cntOf s ≤ 64 := by omega
    obtain ⟨n, hn⟩ : ∃ n, cntOf s = n := ⟨_, rfl⟩
    have hp0 : parseR l = if l.length < longN n then (zR, 0, 5) else if formOk l n then (recOf l, longN n, 0) else (zR, 0, 6) := by
      unfold parseR
      rw [if_neg hl0, hsd, hn, if_neg (by rw [← hn]; exact fun h => h.elim (fun h => h hb) (fun h => by omega))]
    have hrec : recOf l = ⟨seqOf s, rootOf s, putsOf l n⟩ := by unfold recOf; rw [hsd, hn]
    rw [hn] at h64 ⊢
    repeat first
    | ((with_reducible refine isB_cf ?_ ?_); (· omega))
    | with_reducible refine vb_i (lss64 _ _ _) ?_
    obtain ⟨C5, hc, k⟩ := length_spec (B := C4) (n : Int)
    refine cb_i _ _ hc ?_
    have hs := hs.quiet k
    rw [length_long h64]
    have hln : longN n ≤ 67 + 64 := by unfold longN; omega
    refine vb_ld hs.g2 rfl ?_
    refine vb_i (lenSl_view (hs.rv hv)) ?_
    by_cases hlong : l.length < longN n
    · repeat first
      | ((with_reducible refine isB_ct ?_ ?_); (· omega))
      | with_reducible refine vb_i (lss64 _ _ _) ?_
      | ((with_reducible apply vb_bld); (· first | rfl | (simp only [evF, evS]; rfl)))
      | ((with_reducible first | apply s_storeA hs | apply s_storeA hs.f1 | apply s_storeA hs.f2); (· rfl); (· first | rfl | assumption); (· first | rfl | assumption); (· first | rfl | assumption); intro _ hs)
      exact bad 0 5 hs (by rw [hp0, if_pos hlong])
    rw [if_neg hlong] at hp0
    have hbod : (longN n : Int) - (n : Int) = ((longN n - n : Nat) : Int) := by unfold longN; omega
    refine vb_i (lss64 _ _ _) ?_
    refine isB_cf (by omega) ?_
    refine vb_i (sub64 (by omega) (by omega)) ?_
    rw [hbod]
    refine s_alloc hs fun bb C6 _ hs => ?_
    refine s_store1 hs rfl rfl (by decide) fun C7 hs => ?_
    simp only [List.set_cons_zero] at hs
    have hs := (s_nils hs.f3.f2 2).f1
    have hroot : (rootOf s).length = 32 := by simp [rootOf, hb.1]
    have hlj : ∀ j, j ≤ n → ((putsOf l n).take j).length = j := fun j hj => by rw [List.length_take, putsOf_len]; omega
    refine LoopP.ruleG (α := Nat) (fun j => [.int .i64 (j : Int)]) (fun j C => (j ≤ n ∧ ∀ i, i < j → (l.getD (1 + i / 32) []).length = 64) ∧ ∃ y, Sep B (fun _ => False) C [.obj v5 (.cells 0 .exact (rcells ⟨seqOf s, rootOf s, (putsOf l n).take j⟩ y)),
      .sl y 2 j (flat ptc ((putsOf l n).take j)), .obj bx (.cells 0 .exact [x]), .obj bb (.cells 0 .exact [.int .i64 (longN n - n : Nat)]), .obj v3 (.cells 0 .exact (rcells zR .nils))]) (fun j => n - j) 0 (by simp)
      ⟨⟨Nat.zero_le _, fun i hi => by omega⟩, .nils, hs⟩ ?_
    clear hs
    rintro j C Kn ⟨⟨hj, hall⟩, y, hs⟩ hk
    unfold record_Parse.L13 record_Parse.L13.b
    try simp only [evB]
    have hln2 : longN n = 1 + (n + 31) / 32 + n := rfl
    by_cases hjn : j < n
    · refine vb_i (lss64 _ _ _) ?_
      refine isB_ct (by omega) ?_
      by_cases h64j : (l.getD (1 + j / 32) []).length = 64
      · obtain ⟨C8, hc, y', hs⟩ := put_good (q := ⟨seqOf s, rootOf s, (putsOf l n).take j⟩) (R := [.obj v3 (.cells 0 .exact (rcells zR .nils))]) (bodies := longN n - n) (i := j) (by simpa only [hlj j hj] using hs) (hs.rv hv) hroot
          (by show ((putsOf l n).take j).length ≤ 64; rw [hlj j hj]; omega) (by omega) (by omega) (by omega) h3 h64j
        refine cb_i _ _ hc ?_
        simp only [hlj j hj, ← putsOf_step hjn] at hs
        refine vb_i (e_not _) ?_
        refine isB_Fa rfl ?_
        repeat first
        | ((with_reducible refine vb_i (add64 ?_ ?_) ?_); (· omega); (· omega))
        exact hk (j + 1) _ ⟨⟨by omega, fun i hi => by
          by_cases e : i = j
          · rw [e]; exact h64j
          · exact hall i (by omega)⟩, y', hs⟩ (by omega)
      · obtain ⟨C8, hc, k⟩ := put_bad (B := C) (i := j) hs.g2 (hs.rv hv) (by omega) (by omega) h64j (.ptr ⟨v5, 0, 0⟩) (.ptr ⟨bb, 0, 0⟩)
        refine cb_i _ _ hc ?_
        have hs := hs.quiet k
        refine vb_i (e_not _) ?_
        refine isB_Tr rfl ?_
        refine s_zst hs.f4 rfl fun C9 hs => ?_
        refine onE_s (by decide) (onE_i ?_)
        try simp only [evB]
        exact bad 0 6 hs (by rw [hp0, if_neg (fun hf => h64j (hf.1 j hjn))])
    obtain rfl : j = n := by omega
    refine vb_i (lss64 _ _ _) ?_
    refine isB_cf (by omega) ?_
    refine onE_i ?_
    try simp only [evB]
    have hta : (putsOf l j).take j = putsOf l j := List.take_of_length_le (by rw [putsOf_len]; omega)
    rw [hta] at hs
    refine vb_recA hs.g0 hroot rfl ?_
    have hat : RecAt C ⟨seqOf s, rootOf s, putsOf l j⟩ y := ⟨hroot, by
      have := hs.o1.view
      show View C y 2 (putsOf l j).length _
      rw [putsOf_len]; exact this⟩
    have hok : formOk l j ↔ goodR ⟨seqOf s, rootOf s, putsOf l j⟩ = true ∧ layR ⟨seqOf s, rootOf s, putsOf l j⟩ = l.take (longN j) := by
      unfold formOk; rw [hrec]; exact ⟨fun h => h.2, fun h => ⟨hall, h⟩⟩
    have close : ∀ {D : AHeap} {e : AExit} {vs : List AVal}, ((e = .ret ∧ vs = [.int .i64 0, .int .i64 6] ∧ ¬ formOk l j ∧ ∃ R, Sep B (fun _ => False) D (.obj v3 (.cells 0 .exact (rcells zR .nils)) :: R)) ∨
        (e = .normal ∧ formOk l j ∧ Sep B (fun _ => False) D [.obj v5 (.cells 0 .exact (rcells ⟨seqOf s, rootOf s, putsOf l j⟩ y)), .sl y 2 j (flat ptc (putsOf l j)), .obj bx (.cells 0 .exact [x]), .obj bb (.cells 0 .exact [.int .i64 (longN j - j : Nat)]), .obj v3 (.cells 0 .exact (rcells zR .nils))])) →
        onE e .normal (vb (aLoad D true 34 (.ptr ⟨v5, 0, 0⟩)) fun v70 => sb (aStore D 34 (.ptr ⟨v3, 0, 0⟩) v70) fun H71 => fin .ret [.c true 34 (.ptr ⟨v3, 0, 0⟩), .v (.int .i64 (longN j : Nat)), .v (.int .i64 0)] H71 fun r H' => B <+: H' ∧ ∃ y, r = .tup [recV (parseR l).1 y, .int .i64 (parseR l).2.1, .int .i64 (parseR l).2.2] ∧ B <+: H' ∧ NewAt B H' (parseR l).1 y)
          (onE e .ret (fin .ret [.c true 34 (.ptr ⟨v3, 0, 0⟩), .v (vs.getD 0 .undef), .v (vs.getD 1 .undef)] D fun r H' => B <+: H' ∧ ∃ y, r = .tup [recV (parseR l).1 y, .int .i64 (parseR l).2.1, .int .i64 (parseR l).2.2] ∧ B <+: H' ∧ NewAt B H' (parseR l).1 y) False) := by
      rintro D e vs (⟨rfl, rfl, hf, R, hs⟩ | ⟨rfl, hf, hs⟩)
      · refine onE_s (by decide) (onE_i ?_)
        exact bad 0 6 hs (by rw [hp0, if_neg hf])
      · refine onE_i ?_
        have hv2 := hs.o1.view
        refine vb_recA hs.g0 hroot rfl ?_
        refine s_storeA hs.f4 rfl (rcells_len hroot) (rcells_len rfl) (rcells_all (by
          obtain ⟨_, ⟨rfl, _⟩ | ⟨i, v, off, c, kd, cs', rfl, _⟩⟩ := hv2 <;> rfl)) fun D2 hs => ?_
        refine parse_end hs.g0 hroot ?_
        rw [hp0, if_pos hf, hrec]
        exact ⟨hs.pre fun _ x => x, y, rfl, hs.pre fun _ x => x, newAt_sl (q := ⟨seqOf s, rootOf s, putsOf l j⟩) hs.f2 hroot (putsOf_len l j)⟩
    by_cases hg : goodR ⟨seqOf s, rootOf s, putsOf l j⟩ = true
    · obtain ⟨r', C8, hc, hlay⟩ := lay_good hat (by show (putsOf l j).length ≤ 64; rw [putsOf_len]; exact h64) hg
      refine cb_i _ _ hc ?_
      have hs := hs.quiet (hlay.pre fun _ x => x)
      refine vb_i e_ext0 ?_
      refine vb_i e_ext1 ?_
      refine JoinP.mk _ ?_ fun e vs D h => close h
      refine vb_i (neq64 _ _ _) ?_
      refine isB_cf (by decide) ?_
      refine vb_ld hs.g2 rfl ?_
      obtain ⟨x', e1, hvx, _⟩ := slice_view (l := none) (h := some (.int .i64 (longN j : Nat))) (lo := 0) (hi := longN j) (hs.rv hv) rfl (by rw [bnd_int (by omega), Int.toNat_natCast]) (Nat.zero_le _) (by omega)
      refine vb_i e1 ?_
      have hvx : View C8 x' 1 (l.take (longN j)).length (strs (l.take (longN j))) := by
        have e2 : (l.take (longN j)).length = longN j - 0 := by rw [List.length_take]; omega
        rw [e2]
        have e3 : ((strs l).drop (0 * 1)).take ((longN j - 0) * 1) = strs (l.take (longN j)) := by simp [strs, List.map_take]
        rw [e3] at hvx
        exact hvx
      obtain ⟨C9, hc, k⟩ := equal_strs hlay.o0.view hvx (by
        have : (layR ⟨seqOf s, rootOf s, putsOf l j⟩).length ≤ 4096 := by simp [layR, headsR, rowsN, atsN, putsOf_len]; omega
        omega)
      refine cb_i _ _ hc ?_
      have hs := hs.quiet k
      refine vb_i e_notd ?_
      refine isB_c (fun h1 => ?_) (fun h1 => ?_)
      · refine s_zst hs.f4 rfl fun C10 hs => ?_
        exact .inl ⟨rfl, rfl, fun hf => h1 (hok.1 hf).2, _, hs⟩
      · exact .inr ⟨rfl, hok.2 ⟨hg, Decidable.not_not.1 h1⟩, hs⟩
    · have he : checkE ⟨seqOf s, rootOf s, putsOf l j⟩ = 2 := by
        unfold checkE; rw [if_neg (by show ¬ 64 < (putsOf l j).length; rw [putsOf_len]; omega), if_neg hg]
      obtain ⟨C8, hc, k⟩ := lay_bad hat (by show (putsOf l j).length ≤ _; rw [putsOf_len]; omega) (by rw [he]; decide)
      refine cb_i _ _ hc ?_
      have hs := hs.quiet k
      rw [he]
      refine vb_i e_ext0 ?_
      refine vb_i e_ext1 ?_
      refine JoinP.mk _ ?_ fun e vs D h => close h
      refine vb_i (neq64 _ _ _) ?_
      refine isB_ct (by decide) ?_
      refine s_zst hs.f4 rfl fun C9 hs => ?_
      exact .inl ⟨rfl, rfl, fun hf => hg (hok.1 hf).1, _, hs⟩)
  exact ⟨y, C, h, k⟩
end
end Go.Sh

/- What Go functions come to over abstract values, printed by a program (wx.py); of each function its own text is what is told of it. -/
namespace Go.Sh
open Go Go.Abs

def cellaretlaw13_awake.w (H : AHeap) (K : AVal → AHeap → Prop) : Prop :=
  cb (S_cellaretref01_Full [.str [97], .int .i64 64] H) fun v1 H2 =>
  vb (aBuild [.int .i64 0, .str []] (fun k => ([(0, 1), (1, 1)] : List (Nat × Nat))[k]?) [(0, .int .i64 161), (1, v1)]) fun v3 =>
  cb (S_cellaretref01_Full [.str [98], .int .i64 64] H2) fun v4 H5 =>
  vb (aBuild [.int .i64 0, .str []] (fun k => ([(0, 1), (1, 1)] : List (Nat × Nat))[k]?) [(0, .int .i64 200), (1, v4)]) fun v6 =>
  hb (aBuildSlice H5 2 [.int .i64 0, .str []] 2 [(0, v3), (1, v6)]) fun v7 H8 =>
  vb (aBuild [.int .i64 0, .int .u8 0, .int .u8 0, .int .u8 0, .int .u8 0, .int .u8 0, .int .u8 0, .int .u8 0, .int .u8 0, .int .u8 0, .int .u8 0, .int .u8 0, .int .u8 0, .int .u8 0, .int .u8 0, .int .u8 0, .int .u8 0, .int .u8 0, .int .u8 0, .int .u8 0, .int .u8 0, .int .u8 0, .int .u8 0, .int .u8 0, .int .u8 0, .int .u8 0, .int .u8 0, .int .u8 0, .int .u8 0, .int .u8 0, .int .u8 0, .int .u8 0, .int .u8 0, .nils] (fun k => ([(0, 1), (1, 32), (33, 1)] : List (Nat × Nat))[k]?) [(0, .int .i64 7), (2, v7)]) fun v9 =>
  hb (aAlloc H8 [.int .i64 0, .int .u8 0, .int .u8 0, .int .u8 0, .int .u8 0, .int .u8 0, .int .u8 0, .int .u8 0, .int .u8 0, .int .u8 0, .int .u8 0, .int .u8 0, .int .u8 0, .int .u8 0, .int .u8 0, .int .u8 0, .int .u8 0, .int .u8 0, .int .u8 0, .int .u8 0, .int .u8 0, .int .u8 0, .int .u8 0, .int .u8 0, .int .u8 0, .int .u8 0, .int .u8 0, .int .u8 0, .int .u8 0, .int .u8 0, .int .u8 0, .int .u8 0, .int .u8 0, .nils]) fun v10 H11 =>
  sb (aStore H11 34 v10 v9) fun H12 =>
  vb (aLoad H12 true 34 v10) fun v13 =>
  cb (S_record_Lay [v13] H12) fun v14 H15 =>
  vb (aExtract v14 0) fun v16 =>
  vb (aExtract v14 1) fun v17 =>
  cb (S_record_Parse [v16] H15) fun v18 H19 =>
  vb (aExtract v18 0) fun v20 =>
  vb (aExtract v18 1) fun v21 =>
  vb (aExtract v18 2) fun v22 =>
  hb (aAlloc H19 [.int .i64 0, .int .u8 0, .int .u8 0, .int .u8 0, .int .u8 0, .int .u8 0, .int .u8 0, .int .u8 0, .int .u8 0, .int .u8 0, .int .u8 0, .int .u8 0, .int .u8 0, .int .u8 0, .int .u8 0, .int .u8 0, .int .u8 0, .int .u8 0, .int .u8 0, .int .u8 0, .int .u8 0, .int .u8 0, .int .u8 0, .int .u8 0, .int .u8 0, .int .u8 0, .int .u8 0, .int .u8 0, .int .u8 0, .int .u8 0, .int .u8 0, .int .u8 0, .int .u8 0, .nils]) fun v23 H24 =>
  sb (aStore H24 34 v23 v20) fun H25 =>
  vb (aBin .eql v17 (.int .i64 0)) fun v26 =>
  isB v26 fun b27 => cond b27
    (vb (aBin .eql v22 (.int .i64 0)) fun v28 =>
      isB v28 fun b29 => cond b29
        (vb (lenSl v16) fun v30 =>
          vb (aBin .eql v30 (.int .i64 4)) fun v31 =>
            isB v31 fun b32 => cond b32
              (vb (aBin .eql v21 (.int .i64 4)) fun v33 =>
                isB v33 fun b34 => cond b34
                  (vb (aLoad H25 true 34 v10) fun v35 =>
                  vb (aLoad H25 true 34 v23) fun v36 =>
                    cb (S_record_Same [v35, v36] H25) fun v37 H38 =>
                      isB v37 fun b39 => cond b39
                        (cb (S_record_Length [.int .i64 33] H38) fun v40 H41 =>
                        vb (aBin .eql v40 (.int .i64 36)) fun v42 =>
                          fin .ret [.v (v42)] H41 K)
                        (fin .ret [.v (.bool false)] H38 K))
                  (fin .ret [.v (.bool false)] H25 K))
              (fin .ret [.v (.bool false)] H25 K))
        (fin .ret [.v (.bool false)] H25 K))
    (fin .ret [.v (.bool false)] H25 K)

def S_cellaretlaw13_awake : Abs.Spec := fun args H r H' => args = [] ∧ (cellaretlaw13_awake.w H fun r1 H1 => r1 = r ∧ H1 = H') ∧ H <+: H'
theorem cellaretlaw13_awake.ok (args : List AVal) (H : AHeap) (r : AVal) (H' : AHeap) (h : S_cellaretlaw13_awake args H r H') : args = [] ∧ cellaretlaw13_awake.w H fun r1 H1 => r1 = r ∧ H1 = H' := by
  obtain ⟨h1, h2, _⟩ := h
  exact ⟨h1, h2⟩
theorem cellaretlaw13_awake.quiet {args : List AVal} {H : AHeap} {r : AVal} {H' : AHeap} (h : S_cellaretlaw13_awake args H r H') : H <+: H' := by
  obtain ⟨_, _, h⟩ := h
  exact h
set_option maxRecDepth 100000 in
theorem cellaretlaw13_awake.ex (H : AHeap) : Ex fun K : AVal × AHeap → Prop => cellaretlaw13_awake.w H fun r H => K (r, H) := by
  unfold cellaretlaw13_awake.w
  repeat with_reducible first
    | exact Ex.pt _
    | exact Ex.fin
    | exact Ex.no
    | refine Ex.vb fun _ => ?_
    | refine Ex.hb fun _ _ => ?_
    | refine Ex.sb fun _ => ?_
    | refine Ex.cb fun _ _ => ?_
    | refine Ex.isB fun _ => ?_
    | refine Ex.cond ?_ ?_
    | refine Ex.onE ?_ ?_
    | refine Ex.join ?_ fun _ _ _ => ?_
    | refine Ex.loop (fun _ _ => ?_) fun _ _ _ => ?_

theorem cellaretlaw13_awake.out {H : AHeap} {Q : AVal → AHeap → Prop} (h : cellaretlaw13_awake.w H fun r H' => H <+: H' ∧ Q r H') : ∃ r H', S_cellaretlaw13_awake [] H r H' ∧ Q r H' := by
  obtain ⟨r, H', h1, h2⟩ := (cellaretlaw13_awake.ex H).out h
  exact ⟨r, H', ⟨rfl, h1, h2.1⟩, h2.2⟩

def cellaretlaw13_RecordLays.w (x0 : AVal) (x1 : AVal) (H : AHeap) (K : AVal → AHeap → Prop) : Prop :=
  hb (aBox H x0) fun v1 H2 =>
  vb (aLoad H2 true 34 v1) fun v3 =>
  cb (S_cellaretlaw13_light [v3] H2) fun v4 H5 =>
  vb (aUn .not v4) fun v6 =>
  isB v6 fun b7 => cond b7
    (cb (S_cellaretlaw13_awake [] H5) fun v8 H9 =>
    fin .ret [.v (v8)] H9 K)
    (vb (aLoad H5 true 34 v1) fun v10 =>
    cb (S_record_Lay [v10] H5) fun v11 H12 =>
    vb (aExtract v11 0) fun v13 =>
    vb (aExtract v11 1) fun v14 =>
    vb (aLoad H12 true 34 v1) fun v15 =>
    cb (S_record_Check [v15] H12) fun v16 H17 =>
    cb (S_record_Length [x1] H17) fun v18 H19 =>
    JoinP (fun Kj20 => vb (aBin .lss x1 (.int .i64 0)) fun v21 =>
      isB v21 fun b22 => cond b22
        (vb (aBin .neq v18 (.int .i64 0)) fun v23 =>
          isB v23 fun b24 => cond b24
            (Kj20 .ret [.bool false] H19)
            (Kj20 .normal [.bool false] H19))
        (vb (aBin .gtr x1 (.int .i64 64)) fun v25 =>
          isB v25 fun b26 => cond b26
            (vb (aBin .neq v18 (.int .i64 0)) fun v27 =>
            isB v27 fun b28 => cond b28
              (Kj20 .ret [.bool false] H19)
              (Kj20 .normal [.bool false] H19))
            (vb (aBin .add (.int .i64 1) x1) fun v29 =>
            vb (aBin .add x1 (.int .i64 31)) fun v30 =>
            vb (aBin .quo v30 (.int .i64 32)) fun v31 =>
            vb (aBin .add v29 v31) fun v32 =>
            vb (aBin .neq v18 v32) fun v33 =>
            isB v33 fun b34 => cond b34
              (Kj20 .ret [.bool false] H19)
              (Kj20 .normal [.bool false] H19))))
    (fun e35 vs36 H37 =>
      onE e35 .normal
        (vb (aFieldAddr 33 v1) fun v38 =>
        vb (aLoad H37 false 1 v38) fun v39 =>
        vb (lenSl v39) fun v40 =>
        vb (aBin .gtr v40 (.int .i64 64)) fun v41 =>
        isB v41 fun b42 => cond b42
          (cb (S_cellaretlaw13_awake [] H37) fun v43 H44 =>
          isB v43 fun b45 => cond b45
            (vb (lenSl v13) fun v46 =>
              vb (aBin .eql v46 (.int .i64 0)) fun v47 =>
                isB v47 fun b48 => cond b48
                  (vb (aBin .eql v14 (.int .i64 4)) fun v49 =>
                    isB v49 fun b50 => cond b50
                      (vb (aBin .eql v16 (.int .i64 4)) fun v51 =>
                        fin .ret [.v (v51)] H44 K)
                      (fin .ret [.v (.bool false)] H44 K))
                  (fin .ret [.v (.bool false)] H44 K))
            (fin .ret [.v (.bool false)] H44 K))
          (vb (aLoad H37 true 34 v1) fun v52 =>
          cb (S_cellaretref13_Right [v52] H37) fun v53 H54 =>
          vb (aUn .not v53) fun v55 =>
          isB v55 fun b56 => cond b56
            (cb (S_cellaretlaw13_awake [] H54) fun v57 H58 =>
            isB v57 fun b59 => cond b59
              (vb (lenSl v13) fun v60 =>
                vb (aBin .eql v60 (.int .i64 0)) fun v61 =>
                  isB v61 fun b62 => cond b62
                    (vb (aBin .eql v14 (.int .i64 2)) fun v63 =>
                      isB v63 fun b64 => cond b64
                        (vb (aBin .eql v16 (.int .i64 2)) fun v65 =>
                          fin .ret [.v (v65)] H58 K)
                        (fin .ret [.v (.bool false)] H58 K))
                    (fin .ret [.v (.bool false)] H58 K))
              (fin .ret [.v (.bool false)] H58 K))
            (cb (S_cellaretlaw13_awake [] H54) fun v66 H67 =>
            isB v66 fun b68 => cond b68
              (vb (aBin .eql v14 (.int .i64 0)) fun v69 =>
                isB v69 fun b70 => cond b70
                  (vb (aBin .eql v16 (.int .i64 0)) fun v71 =>
                    isB v71 fun b72 => cond b72
                      (vb (aLoad H67 true 34 v1) fun v73 =>
                        cb (S_cellaretref13_Lay [v73] H67) fun v74 H75 =>
                          cb (S_cellaretref01_Same [v13, v74] H75) fun v76 H77 =>
                            isB v76 fun b78 => cond b78
                              (vb (lenSl v13) fun v79 =>
                                vb (aFieldAddr 33 v1) fun v80 =>
                                  vb (aLoad H77 false 1 v80) fun v81 =>
                                    vb (lenSl v81) fun v82 =>
                                      cb (S_record_Length [v82] H77) fun v83 H84 =>
                                        vb (aBin .eql v79 v83) fun v85 =>
                                          fin .ret [.v (v85)] H84 K)
                              (fin .ret [.v (.bool false)] H77 K))
                      (fin .ret [.v (.bool false)] H67 K))
                  (fin .ret [.v (.bool false)] H67 K))
              (fin .ret [.v (.bool false)] H67 K))))
      (onE e35 .ret
        (fin .ret [.v (vs36.getD 0 .undef)] H37 K)
      (False))))

def S_cellaretlaw13_RecordLays : Abs.Spec := fun args H r H' => ∃ x0 x1 : AVal, args = [x0, x1] ∧ (cellaretlaw13_RecordLays.w x0 x1 H fun r1 H1 => r1 = r ∧ H1 = H') ∧ H <+: H'
theorem cellaretlaw13_RecordLays.ok (args : List AVal) (H : AHeap) (r : AVal) (H' : AHeap) (h : S_cellaretlaw13_RecordLays args H r H') : ∃ x0 x1 : AVal, args = [x0, x1] ∧ cellaretlaw13_RecordLays.w x0 x1 H fun r1 H1 => r1 = r ∧ H1 = H' := by
  obtain ⟨x0, x1, h1, h2, _⟩ := h
  exact ⟨x0, x1, h1, h2⟩
theorem cellaretlaw13_RecordLays.quiet {args : List AVal} {H : AHeap} {r : AVal} {H' : AHeap} (h : S_cellaretlaw13_RecordLays args H r H') : H <+: H' := by
  obtain ⟨_, _, _, _, h⟩ := h
  exact h
set_option maxRecDepth 100000 in
theorem cellaretlaw13_RecordLays.ex (x0 x1 : AVal) (H : AHeap) : Ex fun K : AVal × AHeap → Prop => cellaretlaw13_RecordLays.w x0 x1 H fun r H => K (r, H) := by
  unfold cellaretlaw13_RecordLays.w
  repeat with_reducible first
    | exact Ex.pt _
    | exact Ex.fin
    | exact Ex.no
    | refine Ex.vb fun _ => ?_
    | refine Ex.hb fun _ _ => ?_
    | refine Ex.sb fun _ => ?_
    | refine Ex.cb fun _ _ => ?_
    | refine Ex.isB fun _ => ?_
    | refine Ex.cond ?_ ?_
    | refine Ex.onE ?_ ?_
    | refine Ex.join ?_ fun _ _ _ => ?_
    | refine Ex.loop (fun _ _ => ?_) fun _ _ _ => ?_

theorem cellaretlaw13_RecordLays.out {x0 x1 : AVal} {H : AHeap} {Q : AVal → AHeap → Prop} (h : cellaretlaw13_RecordLays.w x0 x1 H fun r H' => H <+: H' ∧ Q r H') : ∃ r H', S_cellaretlaw13_RecordLays [x0, x1] H r H' ∧ Q r H' := by
  obtain ⟨r, H', h1, h2⟩ := (cellaretlaw13_RecordLays.ex x0 x1 H).out h
  exact ⟨r, H', ⟨_, _, rfl, h1, h2.1⟩, h2.2⟩

def cellaretlaw13_RecordOnly.w (x0 : AVal) (x1 : AVal) (x2 : AVal) (H : AHeap) (K : AVal → AHeap → Prop) : Prop :=
  hb (aBox H x1) fun v1 H2 =>
  hb (aBox H2 x2) fun v3 H4 =>
  JoinP (fun Kj5 => cb (S_cellaretlaw13_short [x0] H4) fun v6 H7 =>
    vb (aUn .not v6) fun v8 =>
    isB v8 fun b9 => cond b9
      (cb (S_cellaretlaw13_awake [] H7) fun v10 H11 =>
                Kj5 .ret [v10] H11)
      (vb (aLoad H7 true 34 v1) fun v12 =>
      cb (S_cellaretlaw13_light [v12] H7) fun v13 H14 =>
        vb (aUn .not v13) fun v15 =>
          isB v15 fun b16 => cond b16
            (cb (S_cellaretlaw13_awake [] H14) fun v17 H18 =>
                Kj5 .ret [v17] H18)
            (vb (aLoad H14 true 34 v3) fun v19 =>
            cb (S_cellaretlaw13_light [v19] H14) fun v20 H21 =>
              vb (aUn .not v20) fun v22 =>
                isB v22 fun b23 => cond b23
                  (cb (S_cellaretlaw13_awake [] H21) fun v24 H25 =>
                  Kj5 .ret [v24] H25)
                  (Kj5 .normal [.bool false] H21))))
  (fun e26 vs27 H28 =>
    onE e26 .normal
      (JoinP (fun Kj29 => vb (aLoad H28 true 34 v1) fun v30 =>
        vb (aLoad H28 true 34 v3) fun v31 =>
        cb (S_record_Same [v30, v31] H28) fun v32 H33 =>
        vb (aLoad H33 true 34 v1) fun v34 =>
        vb (aLoad H33 true 34 v3) fun v35 =>
        cb (S_cellaretref13_Same [v34, v35] H33) fun v36 H37 =>
        vb (aEql true .bool H37 v32 v36) fun v38 =>
        isB v38 fun b39 => cond b39
          (Kj29 .ret [.bool false] H37)
          (vb (aLoad H37 true 34 v1) fun v40 =>
          vb (aLoad H37 true 34 v1) fun v41 =>
            cb (S_record_Same [v40, v41] H37) fun v42 H43 =>
              vb (aUn .not v42) fun v44 =>
                isB v44 fun b45 => cond b45
                  (Kj29 .ret [.bool false] H43)
                  (Kj29 .normal [vs27.getD 0 .undef] H43)))
      (fun e46 vs47 H48 =>
        onE e46 .normal
          (cb (S_record_Parse [x0] H48) fun v49 H50 =>
          vb (aExtract v49 0) fun v51 =>
          vb (aExtract v49 1) fun v52 =>
          vb (aExtract v49 2) fun v53 =>
          hb (aAlloc H50 [.int .i64 0, .int .u8 0, .int .u8 0, .int .u8 0, .int .u8 0, .int .u8 0, .int .u8 0, .int .u8 0, .int .u8 0, .int .u8 0, .int .u8 0, .int .u8 0, .int .u8 0, .int .u8 0, .int .u8 0, .int .u8 0, .int .u8 0, .int .u8 0, .int .u8 0, .int .u8 0, .int .u8 0, .int .u8 0, .int .u8 0, .int .u8 0, .int .u8 0, .int .u8 0, .int .u8 0, .int .u8 0, .int .u8 0, .int .u8 0, .int .u8 0, .int .u8 0, .int .u8 0, .nils]) fun v54 H55 =>
          sb (aStore H55 34 v54 v51) fun H56 =>
          vb (aBin .neq v53 (.int .i64 0)) fun v57 =>
          isB v57 fun b58 => cond b58
            (cb (S_cellaretlaw13_awake [] H56) fun v59 H60 =>
            isB v59 fun b61 => cond b61
              (vb (aBin .eql v52 (.int .i64 0)) fun v62 =>
                fin .ret [.v (v62)] H60 K)
              (fin .ret [.v (.bool false)] H60 K))
            (vb (aLoad H56 true 34 v54) fun v63 =>
            cb (S_record_Lay [v63] H56) fun v64 H65 =>
            vb (aExtract v64 0) fun v66 =>
            vb (aExtract v64 1) fun v67 =>
            cb (S_cellaretlaw13_awake [] H65) fun v68 H69 =>
            isB v68 fun b70 => cond b70
              (vb (aBin .eql v67 (.int .i64 0)) fun v71 =>
                isB v71 fun b72 => cond b72
                  (vb (lenSl x0) fun v73 =>
                      vb (aBin .leq v52 v73) fun v74 =>
                        isB v74 fun b75 => cond b75
                          (vb (aSlice H69 1 x0 none (some v52) none) fun v76 =>
                                cb (S_cellaretref01_Same [v66, v76] H69) fun v77 H78 =>
                                  fin .ret [.v (v77)] H78 K)
                          (fin .ret [.v (.bool false)] H69 K))
                  (fin .ret [.v (.bool false)] H69 K))
              (fin .ret [.v (.bool false)] H69 K)))
        (onE e46 .ret
          (fin .ret [.v (vs47.getD 0 .undef)] H48 K)
        (False))))
    (onE e26 .ret
      (fin .ret [.v (vs27.getD 0 .undef)] H28 K)
    (False)))

def S_cellaretlaw13_RecordOnly : Abs.Spec := fun args H r H' => ∃ x0 x1 x2 : AVal, args = [x0, x1, x2] ∧ (cellaretlaw13_RecordOnly.w x0 x1 x2 H fun r1 H1 => r1 = r ∧ H1 = H') ∧ H <+: H'
theorem cellaretlaw13_RecordOnly.ok (args : List AVal) (H : AHeap) (r : AVal) (H' : AHeap) (h : S_cellaretlaw13_RecordOnly args H r H') : ∃ x0 x1 x2 : AVal, args = [x0, x1, x2] ∧ cellaretlaw13_RecordOnly.w x0 x1 x2 H fun r1 H1 => r1 = r ∧ H1 = H' := by
  obtain ⟨x0, x1, x2, h1, h2, _⟩ := h
  exact ⟨x0, x1, x2, h1, h2⟩
theorem cellaretlaw13_RecordOnly.quiet {args : List AVal} {H : AHeap} {r : AVal} {H' : AHeap} (h : S_cellaretlaw13_RecordOnly args H r H') : H <+: H' := by
  obtain ⟨_, _, _, _, _, h⟩ := h
  exact h
set_option maxRecDepth 100000 in
theorem cellaretlaw13_RecordOnly.ex (x0 x1 x2 : AVal) (H : AHeap) : Ex fun K : AVal × AHeap → Prop => cellaretlaw13_RecordOnly.w x0 x1 x2 H fun r H => K (r, H) := by
  unfold cellaretlaw13_RecordOnly.w
  repeat with_reducible first
    | exact Ex.pt _
    | exact Ex.fin
    | exact Ex.no
    | refine Ex.vb fun _ => ?_
    | refine Ex.hb fun _ _ => ?_
    | refine Ex.sb fun _ => ?_
    | refine Ex.cb fun _ _ => ?_
    | refine Ex.isB fun _ => ?_
    | refine Ex.cond ?_ ?_
    | refine Ex.onE ?_ ?_
    | refine Ex.join ?_ fun _ _ _ => ?_
    | refine Ex.loop (fun _ _ => ?_) fun _ _ _ => ?_

theorem cellaretlaw13_RecordOnly.out {x0 x1 x2 : AVal} {H : AHeap} {Q : AVal → AHeap → Prop} (h : cellaretlaw13_RecordOnly.w x0 x1 x2 H fun r H' => H <+: H' ∧ Q r H') : ∃ r H', S_cellaretlaw13_RecordOnly [x0, x1, x2] H r H' ∧ Q r H' := by
  obtain ⟨r, H', h1, h2⟩ := (cellaretlaw13_RecordOnly.ex x0 x1 x2 H).out h
  exact ⟨r, H', ⟨_, _, _, rfl, h1, h2.1⟩, h2.2⟩

end Go.Sh

/- What must come at any rate; any record's blocks. -/
namespace Go.Sh
open Go Go.Abs

def q0 : Rcd := ⟨7, zs 32, [⟨161, full [97] 64⟩, ⟨200, full [98] 64⟩]⟩
theorem q0_good : goodR q0 = true := by decide
theorem q0_len : (layR q0).length = 4 := by decide
theorem q0_parse : parseR (layR q0) = (q0, 4, 0) := by decide +kernel
section
variable {B : AHeap}
theorem awake13 : ∃ C, S_cellaretlaw13_awake [] B (.bool true) C ∧ B <+: C := by
  obtain ⟨r, C, h, rfl, k⟩ := cellaretlaw13_awake.out (H := B) (Q := fun r C => r = .bool true ∧ B <+: C) (by
    unfold cellaretlaw13_awake.w
    have hs : Sep B (fun _ => False) B [] := Sep.start B
    refine cb_i _ _ ⟨[97], 64, rfl, by decide, rfl, rfl⟩ ?_
    refine vb_bld (cs := ptc ⟨161, full [97] 64⟩) rfl ?_
    refine cb_i _ _ ⟨[98], 64, rfl, by decide, rfl, rfl⟩ ?_
    refine vb_bld (cs := ptc ⟨200, full [98] 64⟩) rfl ?_
    refine s_row (cs := flat ptc q0.puts) hs rfl fun i C1 _ hs => ?_
    have hs := s_own (n := 2) (es := 2) hs rfl
    refine vb_bld (cs := rcells q0 (.slice ⟨i, 0, 0⟩ 2 (.ex 2))) rfl ?_
    refine s_alloc hs fun a C2 _ hs => ?_
    refine s_storeA hs rfl rfl rfl (rcells_all rfl) fun C3 hs => ?_
    refine vb_recA hs.g0 rfl rfl ?_
    obtain ⟨r', C4, hc, hl⟩ := lay_good (q := q0) ⟨rfl, hs.o1.view⟩ (by decide) q0_good
    refine cb_i _ _ hc ?_
    have hs := hs.quiet (hl.pre fun _ x => x)
    refine vb_i e_ext0 ?_
    refine vb_i e_ext1 ?_
    obtain ⟨y, C5, hc, k, hat⟩ := parse_spec (l := layR q0) hl.o0.view (by rw [q0_len]; decide)
    have hat := hat.at
    rw [q0_parse] at hc hat
    refine cb_i _ _ hc ?_
    have hs := hs.quiet k
    have hvl := hl.o0.view.pre k
    rw [q0_len] at hvl
    refine vb_i e_ext0 ?_
    refine vb_i e_ext1 ?_
    refine vb_i e_ext2 ?_
    have hyc : y.isCell = true := by
      obtain ⟨_, _, ⟨rfl, _⟩ | ⟨i, v, off, c, kd, cs', rfl, _⟩⟩ := hat <;> rfl
    refine s_alloc (Sep.start C5 : Sep C5 (fun _ => False) C5 []) fun b C6 k6 hz => ?_
    refine s_storeA hz rfl (rcells_len rfl) rfl (rcells_all hyc) fun C7 hz => ?_
    have k7 : C5 <+: C7 := hz.pre fun _ x => x
    have hs := hs.quiet k7
    refine vb_i (eql64 _ _ _) (isB_ct rfl ?_)
    refine vb_i (eql64 _ _ _) (isB_ct rfl ?_)
    refine vb_i (lenSl_view hvl) ?_
    refine vb_i (eql64 _ _ _) (isB_ct rfl ?_)
    refine vb_i (eql64 _ _ _) (isB_ct rfl ?_)
    refine vb_recA hs.g0 rfl rfl ?_
    refine vb_recA hz.g0 rfl rfl ?_
    obtain ⟨C8, hc, k8⟩ := record_Same_spec (p := q0) (q := q0) ⟨rfl, hs.o1.view⟩ ⟨rfl, hat.2.pre k7⟩ (by decide)
    refine cb_i _ _ hc ?_
    refine isB_ct rfl ?_
    obtain ⟨C9, hc, k9⟩ := length_spec (B := C8) 33
    refine cb_i _ _ hc ?_
    have hs := (hs.quiet k8).quiet k9
    refine vb_i (eql64 _ _ _) ?_
    exact fin_ret (rvs_v (rvs_nil _)) ⟨hs.pre fun _ x => x, rfl, hs.pre fun _ x => x⟩)
  exact ⟨C, h, k⟩
theorem lengthR_eq (n : Int) : lengthR n = if n < 0 ∨ 64 < n then 0 else 1 + n + (n + 31) / 32 := by
  unfold lengthR; split <;> omega
theorem law_RecordLays {x : AVal} {q : Rcd} (hq : RecAt B q x) (hl : q.puts.length ≤ 9223372036854775807) (n : Int) : ∃ C, S_cellaretlaw13_RecordLays [recV q x, .int .i64 n] B (.bool true) C := by
  obtain ⟨r, C, h, rfl⟩ := cellaretlaw13_RecordLays.out (x0 := recV q x) (x1 := .int .i64 n) (H := B) (Q := fun r C => r = .bool true) (by
    unfold cellaretlaw13_RecordLays.w
    have hs : Sep B (fun _ => False) B [] := Sep.start B
    refine s_box hs rfl fun i C1 _ hs => ?_
    simp only [recV, AVal.cells] at hs
    have hr := hq.1
    have at_ : ∀ {C : AHeap} {R : List Part}, Sep B (fun _ => False) C R → RecAt C q x := fun hs => ⟨hr, hs.rv hq.2⟩
    refine vb_recA hs.g0 hr rfl ?_
    obtain ⟨b, C2, hc, k, hb⟩ := light_spec (at_ hs) hl
    refine cb_i _ _ hc ?_
    have hs := hs.quiet k
    refine vb_i (e_not _) ?_
    cases b with
    | false =>
      refine isB_Tr rfl ?_
      obtain ⟨C3, hc, k⟩ := awake13 (B := C2)
      refine cb_i _ _ hc ?_
      have hs := hs.quiet k
      exact fin_ret (rvs_v (rvs_nil _)) ⟨hs.pre fun _ x => x, rfl⟩
    | true =>
    refine isB_Fa rfl ?_
    refine vb_recA hs.g0 hr rfl ?_
    have lay : ∃ (r' : AVal) (C3 : AHeap), S_record_Lay [recV q x] C2 (.tup [r', .int .i64 (checkE q)]) C3 ∧ C2 <+: C3 ∧ ((checkE q ≠ 0 ∧ r' = .nils) ∨ (checkE q = 0 ∧ q.puts.length ≤ 64 ∧ goodR q = true ∧ View C3 r' 1 (layR q).length (strs (layR q)))) := by
      by_cases he : checkE q = 0
      · have h64 : q.puts.length ≤ 64 := by
          unfold checkE at he; split at he
          · exact absurd he (by decide)
          · omega
        have hg : goodR q = true := by
          unfold checkE at he; rw [if_neg (by omega)] at he; split at he
          · assumption
          · exact absurd he (by decide)
        obtain ⟨r', C3, hc, hl⟩ := lay_good (at_ hs) h64 hg
        rw [he]
        exact ⟨r', C3, hc, hl.pre fun _ x => x, .inr ⟨rfl, h64, hg, hl.o0.view⟩⟩
      · obtain ⟨C3, hc, k⟩ := lay_bad (at_ hs) hl he
        exact ⟨.nils, C3, hc, k, .inl ⟨he, rfl⟩⟩
    obtain ⟨r', C3, hc, k, hlay⟩ := lay
    refine cb_i _ _ hc ?_
    have hs := hs.quiet k
    refine vb_i e_ext0 ?_
    refine vb_i e_ext1 ?_
    refine vb_recA hs.g0 hr rfl ?_
    obtain ⟨C4, hc, k4⟩ := check_spec (at_ hs) hl
    refine cb_i _ _ hc ?_
    have hs := hs.quiet k4
    obtain ⟨C5, hc, k5⟩ := length_spec (B := C4) n
    refine cb_i _ _ hc ?_
    have hs := hs.quiet k5
    rw [lengthR_eq]
    refine JoinP.mk (fun e vs D => e = .normal ∧ C5 = D) ?_ ?_
    · refine vb_i (lss64 _ _ _) ?_
      refine isB_c (fun h1 => ?_) (fun h1 => ?_)
      · rw [if_pos (.inl h1)]
        repeat first
        | ((with_reducible refine isB_cf ?_ ?_); (· omega))
        | with_reducible refine vb_i (neq64 _ _ _) ?_
        exact ⟨rfl, rfl⟩
      refine vb_i (gtr64 _ _ _) ?_
      refine isB_c (fun h2 => ?_) (fun h2 => ?_)
      · rw [if_pos (.inr (by omega))]
        repeat first
        | ((with_reducible refine isB_cf ?_ ?_); (· omega))
        | with_reducible refine vb_i (neq64 _ _ _) ?_
        exact ⟨rfl, rfl⟩
      · rw [if_neg (by omega)]
        repeat first
        | ((with_reducible refine isB_cf ?_ ?_); (· omega))
        | with_reducible refine vb_i (neq64 _ _ _) ?_
        | ((with_reducible refine vb_i (add64 ?_ ?_) ?_); (· omega); (· omega))
        | ((with_reducible refine vb_i (quo64 ?_ ?_ ?_) ?_); (· omega); (· omega); (· omega))
        exact ⟨rfl, rfl⟩
    rintro e vs D ⟨rfl, rfl⟩
    refine onE_i ?_
    refine vb_i (e_fieldAddr _ _) ?_
    refine vb_rec33 hs.g0 hr ?_
    refine vb_i (lenSl_view (hs.rv hq.2)) ?_
    refine vb_i (gtr64 _ _ _) ?_
    by_cases h64 : 64 < q.puts.length
    · have he : checkE q = 4 := if_pos h64
      rw [he] at hlay ⊢
      have hr' : r' = .nils := by
        rcases hlay with ⟨_, h⟩ | ⟨h, _⟩
        · exact h
        · exact absurd h (by decide)
      subst hr'
      refine isB_ct (by omega) ?_
      obtain ⟨C6, hc, k⟩ := awake13 (B := C5)
      refine cb_i _ _ hc ?_
      have hs := hs.quiet k
      refine isB_T ?_
      repeat first
      | ((with_reducible refine isB_ct ?_ ?_); (· omega))
      | with_reducible refine vb_i (eql64 _ _ _) ?_
      | (with_reducible refine vb_i e_lenNil ?_)
      exact fin_ret (rvs_v (rvs_nil _)) ⟨hs.pre fun _ x => x, rfl⟩
    refine isB_cf (by omega) ?_
    refine vb_recA hs.g0 hr rfl ?_
    obtain ⟨C6, hc, k6⟩ := right_spec (at_ hs) hl
    refine cb_i _ _ hc ?_
    have hs := hs.quiet k6
    refine vb_i (e_not _) ?_
    cases hg : goodR q with
    | false =>
      have he : checkE q = 2 := by unfold checkE; rw [if_neg h64, hg]; rfl
      rw [he] at hlay ⊢
      have hr' : r' = .nils := by
        rcases hlay with ⟨_, h⟩ | ⟨h, _⟩
        · exact h
        · exact absurd h (by decide)
      subst hr'
      refine isB_Tr rfl ?_
      obtain ⟨C7, hc, k⟩ := awake13 (B := C6)
      refine cb_i _ _ hc ?_
      have hs := hs.quiet k
      refine isB_T ?_
      repeat first
      | ((with_reducible refine isB_ct ?_ ?_); (· omega))
      | with_reducible refine vb_i (eql64 _ _ _) ?_
      | (with_reducible refine vb_i e_lenNil ?_)
      exact fin_ret (rvs_v (rvs_nil _)) ⟨hs.pre fun _ x => x, rfl⟩
    | true =>
      have he : checkE q = 0 := by unfold checkE; rw [if_neg h64, hg]; rfl
      rw [he] at hlay ⊢
      rcases hlay with ⟨h, _⟩ | ⟨_, h64', _, hvr⟩
      · exact absurd rfl h
      refine isB_Fa rfl ?_
      obtain ⟨C7, hc, k7⟩ := awake13 (B := C6)
      refine cb_i _ _ hc ?_
      have hs := hs.quiet k7
      refine isB_T ?_
      refine vb_i (eql64 _ _ _) (isB_ct rfl ?_)
      refine vb_i (eql64 _ _ _) (isB_ct rfl ?_)
      refine vb_recA hs.g0 hr rfl ?_
      obtain ⟨r2, C8, hc, hl2⟩ := ref_lay_spec (at_ hs) h64' hg
      refine cb_i _ _ hc ?_
      have k8 := hl2.pre fun _ x => x
      have hs := hs.quiet k8
      have hvr := ((((hvr.pre k4).pre k5).pre k6).pre k7).pre k8
      have hLL : (layR q).length = 1 + (q.puts.length + 31) / 32 + q.puts.length := by
        simp [layR, headsR, rowsN, atsN]; omega
      obtain ⟨C9, hc, k9⟩ := ref_Same_spec hvr hl2.o0.view (by omega)
      refine cb_i _ _ hc ?_
      have hs := hs.quiet k9
      rw [decide_eq_true rfl]
      refine isB_T ?_
      refine vb_i (lenSl_view (hvr.pre k9)) ?_
      refine vb_i (e_fieldAddr _ _) ?_
      refine vb_rec33 hs.g0 hr ?_
      refine vb_i (lenSl_view (hs.rv hq.2)) ?_
      obtain ⟨C10, hc, k10⟩ := length_spec (B := C9) (q.puts.length : Int)
      refine cb_i _ _ hc ?_
      have hs := hs.quiet k10
      refine vb_i (eql64 _ _ _) ?_
      have e9 : ((layR q).length : Int) = lengthR (q.puts.length : Int) := by
        rw [hLL]; unfold lengthR; rw [if_neg (by omega)]; omega
      rw [decide_eq_true e9]
      exact fin_ret (rvs_v (rvs_nil _)) ⟨hs.pre fun _ x => x, rfl⟩)
  exact ⟨C, h⟩
end
end Go.Sh

/- What is parsed is laid as it was. -/
namespace Go.Sh
open Go Go.Abs

theorem parse_cases (l : List (List UInt8)) : (∃ q n, parseR l = (q, n, 0) ∧ goodR q = true ∧ q.puts.length ≤ 64 ∧ n ≤ l.length ∧ layR q = l.take n) ∨ (∃ e, parseR l = (zR, 0, e) ∧ e ≠ 0) := by
  unfold parseR
  split
  · exact .inr ⟨5, rfl, by decide⟩
  split
  · exact .inr ⟨6, rfl, by decide⟩
  rename_i h1
  split
  · exact .inr ⟨5, rfl, by decide⟩
  split
  · rename_i h2 h3
    refine .inl ⟨_, _, rfl, h3.2.1, ?_, by omega, h3.2.2⟩
    show (putsOf l _).length ≤ 64
    rw [putsOf_len]
    by_cases h : 64 < cntOf (l.getD 0 [])
    · exact absurd (Or.inr h) h1
    · omega
  · exact .inr ⟨6, rfl, by decide⟩
section
variable {B : AHeap}
set_option maxRecDepth 100000 in
theorem short_spec {x : AVal} {l : List (List UInt8)} (hv : View B x 1 l.length (strs l)) (hl : l.length ≤ 9223372036854775807) : ∃ (b : Bool) (C : AHeap), S_cellaretlaw13_short [x] B (.bool b) C ∧ B <+: C ∧ (b = true → l.length < 200) := by
  obtain ⟨r, C, h, b, rfl, k, kb⟩ := cellaretlaw13_short.out (x0 := x) (H := B) (Q := fun r C => ∃ b : Bool, r = .bool b ∧ B <+: C ∧ (b = true → l.length < 200)) (by
    unfold cellaretlaw13_short.w
    refine LoopP.ruleG (α := Nat) (fun j => [.int .i64 (j : Int)]) (fun j C => j ≤ l.length ∧ B = C) (fun j => l.length - j) 0 (by simp) ⟨Nat.zero_le _, rfl⟩ ?_
    rintro j C Kn ⟨hj, rfl⟩ hk
    unfold cellaretlaw13_short.L2 cellaretlaw13_short.L2.b
    try simp only [evB]
    have hs : Sep B (fun _ => False) B [] := Sep.start B
    refine JoinP.mk (fun e vs D => B = D ∧ ((e = .normal ∧ j < l.length) ∨ e = .exit 0)) ?_ ?_
    · repeat first
      | with_reducible refine vb_i (lss64 _ _ _) ?_
      | ((with_reducible apply vb_len); (· first | exact hs.o0.view | exact hs.o1.view | exact hs.o2.view | exact hs.o3.view | exact hs.o4.view | exact hs.o5.view | exact hs.o6.view | exact hs.rv hv | exact hs.rv hv2 | exact hs.rv hv3 | exact hs.rv hv4 | exact hs.view hkv hko | assumption))
      refine isB_c (fun h1 => ?_) (fun h1 => ?_)
      · refine vb_i (lss64 _ _ _) ?_
        refine isB_c (fun h2 => ?_) (fun h2 => ?_)
        · exact ⟨rfl, .inl ⟨rfl, by omega⟩⟩
        · exact ⟨rfl, .inr rfl⟩
      · exact ⟨rfl, .inr rfl⟩
    rintro e vs D ⟨rfl, ⟨rfl, hjn⟩ | rfl⟩
    · repeat first
      | with_reducible refine onE_i ?_
      | ((with_reducible refine onE_s ?_ ?_); (· decide))
      | ((with_reducible apply vb_addrN); (· first | exact hs.o0.view | exact hs.o1.view | exact hs.o2.view | exact hs.o3.view | exact hs.o4.view | exact hs.o5.view | exact hs.o6.view | exact hs.rv hv | exact hs.rv hv2 | exact hs.rv hv3 | exact hs.rv hv4 | exact hs.view hkv hko | assumption); (· omega))
      refine vb_el0 hv (strs_at hjn) ?_
      repeat first
      | with_reducible refine vb_i (gtr64 _ _ _) ?_
      | with_reducible refine vb_i (e_lenSt _) ?_
      refine isB_c (fun h1 => ?_) (fun h1 => ?_)
      · repeat first
        | with_reducible refine onE_i ?_
        | ((with_reducible refine onE_s ?_ ?_); (· decide))
        try simp only [evB]
        exact fin_ret (rvs_v (rvs_nil _)) ⟨List.prefix_refl _, false, rfl, List.prefix_refl _, by simp⟩
      · repeat first
        | ((with_reducible refine vb_i (add64 ?_ ?_) ?_); (· omega); (· omega))
        exact hk (j + 1) _ ⟨by omega, rfl⟩ (by omega)
    · repeat first
      | with_reducible refine onE_i ?_
      | with_reducible refine vb_i (lss64 _ _ _) ?_
      | ((with_reducible apply vb_len); (· first | exact hs.o0.view | exact hs.o1.view | exact hs.o2.view | exact hs.o3.view | exact hs.o4.view | exact hs.o5.view | exact hs.o6.view | exact hs.rv hv | exact hs.rv hv2 | exact hs.rv hv3 | exact hs.rv hv4 | exact hs.view hkv hko | assumption))
      exact fin_ret (rvs_v (rvs_nil _)) ⟨List.prefix_refl _, _, rfl, List.prefix_refl _, fun h => by have := of_decide_eq_true h; omega⟩)
  exact ⟨b, C, h, k, kb⟩
theorem view_cell {B : AHeap} {x : AVal} {es n : Nat} {cs : List AVal} (h : View B x es n cs) : x.isCell = true := by
  obtain ⟨_, ⟨rfl, _⟩ | ⟨i, v, off, c, kd, cs', rfl, _⟩⟩ := h <;> rfl
theorem law_RecordOnly {z x y : AVal} {l : List (List UInt8)} {p q : Rcd} (hz : View B z 1 l.length (strs l)) (hl : l.length ≤ 9223372036854775807) (hp : RecAt B p x) (hpl : p.puts.length ≤ 9223372036854775807) (hq : RecAt B q y) (hql : q.puts.length ≤ 9223372036854775807) :
    ∃ C, S_cellaretlaw13_RecordOnly [z, recV p x, recV q y] B (.bool true) C := by
  obtain ⟨r, C, h, rfl⟩ := cellaretlaw13_RecordOnly.out (x0 := z) (x1 := recV p x) (x2 := recV q y) (H := B) (Q := fun r C => r = .bool true) (by
    unfold cellaretlaw13_RecordOnly.w
    have hs : Sep B (fun _ => False) B [] := Sep.start B
    refine s_box hs rfl fun i C1 _ hs => ?_
    refine s_box hs rfl fun j C2 _ hs => ?_
    simp only [recV, AVal.cells] at hs
    have atp : ∀ {C : AHeap} {R : List Part}, Sep B (fun _ => False) C R → RecAt C p x := fun hs => ⟨hp.1, hs.rv hp.2⟩
    have atq : ∀ {C : AHeap} {R : List Part}, Sep B (fun _ => False) C R → RecAt C q y := fun hs => ⟨hq.1, hs.rv hq.2⟩
    refine JoinP.mk (fun e vs D => ((e = .ret ∧ vs = [.bool true]) ∨ (e = .normal ∧ l.length < 200)) ∧ Sep B (fun _ => False) D [.obj j (.cells 0 .exact (rcells q y)), .obj i (.cells 0 .exact (rcells p x))]) ?_ ?_
    · obtain ⟨b, C3, hc, k, hb⟩ := short_spec (hs.rv hz) hl
      refine cb_i _ _ hc ?_
      have hs := hs.quiet k
      refine vb_i (e_not _) ?_
      cases b with
      | false =>
        refine isB_Tr rfl ?_
        obtain ⟨C4, hc, k⟩ := awake13 (B := C3)
        refine cb_i _ _ hc ?_
        exact ⟨.inl ⟨rfl, rfl⟩, hs.quiet k⟩
      | true =>
      refine isB_Fa rfl ?_
      refine vb_recA hs.g1 hp.1 rfl ?_
      obtain ⟨b, C4, hc, k, _⟩ := light_spec (atp hs) hpl
      refine cb_i _ _ hc ?_
      have hs := hs.quiet k
      refine vb_i (e_not _) ?_
      cases b with
      | false =>
        refine isB_Tr rfl ?_
        obtain ⟨C5, hc, k⟩ := awake13 (B := C4)
        refine cb_i _ _ hc ?_
        exact ⟨.inl ⟨rfl, rfl⟩, hs.quiet k⟩
      | true =>
      refine isB_Fa rfl ?_
      refine vb_recA hs.g0 hq.1 rfl ?_
      obtain ⟨b, C5, hc, k, _⟩ := light_spec (atq hs) hql
      refine cb_i _ _ hc ?_
      have hs := hs.quiet k
      refine vb_i (e_not _) ?_
      cases b with
      | false =>
        refine isB_Tr rfl ?_
        obtain ⟨C6, hc, k⟩ := awake13 (B := C5)
        refine cb_i _ _ hc ?_
        exact ⟨.inl ⟨rfl, rfl⟩, hs.quiet k⟩
      | true =>
      refine isB_Fa rfl ?_
      exact ⟨.inr ⟨rfl, hb rfl⟩, hs⟩
    rintro e vs D ⟨⟨rfl, rfl⟩ | ⟨rfl, h200⟩, hs⟩
    · refine onE_s (by decide) (onE_i ?_)
      exact fin_ret (rvs_v (rvs_nil _)) ⟨hs.pre fun _ x => x, rfl⟩
    refine onE_i ?_
    refine JoinP.mk (fun e vs D => e = .normal ∧ Sep B (fun _ => False) D [.obj j (.cells 0 .exact (rcells q y)), .obj i (.cells 0 .exact (rcells p x))]) ?_ ?_
    · refine vb_recA hs.g1 hp.1 rfl ?_
      refine vb_recA hs.g0 hq.1 rfl ?_
      obtain ⟨C3, hc, k⟩ := record_Same_spec (atp hs) (atq hs) hpl
      refine cb_i _ _ hc ?_
      have hs := hs.quiet k
      refine vb_recA hs.g1 hp.1 rfl ?_
      refine vb_recA hs.g0 hq.1 rfl ?_
      obtain ⟨C4, hc, k⟩ := ref_same_spec (atp hs) (atq hs) hpl
      refine cb_i _ _ hc ?_
      have hs := hs.quiet k
      refine vb_i e_boolNe ?_
      refine isB_cf (fun h => h Iff.rfl) ?_
      refine vb_recA hs.g1 hp.1 rfl ?_
      refine vb_recA hs.g1 hp.1 rfl ?_
      obtain ⟨C5, hc, k⟩ := record_Same_spec (atp hs) (atp hs) hpl
      refine cb_i _ _ hc ?_
      have hs := hs.quiet k
      rw [decide_eq_true rfl]
      refine vb_i (e_not _) ?_
      refine isB_Fa rfl ?_
      exact ⟨rfl, hs⟩
    rintro e vs D ⟨rfl, hs⟩
    refine onE_i ?_
    obtain ⟨w, C3, hc, k, hat⟩ := parse_spec (hs.rv hz) hl
    have hat := hat.at
    refine cb_i _ _ hc ?_
    have hs := hs.quiet k
    refine vb_i e_ext0 ?_
    refine vb_i e_ext1 ?_
    refine vb_i e_ext2 ?_
    refine s_alloc (Sep.start C3 : Sep C3 (fun _ => False) C3 []) fun b C6 k6 ht => ?_
    refine s_storeA ht rfl (rcells_len hat.1) rfl (rcells_all (view_cell hat.2)) fun C7 ht => ?_
    have k7 : C3 <+: C7 := ht.pre fun _ x => x
    have hs := hs.quiet k7
    refine vb_i (neq64 _ _ _) ?_
    rcases parse_cases l with ⟨u, n, he, hg, h64, hn, hlay⟩ | ⟨e, he, hne⟩
    · rw [he] at ht hat ⊢
      refine isB_cf (fun h => h rfl) ?_
      refine vb_recA ht.g0 hat.1 rfl ?_
      obtain ⟨r', C8, hc, hl2⟩ := lay_good ⟨hat.1, hat.2.pre k7⟩ h64 hg
      refine cb_i _ _ hc ?_
      have hs := hs.quiet (hl2.pre fun _ x => x)
      refine vb_i e_ext0 ?_
      refine vb_i e_ext1 ?_
      obtain ⟨C9, hc, k9⟩ := awake13 (B := C8)
      refine cb_i _ _ hc ?_
      have hs := hs.quiet k9
      refine isB_T ?_
      refine vb_i (eql64 _ _ _) (isB_ct rfl ?_)
      refine vb_i (lenSl_view (hs.rv hz)) ?_
      refine vb_i (leq64 _ _ _) ?_
      refine isB_ct (by show (n : Int) ≤ _; omega) ?_
      obtain ⟨x', e1, hvx, _⟩ := slice_view (l := none) (h := some (.int .i64 (n : Nat))) (lo := 0) (hi := n) (hs.rv hz) rfl (by rw [bnd_int (by omega), Int.toNat_natCast]) (Nat.zero_le _) hn
      refine vb_i e1 ?_
      have hvx : View C9 x' 1 (l.take n).length (strs (l.take n)) := by
        have e2 : (l.take n).length = n - 0 := by rw [List.length_take]; omega
        rw [e2]
        have e3 : ((strs l).drop (0 * 1)).take ((n - 0) * 1) = strs (l.take n) := by simp [strs, List.map_take]
        rw [e3] at hvx
        exact hvx
      obtain ⟨C10, hc, k10⟩ := ref_Same_spec (hl2.o0.view.pre k9) hvx (by rw [hlay, List.length_take]; omega)
      refine cb_i _ _ hc ?_
      have hs := hs.quiet k10
      rw [decide_eq_true hlay]
      exact fin_ret (rvs_v (rvs_nil _)) ⟨hs.pre fun _ x => x, rfl⟩
    · rw [he] at ht hat ⊢
      refine isB_ct hne ?_
      obtain ⟨C9, hc, k9⟩ := awake13 (B := C7)
      refine cb_i _ _ hc ?_
      have hs := hs.quiet k9
      refine isB_T ?_
      refine vb_i (eql64 _ _ _) ?_
      exact fin_ret (rvs_v (rvs_nil _)) ⟨hs.pre fun _ x => x, rfl⟩)
  exact ⟨C, h⟩
end
end Go.Sh

/- What the document reads. -/
namespace Go.Sh
open Go Go.Abs

theorem take_two {s : List UInt8} {k : Nat} (h : k + 2 ≤ s.length) : (s.take (k + 2)).drop k = [s.getD k 0, s.getD (k + 1) 0] := by
  rw [take_at (i := k + 1) (by omega), take_at (i := k) (by omega), List.append_assoc, List.drop_append_of_le_length (by rw [List.length_take]; omega), List.drop_of_length_le (by rw [List.length_take]; omega)]
  rfl
theorem numB_two {s : List UInt8} {k : Nat} (h : k + 2 ≤ s.length) : numB ((s.take (k + 2)).drop k) = (s.getD k 0).toNat * 256 + (s.getD (k + 1) 0).toNat := by
  rw [take_two h]; simp [numB]
theorem rcells_byte {q : Rcd} {y : AVal} {j : Nat} {b : UInt8} (h : q.root.length = 32) (hj : j < 32) : (rcells q y).set (1 + j) (ofByte b) = rcells { q with root := q.root.set j b } y := by
  unfold rcells
  rw [Nat.add_comm, List.set_cons_succ, List.set_append_left _ _ (by simp [h]; exact hj)]
  simp [List.map_set]
def rootTo (s : List UInt8) (j : Nat) : List UInt8 := (rootOf s).take j ++ zs (32 - j)
theorem rootTo_len {s : List UInt8} {j : Nat} (h : s.length = 64) (hj : j ≤ 32) : (rootTo s j).length = 32 := by
  simp [rootTo, rootOf, zs, h]; omega
theorem rootTo_step {s : List UInt8} {j : Nat} (h : s.length = 64) (hj : j < 32) : (rootTo s j).set j (s.getD (8 + j) 0) = rootTo s (j + 1) := by
  have hl : ((rootOf s).take j).length = j := by simp [rootOf, h]; omega
  have hr : (rootOf s)[j]? = some (s.getD (8 + j) 0) := by
    simp only [rootOf, List.getElem?_drop]
    rw [List.getElem?_take_of_lt (by omega), getD_some (by omega)]
  unfold rootTo
  rw [List.set_append_right _ _ (by omega), hl, Nat.sub_self, show 32 - j = (32 - (j + 1)) + 1 by omega]
  have hz : zs ((32 - (j + 1)) + 1) = 0 :: zs (32 - (j + 1)) := by simp [zs, List.replicate_succ]
  rw [hz, List.set_cons_zero, List.take_add_one, hr]
  simp
section
variable {B C : AHeap}
theorem ref_parse_spec {x : AVal} {l : List (List UInt8)} (hv : View B x 1 l.length (strs l)) (h3 : l.length ≤ 9223372036854775807) :
    ∃ y C, S_cellaretref13_Parse [x] B (.tup [recV (parseR l).1 y, .int .i64 (parseR l).2.1, .int .i64 (parseR l).2.2]) C ∧ B <+: C ∧ NewAt B C (parseR l).1 y := by
  obtain ⟨r, C, h, y, rfl, k⟩ := cellaretref13_Parse.out (x0 := x) (H := B) (Q := fun r C => ∃ y, r = .tup [recV (parseR l).1 y, .int .i64 (parseR l).2.1, .int .i64 (parseR l).2.2] ∧ B <+: C ∧ NewAt B C (parseR l).1 y) (by
    unfold cellaretref13_Parse.w
    have hs : Sep B (fun _ => False) B [] := Sep.start B
    refine s_alloc hs fun v1 C1 _ hs => ?_
    rw [zcells] at hs
    have bad : ∀ {C : AHeap} {R : List Part} (n : Nat) (e : Int), Sep B (fun _ => False) C (.obj v1 (.cells 0 .exact (rcells zR .nils)) :: R) → parseR l = (zR, n, e) →
        fin .ret [.c true 34 (.ptr ⟨v1, 0, 0⟩), .v (.int .i64 n), .v (.int .i64 e)] C fun r H' => B <+: H' ∧ ∃ y, r = .tup [recV (parseR l).1 y, .int .i64 (parseR l).2.1, .int .i64 (parseR l).2.2] ∧ B <+: H' ∧ NewAt B H' (parseR l).1 y := by
      intro C R n e hs he
      refine parse_end hs.g0 rfl ?_
      rw [he]
      exact ⟨hs.pre fun _ x => x, .nils, rfl, hs.pre fun _ x => x, newAt_zero hs⟩
    refine vb_i (lenSl_view (hs.rv hv)) ?_
    refine vb_i (eql64 _ _ _) ?_
    by_cases hl0 : l.length = 0
    · refine isB_ct (by omega) ?_
      refine s_zst hs rfl fun C2 hs => ?_
      exact bad 0 5 hs (by unfold parseR; rw [if_pos hl0])
    refine isB_cf (by omega) ?_
    refine vb_addr (hs.rv hv) (by omega) (by omega) ?_
    refine vb_el0 (hs.rv hv) (j := 0) (strs_at (l := l) (j := 0) (by omega)) ?_
    have bad1 : (¬ headOk (l.getD 0 []) ∨ 64 < cntOf (l.getD 0 [])) → parseR l = (zR, 0, 6) := fun h => by unfold parseR; rw [if_neg hl0, if_pos h]
    generalize hsd : l.getD 0 [] = s at *
    refine JoinP.mk (fun e vs D => ((e = .ret ∧ vs = [.int .i64 0, .int .i64 6] ∧ ¬ headOk s) ∨ (e = .normal ∧ headOk s)) ∧ Sep B (fun _ => False) D [.obj v1 (.cells 0 .exact (rcells zR .nils))]) ?_ ?_
    · refine vb_i (e_lenSt _) ?_
      refine vb_i (neq64 _ _ _) ?_
      refine isB_c (fun h1 => ?_) (fun h1 => ?_)
      · refine s_zst hs rfl fun C2 hs => ?_
        exact ⟨.inl ⟨rfl, rfl, fun h => h1 (by rw [h.1]; rfl)⟩, hs⟩
      have h1 : s.length = 64 := by omega
      refine vb_i (e_sliceStrTo (by decide) (by rw [h1]; decide)) ?_
      refine vb_i (neqs _ _) ?_
      refine isB_c (fun h2 => ?_) (fun h2 => ?_)
      · refine s_zst hs rfl fun C2 hs => ?_
        exact ⟨.inl ⟨rfl, rfl, fun h => h2 h.2.1⟩, hs⟩
      have h2 := Decidable.not_not.1 h2
      refine vb_i (e_sliceStrFrom (by decide) (by rw [h1]; decide)) ?_
      refine cb_i _ _ ⟨24, rfl, by decide, rfl, rfl⟩ ?_
      refine vb_i (neqs _ _) ?_
      refine isB_c (fun h3 => ?_) (fun h3 => ?_)
      · refine s_zst hs rfl fun C2 hs => ?_
        exact ⟨.inl ⟨rfl, rfl, fun h => h3 h.2.2⟩, hs⟩
      · exact ⟨.inr ⟨rfl, h1, h2, Decidable.not_not.1 h3⟩, hs⟩
    rintro e vs D ⟨⟨rfl, rfl, hb⟩ | ⟨rfl, hb⟩, hs⟩
    · refine onE_s (by decide) (onE_i ?_)
      exact bad 0 6 hs (bad1 (.inl hb))
    refine onE_i ?_
    have h1 : s.length = 64 := hb.1
    have hcnt : cntOf s = (s.getD 6 0).toNat * 256 + (s.getD 7 0).toNat := numB_two (by omega)
    have hb6 := (s.getD 6 0).toNat_lt
    have hb7 := (s.getD 7 0).toNat_lt
    refine vb_i (e_idxStr (by decide) (by omega)) ?_
    refine vb_i (int_of_byte _) ?_
    refine vb_i (mul64 (by show -9223372036854775808 ≤ ((s.getD 6 0).toNat : Int) * 256; omega) (by show ((s.getD 6 0).toNat : Int) * 256 < 9223372036854775808; omega)) ?_
    refine vb_i (e_idxStr (by decide) (by omega)) ?_
    refine vb_i (int_of_byte _) ?_
    refine vb_i (add64 (by show -9223372036854775808 ≤ ((s.getD 6 0).toNat : Int) * 256 + ((s.getD 7 0).toNat : Int); omega) (by show ((s.getD 6 0).toNat : Int) * 256 + ((s.getD 7 0).toNat : Int) < 9223372036854775808; omega)) ?_
    rw [show ((s.getD (6 : Int).toNat 0).toNat : Int) * 256 + ((s.getD (7 : Int).toNat 0).toNat : Int) = (cntOf s : Int) by rw [hcnt]; show ((s.getD 6 0).toNat : Int) * 256 + ((s.getD 7 0).toNat : Int) = _; omega]
    refine vb_i (gtr64 _ _ _) ?_
    by_cases h64 : 64 < cntOf s
    · refine isB_ct (by omega) ?_
      refine s_zst hs rfl fun C2 hs => ?_
      exact bad 0 6 hs (bad1 (.inr h64))
    refine isB_cf (by omega) ?_
    have h64 : cntOf s ≤ 64 := by omega
    obtain ⟨n, hn⟩ : ∃ n, cntOf s = n := ⟨_, rfl⟩
    have hp0 : parseR l = if l.length < longN n then (zR, 0, 5) else if formOk l n then (recOf l, longN n, 0) else (zR, 0, 6) := by
      unfold parseR
      rw [if_neg hl0, hsd, hn, if_neg (by rw [← hn]; exact fun h => h.elim (fun h => h hb) (fun h => by omega))]
    have hrec : recOf l = ⟨seqOf s, rootOf s, putsOf l n⟩ := by unfold recOf; rw [hsd, hn]
    rw [hn] at h64 ⊢
    have hln2 : longN n = 1 + (n + 31) / 32 + n := rfl
    refine LoopP.ruleG (α := Nat) (fun j => [.int .i64 (1 + (j : Int))]) (fun j C => j ≤ (n + 31) / 32 ∧ D = C) (fun j => (n + 31) / 32 - j) 0 (by simp) ⟨Nat.zero_le _, rfl⟩ ?_
    rintro j C Kn ⟨hj, rfl⟩ hk
    unfold cellaretref13_Parse.L10 cellaretref13_Parse.L10.b
    try simp only [evB]
    refine vb_i (sub64 (by omega) (by omega)) ?_
    refine vb_i (mul64 (by omega) (by omega)) ?_
    refine vb_i (lss64 _ _ _) ?_
    by_cases hjn : 32 * j < n
    · refine isB_ct (by omega) ?_
      refine vb_i (add64 (by omega) (by omega)) ?_
      rw [show 1 + (j : Int) + 1 = 1 + ((j + 1 : Nat) : Int) by omega]
      exact hk (j + 1) _ ⟨by omega, rfl⟩ (by omega)
    obtain rfl : j = (n + 31) / 32 := by omega
    refine isB_cf (by omega) ?_
    refine onE_i ?_
    try simp only [evB]
    refine vb_i (lenSl_view (hs.rv hv)) ?_
    refine vb_i (add64 (by omega) (by omega)) ?_
    rw [show 1 + (((n + 31) / 32 : Nat) : Int) + (n : Int) = ((longN n : Nat) : Int) by rw [hln2]; omega]
    refine vb_i (lss64 _ _ _) ?_
    by_cases hlong : l.length < longN n
    · refine isB_ct (by omega) ?_
      refine s_zst hs rfl fun C2 hs => ?_
      exact bad 0 5 hs (by rw [hp0, if_pos hlong])
    rw [if_neg hlong] at hp0
    refine isB_cf (by omega) ?_
    have hln : longN n ≤ 67 + 64 := by rw [hln2]; omega
    refine vb_bld (cs := rcells zR .nils) rfl ?_
    refine s_alloc hs fun v5 C2 _ hs => ?_
    rw [zcells] at hs
    refine s_storeA hs rfl (rcells_len rfl) (rcells_len rfl) (rcells_all rfl) fun C3 hs => ?_
    refine vb_i (e_sliceStr (by decide) (by decide) (by rw [h1]; decide)) ?_
    obtain ⟨C4, hc, k⟩ := ref_Get_spec (B := C3) (s := (s.take 6).drop 2) (by intro e; have := congrArg List.length e; simp [h1] at this) (by simp [h1])
    refine cb_i _ _ hc ?_
    have hs := hs.quiet k
    refine vb_i e_ext0 ?_
    refine vb_i e_ext1 ?_
    rw [show (numB ((s.take 6).drop 2) : Int) = (seqOf s : Int) from rfl]
    refine vb_i (e_fieldAddr _ _) ?_
    refine s_store1 hs rfl rfl (by rw [rcells_len rfl]; show 0 + 0 < 34; omega) fun C5 hs => ?_
    rw [show (⟨v5, 0, 0⟩ : Ref).off + 0 = 0 from rfl, rcells_seq] at hs
    refine LoopP.ruleG (α := Nat) (fun j => [.int .i64 (j : Int)]) (fun j C => j ≤ 32 ∧ Sep B (fun _ => False) C [.obj v5 (.cells 0 .exact (rcells ⟨seqOf s, rootTo s j, []⟩ .nils)), .obj v1 (.cells 0 .exact (rcells zR .nils))]) (fun j => 32 - j) 0 (by simp)
      ⟨Nat.zero_le _, hs⟩ ?_
    clear hs
    rintro j C Kn ⟨hj, hs⟩ hk
    unfold cellaretref13_Parse.L18 cellaretref13_Parse.L18.b
    try simp only [evB]
    refine vb_i (lss64 _ _ _) ?_
    by_cases hjn : j < 32
    · refine isB_ct (by omega) ?_
      refine vb_i (add64 (by omega) (by omega)) ?_
      refine vb_i (e_idxStr (by omega) (by omega)) ?_
      rw [show (8 + (j : Int)).toNat = 8 + j by omega]
      refine vb_i (e_fieldAddr _ _) ?_
      refine vb_i (e_idxAddrArr (by omega) (by omega)) ?_
      have hrl := rootTo_len h1 hj
      have hidx : (⟨v5, 0, 0⟩ : Ref).off + 1 + (j : Int).toNat * 1 = 1 + j := by show 0 + 1 + (j : Int).toNat * 1 = 1 + j; omega
      refine s_store1 hs rfl rfl (by rw [rcells_len hrl]; show 0 + 1 + (j : Int).toNat * 1 < 34; omega) fun C6 hs => ?_
      have hset : (rcells ⟨seqOf s, rootTo s j, []⟩ .nils).set (1 + j) (ofByte (s.getD (8 + j) 0)) = rcells ⟨seqOf s, rootTo s (j + 1), []⟩ .nils := by
        rw [rcells_byte hrl hjn]
        show rcells ⟨seqOf s, (rootTo s j).set j (s.getD (8 + j) 0), []⟩ .nils = _
        rw [rootTo_step h1 hjn]
      rw [hidx, hset] at hs
      refine vb_i (add64 (by omega) (by omega)) ?_
      exact hk (j + 1) _ ⟨by omega, hs⟩ (by omega)
    obtain rfl : j = 32 := by omega
    refine isB_cf (by omega) ?_
    refine onE_i ?_
    have hroot : (rootOf s).length = 32 := by simp [rootOf, h1]
    have hr32 : rootTo s 32 = rootOf s := by unfold rootTo; rw [List.take_of_length_le (by omega)]; simp [zs]
    rw [hr32] at hs
    have hlj : ∀ j, j ≤ n → ((putsOf l n).take j).length = j := fun j hj => by rw [List.length_take, putsOf_len]; omega
    have hs := (s_nils hs 2).f1
    refine LoopP.ruleG (α := Nat) (fun j => [.int .i64 (j : Int)]) (fun j C => (j ≤ n ∧ ∀ i, i < j → (l.getD (1 + i / 32) []).length = 64) ∧ ∃ y, Sep B (fun _ => False) C [.obj v5 (.cells 0 .exact (rcells ⟨seqOf s, rootOf s, (putsOf l n).take j⟩ y)),
      .sl y 2 j (flat ptc ((putsOf l n).take j)), .obj v1 (.cells 0 .exact (rcells zR .nils))]) (fun j => n - j) 0 (by simp)
      ⟨⟨Nat.zero_le _, fun i hi => by omega⟩, .nils, hs⟩ ?_
    clear hs
    rintro j C Kn ⟨⟨hj, hall⟩, y, hs⟩ hk
    unfold cellaretref13_Parse.L22 cellaretref13_Parse.L22.b
    try simp only [evB]
    refine vb_i (lss64 _ _ _) ?_
    by_cases hjn : j < n
    · refine isB_ct (by omega) ?_
      have hx := hs.rv hv
      refine vb_i (quo64 (by omega) (by omega) (by omega)) ?_
      refine vb_i (add64 (by omega) (by omega)) ?_
      refine vb_addr hx (by omega) (by omega) ?_
      rw [show (1 + (j : Int) / 32).toNat = 1 + j / 32 by omega]
      refine vb_el0 hx (strs_at (by omega)) ?_
      refine vb_i (e_lenSt _) ?_
      refine vb_i (neq64 _ _ _) ?_
      by_cases h64j : (l.getD (1 + j / 32) []).length = 64
      · refine isB_cf (by omega) ?_
        have hpos := numB_two (s := l.getD (1 + j / 32) []) (k := 2 * (j % 32)) (by omega)
        generalize ht : l.getD (1 + j / 32) [] = t at *
        have hta := (t.getD (2 * (j % 32)) 0).toNat_lt
        have htb := (t.getD (2 * (j % 32) + 1) 0).toNat_lt
        refine vb_i (rem64 (by omega) (by omega)) ?_
        refine vb_i (mul64 (by omega) (by omega)) ?_
        refine vb_i (e_fieldAddr _ _) ?_
        refine vb_rec33 hs.g0 hroot ?_
        refine vb_i (e_idxStr (by omega) (by omega)) ?_
        rw [show (2 * ((j : Int) % 32)).toNat = 2 * (j % 32) by omega]
        refine vb_i (int_of_byte _) ?_
        refine vb_i (mul64 (by omega) (by omega)) ?_
        refine vb_i (add64 (by omega) (by omega)) ?_
        refine vb_i (e_idxStr (by omega) (by omega)) ?_
        rw [show (2 * ((j : Int) % 32) + 1).toNat = 2 * (j % 32) + 1 by omega]
        refine vb_i (int_of_byte _) ?_
        refine vb_i (add64 (by omega) (by omega)) ?_
        refine vb_i (add64 (by omega) (by omega)) ?_
        refine vb_addr hx (by omega) (by omega) ?_
        rw [show (1 + (((n + 31) / 32 : Nat) : Int) + (j : Int)).toNat = longN n - n + j by rw [hln2]; omega]
        refine vb_el0 hx (strs_at (by omega)) ?_
        have hpo : posOf t j = (t.getD (2 * (j % 32)) 0).toNat * 256 + (t.getD (2 * (j % 32) + 1) 0).toNat := hpos
        rw [show ((t.getD (2 * (j % 32)) 0).toNat : Int) * 256 + ((t.getD (2 * (j % 32) + 1) 0).toNat : Int) = ((posOf t j : Nat) : Int) by rw [hpo]; omega]
        have hst := putsOf_step (l := l) hjn
        rw [ht] at hst
        generalize posOf t j = at_ at hst ⊢
        generalize l.getD (longN n - n + j) [] = b at hst ⊢
        refine vb_bld (cs := ptc ⟨at_, b⟩) rfl ?_
        refine s_push (es := 2) (m := 1) (xs := ptc ⟨at_, b⟩) hs.f1 rfl (by decide) rfl rfl (by unfold room; omega) (by unfold room; omega) fun y' C6 hs => ?_
        have hsc := hs.o0.sc
        refine vb_i (e_fieldAddr _ _) ?_
        refine s_store1 hs.f1 rfl hsc (by rw [rcells_len hroot]; show 0 + 33 < 34; omega) fun C7 hs => ?_
        rw [show (⟨v5, 0, 0⟩ : Ref).off + 33 = 33 from rfl, rcells_puts (l := (putsOf l n).take (j + 1)) hroot] at hs
        have hs : Sep B (fun _ => False) C7 [.obj v5 (.cells 0 .exact (rcells ⟨seqOf s, rootOf s, (putsOf l n).take (j + 1)⟩ y')), .sl y' 2 (j + 1) (flat ptc ((putsOf l n).take (j + 1))), .obj v1 (.cells 0 .exact (rcells zR .nils))] := by
          rw [hst, flat_app, flat_one]
          rw [hst] at hs
          exact hs
        refine vb_i (add64 (by omega) (by omega)) ?_
        exact hk (j + 1) _ ⟨⟨by omega, fun i hi => by
          by_cases e : i = j
          · rw [e, ht]; exact h64j
          · exact hall i (by omega)⟩, y', hs⟩ (by omega)
      · refine isB_ct (by omega) ?_
        refine s_zst hs.f2 rfl fun C9 hs => ?_
        refine onE_s (by decide) (onE_i ?_)
        try simp only [evB]
        exact bad 0 6 hs (by rw [hp0, if_neg (fun hf => h64j (hf.1 j hjn))])
    obtain rfl : j = n := by omega
    refine isB_cf (by omega) ?_
    refine onE_i ?_
    try simp only [evB]
    have hta : (putsOf l j).take j = putsOf l j := List.take_of_length_le (by rw [putsOf_len]; omega)
    rw [hta] at hs
    have hat : ∀ {C : AHeap}, Sep B (fun _ => False) C [.obj v5 (.cells 0 .exact (rcells ⟨seqOf s, rootOf s, putsOf l j⟩ y)), .sl y 2 j (flat ptc (putsOf l j)), .obj v1 (.cells 0 .exact (rcells zR .nils))] → RecAt C ⟨seqOf s, rootOf s, putsOf l j⟩ y := fun {C} hs => ⟨hroot, by
      have := hs.o1.view
      show View C y 2 (putsOf l j).length _
      rw [putsOf_len]; exact this⟩
    have hpl : (⟨seqOf s, rootOf s, putsOf l j⟩ : Rcd).puts.length ≤ 64 := by show (putsOf l j).length ≤ 64; rw [putsOf_len]; exact h64
    have hok : formOk l j ↔ goodR ⟨seqOf s, rootOf s, putsOf l j⟩ = true ∧ layR ⟨seqOf s, rootOf s, putsOf l j⟩ = l.take (longN j) := by
      unfold formOk; rw [hrec]; exact ⟨fun h => h.2, fun h => ⟨hall, h⟩⟩
    refine JoinP.mk (fun e vs D => (e = .ret ∧ vs = [.int .i64 0, .int .i64 6] ∧ ¬ formOk l j ∧ ∃ R, Sep B (fun _ => False) D (.obj v1 (.cells 0 .exact (rcells zR .nils)) :: R)) ∨
        (e = .normal ∧ formOk l j ∧ Sep B (fun _ => False) D [.obj v5 (.cells 0 .exact (rcells ⟨seqOf s, rootOf s, putsOf l j⟩ y)), .sl y 2 j (flat ptc (putsOf l j)), .obj v1 (.cells 0 .exact (rcells zR .nils))])) ?_ ?_
    · refine vb_recA hs.g0 hroot rfl ?_
      obtain ⟨C8, hc, k⟩ := right_spec (hat hs) (Nat.le_trans hpl (by decide))
      refine cb_i _ _ hc ?_
      have hs := hs.quiet k
      refine vb_i (e_not _) ?_
      cases hg : goodR ⟨seqOf s, rootOf s, putsOf l j⟩ with
      | false =>
        refine isB_Tr rfl ?_
        refine s_zst hs.f2 rfl fun C9 hs => ?_
        exact .inl ⟨rfl, rfl, fun hf => absurd (hok.1 hf).1 (by rw [hg]; decide), _, hs⟩
      | true =>
      refine isB_Fa rfl ?_
      refine vb_recA hs.g0 hroot rfl ?_
      obtain ⟨r', C9, hc, hlay⟩ := ref_lay_spec (hat hs) hpl hg
      refine cb_i _ _ hc ?_
      have hs := hs.quiet (hlay.pre fun _ x => x)
      refine vb_i (add64 (by omega) (by omega)) ?_
      rw [show 1 + (((j + 31) / 32 : Nat) : Int) + (j : Int) = ((longN j : Nat) : Int) by rw [hln2]; omega]
      obtain ⟨x', e1, hvx, _⟩ := slice_view (l := none) (h := some (.int .i64 (longN j : Nat))) (lo := 0) (hi := longN j) (hs.rv hv) rfl (by rw [bnd_int (by omega), Int.toNat_natCast]) (Nat.zero_le _) (by omega)
      refine vb_i e1 ?_
      have hvx : View C9 x' 1 (l.take (longN j)).length (strs (l.take (longN j))) := by
        have e2 : (l.take (longN j)).length = longN j - 0 := by rw [List.length_take]; omega
        rw [e2]
        have e3 : ((strs l).drop (0 * 1)).take ((longN j - 0) * 1) = strs (l.take (longN j)) := by simp [strs, List.map_take]
        rw [e3] at hvx
        exact hvx
      obtain ⟨C10, hc, k⟩ := ref_Same_spec hlay.o0.view hvx (by
        have : (layR ⟨seqOf s, rootOf s, putsOf l j⟩).length ≤ 4096 := by simp [layR, headsR, rowsN, atsN, putsOf_len]; omega
        omega)
      refine cb_i _ _ hc ?_
      have hs := hs.quiet k
      refine vb_i e_notd ?_
      refine isB_c (fun h1 => ?_) (fun h1 => ?_)
      · refine s_zst hs.f2 rfl fun C11 hs => ?_
        exact .inl ⟨rfl, rfl, fun hf => h1 (hok.1 hf).2, _, hs⟩
      · exact .inr ⟨rfl, hok.2 ⟨hg, Decidable.not_not.1 h1⟩, hs⟩
    rintro e vs D (⟨rfl, rfl, hf, R, hs⟩ | ⟨rfl, hf, hs⟩)
    · refine onE_s (by decide) (onE_i ?_)
      exact bad 0 6 hs (by rw [hp0, if_neg hf])
    refine onE_i ?_
    have hv2 := hs.o1.view
    refine vb_recA hs.g0 hroot rfl ?_
    refine vb_i (add64 (by omega) (by omega)) ?_
    rw [show 1 + (((j + 31) / 32 : Nat) : Int) + (j : Int) = ((longN j : Nat) : Int) by rw [hln2]; omega]
    refine s_storeA hs.f2 rfl (rcells_len hroot) (rcells_len rfl) (rcells_all (view_cell hv2)) fun D2 hs => ?_
    refine parse_end hs.g0 hroot ?_
    rw [hp0, if_pos hf, hrec]
    exact ⟨hs.pre fun _ x => x, y, rfl, hs.pre fun _ x => x, newAt_sl (q := ⟨seqOf s, rootOf s, putsOf l j⟩) hs.f2 hroot (putsOf_len l j)⟩)
  exact ⟨y, C, h, k⟩
end
end Go.Sh

/- All records of a list of blocks. -/
namespace Go.Sh
open Go Go.Abs

def RC : Type := { p : Rcd × AVal // p.1.root.length = 32 }
def rc (b : RC) : List AVal := rcells b.1.1 b.1.2
theorem rc_len (b : RC) : (rc b).length = 34 := rcells_len b.2
def Part.recs (rows : List RC) : Part where
  ids := rows.flatMap fun r => (slId r.1.2).toList
  ok B := ∀ r ∈ rows, View B r.1.2 2 r.1.1.puts.length (flat ptc r.1.1.puts)
  loc B C h k r hr := View.loc (fun i hi => h i (List.mem_flatMap.2 ⟨r, hr, hi⟩)) (k r hr)
  live B h i hi := by
    obtain ⟨r, hr, hi⟩ := List.mem_flatMap.1 hi
    exact View.lt (h r hr) (by simpa using hi)
def allFrom : Nat → List Rcd → List (List UInt8) → List Rcd × Int
  | 0, acc, _ => (acc, 0)
  | f + 1, acc, l => if l.length = 0 then (acc, 0) else if (parseR l).2.2 ≠ 0 then ([], (parseR l).2.2) else allFrom f (acc ++ [(parseR l).1]) (l.drop (parseR l).2.1)
def allR (l : List (List UInt8)) : List Rcd × Int := allFrom (l.length + 1) [] l
theorem parse_step (l : List (List UInt8)) (h : (parseR l).2.2 = 0) : 1 ≤ (parseR l).2.1 ∧ (parseR l).2.1 ≤ l.length := by
  unfold parseR at *
  split at h
  · exact absurd h (by decide)
  rename_i h0
  rw [if_neg h0]
  split at h
  · exact absurd h (by decide)
  rename_i h1
  rw [if_neg h1]
  split at h
  · exact absurd h (by decide)
  rename_i h2
  rw [if_neg h2]
  split at h
  · rename_i h3
    rw [if_pos h3]
    refine ⟨?_, by show longN _ ≤ _; omega⟩
    show 1 ≤ longN _
    unfold longN; omega
  · exact absurd h (by decide)
theorem aSlice_det {B C : AHeap} {es : Nat} {x a b : AVal} {l h m : Option AVal} (h1 : aSlice B es x l h m = some a) (h2 : aSlice C es x l h m = some b) : a = b := by
  cases x with
  | nils =>
    simp only [aSlice] at h1 h2
    rw [h1] at h2
    exact Option.some.inj h2
  | slice r n c =>
    cases c with
    | ex c =>
      simp only [aSlice] at h1 h2
      cases hl : bnd 0 l <;> cases hh : bnd n h <;> cases hm : bnd c m <;> simp only [hl, hh, hm] at h1 h2 <;> try (cases h1; done)
      rename_i p q t
      by_cases c1 : r.ver = verOf B r.id ∧ p ≤ q ∧ q ≤ t ∧ t ≤ c
      · by_cases c2 : r.ver = verOf C r.id ∧ p ≤ q ∧ q ≤ t ∧ t ≤ c
        · rw [if_pos c1] at h1
          rw [if_pos c2] at h2
          rw [h1] at h2
          exact Option.some.inj h2
        · rw [if_neg c2] at h2; cases h2
      · rw [if_neg c1] at h1; cases h1
    | op e =>
      cases m with
      | none =>
        simp only [aSlice] at h1 h2
        cases hl : bnd 0 l <;> cases hh : bnd n h <;> simp only [hl, hh] at h1 h2 <;> try (cases h1; done)
        rename_i p q
        by_cases c1 : r.ver = verOf B r.id ∧ e = es ∧ p ≤ q ∧ q ≤ n
        · by_cases c2 : r.ver = verOf C r.id ∧ e = es ∧ p ≤ q ∧ q ≤ n
          · rw [if_pos c1] at h1
            rw [if_pos c2] at h2
            rw [h1] at h2
            exact Option.some.inj h2
          · rw [if_neg c2] at h2; cases h2
        · rw [if_neg c1] at h1; cases h1
      | some m =>
        simp only [aSlice] at h1 h2
        cases hl : bnd 0 l <;> cases hh : bnd n h <;> cases hm : bnd n (some m) <;> simp only [hl, hh, hm] at h1 h2 <;> try (cases h1; done)
        rename_i p q t
        by_cases c1 : r.ver = verOf B r.id ∧ p ≤ q ∧ q ≤ t ∧ t ≤ n ∧ 0 < n
        · by_cases c2 : r.ver = verOf C r.id ∧ p ≤ q ∧ q ≤ t ∧ t ≤ n ∧ 0 < n
          · rw [if_pos c1] at h1
            rw [if_pos c2] at h2
            rw [h1] at h2
            exact Option.some.inj h2
          · rw [if_neg c2] at h2; cases h2
        · rw [if_neg c1] at h1; cases h1
  | _ => simp only [aSlice] at h1; cases h1
theorem fill_row {z xs : List AVal} {n : Nat} (h : xs.length = n) (hz : z.length = n) : fillA (fun i => some (i * n, n)) (fillCells 1 z) [(0, .agg xs)] = some xs := by
  have hf : fillCells 1 z = z := by simp [fillCells]
  have hd : (AVal.agg xs).defd = true := rfl
  have hc : (AVal.agg xs).cells = xs := rfl
  simp only [fillA, hf, hd, hc]
  rw [if_pos ⟨trivial, h, by omega⟩, Nat.zero_mul, splice_whole (by omega)]
section
variable {B : AHeap}
theorem all_spec {x : AVal} {l : List (List UInt8)} (hv : View B x 1 l.length (strs l)) (h3 : l.length ≤ 1048576) :
    ∃ (out : AVal) (rows : List RC) (C : AHeap), S_record_All [x] B (.tup [out, .int .i64 (allR l).2]) C ∧ rows.map (fun r => r.1.1) = (allR l).1 ∧ Sep B (fun _ => False) C [.sl out 34 rows.length (flat rc rows), Part.recs rows] := by
  obtain ⟨r, C, h, out, rows, rfl, hm, k⟩ := record_All.out (x0 := x) (H := B) (Q := fun r C => ∃ (out : AVal) (rows : List RC), r = .tup [out, .int .i64 (allR l).2] ∧ rows.map (fun r => r.1.1) = (allR l).1 ∧ Sep B (fun _ => False) C [.sl out 34 rows.length (flat rc rows), Part.recs rows]) (by
    unfold record_All.w
    have hs : Sep B (fun _ => False) B [] := Sep.start B
    have none_ : ∀ {C : AHeap} {R : List Part}, Sep B (fun _ => False) C R → Sep B (fun _ => False) C [.sl .nils 34 0 (flat rc []), Part.recs []] := fun {C R} h =>
      (s_nils ((s_nils (Sep.drop (R1 := []) (R := R) h) 34).as (b := Part.recs []) rfl fun _ r hr => by cases hr) 34)
    refine LoopP.ruleG (α := AVal × AVal × Nat × List RC) (fun a => [a.1, a.2.1]) (fun a C => a.2.2.1 ≤ l.length ∧ a.2.2.2.length ≤ a.2.2.1 ∧ View B a.1 1 (l.drop a.2.2.1).length (strs (l.drop a.2.2.1)) ∧
      (∃ f, (l.drop a.2.2.1).length < f ∧ allR l = allFrom f (a.2.2.2.map fun r => r.1.1) (l.drop a.2.2.1)) ∧
      Sep B (fun _ => False) C [.sl a.2.1 34 a.2.2.2.length (flat rc a.2.2.2), Part.recs a.2.2.2]) (fun a => l.length - a.2.2.1) (x, .nils, 0, []) (by simp)
      ⟨Nat.zero_le _, Nat.le_refl _, hv, ⟨l.length + 1, by simp, rfl⟩, none_ hs⟩ ?_
    clear hs
    rintro ⟨a, out, k, rows⟩ C Kn ⟨hk0, hrk, ha, ⟨f, hf, hall⟩, hs⟩ hk
    simp only at hk0 hrk ha hf hall hs
    unfold record_All.L2 record_All.L2.b
    try simp only [evB]
    refine vb_i (lenSl_view (hs.rv ha)) ?_
    refine vb_i (gtr64 _ _ _) ?_
    have hdl : (l.drop k).length = l.length - k := List.length_drop
    obtain ⟨f, rfl⟩ : ∃ f', f = f' + 1 := ⟨f - 1, by omega⟩
    by_cases h0 : (l.drop k).length = 0
    · refine isB_cf (by omega) ?_
      refine onE_i ?_
      try simp only [evB]
      have he : allR l = (rows.map fun r => r.1.1, 0) := by rw [hall, allFrom, if_pos h0]
      rw [he]
      exact fin_ret (rvs_v (rvs_v (rvs_nil _))) ⟨hs.pre fun _ x => x, out, rows, rfl, rfl, hs⟩
    refine isB_ct (by omega) ?_
    obtain ⟨y, C2, hc, kp, hnew⟩ := parse_spec (hs.rv ha) (by omega)
    refine cb_i _ _ hc ?_
    have hs := hs.call01 (hnew.2.own_of fun _ h => h.elim)
    refine vb_i e_ext0 ?_
    refine vb_i e_ext1 ?_
    refine vb_i e_ext2 ?_
    refine s_alloc hs fun t C3 _ hs => ?_
    refine s_storeA hs rfl (rcells_len hnew.1) rfl (rcells_all (view_cell hnew.2.head)) fun C4 hs => ?_
    refine vb_i (neq64 _ _ _) ?_
    by_cases he : (parseR (l.drop k)).2.2 ≠ 0
    · refine isB_ct he ?_
      refine onE_s (by decide) (onE_i ?_)
      try simp only [evB]
      have ha2 : allR l = ([], (parseR (l.drop k)).2.2) := by rw [hall, allFrom, if_neg h0, if_pos he]
      rw [ha2]
      exact fin_ret (rvs_v (rvs_v (rvs_nil _))) ⟨hs.pre fun _ x => x, .nils, [], rfl, rfl, none_ hs⟩
    have he0 := Decidable.not_not.1 he
    refine isB_cf (fun h => h he0) ?_
    obtain ⟨hn1, hn2⟩ := parse_step (l.drop k) he0
    refine vb_recA hs.g0 hnew.1 rfl ?_
    have hcell := view_cell hnew.2.head
    obtain ⟨row, hrow⟩ : ∃ row : RC, row = ⟨((parseR (l.drop k)).1, y), hnew.1⟩ := ⟨_, rfl⟩
    refine s_push (es := 34) (m := 1) (xs := rc row) hs.f2 (by rw [hrow]; exact fill_row (rcells_len hnew.1) rfl) (by decide) (rc_len row) (by rw [hrow]; exact rcells_all hcell) (by unfold room; omega) (by unfold room; omega) fun out' C6 hs => ?_
    obtain ⟨a', e1, hva, _⟩ := slice_view (l := some (.int .i64 ((parseR (l.drop k)).2.1 : Nat))) (h := none) (lo := (parseR (l.drop k)).2.1) (hi := (l.drop k).length) ha (by rw [bnd_int (by omega), Int.toNat_natCast]) rfl hn2 (Nat.le_refl _)
    obtain ⟨a2, e2, _, _⟩ := slice_view (l := some (.int .i64 ((parseR (l.drop k)).2.1 : Nat))) (h := none) (lo := (parseR (l.drop k)).2.1) (hi := (l.drop k).length) (hs.rv ha) (by rw [bnd_int (by omega), Int.toNat_natCast]) rfl hn2 (Nat.le_refl _)
    obtain rfl := aSlice_det e1 e2
    refine vb_i e2 ?_
    have hd2 : (l.drop k).drop (parseR (l.drop k)).2.1 = l.drop (k + (parseR (l.drop k)).2.1) := List.drop_drop ..
    have hva : View B a' 1 (l.drop (k + (parseR (l.drop k)).2.1)).length (strs (l.drop (k + (parseR (l.drop k)).2.1))) := by
      rw [← hd2]
      have e3 : ((strs (l.drop k)).drop ((parseR (l.drop k)).2.1 * 1)).take (((l.drop k).length - (parseR (l.drop k)).2.1) * 1) = strs ((l.drop k).drop (parseR (l.drop k)).2.1) := by
        rw [Nat.mul_one, Nat.mul_one, List.take_of_length_le (by simp [strs]; omega)]
        simp [strs, List.map_drop]
      rw [e3] at hva
      rw [List.length_drop]
      exact hva
    refine hk (a', out', k + (parseR (l.drop k)).2.1, rows ++ [row]) _ ⟨by show k + _ ≤ _; omega, by show (rows ++ [row]).length ≤ k + (parseR (l.drop k)).2.1; rw [List.length_append, List.length_singleton]; omega, hva, ⟨f, ?_, ?_⟩, ?_⟩ (by show l.length - (k + _) < l.length - k; omega)
    · show (l.drop (k + _)).length < f
      rw [List.length_drop]; omega
    · rw [hall, allFrom, if_neg h0, if_neg he, hd2]
      show allFrom f _ _ = allFrom f ((rows ++ [row]).map fun r => r.1.1) _
      rw [List.map_append, hrow]; rfl
    · have hs := hs.f1.tail.f1.f2.join
      have hs := (hs.as (b := Part.recs (rows ++ [row])) (by rw [hrow]; show (rows ++ [_]).flatMap _ = _; rw [List.flatMap_append]; simp [Part.and, Part.recs, Part.vw]; exact List.append_nil _) (fun h r hr => by
        rcases List.mem_append.1 hr with hr | hr
        · exact h.1 r hr
        · have e : r = row := by simpa using hr
          rw [e, hrow]; exact h.2.1)).f1
      show Sep B (fun _ => False) _ [.sl out' 34 (rows ++ [row]).length (flat rc (rows ++ [row])), Part.recs (rows ++ [row])]
      rw [List.length_append, flat_app, flat_one]
      exact hs)
  exact ⟨out, rows, C, h, hm, k⟩
end
end Go.Sh

/- What Go functions come to over abstract values, printed by a program (wx.py); of each function its own text is what is told of it. -/
namespace Go.Sh
open Go Go.Abs

def cellaretlaw13_RecordParses.L11.b (x11_11 : AVal) (x12_11 : AVal) (x13_11 : AVal) (H41 : AHeap) (Kn42 : List AVal → AHeap → Prop) (Ke43 : AExit → List AVal → AHeap → Prop) : Prop :=
  vb (lenSl x13_11) fun v44 =>
  vb (aBin .gtr v44 (.int .i64 0)) fun v45 =>
  isB v45 fun b46 => cond b46
    (cb (S_cellaretref13_Parse [x13_11] H41) fun v47 H48 =>
    vb (aExtract v47 0) fun v49 =>
    vb (aExtract v47 1) fun v50 =>
    vb (aExtract v47 2) fun v51 =>
    hb (aAlloc H48 [.int .i64 0, .int .u8 0, .int .u8 0, .int .u8 0, .int .u8 0, .int .u8 0, .int .u8 0, .int .u8 0, .int .u8 0, .int .u8 0, .int .u8 0, .int .u8 0, .int .u8 0, .int .u8 0, .int .u8 0, .int .u8 0, .int .u8 0, .int .u8 0, .int .u8 0, .int .u8 0, .int .u8 0, .int .u8 0, .int .u8 0, .int .u8 0, .int .u8 0, .int .u8 0, .int .u8 0, .int .u8 0, .int .u8 0, .int .u8 0, .int .u8 0, .int .u8 0, .int .u8 0, .nils]) fun v52 H53 =>
    sb (aStore H53 34 v52 v49) fun H54 =>
    vb (aBin .neq v51 (.int .i64 0)) fun v55 =>
    isB v55 fun b56 => cond b56
      (Ke43 (.exit 0) [x11_11, v51] H54)
      (vb (aLoad H54 true 34 v52) fun v57 =>
      hb (aBuildSlice H54 34 [.int .i64 0, .int .u8 0, .int .u8 0, .int .u8 0, .int .u8 0, .int .u8 0, .int .u8 0, .int .u8 0, .int .u8 0, .int .u8 0, .int .u8 0, .int .u8 0, .int .u8 0, .int .u8 0, .int .u8 0, .int .u8 0, .int .u8 0, .int .u8 0, .int .u8 0, .int .u8 0, .int .u8 0, .int .u8 0, .int .u8 0, .int .u8 0, .int .u8 0, .int .u8 0, .int .u8 0, .int .u8 0, .int .u8 0, .int .u8 0, .int .u8 0, .int .u8 0, .int .u8 0, .nils] 1 [(0, v57)]) fun v58 H59 =>
      hb (aAppendS H59 34 64 x11_11 v58) fun v60 H61 =>
      vb (aSlice H61 1 x13_11 (some v50) none none) fun v62 =>
      Kn42 [v60, x12_11, v62] H61))
    (Ke43 (.exit 0) [x11_11, x12_11] H41)

def cellaretlaw13_RecordParses.L11 : Body := fun vs H Kn Ke => cellaretlaw13_RecordParses.L11.b (vs.getD 0 .undef) (vs.getD 1 .undef) (vs.getD 2 .undef) H Kn Ke

def cellaretlaw13_RecordParses.L22.b (v39 : AVal) (vs64 : List AVal) (x17_22 : AVal) (H85 : AHeap) (Kn86 : List AVal → AHeap → Prop) (Ke87 : AExit → List AVal → AHeap → Prop) : Prop :=
  vb (lenSl v39) fun v88 =>
  vb (aBin .lss x17_22 v88) fun v89 =>
  isB v89 fun b90 => cond b90
    (vb (aIndexAddr 34 v39 x17_22) fun v91 =>
    vb (aLoad H85 true 34 v91) fun v92 =>
    vb (aIndexAddr 34 (vs64.getD 0 .undef) x17_22) fun v93 =>
    vb (aLoad H85 true 34 v93) fun v94 =>
    cb (S_cellaretref13_Same [v92, v94] H85) fun v95 H96 =>
    vb (aUn .not v95) fun v97 =>
    isB v97 fun b98 => cond b98
      (Ke87 .ret [.bool false] H96)
      (vb (aBin .add x17_22 (.int .i64 1)) fun v99 =>
      Kn86 [v99] H96))
    (Ke87 (.exit 2) [.undef] H85)

def cellaretlaw13_RecordParses.L22 (v39 : AVal) (vs64 : List AVal) : Body := fun vs H Kn Ke => cellaretlaw13_RecordParses.L22.b v39 vs64 (vs.getD 0 .undef) H Kn Ke

def cellaretlaw13_RecordParses.w (x0 : AVal) (H : AHeap) (K : AVal → AHeap → Prop) : Prop :=
  cb (S_cellaretlaw13_short [x0] H) fun v1 H2 =>
  vb (aUn .not v1) fun v3 =>
  isB v3 fun b4 => cond b4
    (cb (S_cellaretlaw13_awake [] H2) fun v5 H6 =>
    fin .ret [.v (v5)] H6 K)
    (cb (S_record_Parse [x0] H2) fun v7 H8 =>
    vb (aExtract v7 0) fun v9 =>
    vb (aExtract v7 1) fun v10 =>
    vb (aExtract v7 2) fun v11 =>
    hb (aAlloc H8 [.int .i64 0, .int .u8 0, .int .u8 0, .int .u8 0, .int .u8 0, .int .u8 0, .int .u8 0, .int .u8 0, .int .u8 0, .int .u8 0, .int .u8 0, .int .u8 0, .int .u8 0, .int .u8 0, .int .u8 0, .int .u8 0, .int .u8 0, .int .u8 0, .int .u8 0, .int .u8 0, .int .u8 0, .int .u8 0, .int .u8 0, .int .u8 0, .int .u8 0, .int .u8 0, .int .u8 0, .int .u8 0, .int .u8 0, .int .u8 0, .int .u8 0, .int .u8 0, .int .u8 0, .nils]) fun v12 H13 =>
    sb (aStore H13 34 v12 v9) fun H14 =>
    cb (S_cellaretref13_Parse [x0] H14) fun v15 H16 =>
    vb (aExtract v15 0) fun v17 =>
    vb (aExtract v15 1) fun v18 =>
    vb (aExtract v15 2) fun v19 =>
    hb (aAlloc H16 [.int .i64 0, .int .u8 0, .int .u8 0, .int .u8 0, .int .u8 0, .int .u8 0, .int .u8 0, .int .u8 0, .int .u8 0, .int .u8 0, .int .u8 0, .int .u8 0, .int .u8 0, .int .u8 0, .int .u8 0, .int .u8 0, .int .u8 0, .int .u8 0, .int .u8 0, .int .u8 0, .int .u8 0, .int .u8 0, .int .u8 0, .int .u8 0, .int .u8 0, .int .u8 0, .int .u8 0, .int .u8 0, .int .u8 0, .int .u8 0, .int .u8 0, .int .u8 0, .int .u8 0, .nils]) fun v20 H21 =>
    sb (aStore H21 34 v20 v17) fun H22 =>
    JoinP (fun Kj23 => vb (aLoad H22 true 34 v12) fun v24 =>
      vb (aLoad H22 true 34 v20) fun v25 =>
      cb (S_cellaretref13_Same [v24, v25] H22) fun v26 H27 =>
      vb (aUn .not v26) fun v28 =>
      isB v28 fun b29 => cond b29
        (Kj23 .ret [.bool false] H27)
        (vb (aBin .neq v10 v18) fun v30 =>
            isB v30 fun b31 => cond b31
              (Kj23 .ret [.bool false] H27)
              (vb (aBin .neq v11 v19) fun v32 =>
                  isB v32 fun b33 => cond b33
                    (Kj23 .ret [.bool false] H27)
                    (Kj23 .normal [.bool false] H27))))
    (fun e34 vs35 H36 =>
      onE e34 .normal
        (cb (S_record_All [x0] H36) fun v37 H38 =>
        vb (aExtract v37 0) fun v39 =>
        vb (aExtract v37 1) fun v40 =>
        LoopP cellaretlaw13_RecordParses.L11 [.nils, .int .i64 0, x0] H38 fun e63 vs64 H65 =>
          onE e63 (.exit 0)
            (vb (aBin .neq (vs64.getD 1 .undef) (.int .i64 0)) fun v66 =>
            isB v66 fun b67 => cond b67
              (cb (S_cellaretlaw13_awake [] H65) fun v68 H69 =>
              isB v68 fun b70 => cond b70
                (vb (lenSl v39) fun v71 =>
                  vb (aBin .eql v71 (.int .i64 0)) fun v72 =>
                    isB v72 fun b73 => cond b73
                      (vb (aBin .eql v40 (vs64.getD 1 .undef)) fun v74 =>
                          fin .ret [.v (v74)] H69 K)
                      (fin .ret [.v (.bool false)] H69 K))
                (fin .ret [.v (.bool false)] H69 K))
              (JoinP (fun Kj75 => vb (lenSl v39) fun v76 =>
                vb (lenSl (vs64.getD 0 .undef)) fun v77 =>
                vb (aBin .neq v76 v77) fun v78 =>
                isB v78 fun b79 => cond b79
                  (Kj75 .ret [.bool false] H65)
                  (vb (aBin .neq v40 (.int .i64 0)) fun v80 =>
                    isB v80 fun b81 => cond b81
                      (Kj75 .ret [.bool false] H65)
                      (Kj75 .normal [vs35.getD 0 .undef] H65)))
              (fun e82 vs83 H84 =>
                onE e82 .normal
                  (LoopP (cellaretlaw13_RecordParses.L22 v39 vs64) [.int .i64 0] H84 fun e100 vs101 H102 =>
                    onE e100 (.exit 2)
                      (cb (S_cellaretlaw13_awake [] H102) fun v103 H104 =>
                      fin .ret [.v (v103)] H104 K)
                    (onE e100 .ret
                      (fin .ret [.v (vs101.getD 0 .undef)] H102 K)
                    (False)))
                (onE e82 .ret
                  (fin .ret [.v (vs83.getD 0 .undef)] H84 K)
                (False)))))
          (False))
      (onE e34 .ret
        (fin .ret [.v (vs35.getD 0 .undef)] H36 K)
      (False))))

def S_cellaretlaw13_RecordParses : Abs.Spec := fun args H r H' => ∃ x0 : AVal, args = [x0] ∧ (cellaretlaw13_RecordParses.w x0 H fun r1 H1 => r1 = r ∧ H1 = H') ∧ H <+: H'
theorem cellaretlaw13_RecordParses.ok (args : List AVal) (H : AHeap) (r : AVal) (H' : AHeap) (h : S_cellaretlaw13_RecordParses args H r H') : ∃ x0 : AVal, args = [x0] ∧ cellaretlaw13_RecordParses.w x0 H fun r1 H1 => r1 = r ∧ H1 = H' := by
  obtain ⟨x0, h1, h2, _⟩ := h
  exact ⟨x0, h1, h2⟩
theorem cellaretlaw13_RecordParses.quiet {args : List AVal} {H : AHeap} {r : AVal} {H' : AHeap} (h : S_cellaretlaw13_RecordParses args H r H') : H <+: H' := by
  obtain ⟨_, _, _, h⟩ := h
  exact h
set_option maxRecDepth 100000 in
theorem cellaretlaw13_RecordParses.ex (x0 : AVal) (H : AHeap) : Ex fun K : AVal × AHeap → Prop => cellaretlaw13_RecordParses.w x0 H fun r H => K (r, H) := by
  unfold cellaretlaw13_RecordParses.w
  repeat with_reducible first
    | exact Ex.pt _
    | exact Ex.fin
    | exact Ex.no
    | refine Ex.vb fun _ => ?_
    | refine Ex.hb fun _ _ => ?_
    | refine Ex.sb fun _ => ?_
    | refine Ex.cb fun _ _ => ?_
    | refine Ex.isB fun _ => ?_
    | refine Ex.cond ?_ ?_
    | refine Ex.onE ?_ ?_
    | refine Ex.join ?_ fun _ _ _ => ?_
    | refine Ex.loop (fun _ _ => ?_) fun _ _ _ => ?_
    | (unfold cellaretlaw13_RecordParses.L11; unfold cellaretlaw13_RecordParses.L11.b)
    | (unfold cellaretlaw13_RecordParses.L22; unfold cellaretlaw13_RecordParses.L22.b)

theorem cellaretlaw13_RecordParses.out {x0 : AVal} {H : AHeap} {Q : AVal → AHeap → Prop} (h : cellaretlaw13_RecordParses.w x0 H fun r H' => H <+: H' ∧ Q r H') : ∃ r H', S_cellaretlaw13_RecordParses [x0] H r H' ∧ Q r H' := by
  obtain ⟨r, H', h1, h2⟩ := (cellaretlaw13_RecordParses.ex x0 H).out h
  exact ⟨r, H', ⟨_, rfl, h1, h2.1⟩, h2.2⟩

def cellaretlaw13_RecordBack.w (x0 : AVal) (x1 : AVal) (x2 : AVal) (H : AHeap) (K : AVal → AHeap → Prop) : Prop :=
  hb (aBox H x0) fun v1 H2 =>
  hb (aBox H2 x1) fun v3 H4 =>
  JoinP (fun Kj5 => vb (aLoad H4 true 34 v1) fun v6 =>
    cb (S_cellaretlaw13_light [v6] H4) fun v7 H8 =>
    vb (aUn .not v7) fun v9 =>
    isB v9 fun b10 => cond b10
      (cb (S_cellaretlaw13_awake [] H8) fun v11 H12 =>
                Kj5 .ret [v11] H12)
      (vb (aLoad H8 true 34 v3) fun v13 =>
      cb (S_cellaretlaw13_light [v13] H8) fun v14 H15 =>
        vb (aUn .not v14) fun v16 =>
          isB v16 fun b17 => cond b17
            (cb (S_cellaretlaw13_awake [] H15) fun v18 H19 =>
                Kj5 .ret [v18] H19)
            (cb (S_cellaretlaw13_short [x2] H15) fun v20 H21 =>
              vb (aUn .not v20) fun v22 =>
                isB v22 fun b23 => cond b23
                  (cb (S_cellaretlaw13_awake [] H21) fun v24 H25 =>
                  Kj5 .ret [v24] H25)
                  (Kj5 .normal [.bool false] H21))))
  (fun e26 vs27 H28 =>
    onE e26 .normal
      (vb (aLoad H28 true 34 v1) fun v29 =>
      cb (S_record_Lay [v29] H28) fun v30 H31 =>
      vb (aExtract v30 0) fun v32 =>
      vb (aExtract v30 1) fun v33 =>
      vb (aLoad H31 true 34 v3) fun v34 =>
      cb (S_record_Lay [v34] H31) fun v35 H36 =>
      vb (aExtract v35 0) fun v37 =>
      vb (aExtract v35 1) fun v38 =>
      JoinP (fun Kj39 => vb (aBin .neq v33 (.int .i64 0)) fun v40 =>
        isB v40 fun b41 => cond b41
          (cb (S_cellaretlaw13_awake [] H36) fun v42 H43 =>
            Kj39 .ret [v42] H43)
          (vb (aBin .neq v38 (.int .i64 0)) fun v44 =>
            isB v44 fun b45 => cond b45
              (cb (S_cellaretlaw13_awake [] H36) fun v46 H47 =>
              Kj39 .ret [v46] H47)
              (Kj39 .normal [vs27.getD 0 .undef] H36)))
      (fun e48 vs49 H50 =>
        onE e48 .normal
          (hb (aBuildSlice H50 1 [.str []] 0 []) fun v51 H52 =>
          hb (aAppendS H52 1 16 v51 v32) fun v53 H54 =>
          hb (aAppendS H54 1 16 v53 x2) fun v55 H56 =>
          cb (S_record_Parse [v55] H56) fun v57 H58 =>
          vb (aExtract v57 0) fun v59 =>
          vb (aExtract v57 1) fun v60 =>
          vb (aExtract v57 2) fun v61 =>
          hb (aAlloc H58 [.int .i64 0, .int .u8 0, .int .u8 0, .int .u8 0, .int .u8 0, .int .u8 0, .int .u8 0, .int .u8 0, .int .u8 0, .int .u8 0, .int .u8 0, .int .u8 0, .int .u8 0, .int .u8 0, .int .u8 0, .int .u8 0, .int .u8 0, .int .u8 0, .int .u8 0, .int .u8 0, .int .u8 0, .int .u8 0, .int .u8 0, .int .u8 0, .int .u8 0, .int .u8 0, .int .u8 0, .int .u8 0, .int .u8 0, .int .u8 0, .int .u8 0, .int .u8 0, .int .u8 0, .nils]) fun v62 H63 =>
          sb (aStore H63 34 v62 v59) fun H64 =>
          hb (aBuildSlice H64 1 [.str []] 0 []) fun v65 H66 =>
          hb (aAppendS H66 1 16 v65 v32) fun v67 H68 =>
          hb (aAppendS H68 1 16 v67 v37) fun v69 H70 =>
          cb (S_record_All [v69] H70) fun v71 H72 =>
          vb (aExtract v71 0) fun v73 =>
          vb (aExtract v71 1) fun v74 =>
          cb (S_cellaretlaw13_awake [] H72) fun v75 H76 =>
          isB v75 fun b77 => cond b77
            (vb (aBin .eql v61 (.int .i64 0)) fun v78 =>
              isB v78 fun b79 => cond b79
                (vb (lenSl v32) fun v80 =>
                    vb (aBin .eql v60 v80) fun v81 =>
                      isB v81 fun b82 => cond b82
                        (vb (aLoad H76 true 34 v62) fun v83 =>
                        vb (aLoad H76 true 34 v1) fun v84 =>
                          cb (S_cellaretref13_Same [v83, v84] H76) fun v85 H86 =>
                            isB v85 fun b87 => cond b87
                              (vb (aBin .eql v74 (.int .i64 0)) fun v88 =>
                                isB v88 fun b89 => cond b89
                                  (vb (lenSl v73) fun v90 =>
                                    vb (aBin .eql v90 (.int .i64 2)) fun v91 =>
                                      isB v91 fun b92 => cond b92
                                        (vb (aIndexAddr 34 v73 (.int .i64 0)) fun v93 =>
                                          vb (aLoad H86 true 34 v93) fun v94 =>
                                            vb (aLoad H86 true 34 v1) fun v95 =>
                                              cb (S_cellaretref13_Same [v94, v95] H86) fun v96 H97 =>
                                                isB v96 fun b98 => cond b98
                                                  (vb (aIndexAddr 34 v73 (.int .i64 1)) fun v99 =>
                                                    vb (aLoad H97 true 34 v99) fun v100 =>
                                                      vb (aLoad H97 true 34 v3) fun v101 =>
                                                        cb (S_cellaretref13_Same [v100, v101] H97) fun v102 H103 =>
                                                          fin .ret [.v (v102)] H103 K)
                                                  (fin .ret [.v (.bool false)] H97 K))
                                        (fin .ret [.v (.bool false)] H86 K))
                                  (fin .ret [.v (.bool false)] H86 K))
                              (fin .ret [.v (.bool false)] H86 K))
                        (fin .ret [.v (.bool false)] H76 K))
                (fin .ret [.v (.bool false)] H76 K))
            (fin .ret [.v (.bool false)] H76 K))
        (onE e48 .ret
          (fin .ret [.v (vs49.getD 0 .undef)] H50 K)
        (False))))
    (onE e26 .ret
      (fin .ret [.v (vs27.getD 0 .undef)] H28 K)
    (False)))

def S_cellaretlaw13_RecordBack : Abs.Spec := fun args H r H' => ∃ x0 x1 x2 : AVal, args = [x0, x1, x2] ∧ (cellaretlaw13_RecordBack.w x0 x1 x2 H fun r1 H1 => r1 = r ∧ H1 = H') ∧ H <+: H'
theorem cellaretlaw13_RecordBack.ok (args : List AVal) (H : AHeap) (r : AVal) (H' : AHeap) (h : S_cellaretlaw13_RecordBack args H r H') : ∃ x0 x1 x2 : AVal, args = [x0, x1, x2] ∧ cellaretlaw13_RecordBack.w x0 x1 x2 H fun r1 H1 => r1 = r ∧ H1 = H' := by
  obtain ⟨x0, x1, x2, h1, h2, _⟩ := h
  exact ⟨x0, x1, x2, h1, h2⟩
theorem cellaretlaw13_RecordBack.quiet {args : List AVal} {H : AHeap} {r : AVal} {H' : AHeap} (h : S_cellaretlaw13_RecordBack args H r H') : H <+: H' := by
  obtain ⟨_, _, _, _, _, h⟩ := h
  exact h
set_option maxRecDepth 100000 in
theorem cellaretlaw13_RecordBack.ex (x0 x1 x2 : AVal) (H : AHeap) : Ex fun K : AVal × AHeap → Prop => cellaretlaw13_RecordBack.w x0 x1 x2 H fun r H => K (r, H) := by
  unfold cellaretlaw13_RecordBack.w
  repeat with_reducible first
    | exact Ex.pt _
    | exact Ex.fin
    | exact Ex.no
    | refine Ex.vb fun _ => ?_
    | refine Ex.hb fun _ _ => ?_
    | refine Ex.sb fun _ => ?_
    | refine Ex.cb fun _ _ => ?_
    | refine Ex.isB fun _ => ?_
    | refine Ex.cond ?_ ?_
    | refine Ex.onE ?_ ?_
    | refine Ex.join ?_ fun _ _ _ => ?_
    | refine Ex.loop (fun _ _ => ?_) fun _ _ _ => ?_

theorem cellaretlaw13_RecordBack.out {x0 x1 x2 : AVal} {H : AHeap} {Q : AVal → AHeap → Prop} (h : cellaretlaw13_RecordBack.w x0 x1 x2 H fun r H' => H <+: H' ∧ Q r H') : ∃ r H', S_cellaretlaw13_RecordBack [x0, x1, x2] H r H' ∧ Q r H' := by
  obtain ⟨r, H', h1, h2⟩ := (cellaretlaw13_RecordBack.ex x0 x1 x2 H).out h
  exact ⟨r, H', ⟨_, _, _, rfl, h1, h2.1⟩, h2.2⟩

end Go.Sh

/- What any list of blocks begins with; and all of it. -/
namespace Go.Sh
open Go Go.Abs

def wantFrom : Nat → List Rcd → List (List UInt8) → List Rcd × Int
  | 0, acc, _ => (acc, 0)
  | f + 1, acc, l => if l.length = 0 then (acc, 0) else if (parseR l).2.2 ≠ 0 then (acc, (parseR l).2.2) else wantFrom f (acc ++ [(parseR l).1]) (l.drop (parseR l).2.1)
theorem all_want : ∀ (f : Nat) (acc : List Rcd) (l : List (List UInt8)), allFrom f acc l = if (wantFrom f acc l).2 ≠ 0 then ([], (wantFrom f acc l).2) else wantFrom f acc l
  | 0, acc, l => by simp [allFrom, wantFrom]
  | f + 1, acc, l => by
    unfold allFrom wantFrom
    by_cases h0 : l.length = 0
    · rw [if_pos h0, if_pos h0]; simp
    rw [if_neg h0, if_neg h0]
    by_cases he : (parseR l).2.2 ≠ 0
    · rw [if_pos he, if_pos he, if_pos he]
    · rw [if_neg he, if_neg he]; exact all_want f _ _
theorem parse_puts (l : List (List UInt8)) : (parseR l).1.puts.length ≤ 64 := by
  rcases parse_cases l with ⟨q, n, h, _, h64, _⟩ | ⟨e, h, _⟩
  · rw [h]; exact h64
  · rw [h]; exact Nat.zero_le _
theorem want_puts : ∀ (f : Nat) (acc : List Rcd) (l : List (List UInt8)), (∀ q ∈ acc, q.puts.length ≤ 64) → ∀ q ∈ (wantFrom f acc l).1, q.puts.length ≤ 64
  | 0, acc, l, h => h
  | f + 1, acc, l, h => by
    unfold wantFrom
    split
    · exact h
    split
    · exact h
    refine want_puts f _ _ fun q hq => ?_
    rcases List.mem_append.1 hq with hq | hq
    · exact h q hq
    · have e : q = (parseR l).1 := by simpa using hq
      rw [e]; exact parse_puts l
section
variable {B : AHeap}
theorem law_RecordParses {z : AVal} {l : List (List UInt8)} (hz : View B z 1 l.length (strs l)) (hl : l.length ≤ 9223372036854775807) : ∃ C, S_cellaretlaw13_RecordParses [z] B (.bool true) C := by
  obtain ⟨r, C, h, rfl⟩ := cellaretlaw13_RecordParses.out (x0 := z) (H := B) (Q := fun r C => r = .bool true) (by
    unfold cellaretlaw13_RecordParses.w
    have hs : Sep B (fun _ => False) B [] := Sep.start B
    obtain ⟨b, C1, hc, k, hb⟩ := short_spec hz hl
    refine cb_i _ _ hc ?_
    have hs := hs.quiet k
    refine vb_i (e_not _) ?_
    cases b with
    | false =>
      refine isB_Tr rfl ?_
      obtain ⟨C3, hc, k⟩ := awake13 (B := C1)
      refine cb_i _ _ hc ?_
      have hs := hs.quiet k
      exact fin_ret (rvs_v (rvs_nil _)) ⟨hs.pre fun _ x => x, rfl⟩
    | true =>
    have h200 := hb rfl
    refine isB_Fa rfl ?_
    have hpu := parse_puts l
    obtain ⟨y1, C2, hc, _, hn1⟩ := parse_spec (hs.rv hz) hl
    refine cb_i _ _ hc ?_
    have hs := hs.call01 (hn1.2.own_of fun _ h => h.elim)
    refine vb_i e_ext0 ?_
    refine vb_i e_ext1 ?_
    refine vb_i e_ext2 ?_
    refine s_alloc hs fun t1 C3 _ hs => ?_
    refine s_storeA hs rfl (rcells_len hn1.1) rfl (rcells_all (view_cell hn1.2.head)) fun C4 hs => ?_
    obtain ⟨y2, C5, hc, _, hn2⟩ := ref_parse_spec (hs.rv hz) hl
    refine cb_i _ _ hc ?_
    have hs := hs.call01 (hn2.2.own_of fun _ h => h.elim)
    refine vb_i e_ext0 ?_
    refine vb_i e_ext1 ?_
    refine vb_i e_ext2 ?_
    refine s_alloc hs fun t2 C6 _ hs => ?_
    refine s_storeA hs rfl (rcells_len hn2.1) rfl (rcells_all (view_cell hn2.2.head)) fun C7 hs => ?_
    refine JoinP.mk (fun e vs D => e = .normal ∧ Sep B (fun _ => False) D []) ?_ ?_
    · refine vb_recA hs.g2 hn1.1 rfl ?_
      refine vb_recA hs.g0 hn2.1 rfl ?_
      obtain ⟨C8, hc, k8⟩ := ref_same_spec (p := (parseR l).1) (q := (parseR l).1) ⟨hn1.1, hs.tail.tail.tail.head⟩ ⟨hn2.1, hs.tail.head⟩ (Nat.le_trans hpu (by decide))
      refine cb_i _ _ hc ?_
      rw [decide_eq_true rfl]
      refine vb_i (e_not _) ?_
      refine isB_Fa rfl ?_
      refine vb_i (neq64 _ _ _) ?_
      refine isB_cf (fun h => h rfl) ?_
      refine vb_i (neq64 _ _ _) ?_
      refine isB_cf (fun h => h rfl) ?_
      exact ⟨rfl, Sep.drop (R1 := []) (hs.quiet k8)⟩
    rintro e vs D ⟨rfl, hs⟩
    refine onE_i ?_
    obtain ⟨out, rows, C8, hc, hm, hk8⟩ := all_spec (hs.rv hz) (by omega)
    refine cb_i _ _ hc ?_
    have hs := hs.call02 (hk8.own_of fun _ h => h.elim)
    refine vb_i e_ext0 ?_
    refine vb_i e_ext1 ?_
    refine LoopP.ruleG (α := AVal × AVal × Nat × List RC) (fun a => [a.2.1, .int .i64 0, a.1]) (fun a C => a.2.2.1 ≤ l.length ∧ a.2.2.2.length ≤ a.2.2.1 ∧ View B a.1 1 (l.drop a.2.2.1).length (strs (l.drop a.2.2.1)) ∧
      (∃ f, (l.drop a.2.2.1).length < f ∧ wantFrom (l.length + 1) [] l = wantFrom f (a.2.2.2.map fun r => r.1.1) (l.drop a.2.2.1)) ∧
      Sep B (fun _ => False) C [.sl a.2.1 34 a.2.2.2.length (flat rc a.2.2.2), Part.recs a.2.2.2, .sl out 34 rows.length (flat rc rows), Part.recs rows]) (fun a => l.length - a.2.2.1) (z, .nils, 0, []) (by simp)
      ⟨Nat.zero_le _, Nat.le_refl _, hz, ⟨l.length + 1, by simp, rfl⟩, s_nils ((s_nils hs 34).as (b := Part.recs []) rfl fun _ r hr => by cases hr) 34⟩ ?_
    clear hs
    rintro ⟨a, want, k, rows2⟩ C Kn ⟨hk0, hrk, ha, ⟨f, hf, hall⟩, hs⟩ hk
    simp only at hk0 hrk ha hf hall hs
    unfold cellaretlaw13_RecordParses.L11 cellaretlaw13_RecordParses.L11.b
    try simp only [evB]
    refine vb_i (lenSl_view (hs.rv ha)) ?_
    refine vb_i (gtr64 _ _ _) ?_
    have hdl : (l.drop k).length = l.length - k := List.length_drop
    obtain ⟨f, rfl⟩ : ∃ f', f = f' + 1 := ⟨f - 1, by omega⟩
    have hallR : allR l = if (wantFrom (l.length + 1) [] l).2 ≠ 0 then ([], (wantFrom (l.length + 1) [] l).2) else wantFrom (l.length + 1) [] l := all_want _ _ _
    by_cases h0 : (l.drop k).length = 0
    · refine isB_cf (by omega) ?_
      refine onE_i ?_
      try simp only [evB]
      have hw : wantFrom (l.length + 1) [] l = (rows2.map fun r => r.1.1, 0) := by rw [hall, wantFrom, if_pos h0]
      rw [hw, if_neg (fun h => h rfl)] at hallR
      rw [hallR] at hm ⊢
      have hlen : rows.length = rows2.length := by simpa using congrArg List.length hm
      refine vb_i (neq64 _ _ _) ?_
      refine isB_cf (fun h => h rfl) ?_
      refine JoinP.mk (fun e vs D => e = .normal ∧ C = D) ?_ ?_
      · refine vb_i (lenSl_view hs.o2.view) ?_
        refine vb_i (lenSl_view hs.o0.view) ?_
        refine vb_i (neq64 _ _ _) ?_
        refine isB_cf (by omega) ?_
        refine vb_i (neq64 _ _ _) ?_
        refine isB_cf (fun h => h rfl) ?_
        exact ⟨rfl, rfl⟩
      rintro e vs D ⟨rfl, rfl⟩
      refine onE_i ?_
      refine LoopP.ruleG (α := Nat) (fun j => [.int .i64 (j : Int)]) (fun j D => j ≤ rows.length ∧ Sep B (fun _ => False) D [.sl want 34 rows2.length (flat rc rows2), Part.recs rows2, .sl out 34 rows.length (flat rc rows), Part.recs rows]) (fun j => rows.length - j) 0 (by simp)
        ⟨Nat.zero_le _, hs⟩ ?_
      clear hs hk
      rintro j D Kn ⟨hj, hs⟩ hk
      unfold cellaretlaw13_RecordParses.L22 cellaretlaw13_RecordParses.L22.b
      try simp only [evB]
      refine vb_i (lenSl_view hs.o2.view) ?_
      refine vb_i (lss64 _ _ _) ?_
      by_cases hjn : j < rows.length
      · refine isB_ct (by omega) ?_
        have hb1 := List.getElem?_eq_getElem hjn
        have hb2 := List.getElem?_eq_getElem (l := rows2) (i := j) (by omega)
        have hm1 : rows[j] ∈ rows := List.getElem_mem hjn
        have hm2 : rows2[j] ∈ rows2 := List.getElem_mem _
        have heq : rows[j].1.1 = rows2[j].1.1 := by
          have h1 : (rows.map fun r => r.1.1)[j]? = some rows[j].1.1 := by rw [List.getElem?_map, hb1]; rfl
          have h2 : (rows2.map fun r => r.1.1)[j]? = some rows2[j].1.1 := by rw [List.getElem?_map, hb2]; rfl
          rw [hm, h2] at h1
          exact (Option.some.inj h1).symm
        generalize rows[j] = p at hb1 hm1 heq
        generalize rows2[j] = q at hb2 hm2 heq
        refine vb_addrN hs.o2.view hjn ?_
        refine vb_i (el_ldN rc_len hs.o2.view hb1) ?_
        refine vb_addrN hs.o0.view (by omega) ?_
        refine vb_i (el_ldN rc_len hs.o0.view hb2) ?_
        have hvp := hs.tail.tail.tail.head p hm1
        have hvq := hs.tail.head q hm2
        have hpl : p.1.1.puts.length ≤ 9223372036854775807 := by
          have := want_puts (l.length + 1) [] l (fun _ h => by cases h) p.1.1 (by rw [hw, ← hm]; exact List.mem_map.2 ⟨p, hm1, rfl⟩)
          omega
        obtain ⟨D2, hc, k2⟩ := ref_same_spec (B := D) (p := p.1.1) (q := q.1.1) (x := p.1.2) (y := q.1.2) ⟨p.2, hvp⟩ ⟨q.2, hvq⟩ hpl
        refine cb_i _ _ hc ?_
        rw [decide_eq_true heq]
        refine vb_i (e_not _) ?_
        refine isB_Fa rfl ?_
        refine vb_i (add64 (by omega) (by omega)) ?_
        exact hk (j + 1) _ ⟨by omega, hs.quiet k2⟩ (by omega)
      obtain rfl : j = rows.length := by omega
      refine isB_cf (by omega) ?_
      refine onE_i ?_
      obtain ⟨D3, hc, k3⟩ := awake13 (B := D)
      refine cb_i _ _ hc ?_
      have hs := hs.quiet k3
      exact fin_ret (rvs_v (rvs_nil _)) ⟨hs.pre fun _ x => x, rfl⟩
    refine isB_ct (by omega) ?_
    obtain ⟨y, C9, hc, kp, hnew⟩ := ref_parse_spec (hs.rv ha) (by omega)
    refine cb_i _ _ hc ?_
    have hs := hs.call01 (hnew.2.own_of fun _ h => h.elim)
    refine vb_i e_ext0 ?_
    refine vb_i e_ext1 ?_
    refine vb_i e_ext2 ?_
    refine s_alloc hs fun t C10 _ hs => ?_
    refine s_storeA hs rfl (rcells_len hnew.1) rfl (rcells_all (view_cell hnew.2.head)) fun C11 hs => ?_
    refine vb_i (neq64 _ _ _) ?_
    by_cases he : (parseR (l.drop k)).2.2 ≠ 0
    · refine isB_ct he ?_
      refine onE_i ?_
      try simp only [evB]
      have hw : wantFrom (l.length + 1) [] l = (rows2.map fun r => r.1.1, (parseR (l.drop k)).2.2) := by rw [hall, wantFrom, if_neg h0, if_pos he]
      rw [hw, if_pos he] at hallR
      rw [hallR] at hm ⊢
      have hlen : rows.length = 0 := by simpa using congrArg List.length hm
      refine vb_i (neq64 _ _ _) ?_
      refine isB_ct he ?_
      obtain ⟨D3, hc, k3⟩ := awake13 (B := C11)
      refine cb_i _ _ hc ?_
      have hs := hs.quiet k3
      refine isB_T ?_
      refine vb_i (lenSl_view hs.o4.view) ?_
      refine vb_i (eql64 _ _ _) ?_
      refine isB_ct (by omega) ?_
      refine vb_i (eql64 _ _ _) ?_
      rw [decide_eq_true rfl]
      exact fin_ret (rvs_v (rvs_nil _)) ⟨hs.pre fun _ x => x, rfl⟩
    have he0 := Decidable.not_not.1 he
    refine isB_cf (fun h => h he0) ?_
    obtain ⟨hn1, hn2⟩ := parse_step (l.drop k) he0
    refine vb_recA hs.g0 hnew.1 rfl ?_
    have hcell := view_cell hnew.2.head
    obtain ⟨row, hrow⟩ : ∃ row : RC, row = ⟨((parseR (l.drop k)).1, y), hnew.1⟩ := ⟨_, rfl⟩
    refine s_push (es := 34) (m := 1) (xs := rc row) hs.f2 (by rw [hrow]; exact fill_row (rcells_len hnew.1) rfl) (by decide) (rc_len row) (by rw [hrow]; exact rcells_all hcell) (by unfold room; omega) (by unfold room; omega) fun out' C6 hs => ?_
    obtain ⟨a', e1, hva, _⟩ := slice_view (l := some (.int .i64 ((parseR (l.drop k)).2.1 : Nat))) (h := none) (lo := (parseR (l.drop k)).2.1) (hi := (l.drop k).length) ha (by rw [bnd_int (by omega), Int.toNat_natCast]) rfl hn2 (Nat.le_refl _)
    obtain ⟨a2, e2, _, _⟩ := slice_view (l := some (.int .i64 ((parseR (l.drop k)).2.1 : Nat))) (h := none) (lo := (parseR (l.drop k)).2.1) (hi := (l.drop k).length) (hs.rv ha) (by rw [bnd_int (by omega), Int.toNat_natCast]) rfl hn2 (Nat.le_refl _)
    obtain rfl := aSlice_det e1 e2
    refine vb_i e2 ?_
    have hd2 : (l.drop k).drop (parseR (l.drop k)).2.1 = l.drop (k + (parseR (l.drop k)).2.1) := List.drop_drop ..
    have hva : View B a' 1 (l.drop (k + (parseR (l.drop k)).2.1)).length (strs (l.drop (k + (parseR (l.drop k)).2.1))) := by
      rw [← hd2]
      have e3 : ((strs (l.drop k)).drop ((parseR (l.drop k)).2.1 * 1)).take (((l.drop k).length - (parseR (l.drop k)).2.1) * 1) = strs ((l.drop k).drop (parseR (l.drop k)).2.1) := by
        rw [Nat.mul_one, Nat.mul_one, List.take_of_length_le (by simp [strs]; omega)]
        simp [strs, List.map_drop]
      rw [e3] at hva
      rw [List.length_drop]
      exact hva
    refine hk (a', out', k + (parseR (l.drop k)).2.1, rows2 ++ [row]) _ ⟨by show k + _ ≤ _; omega, by show (rows2 ++ [row]).length ≤ k + (parseR (l.drop k)).2.1; rw [List.length_append, List.length_singleton]; omega, hva, ⟨f, ?_, ?_⟩, ?_⟩ (by show l.length - (k + _) < l.length - k; omega)
    · show (l.drop (k + _)).length < f
      rw [List.length_drop]; omega
    · rw [hall, wantFrom, if_neg h0, if_neg he, hd2]
      show wantFrom f _ _ = wantFrom f ((rows2 ++ [row]).map fun r => r.1.1) _
      rw [List.map_append, hrow]; rfl
    · have hs := hs.f1.tail.f1.f2.join
      have hs := (hs.as (b := Part.recs (rows2 ++ [row])) (by rw [hrow]; show (rows2 ++ [_]).flatMap _ = _; rw [List.flatMap_append]; simp [Part.and, Part.recs, Part.vw]; exact List.append_nil _) (fun h r hr => by
        rcases List.mem_append.1 hr with hr | hr
        · exact h.1 r hr
        · have e : r = row := by simpa using hr
          rw [e, hrow]; exact h.2.1)).f1
      show Sep B (fun _ => False) _ [.sl out' 34 (rows2 ++ [row]).length (flat rc (rows2 ++ [row])), Part.recs (rows2 ++ [row]), .sl out 34 rows.length (flat rc rows), Part.recs rows]
      rw [List.length_append, flat_app, flat_one]
      exact hs)
  exact ⟨C, h⟩
end
end Go.Sh

/- There and back. -/
namespace Go.Sh
open Go Go.Abs

theorem foldB (s : List UInt8) : ∀ a, s.foldl (fun n b => n * 256 + b.toNat) a = a * 2 ^ (8 * s.length) + numB s := by
  induction s with
  | nil => intro a; simp [numB]
  | cons b s ih =>
    intro a
    have h0 : numB (b :: s) = s.foldl (fun n b => n * 256 + b.toNat) (0 * 256 + b.toNat) := rfl
    rw [List.foldl_cons, ih, h0, ih, List.length_cons, Nat.mul_add, Nat.pow_add, Nat.add_mul, Nat.zero_mul, Nat.zero_add]
    have : a * 256 * 2 ^ (8 * s.length) = a * (2 ^ (8 * s.length) * 2 ^ (8 * 1)) := by
      rw [Nat.mul_assoc, Nat.mul_comm 256]
    omega
theorem numB_beB (n : Nat) : ∀ w, numB (beB w n) = n % 2 ^ (8 * w)
  | 0 => by simp [beB, numB, Nat.mod_one]
  | w + 1 => by
    rw [beB_step w n []]
    have h0 : numB (UInt8.ofNat (n / 2 ^ (8 * w)) :: beB w n) = (beB w n).foldl (fun n b => n * 256 + b.toNat) (0 * 256 + (UInt8.ofNat (n / 2 ^ (8 * w))).toNat) := rfl
    rw [h0, foldB, beB_len, numB_beB n w, Nat.zero_mul, Nat.zero_add, Nat.mul_add, Nat.pow_add, Nat.mod_mul]
    simp only [UInt8.toNat_ofNat']
    rw [Nat.mul_comm, Nat.add_comm]
theorem numB_back {w n : Nat} (h : n < 2 ^ (8 * w)) : numB (beB w n) = n := by rw [numB_beB, Nat.mod_eq_of_lt h]
/-- The head of a record's blocks. -/
theorem head_back {q : Rcd} (hr : q.root.length = 32) (hs : q.seq.toNat < 2 ^ 32) (hn : q.puts.length < 2 ^ 16) :
    headOk (full (hdR q) 64) ∧ seqOf (full (hdR q) 64) = q.seq.toNat ∧ cntOf (full (hdR q) 64) = q.puts.length ∧ rootOf (full (hdR q) 64) = q.root := by
  rw [full_hd hr]
  have h4 := beB_len 4 q.seq.toNat
  have h2 := beB_len 2 q.puts.length
  have b4 := numB_back (w := 4) (n := q.seq.toNat) hs
  have b2 := numB_back (w := 2) (n := q.puts.length) hn
  unfold hdR headOk seqOf cntOf rootOf
  generalize beB 4 q.seq.toNat = a at *
  generalize beB 2 q.puts.length = c at *
  obtain ⟨a0, a1, a2, a3, rfl⟩ : ∃ a0 a1 a2 a3, a = [a0, a1, a2, a3] := by
    match a, h4 with
    | [a0, a1, a2, a3], _ => exact ⟨a0, a1, a2, a3, rfl⟩
  obtain ⟨c0, c1, rfl⟩ : ∃ c0 c1, c = [c0, c1] := by
    match c, h2 with
    | [c0, c1], _ => exact ⟨c0, c1, rfl⟩
  refine ⟨⟨by simp [hr, zs], by simp, by simp [hr]⟩, by simpa using b4, by simpa using b2, by simp [hr]⟩
theorem row_back {c : List Nat} (hlt : ∀ x ∈ c, x < 2 ^ 16) {r : Nat} {x : Nat} (hx : c[r]? = some x) : numB (((rowB c).take (2 * r + 2)).drop (2 * r)) = x := by
  have hr : r < c.length := (List.getElem?_eq_some_iff.1 hx).1
  have hfl := flat_beB 2 c
  obtain ⟨z, hz⟩ : ∃ z, rowB c = (c.map (beB 2)).flatten ++ z := by
    unfold rowB full
    split
    · exact ⟨[], by simp⟩
    · exact ⟨_, rfl⟩
  rw [hz, List.drop_take, List.drop_append_of_le_length (by rw [hfl]; omega), List.take_append_of_le_length (by rw [List.length_drop, hfl]; omega)]
  have h := flat_drop (f := beB 2) (es := 2) (o := 0) (n := 2) (beB_len 2) hx (by omega)
  rw [show 2 * r + 2 - 2 * r = 2 by omega, show 2 * r = r * 2 + 0 by omega, h, List.drop_zero, List.take_of_length_le (by rw [beB_len]; exact Nat.le_refl _)]
  exact numB_back (hlt x (List.mem_of_getElem? hx))
theorem lay_row {q : Rcd} {rest : List (List UInt8)} {k : Nat} (hk : 32 * k < q.puts.length) : (layR q ++ rest).getD (1 + k) [] = rowB (((atsN q).drop (32 * k)).take 32) := by
  have hal : (atsN q).length = q.puts.length := by simp [atsN]
  have h : (layR q ++ rest)[1 + k]? = some (rowB (((atsN q).drop (32 * k)).take 32)) := by
    rw [Nat.add_comm]
    simp only [layR, List.cons_append, List.getElem?_cons_succ, List.append_assoc]
    rw [List.getElem?_append_left (by simp [headsR, rowsN, hal]; omega)]
    simp only [headsR, rowsN, List.getElem?_map]
    rw [List.getElem?_range (by rw [hal]; omega)]
    rfl
  rw [List.getD_eq_getElem?_getD, h]; rfl
theorem lay_text {q : Rcd} {rest : List (List UInt8)} {i : Nat} {p : Pt} (hp : q.puts[i]? = some p) : (layR q ++ rest).getD (longN q.puts.length - q.puts.length + i) [] = p.b := by
  have hal : (atsN q).length = q.puts.length := by simp [atsN]
  have hi := (List.getElem?_eq_some_iff.1 hp).1
  have hh : (headsR (atsN q)).length = (q.puts.length + 31) / 32 := by simp [headsR, rowsN, hal]
  have h : (layR q ++ rest)[longN q.puts.length - q.puts.length + i]? = some p.b := by
    rw [show longN q.puts.length - q.puts.length + i = ((q.puts.length + 31) / 32 + i) + 1 by unfold longN; omega]
    simp only [layR, List.cons_append, List.getElem?_cons_succ, List.append_assoc]
    rw [List.getElem?_append_right (by omega), hh, Nat.add_sub_cancel_left, List.getElem?_append_left (by simp; exact hi), List.getElem?_map, hp]
    rfl
  rw [List.getD_eq_getElem?_getD, h]; rfl
theorem rowB_len {c : List Nat} (h : c.length ≤ 32) : (rowB c).length = 64 := by
  have hfl := flat_beB 2 c
  unfold rowB full
  split
  · omega
  · simp [zs, hfl]; omega
theorem lay_len {q : Rcd} : (layR q).length = longN q.puts.length := by
  simp [layR, headsR, rowsN, atsN, longN]; omega
theorem back {q : Rcd} {rest : List (List UInt8)} (hr : q.root.length = 32) (hg : goodR q = true) (h64 : q.puts.length ≤ 64) : parseR (layR q ++ rest) = (q, (layR q).length, 0) := by
  obtain ⟨hsq, hpt⟩ := good_inv hg
  unfold okSeq at hsq
  obtain ⟨b1, b2, b3, b4⟩ := head_back hr (by omega) (by omega)
  have h0 : (layR q ++ rest).getD 0 [] = full (hdR q) 64 := rfl
  have hal : (atsN q).length = q.puts.length := by simp [atsN]
  have hlen : (layR q ++ rest).length = longN q.puts.length + rest.length := by rw [List.length_append, lay_len]
  have hlong : longN q.puts.length = 1 + (q.puts.length + 31) / 32 + q.puts.length := rfl
  have hrow : ∀ i, i < q.puts.length → (layR q ++ rest).getD (1 + i / 32) [] = rowB (((atsN q).drop (32 * (i / 32))).take 32) := fun i hi => lay_row (by omega)
  have hputs : putsOf (layR q ++ rest) q.puts.length = q.puts := by
    apply List.ext_getElem?
    intro i
    by_cases hi : i < q.puts.length
    · have hp := List.getElem?_eq_getElem hi
      have hm := hpt _ (List.getElem_mem hi)
      generalize q.puts[i] = p at hp hm
      have hc : (((atsN q).drop (32 * (i / 32))).take 32)[i % 32]? = some p.pos.toNat := by
        rw [List.getElem?_take_of_lt (by omega), List.getElem?_drop, show 32 * (i / 32) + i % 32 = i by omega]
        simp [atsN, hp]
      have hpos : posOf ((layR q ++ rest).getD (1 + i / 32) []) i = p.pos.toNat := by
        rw [hrow i hi]
        refine row_back (fun x hx => ?_) hc
        have hx := List.mem_of_mem_drop (List.mem_of_mem_take hx)
        simp only [atsN, List.mem_map] at hx
        obtain ⟨p', hp', rfl⟩ := hx
        have := hpt p' hp'
        omega
      rw [hp]
      unfold putsOf
      rw [List.getElem?_map, List.getElem?_range hi, Option.map_some, hpos, lay_text hp]
      rw [show ((p.pos.toNat : Nat) : Int) = p.pos by omega]
    · rw [List.getElem?_eq_none (by rw [putsOf_len]; omega), List.getElem?_eq_none (by omega)]
  have hrec : recOf (layR q ++ rest) = q := by
    unfold recOf
    rw [h0, b2, b3, b4, hputs, show ((q.seq.toNat : Nat) : Int) = q.seq by omega]
  have hform : formOk (layR q ++ rest) q.puts.length := by
    refine ⟨fun i hi => ?_, by rw [hrec]; exact hg, ?_⟩
    · rw [hrow i hi]; exact rowB_len (by rw [List.length_take]; omega)
    · rw [hrec, ← lay_len, List.take_left' rfl]
  unfold parseR
  rw [if_neg (by omega), h0, if_neg (by rw [b3]; exact fun h => h.elim (fun h => h b1) (fun h => by omega)), b3, if_neg (by omega), if_pos hform, hrec, lay_len]
theorem all_two {p q : Rcd} (hpr : p.root.length = 32) (hpg : goodR p = true) (hp : p.puts.length ≤ 64) (hqr : q.root.length = 32) (hqg : goodR q = true) (hq : q.puts.length ≤ 64) : allR (layR p ++ layR q) = ([p, q], 0) := by
  have h1 := back (rest := layR q) hpr hpg hp
  have h2 : parseR (layR q) = (q, (layR q).length, 0) := by
    have := back (rest := []) hqr hqg hq
    rwa [List.append_nil] at this
  have hl1 : (layR p).length = longN p.puts.length := lay_len
  have hl2 : (layR q).length = longN q.puts.length := lay_len
  have hg1 : 1 ≤ longN p.puts.length := by unfold longN; omega
  have hg2 : 1 ≤ longN q.puts.length := by unfold longN; omega
  have hlen : (layR p ++ layR q).length = longN p.puts.length + longN q.puts.length := by rw [List.length_append, hl1, hl2]
  obtain ⟨n, hn⟩ : ∃ n, (layR p ++ layR q).length + 1 = n + 3 := ⟨(layR p ++ layR q).length - 2, by omega⟩
  unfold allR
  rw [hn]
  unfold allFrom
  rw [if_neg (by omega), h1, if_neg (fun h => h rfl)]
  show allFrom (n + 2) ([] ++ [p]) ((layR p ++ layR q).drop (layR p).length) = _
  rw [List.drop_left' rfl]
  unfold allFrom
  rw [if_neg (by omega), h2, if_neg (fun h => h rfl)]
  show allFrom (n + 1) ([] ++ [p] ++ [q]) ((layR q).drop (layR q).length) = _
  rw [List.drop_length]
  rfl
end Go.Sh

/- What was laid is parsed as it was. -/
namespace Go.Sh
open Go Go.Abs

section
variable {B : AHeap}
theorem lay_any {x : AVal} {q : Rcd} (hq : RecAt B q x) (hl : q.puts.length ≤ 9223372036854775807) : ∃ (r' : AVal) (C : AHeap), S_record_Lay [recV q x] B (.tup [r', .int .i64 (checkE q)]) C ∧ B <+: C ∧
    (checkE q = 0 → q.puts.length ≤ 64 ∧ goodR q = true ∧ View C r' 1 (layR q).length (strs (layR q))) := by
  by_cases he : checkE q = 0
  · have h64 : q.puts.length ≤ 64 := by
      unfold checkE at he; split at he
      · exact absurd he (by decide)
      · omega
    have hg : goodR q = true := by
      unfold checkE at he; rw [if_neg (by omega)] at he; split at he
      · assumption
      · exact absurd he (by decide)
    obtain ⟨r', C3, hc, hl⟩ := lay_good hq h64 hg
    rw [he]
    exact ⟨r', C3, hc, hl.pre fun _ x => x, fun _ => ⟨h64, hg, hl.o0.view⟩⟩
  · obtain ⟨C3, hc, k⟩ := lay_bad hq hl he
    exact ⟨.nils, C3, hc, k, fun h => absurd h he⟩
theorem check_zero {q : Rcd} (he : checkE q = 0) : q.puts.length ≤ 64 ∧ goodR q = true := by
  have h64 : q.puts.length ≤ 64 := by
    unfold checkE at he; split at he
    · exact absurd he (by decide)
    · omega
  refine ⟨h64, ?_⟩
  unfold checkE at he; rw [if_neg (by omega)] at he; split at he
  · assumption
  · exact absurd he (by decide)
theorem law_RecordBack {z x y : AVal} {l : List (List UInt8)} {p q : Rcd} (hz : View B z 1 l.length (strs l)) (hl : l.length ≤ 9223372036854775807) (hp : RecAt B p x) (hpl : p.puts.length ≤ 9223372036854775807) (hq : RecAt B q y) (hql : q.puts.length ≤ 9223372036854775807) :
    ∃ C, S_cellaretlaw13_RecordBack [recV p x, recV q y, z] B (.bool true) C := by
  obtain ⟨r, C, h, rfl⟩ := cellaretlaw13_RecordBack.out (x0 := recV p x) (x1 := recV q y) (x2 := z) (H := B) (Q := fun r C => r = .bool true) (by
    unfold cellaretlaw13_RecordBack.w
    have hs : Sep B (fun _ => False) B [] := Sep.start B
    refine s_box hs rfl fun i C1 _ hs => ?_
    refine s_box hs rfl fun j C2 _ hs => ?_
    simp only [recV, AVal.cells] at hs
    have atp : ∀ {C : AHeap} {R : List Part}, Sep B (fun _ => False) C R → RecAt C p x := fun hs => ⟨hp.1, hs.rv hp.2⟩
    have atq : ∀ {C : AHeap} {R : List Part}, Sep B (fun _ => False) C R → RecAt C q y := fun hs => ⟨hq.1, hs.rv hq.2⟩
    refine JoinP.mk (fun e vs D => ((e = .ret ∧ vs = [.bool true]) ∨ (e = .normal ∧ l.length < 200)) ∧ Sep B (fun _ => False) D [.obj j (.cells 0 .exact (rcells q y)), .obj i (.cells 0 .exact (rcells p x))]) ?_ ?_
    · refine vb_recA hs.g1 hp.1 rfl ?_
      obtain ⟨b, C4, hc, k, _⟩ := light_spec (atp hs) hpl
      refine cb_i _ _ hc ?_
      have hs := hs.quiet k
      refine vb_i (e_not _) ?_
      cases b with
      | false =>
        refine isB_Tr rfl ?_
        obtain ⟨C5, hc, k⟩ := awake13 (B := C4)
        refine cb_i _ _ hc ?_
        exact ⟨.inl ⟨rfl, rfl⟩, hs.quiet k⟩
      | true =>
      refine isB_Fa rfl ?_
      refine vb_recA hs.g0 hq.1 rfl ?_
      obtain ⟨b, C5, hc, k, _⟩ := light_spec (atq hs) hql
      refine cb_i _ _ hc ?_
      have hs := hs.quiet k
      refine vb_i (e_not _) ?_
      cases b with
      | false =>
        refine isB_Tr rfl ?_
        obtain ⟨C6, hc, k⟩ := awake13 (B := C5)
        refine cb_i _ _ hc ?_
        exact ⟨.inl ⟨rfl, rfl⟩, hs.quiet k⟩
      | true =>
      refine isB_Fa rfl ?_
      obtain ⟨b, C3, hc, k, hb⟩ := short_spec (hs.rv hz) hl
      refine cb_i _ _ hc ?_
      have hs := hs.quiet k
      refine vb_i (e_not _) ?_
      cases b with
      | false =>
        refine isB_Tr rfl ?_
        obtain ⟨C4, hc, k⟩ := awake13 (B := C3)
        refine cb_i _ _ hc ?_
        exact ⟨.inl ⟨rfl, rfl⟩, hs.quiet k⟩
      | true =>
      refine isB_Fa rfl ?_
      exact ⟨.inr ⟨rfl, hb rfl⟩, hs⟩
    rintro e vs D ⟨⟨rfl, rfl⟩ | ⟨rfl, h200⟩, hs⟩
    · refine onE_s (by decide) (onE_i ?_)
      exact fin_ret (rvs_v (rvs_nil _)) ⟨hs.pre fun _ x => x, rfl⟩
    refine onE_i ?_
    refine vb_recA hs.g1 hp.1 rfl ?_
    by_cases he1 : ¬ checkE p = 0
    · obtain ⟨C3, hc, k3⟩ := lay_bad (atp hs) hpl he1
      refine cb_i _ _ hc ?_
      have hs := hs.quiet k3
      refine vb_i e_ext0 ?_
      refine vb_i e_ext1 ?_
      refine vb_recA hs.g0 hq.1 rfl ?_
      obtain ⟨r2, C4, hc, k4, _⟩ := lay_any (atq hs) hql
      refine cb_i _ _ hc ?_
      have hs := hs.quiet k4
      refine vb_i e_ext0 ?_
      refine vb_i e_ext1 ?_
      refine JoinP.mk (fun e vs D => e = .ret ∧ vs = [.bool true] ∧ Sep B (fun _ => False) D []) ?_ ?_
      · refine vb_i (neq64 _ _ _) ?_
        refine isB_ct he1 ?_
        obtain ⟨C5, hc, k⟩ := awake13 (B := C4)
        refine cb_i _ _ hc ?_
        exact ⟨rfl, rfl, Sep.drop (R1 := []) (hs.quiet k)⟩
      rintro e vs D ⟨rfl, rfl, hs⟩
      refine onE_s (by decide) (onE_i ?_)
      exact fin_ret (rvs_v (rvs_nil _)) ⟨hs.pre fun _ x => x, rfl⟩
    have he1 := Decidable.not_not.1 he1
    obtain ⟨hp64, hpg⟩ := check_zero he1
    obtain ⟨r1, C3, hc, hk3⟩ := lay_good (atp hs) hp64 hpg
    refine cb_i _ _ hc ?_
    have hs := hs.call01 (hk3.own_of fun _ h => h.elim)
    refine vb_i e_ext0 ?_
    refine vb_i e_ext1 ?_
    refine vb_recA hs.g1 hq.1 rfl ?_
    by_cases he2 : ¬ checkE q = 0
    · obtain ⟨C4, hc, k4⟩ := lay_bad (atq hs) hql he2
      refine cb_i _ _ hc ?_
      have hs := hs.quiet k4
      refine vb_i e_ext0 ?_
      refine vb_i e_ext1 ?_
      refine JoinP.mk (fun e vs D => e = .ret ∧ vs = [.bool true] ∧ Sep B (fun _ => False) D []) ?_ ?_
      · refine vb_i (neq64 _ _ _) ?_
        refine isB_cf (fun h => h rfl) ?_
        refine vb_i (neq64 _ _ _) ?_
        refine isB_ct he2 ?_
        obtain ⟨C5, hc, k⟩ := awake13 (B := C4)
        refine cb_i _ _ hc ?_
        exact ⟨rfl, rfl, Sep.drop (R1 := []) (hs.quiet k)⟩
      rintro e vs D ⟨rfl, rfl, hs⟩
      refine onE_s (by decide) (onE_i ?_)
      exact fin_ret (rvs_v (rvs_nil _)) ⟨hs.pre fun _ x => x, rfl⟩
    have he2 := Decidable.not_not.1 he2
    obtain ⟨hq64, hqg⟩ := check_zero he2
    obtain ⟨r2, C4, hc, hk4⟩ := lay_good (atq hs) hq64 hqg
    refine cb_i _ _ hc ?_
    have hs := hs.call01 (hk4.own_of fun _ h => h.elim)
    refine vb_i e_ext0 ?_
    refine vb_i e_ext1 ?_
    have hl1 : (layR p).length = longN p.puts.length := lay_len
    have hl2 : (layR q).length = longN q.puts.length := lay_len
    have hb1 : longN p.puts.length ≤ 131 := by unfold longN; omega
    have hb2 : longN q.puts.length ≤ 131 := by unfold longN; omega
    refine JoinP.mk (fun e vs D => e = .normal ∧ C4 = D) ?_ ?_
    · refine vb_i (neq64 _ _ _) ?_
      refine isB_cf (fun h => h rfl) ?_
      refine vb_i (neq64 _ _ _) ?_
      refine isB_cf (fun h => h rfl) ?_
      exact ⟨rfl, rfl⟩
    rintro e vs D ⟨rfl, rfl⟩
    refine onE_i ?_
    have hcell : ∀ l : List (List UInt8), (strs l).all AVal.isCell = true := fun l => by simp [strs, AVal.isCell]
    refine s_row (es := 1) (n := 0) (z := [.str []]) (cs := []) hs rfl fun a C5 _ hs => ?_
    have hs := s_own (n := 0) (es := 1) hs rfl
    refine s_appv hs (by decide) hs.o2.view (hcell _) (by unfold room; omega) (by unfold room; omega) fun a1 C6 hs => ?_
    refine s_appv hs (by decide) (hs.rv hz) (hcell _) (by unfold room; omega) (by unfold room; omega) fun a2 C7 hs => ?_
    have hva : View C7 a2 1 (layR p ++ l).length (strs (layR p ++ l)) := by
      have := hs.o0.view
      simpa [strs] using this
    obtain ⟨w, C8, hc, _, hn1⟩ := parse_spec hva (by rw [List.length_append]; omega)
    rw [back hp.1 hpg hp64] at hc hn1
    refine cb_i _ _ hc ?_
    have hs := hs.tail.call01 (hn1.2.own_of fun _ h => h.elim)
    refine vb_i e_ext0 ?_
    refine vb_i e_ext1 ?_
    refine vb_i e_ext2 ?_
    refine s_alloc hs fun t C9 _ hs => ?_
    refine s_storeA hs rfl (rcells_len hn1.1) rfl (rcells_all (view_cell hn1.2.head)) fun C10 hs => ?_
    refine s_row (es := 1) (n := 0) (z := [.str []]) (cs := []) hs rfl fun b C11 _ hs => ?_
    have hs := s_own (n := 0) (es := 1) hs rfl
    refine s_appv hs (by decide) hs.o4.view (hcell _) (by unfold room; omega) (by unfold room; omega) fun b1 C12 hs => ?_
    refine s_appv hs (by decide) hs.o3.view (hcell _) (by unfold room; omega) (by unfold room; omega) fun b2 C13 hs => ?_
    have hvb : View C13 b2 1 (layR p ++ layR q).length (strs (layR p ++ layR q)) := by
      have := hs.o0.view
      simpa [strs] using this
    obtain ⟨out, rows, C14, hc, hm, hk14⟩ := all_spec hvb (by rw [List.length_append]; omega)
    rw [all_two hp.1 hpg hp64 hq.1 hqg hq64] at hc hm
    refine cb_i _ _ hc ?_
    have hs := hs.tail.call02 (hk14.own_of fun _ h => h.elim)
    refine vb_i e_ext0 ?_
    refine vb_i e_ext1 ?_
    obtain ⟨C15, hc, k15⟩ := awake13 (B := C14)
    refine cb_i _ _ hc ?_
    have hs := hs.quiet k15
    refine isB_T ?_
    obtain ⟨u, v, rfl⟩ : ∃ u v, rows = [u, v] := by
      match rows, hm with
      | [u, v], _ => exact ⟨u, v, rfl⟩
    have hu : u.1.1 = p := by
      have := congrArg (fun l => l[0]?) hm
      simpa using this
    have hv : v.1.1 = q := by
      have := congrArg (fun l => l[1]?) hm
      simpa using this
    refine vb_i (eql64 _ _ _) (isB_ct rfl ?_)
    refine vb_i (lenSl_view hs.o5.view) ?_
    refine vb_i (eql64 _ _ _) (isB_ct rfl ?_)
    refine vb_recA hs.g2 hn1.1 rfl ?_
    refine vb_recA hs.tail.tail.tail.tail.tail.tail.tail.head hp.1 rfl ?_
    obtain ⟨C16, hc, k16⟩ := ref_same_spec (p := p) (q := p) ⟨hn1.1, hs.tail.tail.tail.head⟩ (atp hs) hpl
    refine cb_i _ _ hc ?_
    have hs := hs.quiet k16
    rw [decide_eq_true rfl]
    refine isB_T ?_
    refine vb_i (eql64 _ _ _) (isB_ct rfl ?_)
    refine vb_i (lenSl_view hs.o0.view) ?_
    refine vb_i (eql64 _ _ _) (isB_ct rfl ?_)
    refine vb_addr hs.o0.view (by decide) (by simp) ?_
    refine vb_i (el_ldN (k := 0) rc_len hs.o0.view rfl) ?_
    refine vb_recA hs.tail.tail.tail.tail.tail.tail.tail.head hp.1 rfl ?_
    obtain ⟨C17, hc, k17⟩ := ref_same_spec (p := u.1.1) (q := p) (x := u.1.2) ⟨u.2, hs.tail.head u (by simp)⟩ (atp hs) (by rw [hu]; exact hpl)
    refine cb_i _ _ hc ?_
    have hs := hs.quiet k17
    rw [decide_eq_true hu]
    refine isB_T ?_
    refine vb_addr hs.o0.view (by decide) (by simp) ?_
    refine vb_i (el_ldN (k := 1) rc_len hs.o0.view rfl) ?_
    refine vb_recA hs.tail.tail.tail.tail.tail.tail.head hq.1 rfl ?_
    obtain ⟨C18, hc, k18⟩ := ref_same_spec (p := v.1.1) (q := q) (x := v.1.2) ⟨v.2, hs.tail.head v (by simp)⟩ (atq hs) (by rw [hv]; exact hql)
    refine cb_i _ _ hc ?_
    have hs := hs.quiet k18
    rw [decide_eq_true hv]
    exact fin_ret (rvs_v (rvs_nil _)) ⟨hs.pre fun _ x => x, rfl⟩)
  exact ⟨C, h⟩
end
end Go.Sh
