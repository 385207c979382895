/- One text of these: RecP6, RecP7, RecP8, RecP9, RecPa, RecPb, RecW2, RecPc, RecPd, RecPe, RecPf, RecW3, RecPg, RecPh, RecPi. -/
import Derived.Test.YtkpcnmaohhgofaaRecA

/- A record's blocks. -/
namespace Go.Sh
open Go Go.Abs

theorem join_flat : ∀ (xs : List (List UInt8)), Lib.join xs [] = xs.flatten
  | [] => rfl
  | x :: xs => by rw [Lib.join_cons]; simp [Lib.joinTail]
def rowsN (l : List Nat) : List (List Nat) := (List.range ((l.length + 31) / 32)).map fun k => (l.drop (32 * k)).take 32
def atsN (q : Rcd) : List Nat := q.puts.map fun p => p.pos.toNat
def hdR (q : Rcd) : List UInt8 := [114, 99] ++ beB 4 q.seq.toNat ++ beB 2 q.puts.length ++ q.root
def rowB (c : List Nat) : List UInt8 := full (c.map (beB 2)).flatten 64
def headsR (l : List Nat) : List (List UInt8) := (rowsN l).map rowB
def layR (q : Rcd) : List (List UInt8) := full (hdR q) 64 :: headsR (atsN q) ++ q.puts.map Pt.b
theorem okF_all : ∀ {l : List Pt} {last : Int}, 160 ≤ last → okF last l = true → ∀ p ∈ l, 160 < p.pos ∧ p.pos < 288 ∧ p.b.length = 64
  | p :: l, last, h, hk, x, hx => by
    simp only [okF, Bool.and_eq_true, decide_eq_true_eq] at hk
    unfold okP at hk
    rcases List.mem_cons.1 hx with rfl | hx
    · omega
    · exact okF_all (by omega) hk.2 x hx
theorem good_inv {q : Rcd} (h : goodR q = true) : okSeq q ∧ ∀ p ∈ q.puts, 160 < p.pos ∧ p.pos < 288 ∧ p.b.length = 64 := by
  simp only [goodR, Bool.and_eq_true, decide_eq_true_eq] at h
  exact ⟨h.1, okF_all (Int.le_refl _) h.2⟩
theorem flat_beB (w : Nat) (c : List Nat) : ((c.map (beB w)).flatten).length = c.length * w := by
  rw [List.length_flatten, List.map_map]
  have : (List.length ∘ beB w) = fun _ => w := by funext n; exact beB_len w n
  rw [this, List.map_const', List.sum_replicate_nat]
theorem View.loc {B C : AHeap} {sv : AVal} {es n : Nat} {cs : List AVal} (h : ∀ i ∈ (slId sv).toList, C[i]? = B[i]?) (k : View B sv es n cs) : View C sv es n cs := by
  obtain ⟨h1, h2⟩ := k
  refine ⟨h1, ?_⟩
  rcases h2 with h2 | ⟨i, v, off, c, kd, cs', rfl, h3, h4⟩
  · exact .inl h2
  · exact .inr ⟨i, v, off, c, kd, cs', rfl, by rw [h i (by simp [slId])]; exact h3, h4⟩
theorem View.lt {B : AHeap} {sv : AVal} {es n : Nat} {cs : List AVal} (h : View B sv es n cs) {i : Nat} (hi : slId sv = some i) : i < B.length := by
  obtain ⟨_, ⟨rfl, _⟩ | ⟨j, v, off, c, kd, cs', rfl, h3, _⟩⟩ := h
  · cases hi
  · simp only [slId, Option.some.injEq] at hi; subst hi; exact lt_of_some h3
/-- A slice that nobody changes. -/
def Part.vw (sv : AVal) (es n : Nat) (cs : List AVal) : Part where
  ids := (slId sv).toList
  ok B := View B sv es n cs
  loc _ _ h k := View.loc h k
  live _ h i hi := View.lt h (by simpa using hi)
theorem e_min64 (a b : Int) : aFold aMin2 (.int .i64 a) [.int .i64 b] = some (.int .i64 (if b < a then b else a)) := rfl
section
variable {B : AHeap}
theorem block_spec {x : AVal} {xs : List (List UInt8)} (hv : View B x 1 xs.length (strs xs)) (hn : xs.length ≤ 64) (hl : xs.flatten.length ≤ 64) : ∃ C, S_record_block [x] B (.str (full xs.flatten 64)) C ∧ B <+: C := by
  obtain ⟨r, C, h, rfl, k⟩ := record_block.out (x0 := x) (H := B) (Q := fun r C => r = .str (full xs.flatten 64) ∧ B <+: C) (by
    unfold record_block.w
    refine cb_i _ _ ⟨rfl, x, [], xs, rfl, hv, by omega, by rw [join_flat]; omega, rfl⟩ ?_
    rw [join_flat]
    obtain ⟨C, hc, k⟩ := be_Pad_spec (B := B) (n := 64) (by decide) hl
    refine cb_i _ _ hc ?_
    repeat with_reducible first
    | refine vb_i e_ext0 ?_
    | refine vb_i e_ext1 ?_
    exact fin_ret (rvs_v (rvs_nil _)) ⟨k, rfl, k⟩)
  exact ⟨C, h, k⟩
theorem e_sliceArr32 {i v off : Nat} : aSliceArr 32 1 (.ptr ⟨i, v, off⟩) none none none = some (.slice ⟨i, v, off⟩ 32 (.ex 32)) := by
  simp [aSliceArr, bnd]
theorem rec_root {H : AHeap} {i v : Nat} {kd : Kd} {q : Rcd} {x : AVal} (h : H[i]? = some (.cells v kd (rcells q x))) (hr : q.root.length = 32) : View H (.slice ⟨i, v, 1⟩ 32 (.ex 32)) 1 32 (q.root.map ofByte) :=
  ⟨by simp [hr], .inr ⟨i, v, 1, _, kd, _, rfl, h, fun _ => by rw [rcells_len hr]; omega, by unfold rcells; rw [List.drop_succ_cons, List.drop_zero, List.take_left' (by simp [hr])], Nat.le_refl _⟩⟩
theorem s_own {H0 C : AHeap} {own : Nat → Prop} {R : List Part} {i n es : Nat} {cs : List AVal} (h : Sep H0 own C (.obj i (.cells 0 .exact cs) :: R)) (hl : cs.length = n * es) : Sep H0 own C (.sl (.slice ⟨i, 0, 0⟩ n (.ex n)) es n cs :: R) :=
  h.as rfl fun h => ⟨hl, .inr (.inl ⟨i, 0, rfl, h⟩)⟩
theorem lay_bad {x : AVal} {q : Rcd} (hq : RecAt B q x) (hl : q.puts.length ≤ 9223372036854775807) (he : checkE q ≠ 0) : ∃ C, S_record_Lay [recV q x] B (.tup [.nils, .int .i64 (checkE q)]) C ∧ B <+: C := by
  obtain ⟨r, C, h, rfl, k⟩ := record_Lay.out (x0 := recV q x) (H := B) (Q := fun r C => r = .tup [.nils, .int .i64 (checkE q)] ∧ B <+: C) (by
    unfold record_Lay.w
    have hs : Sep B (fun _ => False) B [] := Sep.start B
    refine s_box hs rfl fun i C1 _ hs => ?_
    simp only [recV, AVal.cells] at hs
    repeat first
    | ((with_reducible apply vb_recA); (· exact hs.g0); (· exact hq.1); (· rfl))
    obtain ⟨C, hc, k⟩ := check_spec (B := C1) ⟨hq.1, hs.rv hq.2⟩ hl
    refine cb_i _ _ hc ?_
    have hs := hs.quiet k
    repeat first
    | ((with_reducible refine isB_ct ?_ ?_); (· omega))
    | with_reducible refine vb_i (neq64 _ _ _) ?_
    exact fin_ret (rvs_v (rvs_v (rvs_nil _))) ⟨hs.pre fun _ x => x, rfl, hs.pre fun _ x => x⟩)
  exact ⟨C, h, k⟩
theorem lay_good {x : AVal} {q : Rcd} (hq : RecAt B q x) (h64 : q.puts.length ≤ 64) (hg : goodR q = true) :
    ∃ r C, S_record_Lay [recV q x] B (.tup [r, .int .i64 0]) C ∧ Sep B (fun _ => False) C [.sl r 1 (layR q).length (strs (layR q))] := by
  obtain ⟨hr, hv⟩ := hq
  obtain ⟨hsq, hpt⟩ := good_inv hg
  have he : checkE q = 0 := by unfold checkE; rw [if_neg (by omega), if_pos hg]
  obtain ⟨r, C, h, r', rfl, k⟩ := record_Lay.out (x0 := recV q x) (H := B) (Q := fun r C => ∃ r', r = .tup [r', .int .i64 0] ∧ Sep B (fun _ => False) C [.sl r' 1 (layR q).length (strs (layR q))]) (by
    unfold record_Lay.w
    have hs : Sep B (fun _ => False) B [] := Sep.start B
    refine s_box hs rfl fun i C1 _ hs => ?_
    simp only [recV, AVal.cells] at hs
    repeat first
    | ((with_reducible apply vb_recA); (· exact hs.g0); (· exact hr); (· rfl))
    obtain ⟨C, hc, k⟩ := check_spec (B := C1) ⟨hr, hs.rv hv⟩ (by omega)
    refine cb_i _ _ hc ?_
    have hs := hs.quiet k
    rw [he]
    repeat first
    | ((with_reducible apply vb_rec0); (· exact hs.g0))
    | ((with_reducible refine isB_cf ?_ ?_); (· omega))
    | with_reducible refine vb_i (neq64 _ _ _) ?_
    | with_reducible refine vb_i (e_fieldAddr _ _) ?_
    unfold okSeq at hsq
    rw [show q.seq = ((q.seq.toNat : Nat) : Int) by omega]
    obtain ⟨C3, hc, k⟩ := be_Put_spec (B := C) (w := 4) (n := q.seq.toNat) (by decide) (by decide) (by omega)
    refine cb_i _ _ hc ?_
    have hs := hs.quiet k
    repeat first
    | ((with_reducible apply vb_rec33); (· exact hs.g0); (· assumption))
    | with_reducible refine vb_i e_ext0 ?_
    | with_reducible refine vb_i e_ext1 ?_
    | with_reducible refine vb_i (e_fieldAddr _ _) ?_
    | ((with_reducible apply vb_len); (· first | exact hs.o0.view | exact hs.o1.view | exact hs.o2.view | exact hs.o3.view | exact hs.o4.view | exact hs.o5.view | exact hs.o6.view | exact hs.rv hv | exact hs.rv hv2 | exact hs.rv hv3 | exact hs.rv hv4 | exact hs.view hkv hko | assumption))
    obtain ⟨C4, hc, k⟩ := be_Put_spec (B := C3) (w := 2) (n := q.puts.length) (by decide) (by decide) (by omega)
    refine cb_i _ _ hc ?_
    have hs := hs.quiet k
    repeat first
    | with_reducible refine vb_i e_ext0 ?_
    | with_reducible refine vb_i e_ext1 ?_
    | with_reducible refine vb_i (e_fieldAddr _ _) ?_
    refine vb_i e_sliceArr32 ?_
    refine vb_i (bytes_str (rec_root hs.g0 hr)) ?_
    refine s_row (es := 1) (n := 4) (z := [.str []]) hs rfl fun t C5 _ hs => ?_
    obtain ⟨C6, hc, k⟩ := block_spec (xs := [[114, 99], beB 4 q.seq.toNat, beB 2 q.puts.length, q.root]) (view_row hs.g0 rfl) (by simp) (by simp [beB_len, hr])
    refine cb_i _ _ hc ?_
    have hs := (hs.quiet k).tail
    rw [show full [[114, 99], beB 4 q.seq.toNat, beB 2 q.puts.length, q.root].flatten 64 = full (hdR q) 64 by simp [hdR]]
    refine s_row (es := 1) (n := 1) (z := [.str []]) hs rfl fun o C7 _ hs => ?_
    have hs := (s_own (n := 1) (es := 1) hs rfl).f1
    repeat first
    | ((with_reducible apply vb_rec33); (· exact hs.g0); (· assumption))
    | with_reducible refine vb_i (e_fieldAddr _ _) ?_
    | ((with_reducible apply vb_len); (· first | exact hs.o0.view | exact hs.o1.view | exact hs.o2.view | exact hs.o3.view | exact hs.o4.view | exact hs.o5.view | exact hs.o6.view | exact hs.rv hv | exact hs.rv hv2 | exact hs.rv hv3 | exact hs.rv hv4 | exact hs.view hkv hko | assumption))
    have hs := s_nils hs 1
    refine LoopP.ruleG (α := AVal × Nat) (fun a => [a.1, .int .i64 (a.2 : Int)])
      (fun a C => a.2 ≤ q.puts.length ∧ Sep B (fun _ => False) C [.sl a.1 1 a.2 (nums ((atsN q).take a.2)), .obj i (.cells 0 .exact (rcells q x)), .sl (.slice ⟨o, 0, 0⟩ 1 (.ex 1)) 1 1 (strs [full (hdR q) 64])]) (fun a => q.puts.length - a.2) (.nils, 0) (by simp)
      ⟨by omega, hs⟩ ?_
    clear hs
    rintro ⟨sv, j⟩ C Kn ⟨hj, hs⟩ hk
    unfold record_Lay.L9 record_Lay.L9.b
    try simp only [evB]
    by_cases hjn : j < q.puts.length
    · have hb := List.getElem?_eq_getElem hjn
      have hm := hpt _ (List.getElem_mem hjn)
      have ht : (atsN q).take (j + 1) = (atsN q).take j ++ [q.puts[j].pos.toNat] := by
        rw [List.take_succ_eq_append_getElem (by simpa [atsN] using hjn)]; simp [atsN]
      generalize q.puts[j] = p at hb hm ht
      repeat first
      | ((with_reducible refine isB_ct ?_ ?_); (· omega))
      | with_reducible refine vb_i (lss64 _ _ _) ?_
      | ((with_reducible apply vb_addrN); (· first | exact hs.o0.view | exact hs.o1.view | exact hs.o2.view | exact hs.o3.view | exact hs.o4.view | exact hs.o5.view | exact hs.o6.view | exact hs.rv hv | exact hs.rv hv2 | exact hs.rv hv3 | exact hs.rv hv4 | exact hs.view hkv hko | assumption); (· omega))
      refine vb_i (el_ldN ptc_len (hs.rv hv) hb) ?_
      refine s_alloc hs fun t C2 _ hs => ?_
      refine s_storeA hs rfl rfl rfl rfl fun C3 hs => ?_
      repeat first
      | with_reducible refine vb_i (e_fieldAddr _ _) ?_
      | ((with_reducible apply vb_ld); (· first | exact hs.g0 | exact hs.g1 | exact hs.g2 | exact hs.g3 | exact hs.g4 | exact hs.g5 | exact hs.g6 | exact hs.rd hg | exact hs.rd hg2 | exact hs.rd hg3 | exact hs.rd hg4 | assumption); (· rfl))
      rw [show p.pos = ((p.pos.toNat : Nat) : Int) by omega]
      refine s_push (es := 1) (m := 1) (xs := nums [p.pos.toNat]) hs.tail rfl (by decide) rfl rfl (by unfold room; omega) (by unfold room; omega) fun s' _ hs => ?_
      repeat first
      | ((with_reducible refine vb_i (add64 ?_ ?_) ?_); (· omega); (· omega))
      refine hk (s', j + 1) _ ⟨by show j + 1 ≤ _; omega, ?_⟩ (by show q.puts.length - (j + 1) < q.puts.length - j; omega)
      rw [ht]
      simpa [nums] using hs
    obtain rfl : j = q.puts.length := by omega
    repeat first
    | ((with_reducible refine isB_cf ?_ ?_); (· omega))
    | with_reducible refine onE_i ?_
    | with_reducible refine vb_i (lss64 _ _ _) ?_
    try simp only [evB]
    rw [List.take_of_length_le (by simp [atsN])] at hs
    have hal : (atsN q).length = q.puts.length := by simp [atsN]
    have hs := hs.as (b := Part.vw sv 1 (atsN q).length (nums (atsN q))) rfl fun h => by rw [hal]; exact h.view
    refine LoopP.ruleG (α := AVal × AVal × Nat) (fun a => [a.1, a.2.1])
      (fun a C => a.2.2 ≤ (q.puts.length + 31) / 32 ∧ Sep B (fun _ => False) C [Part.vw a.2.1 1 ((atsN q).drop (32 * a.2.2)).length (nums ((atsN q).drop (32 * a.2.2))), .obj i (.cells 0 .exact (rcells q x)),
        .sl a.1 1 (1 + a.2.2) (strs (full (hdR q) 64 :: (((List.range a.2.2).map fun k => ((atsN q).drop (32 * k)).take 32).map rowB)))]) (fun a => (q.puts.length + 31) / 32 - a.2.2) (.slice ⟨o, 0, 0⟩ 1 (.ex 1), sv, 0) (by simp)
      ⟨Nat.zero_le _, by simpa using hs⟩ ?_
    clear hs
    rintro ⟨out, a, j⟩ C Kn ⟨hj, hs⟩ hk
    unfold record_Lay.L13 record_Lay.L13.b
    try simp only [evB]
    simp only at hj hs
    have hva := hs.head
    refine vb_i (lenSl_view hva) ?_
    have hdl : ((atsN q).drop (32 * j)).length = q.puts.length - 32 * j := by rw [List.length_drop, hal]
    by_cases hjn : 32 * j < q.puts.length
    · repeat first
      | ((with_reducible refine isB_ct ?_ ?_); (· omega))
      | with_reducible refine vb_i (gtr64 _ _ _) ?_
      | ((with_reducible apply vb_len); (· first | exact hs.o0.view | exact hs.o1.view | exact hs.o2.view | exact hs.o3.view | exact hs.o4.view | exact hs.o5.view | exact hs.o6.view | exact hs.rv hv | exact hs.rv hv2 | exact hs.rv hv3 | exact hs.rv hv4 | exact hs.view hkv hko | assumption))
      refine vb_i (e_min64 _ _) ?_
      obtain ⟨m, hm, hm2⟩ : ∃ m : Nat, (if (32 : Int) < ((((atsN q).drop (32 * j)).length : Nat) : Int) then (32 : Int) else ((((atsN q).drop (32 * j)).length : Nat) : Int)) = (m : Int) ∧ m = min (q.puts.length - 32 * j) 32 := by
        refine ⟨min (q.puts.length - 32 * j) 32, ?_, rfl⟩
        rw [hdl]; split <;> omega
      rw [hm]
      have hbn : ∀ d, bnd d (some (.int .i64 (m : Int))) = some m := fun d => by rw [bnd_int (by omega), Int.toNat_natCast]
      obtain ⟨a1, e1, hv1, hid1, _⟩ := slice_full (h := some (.int .i64 (m : Int))) (m := some (.int .i64 (m : Int))) (hi := m) hva hbn hbn rfl (by rw [hdl]; omega) (.inl (by rw [hdl]; omega))
      refine vb_i e1 ?_
      have hrow : ((atsN q).drop (32 * j)).take m = ((atsN q).drop (32 * j)).take 32 := by
        by_cases h : 32 ≤ q.puts.length - 32 * j
        · rw [hm2, Nat.min_eq_right h]
        · rw [List.take_of_length_le (by rw [hdl]; omega), List.take_of_length_le (by rw [hdl]; omega)]
      have hr1 : (nums ((atsN q).drop (32 * j))).take (m * 1) = nums (((atsN q).drop (32 * j)).take 32) := by
        rw [Nat.mul_one, ← hrow]; simp [nums, List.map_take]
      have hrl : (((atsN q).drop (32 * j)).take 32).length = m := by rw [← hrow, List.length_take, hdl]; omega
      rw [hr1, ← hrl] at hv1
      obtain ⟨C2, hc, k⟩ := be_Row_spec hv1 (by omega) (w := 2) (by decide) (by decide) (fun n hn => by
        have hn := List.mem_of_mem_drop (List.mem_of_mem_take hn)
        simp only [atsN, List.mem_map] at hn
        obtain ⟨p, hp, rfl⟩ := hn
        have := hpt p hp
        omega)
      refine cb_i _ _ hc ?_
      have hs := hs.quiet k
      repeat first
      | with_reducible refine vb_i e_ext0 ?_
      | with_reducible refine vb_i e_ext1 ?_
      refine s_row (es := 1) (n := 1) (z := [.str []]) hs rfl fun t C5 _ hs => ?_
      obtain ⟨C6, hc, k⟩ := block_spec (xs := [((((atsN q).drop (32 * j)).take 32).map (beB 2)).flatten]) (view_row hs.g0 rfl) (by simp) (by rw [List.flatten_singleton, flat_beB, hrl]; omega)
      refine cb_i _ _ hc ?_
      have hs := (hs.quiet k).tail
      rw [List.flatten_singleton, show full ((((atsN q).drop (32 * j)).take 32).map (beB 2)).flatten 64 = rowB (((atsN q).drop (32 * j)).take 32) from rfl]
      refine s_push (es := 1) (m := 1) (xs := strs [rowB (((atsN q).drop (32 * j)).take 32)]) hs.f2 rfl (by decide) rfl rfl (by unfold room; omega) (by unfold room; omega) fun out' C7 hs => ?_
      have hva := hs.tail.head
      obtain ⟨a2, e2, hv2, hid2⟩ := slice_view (l := some (.int .i64 (m : Int))) (h := none) (lo := m) (hi := ((atsN q).drop (32 * j)).length) hva (hbn 0) rfl (by rw [hdl]; omega) (Nat.le_refl _)
      refine vb_i e2 ?_
      have hdr : ((atsN q).drop (32 * j)).drop m = (atsN q).drop (32 * (j + 1)) := by
        rw [List.drop_drop]
        by_cases h32 : m = 32
        · rw [h32, Nat.mul_add]
        · rw [List.drop_of_length_le (by omega), List.drop_of_length_le (by omega)]
      have hv2' : View C7 a2 1 ((atsN q).drop (32 * (j + 1))).length (nums ((atsN q).drop (32 * (j + 1)))) := by
        rw [← hdr]
        rw [Nat.mul_one, Nat.mul_one] at hv2
        have e3 : ((nums ((atsN q).drop (32 * j))).drop m).take (((atsN q).drop (32 * j)).length - m) = nums (((atsN q).drop (32 * j)).drop m) := by
          rw [List.take_of_length_le (Nat.le_of_eq (by rw [List.length_drop, nums_len]))]; simp [nums, List.map_drop]
        rw [e3] at hv2
        rw [List.length_drop]; exact hv2
      have hs := hs.f1.as (b := Part.vw a2 1 ((atsN q).drop (32 * (j + 1))).length (nums ((atsN q).drop (32 * (j + 1))))) (by simp only [Part.vw, hid2]) fun _ => hv2'
      refine hk (out', a2, j + 1) _ ⟨by show j + 1 ≤ _; omega, ?_⟩ (by show _ - (j + 1) < _ - j; omega)
      have hs := hs.f2.f1
      rw [show (List.range (j + 1)).map (fun k => ((atsN q).drop (32 * k)).take 32) = (List.range j).map (fun k => ((atsN q).drop (32 * k)).take 32) ++ [((atsN q).drop (32 * j)).take 32] by rw [List.range_succ, List.map_append]; rfl]
      simpa [strs, Nat.add_assoc] using hs
    obtain rfl : j = (q.puts.length + 31) / 32 := by omega
    repeat first
    | ((with_reducible refine isB_cf ?_ ?_); (· omega))
    | with_reducible refine onE_i ?_
    | with_reducible refine vb_i (gtr64 _ _ _) ?_
    | with_reducible refine vb_i (e_fieldAddr _ _) ?_
    try simp only [evB]
    have hs := hs.tail
    rw [show ((List.range ((q.puts.length + 31) / 32)).map fun k => ((atsN q).drop (32 * k)).take 32).map rowB = headsR (atsN q) by unfold headsR rowsN; rw [hal]] at hs
    have hhl : (headsR (atsN q)).length = (q.puts.length + 31) / 32 := by simp [headsR, rowsN, hal]
    repeat first
    | ((with_reducible apply vb_rec33); (· exact hs.g0); (· assumption))
    | ((with_reducible apply vb_len); (· first | exact hs.o0.view | exact hs.o1.view | exact hs.o2.view | exact hs.o3.view | exact hs.o4.view | exact hs.o5.view | exact hs.o6.view | exact hs.rv hv | exact hs.rv hv2 | exact hs.rv hv3 | exact hs.rv hv4 | exact hs.view hkv hko | assumption))
    refine LoopP.ruleG (α := AVal × Nat) (fun a => [a.1, .int .i64 (a.2 : Int)])
      (fun a C => a.2 ≤ q.puts.length ∧ Sep B (fun _ => False) C [.sl a.1 1 (1 + (q.puts.length + 31) / 32 + a.2) (strs (full (hdR q) 64 :: headsR (atsN q) ++ (q.puts.take a.2).map Pt.b)), .obj i (.cells 0 .exact (rcells q x))]) (fun a => q.puts.length - a.2) (out, 0) (by simp)
      ⟨Nat.zero_le _, by simpa using hs.f1⟩ ?_
    clear hs
    rintro ⟨sv, j⟩ C Kn ⟨hj, hs⟩ hk
    unfold record_Lay.L19 record_Lay.L19.b
    try simp only [evB]
    by_cases hjn : j < q.puts.length
    · have hb := List.getElem?_eq_getElem hjn
      have ht : (q.puts.take (j + 1)).map Pt.b = (q.puts.take j).map Pt.b ++ [q.puts[j].b] := by
        rw [List.take_succ_eq_append_getElem hjn, List.map_append]; rfl
      generalize q.puts[j] = p at hb ht
      repeat first
      | ((with_reducible refine isB_ct ?_ ?_); (· omega))
      | with_reducible refine vb_i (lss64 _ _ _) ?_
      | ((with_reducible apply vb_addrN); (· first | exact hs.o0.view | exact hs.o1.view | exact hs.o2.view | exact hs.o3.view | exact hs.o4.view | exact hs.o5.view | exact hs.o6.view | exact hs.rv hv | exact hs.rv hv2 | exact hs.rv hv3 | exact hs.rv hv4 | exact hs.view hkv hko | assumption); (· omega))
      refine vb_i (el_ldN ptc_len (hs.rv hv) hb) ?_
      refine s_alloc hs fun t C2 _ hs => ?_
      refine s_storeA hs rfl rfl rfl rfl fun C3 hs => ?_
      repeat first
      | with_reducible refine vb_i (e_fieldAddr _ _) ?_
      | ((with_reducible apply vb_ld); (· first | exact hs.g0 | exact hs.g1 | exact hs.g2 | exact hs.g3 | exact hs.g4 | exact hs.g5 | exact hs.g6 | exact hs.rd hg | exact hs.rd hg2 | exact hs.rd hg3 | exact hs.rd hg4 | assumption); (· rfl))
      refine s_push (es := 1) (m := 1) (xs := strs [p.b]) hs.tail rfl (by decide) rfl rfl (by unfold room; omega) (by unfold room; omega) fun s' _ hs => ?_
      repeat first
      | ((with_reducible refine vb_i (add64 ?_ ?_) ?_); (· omega); (· omega))
      refine hk (s', j + 1) _ ⟨by show j + 1 ≤ _; omega, ?_⟩ (by show q.puts.length - (j + 1) < q.puts.length - j; omega)
      rw [ht]
      simpa [strs, Nat.add_assoc] using hs
    obtain rfl : j = q.puts.length := by omega
    repeat first
    | ((with_reducible refine isB_cf ?_ ?_); (· omega))
    | with_reducible refine onE_i ?_
    | with_reducible refine vb_i (lss64 _ _ _) ?_
    try simp only [evB]
    rw [List.take_length] at hs
    refine fin_ret (rvs_v (rvs_v (rvs_nil _))) ⟨hs.pre fun _ x => x, sv, rfl, ?_⟩
    have hs := hs.f1.tail
    rw [show (layR q).length = 1 + (q.puts.length + 31) / 32 + q.puts.length by simp [layR, hhl]; omega]
    exact hs)
  exact ⟨r', C, h, k⟩
end
end Go.Sh

/- The document's record: may it be; its blocks; the same. -/
namespace Go.Sh
open Go Go.Abs

section
variable {B : AHeap}
end
end Go.Sh

/- The document's records: the same, and their blocks. -/
namespace Go.Sh
open Go Go.Abs

section
variable {B : AHeap}
theorem full_hd {q : Rcd} (hr : q.root.length = 32) : full (hdR q) 64 = hdR q ++ zs 24 := by
  unfold full
  have : (hdR q).length = 40 := by simp [hdR, beB_len, hr]
  rw [if_neg (by omega), this]
end
end Go.Sh

/- What blocks begin with: the head, and one Put. -/
namespace Go.Sh
open Go Go.Abs

def headOk (s : List UInt8) : Prop := s.length = 64 ∧ s.take 2 = [114, 99] ∧ s.drop 40 = zs 24
instance (s : List UInt8) : Decidable (headOk s) := by unfold headOk; infer_instance
def seqOf (s : List UInt8) : Nat := numB ((s.take 6).drop 2)
def cntOf (s : List UInt8) : Nat := numB ((s.take 8).drop 6)
def rootOf (s : List UInt8) : List UInt8 := (s.take 40).drop 8
def posOf (t : List UInt8) (i : Nat) : Nat := numB ((t.take (2 * (i % 32) + 2)).drop (2 * (i % 32)))
section
variable {H0 B : AHeap} {own : Nat → Prop} {R : List Part}
theorem rcells_seq {q : Rcd} {y : AVal} {n : Int} : (rcells q y).set 0 (.int .i64 n) = rcells { q with seq := n } y := rfl
theorem rcells_root {q : Rcd} {y : AVal} {s : List UInt8} (h : q.root.length = 32) (hs : s.length = 32) : splice (rcells q y) 1 (s.map ofByte) = rcells { q with root := s } y := by
  unfold splice rcells
  simp [h, hs]
theorem rcells_puts {q : Rcd} {y z : AVal} {l : List Pt} (h : q.root.length = 32) : (rcells q y).set 33 z = rcells { q with puts := l } z := by
  unfold rcells
  rw [List.set_cons_succ, List.set_append_right _ _ (by simp [h])]
  simp [h]
theorem s_copy32 {i : Nat} {cs : List AVal} {s : List UInt8} {K : AVal → AHeap → Prop} (h : Sep H0 own B (.obj i (.cells 0 .exact cs) :: R)) (hs : s.length = 32) (hl : cs.length = 34)
    (k : ∀ C, Sep H0 own C (.obj i (.cells 0 .exact (splice cs 1 (s.map ofByte))) :: R) → K (.int .i64 32) C) : hb (aCopy B 1 (.slice ⟨i, 0, 1⟩ 32 (.ex 32)) (.str s)) K := by
  have e : aCopy B 1 (.slice ⟨i, 0, 1⟩ 32 (.ex 32)) (.str s) = some (.int .i64 32, B.set i (.cells 0 .exact (splice cs 1 (s.map ofByte)))) := by
    have h1 : srcLen (.str s) = some 32 := by simp [srcLen, hs]
    have h2 : srcCells B 1 32 (.str s) = some (s.map ofByte) := by simp [srcCells, ← hs]
    have h3 := wr_of (H := B) (r := ⟨i, 0, 1⟩) (xs := s.map ofByte) h.g0 rfl (by decide) (by simp [hs, hl]) (cells_byte s)
    unfold aCopy
    simp only [h1, Nat.min_self, h2, h3]
    rfl
  rw [e]
  exact k _ (h.set _)
theorem first_bad {p : AVal} {s : List UInt8} (hb : ¬ headOk s) : ∃ C, S_record_first [.str s, p] B (.int .i64 (-1)) C ∧ B <+: C := by
  obtain ⟨r, C, h, rfl, k⟩ := record_first.out (x0 := .str s) (x1 := p) (H := B) (Q := fun r C => r = .int .i64 (-1) ∧ B <+: C) (by
    unfold record_first.w
    have hs : Sep B (fun _ => False) B [] := Sep.start B
    refine JoinP.mk (fun e vs C => e = .ret ∧ vs = [.int .i64 (-1)] ∧ B <+: C) ?_ ?_
    · repeat first
      | with_reducible refine vb_i (neq64 _ _ _) ?_
      | with_reducible refine vb_i (e_lenSt _) ?_
      refine isB_c (fun h1 => ?_) (fun h1 => ?_)
      · exact ⟨rfl, rfl, List.prefix_refl _⟩
      have h1 : s.length = 64 := by omega
      refine vb_i (e_sliceStrTo (by decide) (by rw [h1]; decide)) ?_
      repeat first
      | with_reducible refine vb_i (neqs _ _) ?_
      refine isB_c (fun h2 => ?_) (fun h2 => ?_)
      · exact ⟨rfl, rfl, List.prefix_refl _⟩
      have h2 := Decidable.not_not.1 h2
      refine vb_i (e_sliceStrFrom (by decide) (by rw [h1]; decide)) ?_
      refine s_make (n := 24) hs rfl rfl (by decide) (by decide) fun sv C _ _ hs => ?_
      rw [fill_zs] at hs
      refine vb_i (bytes_str hs.o0.view) ?_
      repeat first
      | with_reducible refine vb_i (neqs _ _) ?_
      refine isB_c (fun h3 => ?_) (fun h3 => ?_)
      · exact ⟨rfl, rfl, hs.pre fun _ x => x⟩
      exact (hb ⟨h1, h2, Decidable.not_not.1 h3⟩).elim
    rintro e vs C ⟨rfl, rfl, hp⟩
    repeat first
    | with_reducible refine onE_i ?_
    | ((with_reducible refine onE_s ?_ ?_); (· decide))
    try simp only [evB]
    exact fin_ret (rvs_v (rvs_nil _)) ⟨rfl, hp⟩)
  exact ⟨C, h, k⟩
theorem first_good {p : Nat} {q : Rcd} {y : AVal} {s : List UInt8} (h0 : Sep H0 own B (.obj p (.cells 0 .exact (rcells q y)) :: R)) (hr : q.root.length = 32) (hb : headOk s) :
    ∃ C, S_record_first [.str s, .ptr ⟨p, 0, 0⟩] B (.int .i64 (if 64 < cntOf s then -1 else (cntOf s : Int))) C ∧ Sep H0 own C (.obj p (.cells 0 .exact (rcells ⟨seqOf s, rootOf s, q.puts⟩ y)) :: R) := by
  obtain ⟨h1, h2, h3⟩ := hb
  obtain ⟨r, C, h, rfl, k⟩ := record_first.out (x0 := .str s) (x1 := .ptr ⟨p, 0, 0⟩) (H := B)
    (Q := fun r C => r = .int .i64 (if 64 < cntOf s then -1 else (cntOf s : Int)) ∧ Sep H0 own C (.obj p (.cells 0 .exact (rcells ⟨seqOf s, rootOf s, q.puts⟩ y)) :: R)) (by
    unfold record_first.w
    have hs := h0
    refine JoinP.mk (fun e vs C => e = .normal ∧ Sep H0 own C (.obj p (.cells 0 .exact (rcells q y)) :: R)) ?_ ?_
    · repeat first
      | ((with_reducible refine isB_cf ?_ ?_); (· omega))
      | with_reducible refine vb_i (neq64 _ _ _) ?_
      | with_reducible refine vb_i (e_lenSt _) ?_
      refine vb_i (e_sliceStrTo (by decide) (by rw [h1]; decide)) ?_
      rw [show (2 : Int).toNat = 2 from rfl, h2]
      repeat first
      | ((with_reducible refine isB_cf ?_ ?_); (· with_reducible exact not_not_intro rfl))
      | with_reducible refine vb_i (neqs _ _) ?_
      refine vb_i (e_sliceStrFrom (by decide) (by rw [h1]; decide)) ?_
      rw [show (40 : Int).toNat = 40 from rfl, h3]
      refine s_make (n := 24) hs rfl rfl (by decide) (by decide) fun sv C _ _ hs => ?_
      rw [fill_zs] at hs
      refine vb_i (bytes_str hs.o0.view) ?_
      repeat first
      | ((with_reducible refine isB_cf ?_ ?_); (· with_reducible exact not_not_intro rfl))
      | with_reducible refine vb_i (neqs _ _) ?_
      exact ⟨rfl, hs.tail⟩
    rintro e vs C ⟨rfl, hs⟩
    repeat first
    | with_reducible refine onE_i ?_
    refine vb_i (e_sliceStr (by decide) (by decide) (by rw [h1]; decide)) ?_
    obtain ⟨C2, hc, k⟩ := be_Get_spec (B := C) (s := (s.take 6).drop 2) (by intro e; have := congrArg List.length e; simp [h1] at this) (by simp [h1])
    refine cb_i _ _ hc ?_
    have hs := hs.quiet k
    repeat first
    | with_reducible refine vb_i e_ext0 ?_
    | with_reducible refine vb_i e_ext1 ?_
    | with_reducible refine vb_i (e_nilCheck _) ?_
    | with_reducible refine vb_i (e_fieldAddr _ _) ?_
    rw [show (numB ((s.take 6).drop 2) : Int) = (seqOf s : Int) from rfl]
    refine s_store1 hs rfl rfl (by rw [rcells_len hr]; show 0 + 0 < 34; omega) fun C3 hs => ?_
    rw [rcells_seq] at hs
    refine vb_i (e_sliceStr (by decide) (by decide) (by rw [h1]; decide)) ?_
    obtain ⟨C4, hc, k⟩ := be_Get_spec (B := C3) (s := (s.take 8).drop 6) (by intro e; have := congrArg List.length e; simp [h1] at this) (by simp [h1])
    refine cb_i _ _ hc ?_
    have hs := hs.quiet k
    rw [show (numB ((s.take 8).drop 6) : Int) = (cntOf s : Int) from rfl]
    repeat first
    | with_reducible refine vb_i e_ext0 ?_
    | with_reducible refine vb_i e_ext1 ?_
    | with_reducible refine vb_i (e_nilCheck _) ?_
    | with_reducible refine vb_i (e_fieldAddr _ _) ?_
    refine vb_i e_sliceArr32 ?_
    refine vb_i (e_sliceStr (by decide) (by decide) (by rw [h1]; decide)) ?_
    refine s_copy32 hs (s := (s.take 40).drop 8) (by simp [h1]) (rcells_len hr) fun C5 hs => ?_
    rw [rcells_root (q := ⟨seqOf s, q.root, q.puts⟩) hr (by simp [h1])] at hs
    repeat first
    | with_reducible refine vb_i (gtr64 _ _ _) ?_
    refine isB_c (fun h4 => ?_) (fun h4 => ?_)
    · refine fin_ret (rvs_v (rvs_nil _)) ⟨?_, hs⟩
      rw [if_pos (by omega)]; rfl
    · refine fin_ret (rvs_v (rvs_nil _)) ⟨?_, hs⟩
      rw [if_neg (by omega)]; rfl)
  exact ⟨C, h, k⟩
end
end Go.Sh

/- One Put that is read. -/
namespace Go.Sh
open Go Go.Abs

section
variable {H0 B : AHeap} {own : Nat → Prop} {R : List Part} {p bx bb i bodies : Nat} {q : Rcd} {y lv : AVal} {l : List (List UInt8)}
theorem put_bad (g : B[bx]? = some (.cells 0 .exact [lv])) (hv : View B lv 1 l.length (strs l)) (hi : i < 64) (h1 : 1 + i / 32 < l.length) (hb : (l.getD (1 + i / 32) []).length ≠ 64) (x2 x3 : AVal) :
    ∃ C, S_record_Parse_1 [.int .i64 i, .ptr ⟨bx, 0, 0⟩, x2, x3] B (.bool false) C ∧ B <+: C := by
  obtain ⟨r, C, h, rfl, k⟩ := record_Parse_1.out (x0 := .int .i64 i) (x1 := .ptr ⟨bx, 0, 0⟩) (x2 := x2) (x3 := x3) (H := B) (Q := fun r C => r = .bool false ∧ B <+: C) (by
    unfold record_Parse_1.w
    have hs : Sep B (fun _ => False) B [] := Sep.start B
    refine vb_ld g rfl ?_
    repeat first
    | ((with_reducible refine vb_i (add64 ?_ ?_) ?_); (· omega); (· omega))
    | ((with_reducible refine vb_i (quo64 ?_ ?_ ?_) ?_); (· omega); (· omega); (· omega))
    | ((with_reducible apply vb_addr); (· first | exact hs.o0.view | exact hs.o1.view | exact hs.o2.view | exact hs.o3.view | exact hs.o4.view | exact hs.o5.view | exact hs.o6.view | exact hs.rv hv | exact hs.rv hv2 | exact hs.rv hv3 | exact hs.rv hv4 | exact hs.view hkv hko | assumption); (· omega); (· omega))
    rw [show (1 + (i : Int) / 32).toNat = 1 + i / 32 by omega]
    refine vb_el0 hv (strs_atR h1) ?_
    repeat first
    | ((with_reducible refine isB_ct ?_ ?_); (· omega))
    | with_reducible refine vb_i (neq64 _ _ _) ?_
    | with_reducible refine vb_i (e_lenSt _) ?_
    exact fin_ret (rvs_v (rvs_nil _)) ⟨rfl, List.prefix_refl _⟩)
  exact ⟨C, h, k⟩
theorem put_good (h0 : Sep H0 own B (.obj p (.cells 0 .exact (rcells q y)) :: .sl y 2 q.puts.length (flat ptc q.puts) :: .obj bx (.cells 0 .exact [lv]) :: .obj bb (.cells 0 .exact [.int .i64 bodies]) :: R))
    (hv : View B lv 1 l.length (strs l)) (hr : q.root.length = 32) (hq : q.puts.length ≤ 64) (hi : i < 64) (h1 : 1 + i / 32 < l.length) (h2 : bodies + i < l.length) (h3 : l.length ≤ 9223372036854775807)
    (hb : (l.getD (1 + i / 32) []).length = 64) :
    ∃ C, S_record_Parse_1 [.int .i64 i, .ptr ⟨bx, 0, 0⟩, .ptr ⟨p, 0, 0⟩, .ptr ⟨bb, 0, 0⟩] B (.bool true) C ∧
      ∃ y', Sep H0 own C (.obj p (.cells 0 .exact (rcells ⟨q.seq, q.root, q.puts ++ [⟨posOf (l.getD (1 + i / 32) []) i, l.getD (bodies + i) []⟩]⟩ y')) :: .sl y' 2 (q.puts.length + 1) (flat ptc (q.puts ++ [⟨posOf (l.getD (1 + i / 32) []) i, l.getD (bodies + i) []⟩])) ::
        .obj bx (.cells 0 .exact [lv]) :: .obj bb (.cells 0 .exact [.int .i64 bodies]) :: R) := by
  obtain ⟨r, C, h, rfl, k⟩ := record_Parse_1.out (x0 := .int .i64 i) (x1 := .ptr ⟨bx, 0, 0⟩) (x2 := .ptr ⟨p, 0, 0⟩) (x3 := .ptr ⟨bb, 0, 0⟩) (H := B)
    (Q := fun r C => r = .bool true ∧ ∃ y', Sep H0 own C (.obj p (.cells 0 .exact (rcells ⟨q.seq, q.root, q.puts ++ [⟨posOf (l.getD (1 + i / 32) []) i, l.getD (bodies + i) []⟩]⟩ y')) :: .sl y' 2 (q.puts.length + 1) (flat ptc (q.puts ++ [⟨posOf (l.getD (1 + i / 32) []) i, l.getD (bodies + i) []⟩])) ::
        .obj bx (.cells 0 .exact [lv]) :: .obj bb (.cells 0 .exact [.int .i64 bodies]) :: R)) (by
    unfold record_Parse_1.w
    have hs := h0
    refine vb_ld hs.g2 rfl ?_
    repeat first
    | ((with_reducible refine vb_i (add64 ?_ ?_) ?_); (· omega); (· omega))
    | ((with_reducible refine vb_i (quo64 ?_ ?_ ?_) ?_); (· omega); (· omega); (· omega))
    | ((with_reducible apply vb_addr); (· first | exact hs.o0.view | exact hs.o1.view | exact hs.o2.view | exact hs.o3.view | exact hs.o4.view | exact hs.o5.view | exact hs.o6.view | exact hs.rv hv | exact hs.rv hv2 | exact hs.rv hv3 | exact hs.rv hv4 | exact hs.view hkv hko | assumption); (· omega); (· omega))
    rw [show (1 + (i : Int) / 32).toNat = 1 + i / 32 by omega]
    refine vb_el0 hv (strs_atR h1) ?_
    repeat first
    | ((with_reducible refine isB_cf ?_ ?_); (· omega))
    | with_reducible refine vb_i (neq64 _ _ _) ?_
    | ((with_reducible refine vb_i (add64 ?_ ?_) ?_); (· omega); (· omega))
    | ((with_reducible refine vb_i (mul64 ?_ ?_) ?_); (· omega); (· omega))
    | ((with_reducible refine vb_i (rem64 ?_ ?_) ?_); (· omega); (· omega))
    | with_reducible refine vb_i (e_lenSt _) ?_
    refine vb_i (e_sliceStr (by omega) (by omega) (by omega)) ?_
    rw [show (2 * ((i : Int) % 32) + 2).toNat = 2 * (i % 32) + 2 by omega, show (2 * ((i : Int) % 32)).toNat = 2 * (i % 32) by omega]
    obtain ⟨C2, hc, k⟩ := be_Get_spec (B := B) (s := ((l.getD (1 + i / 32) []).take (2 * (i % 32) + 2)).drop (2 * (i % 32))) (by
      intro e; have := congrArg List.length e; rw [List.length_drop, List.length_take, hb] at this; simp at this; omega) (by rw [List.length_drop, List.length_take, hb]; omega)
    refine cb_i _ _ hc ?_
    have hs := hs.quiet k
    have hv := hv.pre k
    rw [show (numB (((l.getD (1 + i / 32) []).take (2 * (i % 32) + 2)).drop (2 * (i % 32))) : Int) = (posOf (l.getD (1 + i / 32) []) i : Int) from rfl]
    repeat first
    | ((with_reducible apply vb_rec33); (· exact hs.g0); (· assumption))
    | with_reducible refine vb_i e_ext0 ?_
    | with_reducible refine vb_i e_ext1 ?_
    | ((with_reducible refine vb_i (add64 ?_ ?_) ?_); (· omega); (· omega))
    | with_reducible refine vb_i (e_fieldAddr _ _) ?_
    | ((with_reducible apply vb_ld); (· first | exact hs.g0 | exact hs.g1 | exact hs.g2 | exact hs.g3 | exact hs.g4 | exact hs.g5 | exact hs.g6 | exact hs.rd hg | exact hs.rd hg2 | exact hs.rd hg3 | exact hs.rd hg4 | assumption); (· rfl))
    | ((with_reducible apply vb_addr); (· first | exact hs.o0.view | exact hs.o1.view | exact hs.o2.view | exact hs.o3.view | exact hs.o4.view | exact hs.o5.view | exact hs.o6.view | exact hs.rv hv | exact hs.rv hv2 | exact hs.rv hv3 | exact hs.rv hv4 | exact hs.view hkv hko | assumption); (· omega); (· omega))
    rw [show ((bodies : Int) + (i : Int)).toNat = bodies + i by omega]
    refine vb_el0 hv (strs_atR h2) ?_
    generalize posOf (l.getD (1 + i / 32) []) i = at_
    generalize l.getD (bodies + i) [] = b
    repeat first
    | ((with_reducible apply vb_bld); (· first | rfl | (simp only [evF, evS]; rfl)))
    refine s_push (es := 2) (m := 1) (xs := ptc ⟨at_, b⟩) hs.f1 rfl (by decide) rfl rfl (by unfold room; omega) (by unfold room; omega) fun y' C5 hs => ?_
    have hsc := hs.o0.sc
    refine vb_i (e_fieldAddr _ _) ?_
    refine s_store1 hs.f1 rfl hsc (by rw [rcells_len hr]; show 0 + 33 < 34; omega) fun C6 hs => ?_
    rw [show (⟨p, 0, 0⟩ : Ref).off + 33 = 33 from rfl, rcells_puts (l := q.puts ++ [⟨at_, b⟩]) hr] at hs
    refine fin_ret (rvs_v (rvs_nil _)) ⟨rfl, y', ?_⟩
    rw [flat_app, flat_one]
    exact hs)
  exact ⟨C, h, k⟩
end
end Go.Sh

/- What blocks begin with. -/
namespace Go.Sh
open Go Go.Abs

def zR : Rcd := ⟨0, zs 32, []⟩
def longN (n : Nat) : Nat := 1 + (n + 31) / 32 + n
def putsOf (l : List (List UInt8)) (n : Nat) : List Pt := (List.range n).map fun i => ⟨posOf (l.getD (1 + i / 32) []) i, l.getD (longN n - n + i) []⟩
def recOf (l : List (List UInt8)) : Rcd := ⟨seqOf (l.getD 0 []), rootOf (l.getD 0 []), putsOf l (cntOf (l.getD 0 []))⟩
def formOk (l : List (List UInt8)) (n : Nat) : Prop := (∀ i, i < n → (l.getD (1 + i / 32) []).length = 64) ∧ goodR (recOf l) = true ∧ layR (recOf l) = l.take (longN n)
instance (l : List (List UInt8)) (n : Nat) : Decidable (formOk l n) := by
  unfold formOk; infer_instance
def parseR (l : List (List UInt8)) : Rcd × Nat × Int :=
  if l.length = 0 then (zR, 0, 5)
  else if ¬ headOk (l.getD 0 []) ∨ 64 < cntOf (l.getD 0 []) then (zR, 0, 6)
  else if l.length < longN (cntOf (l.getD 0 [])) then (zR, 0, 5)
  else if formOk l (cntOf (l.getD 0 [])) then (recOf l, longN (cntOf (l.getD 0 [])), 0) else (zR, 0, 6)
theorem zcells : ([.int .i64 0, .int .u8 0, .int .u8 0, .int .u8 0, .int .u8 0, .int .u8 0, .int .u8 0, .int .u8 0, .int .u8 0, .int .u8 0, .int .u8 0, .int .u8 0, .int .u8 0, .int .u8 0, .int .u8 0, .int .u8 0, .int .u8 0, .int .u8 0, .int .u8 0, .int .u8 0, .int .u8 0, .int .u8 0, .int .u8 0, .int .u8 0, .int .u8 0, .int .u8 0, .int .u8 0, .int .u8 0, .int .u8 0, .int .u8 0, .int .u8 0, .int .u8 0, .int .u8 0, .nils] : List AVal) = rcells zR .nils := rfl
theorem View.defd {B : AHeap} {x : AVal} {es n : Nat} {cs : List AVal} (h : View B x es n cs) : x.defd = true := by
  obtain ⟨_, ⟨rfl, _⟩ | ⟨i, v, off, c, kd, cs', rfl, _⟩⟩ := h <;> rfl
theorem View.one {B : AHeap} {x : AVal} {es n : Nat} {cs : List AVal} (h : View B x es n cs) : x.cells = [x] := by
  obtain ⟨_, ⟨rfl, _⟩ | ⟨i, v, off, c, kd, cs', rfl, _⟩⟩ := h <;> rfl
theorem length_long {n : Nat} (h : n ≤ 64) : lengthR n = (longN n : Nat) := by
  unfold lengthR longN; rw [if_neg (by omega)]; omega
section
variable {H0 B C : AHeap} {own : Nat → Prop} {R : List Part} {v3 : Nat}
theorem rcells_all {q : Rcd} {y : AVal} (hy : y.isCell = true) : (rcells q y).all AVal.isCell = true := by
  unfold rcells
  rw [List.all_cons, List.all_append, cells_byte]
  simp [hy]; rfl
theorem s_zst {q : Rcd} {y : AVal} {K : AHeap → Prop} (h : Sep H0 own C (.obj v3 (.cells 0 .exact (rcells q y)) :: R)) (hr : q.root.length = 32) (k : ∀ C, Sep H0 own C (.obj v3 (.cells 0 .exact (rcells zR .nils)) :: R) → K C) :
    vb (aBuild [.int .i64 0, .int .u8 0, .int .u8 0, .int .u8 0, .int .u8 0, .int .u8 0, .int .u8 0, .int .u8 0, .int .u8 0, .int .u8 0, .int .u8 0, .int .u8 0, .int .u8 0, .int .u8 0, .int .u8 0, .int .u8 0, .int .u8 0, .int .u8 0, .int .u8 0, .int .u8 0, .int .u8 0, .int .u8 0, .int .u8 0, .int .u8 0, .int .u8 0, .int .u8 0, .int .u8 0, .int .u8 0, .int .u8 0, .int .u8 0, .int .u8 0, .int .u8 0, .int .u8 0, .nils] (fun k => ([(0, 1), (1, 32), (33, 1)] : List (Nat × Nat))[k]?) []) fun v => sb (aStore C 34 (.ptr ⟨v3, 0, 0⟩) v) K := by
  rw [zcells]
  refine vb_bld rfl ?_
  exact s_storeA h rfl (rcells_len rfl) (rcells_len hr) (rcells_all rfl) k
theorem parse_end {q : Rcd} {y : AVal} {n e : Int} {K : AVal → AHeap → Prop} (g : C[v3]? = some (.cells 0 .exact (rcells q y))) (hr : q.root.length = 32) (k : K (.tup [recV q y, .int .i64 n, .int .i64 e]) C) :
    fin .ret [.c true 34 (.ptr ⟨v3, 0, 0⟩), .v (.int .i64 n), .v (.int .i64 e)] C K :=
  fin_ret (rvs_c (e_loadAll g (rcells_len hr)) (rvs_v (rvs_v (rvs_nil _)))) k
/-- A record that reads so, and whose row is new. -/
def NewAt (B C : AHeap) (q : Rcd) (y : AVal) : Prop := q.root.length = 32 ∧ Sep B (fun _ => False) C [Part.vw y 2 q.puts.length (flat ptc q.puts)]
theorem newAt_zero (h : Sep B (fun _ => False) C R) : NewAt B C zR .nils :=
  ⟨rfl, (s_nils (Sep.drop (R1 := []) (R := R) h) 2).as rfl fun h => h.view⟩
theorem newAt_sl {q : Rcd} {y : AVal} {n : Nat} (h : Sep B (fun _ => False) C (.sl y 2 n (flat ptc q.puts) :: R)) (hr : q.root.length = 32) (hn : q.puts.length = n) : NewAt B C q y := by
  subst hn
  exact ⟨hr, (Sep.drop (R1 := [Part.sl y 2 q.puts.length (flat ptc q.puts)]) (R := R) h).as rfl fun h => h.view⟩
theorem putsOf_len (l : List (List UInt8)) (n : Nat) : (putsOf l n).length = n := by simp [putsOf]
theorem putsOf_step {l : List (List UInt8)} {n j : Nat} (h : j < n) : (putsOf l n).take (j + 1) = (putsOf l n).take j ++ [⟨posOf (l.getD (1 + j / 32) []) j, l.getD (longN n - n + j) []⟩] := by
  rw [List.take_succ_eq_append_getElem (by rw [putsOf_len]; exact h)]
  simp [putsOf]
theorem parse_spec {x : AVal} {l : List (List UInt8)} (hv : View B x 1 l.length (strs l)) (h3 : l.length ≤ 9223372036854775807) :
    ∃ y C, S_record_Parse [x] B (.tup [recV (parseR l).1 y, .int .i64 (parseR l).2.1, .int .i64 (parseR l).2.2]) C ∧ B <+: C ∧ NewAt B C (parseR l).1 y := by
  obtain ⟨r, C, h, y, rfl, k⟩ := record_Parse.out (x0 := x) (H := B) (Q := fun r C => ∃ y, r = .tup [recV (parseR l).1 y, .int .i64 (parseR l).2.1, .int .i64 (parseR l).2.2] ∧ B <+: C ∧ NewAt B C (parseR l).1 y) (by
    unfold record_Parse.w
    have hs : Sep B (fun _ => False) B [] := Sep.start B
    refine s_box hs (View.defd hv) fun bx C1 _ hs => ?_
    rw [View.one hv] at hs
    refine s_alloc hs fun v3 C2 _ hs => ?_
    refine s_alloc hs fun v5 C3 _ hs => ?_
    rw [zcells] at hs
    have bad : ∀ {C : AHeap} {R : List Part} (n : Nat) (e : Int), Sep B (fun _ => False) C (.obj v3 (.cells 0 .exact (rcells zR .nils)) :: R) → parseR l = (zR, n, e) →
        fin .ret [.c true 34 (.ptr ⟨v3, 0, 0⟩), .v (.int .i64 n), .v (.int .i64 e)] C fun r H' => B <+: H' ∧ ∃ y, r = .tup [recV (parseR l).1 y, .int .i64 (parseR l).2.1, .int .i64 (parseR l).2.2] ∧ B <+: H' ∧ NewAt B H' (parseR l).1 y := by
      intro C R n e hs he
      refine parse_end hs.g0 rfl ?_
      rw [he]
      exact ⟨hs.pre fun _ x => x, .nils, rfl, hs.pre fun _ x => x, newAt_zero hs⟩
    refine vb_ld hs.g2 rfl ?_
    refine vb_i (lenSl_view (hs.rv hv)) ?_
    by_cases hl0 : l.length = 0
    · rw [hl0]
      repeat first
      | ((with_reducible refine isB_ct ?_ ?_); (· omega))
      | with_reducible refine vb_i (eql64 _ _ _) ?_
      | ((with_reducible apply vb_ldA); (· first | exact hs.g0 | exact hs.g1 | exact hs.g2 | exact hs.g3 | exact hs.g4 | exact hs.g5 | exact hs.g6 | exact hs.rd hg | exact hs.rd hg2 | exact hs.rd hg3 | exact hs.rd hg4 | assumption); (· rfl))
      | ((with_reducible first | apply s_storeA hs | apply s_storeA hs.f1 | apply s_storeA hs.f2); (· rfl); (· first | rfl | assumption); (· first | rfl | assumption); (· first | rfl | assumption); intro _ hs)
      exact bad 0 5 hs (by unfold parseR; rw [if_pos hl0])
    repeat first
    | ((with_reducible refine isB_cf ?_ ?_); (· omega))
    | with_reducible refine vb_i (eql64 _ _ _) ?_
    | ((with_reducible apply vb_ld); (· first | exact hs.g0 | exact hs.g1 | exact hs.g2 | exact hs.g3 | exact hs.g4 | exact hs.g5 | exact hs.g6 | exact hs.rd hg | exact hs.rd hg2 | exact hs.rd hg3 | exact hs.rd hg4 | assumption); (· rfl))
    | ((with_reducible apply vb_addr); (· first | exact hs.o0.view | exact hs.o1.view | exact hs.o2.view | exact hs.o3.view | exact hs.o4.view | exact hs.o5.view | exact hs.o6.view | exact hs.rv hv | exact hs.rv hv2 | exact hs.rv hv3 | exact hs.rv hv4 | exact hs.view hkv hko | assumption); (· omega); (· omega))
    refine vb_el0 (hs.rv hv) (j := 0) (strs_atR (l := l) (j := 0) (by omega)) ?_
    have bad1 : (¬ headOk (l.getD 0 []) ∨ 64 < cntOf (l.getD 0 [])) → parseR l = (zR, 0, 6) := fun h => by unfold parseR; rw [if_neg hl0, if_pos h]
    generalize hsd : l.getD 0 [] = s at *
    by_cases hb : ¬ headOk s
    · obtain ⟨C4, hc, k⟩ := first_bad (B := C3) (p := .ptr ⟨v5, 0, 0⟩) hb
      refine cb_i _ _ hc ?_
      have hs := hs.quiet k
      repeat first
      | ((with_reducible refine isB_ct ?_ ?_); (· omega))
      | with_reducible refine vb_i (lss64 _ _ _) ?_
      | ((with_reducible apply vb_bld); (· first | rfl | (simp only [evF, evS]; rfl)))
      | ((with_reducible first | apply s_storeA hs | apply s_storeA hs.f1 | apply s_storeA hs.f2); (· rfl); (· first | rfl | assumption); (· first | rfl | assumption); (· first | rfl | assumption); intro _ hs)
      exact bad 0 6 hs (bad1 (.inl hb))
    have hb := Decidable.not_not.1 hb
    obtain ⟨C4, hc, hs⟩ := first_good hs rfl hb
    refine cb_i _ _ hc ?_
    by_cases h64 : 64 < cntOf s
    · rw [if_pos h64]
      repeat first
      | ((with_reducible refine isB_ct ?_ ?_); (· omega))
      | with_reducible refine vb_i (lss64 _ _ _) ?_
      | ((with_reducible apply vb_bld); (· first | rfl | (simp only [evF, evS]; rfl)))
      | ((with_reducible first | apply s_storeA hs | apply s_storeA hs.f1 | apply s_storeA hs.f2); (· rfl); (· first | rfl | assumption); (· first | rfl | assumption); (· first | rfl | assumption); intro _ hs)
      exact bad 0 6 hs (bad1 (.inr h64))
    rw [if_neg h64]
    have h64 : cntOf s ≤ 64 := by omega
    obtain ⟨n, hn⟩ : ∃ n, cntOf s = n := ⟨_, rfl⟩
    have hp0 : parseR l = if l.length < longN n then (zR, 0, 5) else if formOk l n then (recOf l, longN n, 0) else (zR, 0, 6) := by
      unfold parseR
      rw [if_neg hl0, hsd, hn, if_neg (by rw [← hn]; exact fun h => h.elim (fun h => h hb) (fun h => by omega))]
    have hrec : recOf l = ⟨seqOf s, rootOf s, putsOf l n⟩ := by unfold recOf; rw [hsd, hn]
    rw [hn] at h64 ⊢
    repeat first
    | ((with_reducible refine isB_cf ?_ ?_); (· omega))
    | with_reducible refine vb_i (lss64 _ _ _) ?_
    obtain ⟨C5, hc, k⟩ := length_spec (B := C4) (n : Int)
    refine cb_i _ _ hc ?_
    have hs := hs.quiet k
    rw [length_long h64]
    have hln : longN n ≤ 67 + 64 := by unfold longN; omega
    refine vb_ld hs.g2 rfl ?_
    refine vb_i (lenSl_view (hs.rv hv)) ?_
    by_cases hlong : l.length < longN n
    · repeat first
      | ((with_reducible refine isB_ct ?_ ?_); (· omega))
      | with_reducible refine vb_i (lss64 _ _ _) ?_
      | ((with_reducible apply vb_bld); (· first | rfl | (simp only [evF, evS]; rfl)))
      | ((with_reducible first | apply s_storeA hs | apply s_storeA hs.f1 | apply s_storeA hs.f2); (· rfl); (· first | rfl | assumption); (· first | rfl | assumption); (· first | rfl | assumption); intro _ hs)
      exact bad 0 5 hs (by rw [hp0, if_pos hlong])
    rw [if_neg hlong] at hp0
    have hbod : (longN n : Int) - (n : Int) = ((longN n - n : Nat) : Int) := by unfold longN; omega
    refine vb_i (lss64 _ _ _) ?_
    refine isB_cf (by omega) ?_
    refine vb_i (sub64 (by omega) (by omega)) ?_
    rw [hbod]
    refine s_alloc hs fun bb C6 _ hs => ?_
    refine s_store1 hs rfl rfl (by decide) fun C7 hs => ?_
    simp only [List.set_cons_zero] at hs
    have hs := (s_nils hs.f3.f2 2).f1
    have hroot : (rootOf s).length = 32 := by simp [rootOf, hb.1]
    have hlj : ∀ j, j ≤ n → ((putsOf l n).take j).length = j := fun j hj => by rw [List.length_take, putsOf_len]; omega
    refine LoopP.ruleG (α := Nat) (fun j => [.int .i64 (j : Int)]) (fun j C => (j ≤ n ∧ ∀ i, i < j → (l.getD (1 + i / 32) []).length = 64) ∧ ∃ y, Sep B (fun _ => False) C [.obj v5 (.cells 0 .exact (rcells ⟨seqOf s, rootOf s, (putsOf l n).take j⟩ y)),
      .sl y 2 j (flat ptc ((putsOf l n).take j)), .obj bx (.cells 0 .exact [x]), .obj bb (.cells 0 .exact [.int .i64 (longN n - n : Nat)]), .obj v3 (.cells 0 .exact (rcells zR .nils))]) (fun j => n - j) 0 (by simp)
      ⟨⟨Nat.zero_le _, fun i hi => by omega⟩, .nils, hs⟩ ?_
    clear hs
    rintro j C Kn ⟨⟨hj, hall⟩, y, hs⟩ hk
    unfold record_Parse.L13 record_Parse.L13.b
    try simp only [evB]
    have hln2 : longN n = 1 + (n + 31) / 32 + n := rfl
    by_cases hjn : j < n
    · refine vb_i (lss64 _ _ _) ?_
      refine isB_ct (by omega) ?_
      by_cases h64j : (l.getD (1 + j / 32) []).length = 64
      · obtain ⟨C8, hc, y', hs⟩ := put_good (q := ⟨seqOf s, rootOf s, (putsOf l n).take j⟩) (R := [.obj v3 (.cells 0 .exact (rcells zR .nils))]) (bodies := longN n - n) (i := j) (by simpa only [hlj j hj] using hs) (hs.rv hv) hroot
          (by show ((putsOf l n).take j).length ≤ 64; rw [hlj j hj]; omega) (by omega) (by omega) (by omega) h3 h64j
        refine cb_i _ _ hc ?_
        simp only [hlj j hj, ← putsOf_step hjn] at hs
        refine vb_i (e_not _) ?_
        refine isB_Fa rfl ?_
        repeat first
        | ((with_reducible refine vb_i (add64 ?_ ?_) ?_); (· omega); (· omega))
        exact hk (j + 1) _ ⟨⟨by omega, fun i hi => by
          by_cases e : i = j
          · rw [e]; exact h64j
          · exact hall i (by omega)⟩, y', hs⟩ (by omega)
      · obtain ⟨C8, hc, k⟩ := put_bad (B := C) (i := j) hs.g2 (hs.rv hv) (by omega) (by omega) h64j (.ptr ⟨v5, 0, 0⟩) (.ptr ⟨bb, 0, 0⟩)
        refine cb_i _ _ hc ?_
        have hs := hs.quiet k
        refine vb_i (e_not _) ?_
        refine isB_Tr rfl ?_
        refine s_zst hs.f4 rfl fun C9 hs => ?_
        refine onE_s (by decide) (onE_i ?_)
        try simp only [evB]
        exact bad 0 6 hs (by rw [hp0, if_neg (fun hf => h64j (hf.1 j hjn))])
    obtain rfl : j = n := by omega
    refine vb_i (lss64 _ _ _) ?_
    refine isB_cf (by omega) ?_
    refine onE_i ?_
    try simp only [evB]
    have hta : (putsOf l j).take j = putsOf l j := List.take_of_length_le (by rw [putsOf_len]; omega)
    rw [hta] at hs
    refine vb_recA hs.g0 hroot rfl ?_
    have hat : RecAt C ⟨seqOf s, rootOf s, putsOf l j⟩ y := ⟨hroot, by
      have := hs.o1.view
      show View C y 2 (putsOf l j).length _
      rw [putsOf_len]; exact this⟩
    have hok : formOk l j ↔ goodR ⟨seqOf s, rootOf s, putsOf l j⟩ = true ∧ layR ⟨seqOf s, rootOf s, putsOf l j⟩ = l.take (longN j) := by
      unfold formOk; rw [hrec]; exact ⟨fun h => h.2, fun h => ⟨hall, h⟩⟩
    have close : ∀ {D : AHeap} {e : AExit} {vs : List AVal}, ((e = .ret ∧ vs = [.int .i64 0, .int .i64 6] ∧ ¬ formOk l j ∧ ∃ R, Sep B (fun _ => False) D (.obj v3 (.cells 0 .exact (rcells zR .nils)) :: R)) ∨
        (e = .normal ∧ formOk l j ∧ Sep B (fun _ => False) D [.obj v5 (.cells 0 .exact (rcells ⟨seqOf s, rootOf s, putsOf l j⟩ y)), .sl y 2 j (flat ptc (putsOf l j)), .obj bx (.cells 0 .exact [x]), .obj bb (.cells 0 .exact [.int .i64 (longN j - j : Nat)]), .obj v3 (.cells 0 .exact (rcells zR .nils))])) →
        onE e .normal (vb (aLoad D true 34 (.ptr ⟨v5, 0, 0⟩)) fun v70 => sb (aStore D 34 (.ptr ⟨v3, 0, 0⟩) v70) fun H71 => fin .ret [.c true 34 (.ptr ⟨v3, 0, 0⟩), .v (.int .i64 (longN j : Nat)), .v (.int .i64 0)] H71 fun r H' => B <+: H' ∧ ∃ y, r = .tup [recV (parseR l).1 y, .int .i64 (parseR l).2.1, .int .i64 (parseR l).2.2] ∧ B <+: H' ∧ NewAt B H' (parseR l).1 y)
          (onE e .ret (fin .ret [.c true 34 (.ptr ⟨v3, 0, 0⟩), .v (vs.getD 0 .undef), .v (vs.getD 1 .undef)] D fun r H' => B <+: H' ∧ ∃ y, r = .tup [recV (parseR l).1 y, .int .i64 (parseR l).2.1, .int .i64 (parseR l).2.2] ∧ B <+: H' ∧ NewAt B H' (parseR l).1 y) False) := by
      rintro D e vs (⟨rfl, rfl, hf, R, hs⟩ | ⟨rfl, hf, hs⟩)
      · refine onE_s (by decide) (onE_i ?_)
        exact bad 0 6 hs (by rw [hp0, if_neg hf])
      · refine onE_i ?_
        have hv2 := hs.o1.view
        refine vb_recA hs.g0 hroot rfl ?_
        refine s_storeA hs.f4 rfl (rcells_len hroot) (rcells_len rfl) (rcells_all (by
          obtain ⟨_, ⟨rfl, _⟩ | ⟨i, v, off, c, kd, cs', rfl, _⟩⟩ := hv2 <;> rfl)) fun D2 hs => ?_
        refine parse_end hs.g0 hroot ?_
        rw [hp0, if_pos hf, hrec]
        exact ⟨hs.pre fun _ x => x, y, rfl, hs.pre fun _ x => x, newAt_sl (q := ⟨seqOf s, rootOf s, putsOf l j⟩) hs.f2 hroot (putsOf_len l j)⟩
    by_cases hg : goodR ⟨seqOf s, rootOf s, putsOf l j⟩ = true
    · obtain ⟨r', C8, hc, hlay⟩ := lay_good hat (by show (putsOf l j).length ≤ 64; rw [putsOf_len]; exact h64) hg
      refine cb_i _ _ hc ?_
      have hs := hs.quiet (hlay.pre fun _ x => x)
      refine vb_i e_ext0 ?_
      refine vb_i e_ext1 ?_
      refine JoinP.mk _ ?_ fun e vs D h => close h
      refine vb_i (neq64 _ _ _) ?_
      refine isB_cf (by decide) ?_
      refine vb_ld hs.g2 rfl ?_
      obtain ⟨x', e1, hvx, _⟩ := slice_view (l := none) (h := some (.int .i64 (longN j : Nat))) (lo := 0) (hi := longN j) (hs.rv hv) rfl (by rw [bnd_int (by omega), Int.toNat_natCast]) (Nat.zero_le _) (by omega)
      refine vb_i e1 ?_
      have hvx : View C8 x' 1 (l.take (longN j)).length (strs (l.take (longN j))) := by
        have e2 : (l.take (longN j)).length = longN j - 0 := by rw [List.length_take]; omega
        rw [e2]
        have e3 : ((strs l).drop (0 * 1)).take ((longN j - 0) * 1) = strs (l.take (longN j)) := by simp [strs, List.map_take]
        rw [e3] at hvx
        exact hvx
      obtain ⟨C9, hc, k⟩ := equal_strs hlay.o0.view hvx (by
        have : (layR ⟨seqOf s, rootOf s, putsOf l j⟩).length ≤ 4096 := by simp [layR, headsR, rowsN, atsN, putsOf_len]; omega
        omega)
      refine cb_i _ _ hc ?_
      have hs := hs.quiet k
      refine vb_i e_notd ?_
      refine isB_c (fun h1 => ?_) (fun h1 => ?_)
      · refine s_zst hs.f4 rfl fun C10 hs => ?_
        exact .inl ⟨rfl, rfl, fun hf => h1 (hok.1 hf).2, _, hs⟩
      · exact .inr ⟨rfl, hok.2 ⟨hg, Decidable.not_not.1 h1⟩, hs⟩
    · have he : checkE ⟨seqOf s, rootOf s, putsOf l j⟩ = 2 := by
        unfold checkE; rw [if_neg (by show ¬ 64 < (putsOf l j).length; rw [putsOf_len]; omega), if_neg hg]
      obtain ⟨C8, hc, k⟩ := lay_bad hat (by show (putsOf l j).length ≤ _; rw [putsOf_len]; omega) (by rw [he]; decide)
      refine cb_i _ _ hc ?_
      have hs := hs.quiet k
      rw [he]
      refine vb_i e_ext0 ?_
      refine vb_i e_ext1 ?_
      refine JoinP.mk _ ?_ fun e vs D h => close h
      refine vb_i (neq64 _ _ _) ?_
      refine isB_ct (by decide) ?_
      refine s_zst hs.f4 rfl fun C9 hs => ?_
      exact .inl ⟨rfl, rfl, fun hf => hg (hok.1 hf).1, _, hs⟩)
  exact ⟨y, C, h, k⟩
end
end Go.Sh

/- What Go functions come to over abstract values, printed by a program (wx.py); of each function its own text is what is told of it. -/
namespace Go.Sh
open Go Go.Abs

end Go.Sh

/- What must come at any rate; any record's blocks. -/
namespace Go.Sh
open Go Go.Abs

def q0 : Rcd := ⟨7, zs 32, [⟨161, full [97] 64⟩, ⟨200, full [98] 64⟩]⟩
section
variable {B : AHeap}
end
end Go.Sh

/- What is parsed is laid as it was. -/
namespace Go.Sh
open Go Go.Abs

theorem parse_cases (l : List (List UInt8)) : (∃ q n, parseR l = (q, n, 0) ∧ goodR q = true ∧ q.puts.length ≤ 64 ∧ n ≤ l.length ∧ layR q = l.take n) ∨ (∃ e, parseR l = (zR, 0, e) ∧ e ≠ 0) := by
  unfold parseR
  split
  · exact .inr ⟨5, rfl, by decide⟩
  split
  · exact .inr ⟨6, rfl, by decide⟩
  rename_i h1
  split
  · exact .inr ⟨5, rfl, by decide⟩
  split
  · rename_i h2 h3
    refine .inl ⟨_, _, rfl, h3.2.1, ?_, by omega, h3.2.2⟩
    show (putsOf l _).length ≤ 64
    rw [putsOf_len]
    by_cases h : 64 < cntOf (l.getD 0 [])
    · exact absurd (Or.inr h) h1
    · omega
  · exact .inr ⟨6, rfl, by decide⟩
section
variable {B : AHeap}
theorem view_cell {B : AHeap} {x : AVal} {es n : Nat} {cs : List AVal} (h : View B x es n cs) : x.isCell = true := by
  obtain ⟨_, ⟨rfl, _⟩ | ⟨i, v, off, c, kd, cs', rfl, _⟩⟩ := h <;> rfl
end
end Go.Sh

/- What the document reads. -/
namespace Go.Sh
open Go Go.Abs

section
variable {B C : AHeap}
end
end Go.Sh

/- All records of a list of blocks. -/
namespace Go.Sh
open Go Go.Abs

def RC : Type := { p : Rcd × AVal // p.1.root.length = 32 }
def rc (b : RC) : List AVal := rcells b.1.1 b.1.2
theorem rc_len (b : RC) : (rc b).length = 34 := rcells_len b.2
def Part.recs (rows : List RC) : Part where
  ids := rows.flatMap fun r => (slId r.1.2).toList
  ok B := ∀ r ∈ rows, View B r.1.2 2 r.1.1.puts.length (flat ptc r.1.1.puts)
  loc B C h k r hr := View.loc (fun i hi => h i (List.mem_flatMap.2 ⟨r, hr, hi⟩)) (k r hr)
  live B h i hi := by
    obtain ⟨r, hr, hi⟩ := List.mem_flatMap.1 hi
    exact View.lt (h r hr) (by simpa using hi)
def allFrom : Nat → List Rcd → List (List UInt8) → List Rcd × Int
  | 0, acc, _ => (acc, 0)
  | f + 1, acc, l => if l.length = 0 then (acc, 0) else if (parseR l).2.2 ≠ 0 then ([], (parseR l).2.2) else allFrom f (acc ++ [(parseR l).1]) (l.drop (parseR l).2.1)
def allR (l : List (List UInt8)) : List Rcd × Int := allFrom (l.length + 1) [] l
theorem parse_step (l : List (List UInt8)) (h : (parseR l).2.2 = 0) : 1 ≤ (parseR l).2.1 ∧ (parseR l).2.1 ≤ l.length := by
  unfold parseR at *
  split at h
  · exact absurd h (by decide)
  rename_i h0
  rw [if_neg h0]
  split at h
  · exact absurd h (by decide)
  rename_i h1
  rw [if_neg h1]
  split at h
  · exact absurd h (by decide)
  rename_i h2
  rw [if_neg h2]
  split at h
  · rename_i h3
    rw [if_pos h3]
    refine ⟨?_, by show longN _ ≤ _; omega⟩
    show 1 ≤ longN _
    unfold longN; omega
  · exact absurd h (by decide)
theorem aSlice_det {B C : AHeap} {es : Nat} {x a b : AVal} {l h m : Option AVal} (h1 : aSlice B es x l h m = some a) (h2 : aSlice C es x l h m = some b) : a = b := by
  cases x with
  | nils =>
    simp only [aSlice] at h1 h2
    rw [h1] at h2
    exact Option.some.inj h2
  | slice r n c =>
    cases c with
    | ex c =>
      simp only [aSlice] at h1 h2
      cases hl : bnd 0 l <;> cases hh : bnd n h <;> cases hm : bnd c m <;> simp only [hl, hh, hm] at h1 h2 <;> try (cases h1; done)
      rename_i p q t
      by_cases c1 : r.ver = verOf B r.id ∧ p ≤ q ∧ q ≤ t ∧ t ≤ c
      · by_cases c2 : r.ver = verOf C r.id ∧ p ≤ q ∧ q ≤ t ∧ t ≤ c
        · rw [if_pos c1] at h1
          rw [if_pos c2] at h2
          rw [h1] at h2
          exact Option.some.inj h2
        · rw [if_neg c2] at h2; cases h2
      · rw [if_neg c1] at h1; cases h1
    | op e =>
      cases m with
      | none =>
        simp only [aSlice] at h1 h2
        cases hl : bnd 0 l <;> cases hh : bnd n h <;> simp only [hl, hh] at h1 h2 <;> try (cases h1; done)
        rename_i p q
        have key : ∀ (D : AHeap) (z : AVal), (if r.ver = verOf D r.id ∧ e = es ∧ p ≤ q ∧ q ≤ n then some (AVal.slice { r with off := r.off + p * es } (q - p) (.op es))
            else if overOk D r e es p q = true then some (.slice { r with off := r.off + p * es } (q - p) (.op es)) else none) = some z → z = .slice { r with off := r.off + p * es } (q - p) (.op es) := by
          intro D z hz
          split at hz
          · exact (Option.some.inj hz).symm
          · split at hz
            · exact (Option.some.inj hz).symm
            · cases hz
        exact (key _ _ h1).trans (key _ _ h2).symm
      | some m =>
        simp only [aSlice] at h1 h2
        cases hl : bnd 0 l <;> cases hh : bnd n h <;> cases hm : bnd n (some m) <;> simp only [hl, hh, hm] at h1 h2 <;> try (cases h1; done)
        rename_i p q t
        by_cases c1 : r.ver = verOf B r.id ∧ p ≤ q ∧ q ≤ t ∧ t ≤ n ∧ 0 < n
        · by_cases c2 : r.ver = verOf C r.id ∧ p ≤ q ∧ q ≤ t ∧ t ≤ n ∧ 0 < n
          · rw [if_pos c1] at h1
            rw [if_pos c2] at h2
            rw [h1] at h2
            exact Option.some.inj h2
          · rw [if_neg c2] at h2; cases h2
        · rw [if_neg c1] at h1; cases h1
  | _ => simp only [aSlice] at h1; cases h1
theorem fill_row {z xs : List AVal} {n : Nat} (h : xs.length = n) (hz : z.length = n) : fillA (fun i => some (i * n, n)) (fillCells 1 z) [(0, .agg xs)] = some xs := by
  have hf : fillCells 1 z = z := by simp [fillCells]
  have hd : (AVal.agg xs).defd = true := rfl
  have hc : (AVal.agg xs).cells = xs := rfl
  simp only [fillA, hf, hd, hc]
  rw [if_pos ⟨trivial, h, by omega⟩, Nat.zero_mul, splice_whole (by omega)]
section
variable {B : AHeap}
theorem all_spec {x : AVal} {l : List (List UInt8)} (hv : View B x 1 l.length (strs l)) (h3 : l.length ≤ 1048576) :
    ∃ (out : AVal) (rows : List RC) (C : AHeap), S_record_All [x] B (.tup [out, .int .i64 (allR l).2]) C ∧ rows.map (fun r => r.1.1) = (allR l).1 ∧ Sep B (fun _ => False) C [.sl out 34 rows.length (flat rc rows), Part.recs rows] := by
  obtain ⟨r, C, h, out, rows, rfl, hm, k⟩ := record_All.out (x0 := x) (H := B) (Q := fun r C => ∃ (out : AVal) (rows : List RC), r = .tup [out, .int .i64 (allR l).2] ∧ rows.map (fun r => r.1.1) = (allR l).1 ∧ Sep B (fun _ => False) C [.sl out 34 rows.length (flat rc rows), Part.recs rows]) (by
    unfold record_All.w
    have hs : Sep B (fun _ => False) B [] := Sep.start B
    have none_ : ∀ {C : AHeap} {R : List Part}, Sep B (fun _ => False) C R → Sep B (fun _ => False) C [.sl .nils 34 0 (flat rc []), Part.recs []] := fun {C R} h =>
      (s_nils ((s_nils (Sep.drop (R1 := []) (R := R) h) 34).as (b := Part.recs []) rfl fun _ r hr => by cases hr) 34)
    refine LoopP.ruleG (α := AVal × AVal × Nat × List RC) (fun a => [a.1, a.2.1]) (fun a C => a.2.2.1 ≤ l.length ∧ a.2.2.2.length ≤ a.2.2.1 ∧ View B a.1 1 (l.drop a.2.2.1).length (strs (l.drop a.2.2.1)) ∧
      (∃ f, (l.drop a.2.2.1).length < f ∧ allR l = allFrom f (a.2.2.2.map fun r => r.1.1) (l.drop a.2.2.1)) ∧
      Sep B (fun _ => False) C [.sl a.2.1 34 a.2.2.2.length (flat rc a.2.2.2), Part.recs a.2.2.2]) (fun a => l.length - a.2.2.1) (x, .nils, 0, []) (by simp)
      ⟨Nat.zero_le _, Nat.le_refl _, hv, ⟨l.length + 1, by simp, rfl⟩, none_ hs⟩ ?_
    clear hs
    rintro ⟨a, out, k, rows⟩ C Kn ⟨hk0, hrk, ha, ⟨f, hf, hall⟩, hs⟩ hk
    simp only at hk0 hrk ha hf hall hs
    unfold record_All.L2 record_All.L2.b
    try simp only [evB]
    refine vb_i (lenSl_view (hs.rv ha)) ?_
    refine vb_i (gtr64 _ _ _) ?_
    have hdl : (l.drop k).length = l.length - k := List.length_drop
    obtain ⟨f, rfl⟩ : ∃ f', f = f' + 1 := ⟨f - 1, by omega⟩
    by_cases h0 : (l.drop k).length = 0
    · refine isB_cf (by omega) ?_
      refine onE_i ?_
      try simp only [evB]
      have he : allR l = (rows.map fun r => r.1.1, 0) := by rw [hall, allFrom, if_pos h0]
      rw [he]
      exact fin_ret (rvs_v (rvs_v (rvs_nil _))) ⟨hs.pre fun _ x => x, out, rows, rfl, rfl, hs⟩
    refine isB_ct (by omega) ?_
    obtain ⟨y, C2, hc, kp, hnew⟩ := parse_spec (hs.rv ha) (by omega)
    refine cb_i _ _ hc ?_
    have hs := hs.call01 (hnew.2.own_of fun _ h => h.elim)
    refine vb_i e_ext0 ?_
    refine vb_i e_ext1 ?_
    refine vb_i e_ext2 ?_
    refine s_alloc hs fun t C3 _ hs => ?_
    refine s_storeA hs rfl (rcells_len hnew.1) rfl (rcells_all (view_cell hnew.2.head)) fun C4 hs => ?_
    refine vb_i (neq64 _ _ _) ?_
    by_cases he : (parseR (l.drop k)).2.2 ≠ 0
    · refine isB_ct he ?_
      refine onE_s (by decide) (onE_i ?_)
      try simp only [evB]
      have ha2 : allR l = ([], (parseR (l.drop k)).2.2) := by rw [hall, allFrom, if_neg h0, if_pos he]
      rw [ha2]
      exact fin_ret (rvs_v (rvs_v (rvs_nil _))) ⟨hs.pre fun _ x => x, .nils, [], rfl, rfl, none_ hs⟩
    have he0 := Decidable.not_not.1 he
    refine isB_cf (fun h => h he0) ?_
    obtain ⟨hn1, hn2⟩ := parse_step (l.drop k) he0
    refine vb_recA hs.g0 hnew.1 rfl ?_
    have hcell := view_cell hnew.2.head
    obtain ⟨row, hrow⟩ : ∃ row : RC, row = ⟨((parseR (l.drop k)).1, y), hnew.1⟩ := ⟨_, rfl⟩
    refine s_push (es := 34) (m := 1) (xs := rc row) hs.f2 (by rw [hrow]; exact fill_row (rcells_len hnew.1) rfl) (by decide) (rc_len row) (by rw [hrow]; exact rcells_all hcell) (by unfold room; omega) (by unfold room; omega) fun out' C6 hs => ?_
    obtain ⟨a', e1, hva, _⟩ := slice_view (l := some (.int .i64 ((parseR (l.drop k)).2.1 : Nat))) (h := none) (lo := (parseR (l.drop k)).2.1) (hi := (l.drop k).length) ha (by rw [bnd_int (by omega), Int.toNat_natCast]) rfl hn2 (Nat.le_refl _)
    obtain ⟨a2, e2, _, _⟩ := slice_view (l := some (.int .i64 ((parseR (l.drop k)).2.1 : Nat))) (h := none) (lo := (parseR (l.drop k)).2.1) (hi := (l.drop k).length) (hs.rv ha) (by rw [bnd_int (by omega), Int.toNat_natCast]) rfl hn2 (Nat.le_refl _)
    obtain rfl := aSlice_det e1 e2
    refine vb_i e2 ?_
    have hd2 : (l.drop k).drop (parseR (l.drop k)).2.1 = l.drop (k + (parseR (l.drop k)).2.1) := List.drop_drop ..
    have hva : View B a' 1 (l.drop (k + (parseR (l.drop k)).2.1)).length (strs (l.drop (k + (parseR (l.drop k)).2.1))) := by
      rw [← hd2]
      have e3 : ((strs (l.drop k)).drop ((parseR (l.drop k)).2.1 * 1)).take (((l.drop k).length - (parseR (l.drop k)).2.1) * 1) = strs ((l.drop k).drop (parseR (l.drop k)).2.1) := by
        rw [Nat.mul_one, Nat.mul_one, List.take_of_length_le (by simp [strs]; omega)]
        simp [strs, List.map_drop]
      rw [e3] at hva
      rw [List.length_drop]
      exact hva
    refine hk (a', out', k + (parseR (l.drop k)).2.1, rows ++ [row]) _ ⟨by show k + _ ≤ _; omega, by show (rows ++ [row]).length ≤ k + (parseR (l.drop k)).2.1; rw [List.length_append, List.length_singleton]; omega, hva, ⟨f, ?_, ?_⟩, ?_⟩ (by show l.length - (k + _) < l.length - k; omega)
    · show (l.drop (k + _)).length < f
      rw [List.length_drop]; omega
    · rw [hall, allFrom, if_neg h0, if_neg he, hd2]
      show allFrom f _ _ = allFrom f ((rows ++ [row]).map fun r => r.1.1) _
      rw [List.map_append, hrow]; rfl
    · have hs := hs.f1.tail.f1.f2.join
      have hs := (hs.as (b := Part.recs (rows ++ [row])) (by rw [hrow]; show (rows ++ [_]).flatMap _ = _; rw [List.flatMap_append]; simp [Part.and, Part.recs, Part.vw]; exact List.append_nil _) (fun h r hr => by
        rcases List.mem_append.1 hr with hr | hr
        · exact h.1 r hr
        · have e : r = row := by simpa using hr
          rw [e, hrow]; exact h.2.1)).f1
      show Sep B (fun _ => False) _ [.sl out' 34 (rows ++ [row]).length (flat rc (rows ++ [row])), Part.recs (rows ++ [row])]
      rw [List.length_append, flat_app, flat_one]
      exact hs)
  exact ⟨out, rows, C, h, hm, k⟩
end
end Go.Sh

/- What Go functions come to over abstract values, printed by a program (wx.py); of each function its own text is what is told of it. -/
namespace Go.Sh
open Go Go.Abs

end Go.Sh

/- What any list of blocks begins with; and all of it. -/
namespace Go.Sh
open Go Go.Abs

section
variable {B : AHeap}
end
end Go.Sh

/- There and back. -/
namespace Go.Sh
open Go Go.Abs

theorem foldB (s : List UInt8) : ∀ a, s.foldl (fun n b => n * 256 + b.toNat) a = a * 2 ^ (8 * s.length) + numB s := by
  induction s with
  | nil => intro a; simp [numB]
  | cons b s ih =>
    intro a
    have h0 : numB (b :: s) = s.foldl (fun n b => n * 256 + b.toNat) (0 * 256 + b.toNat) := rfl
    rw [List.foldl_cons, ih, h0, ih, List.length_cons, Nat.mul_add, Nat.pow_add, Nat.add_mul, Nat.zero_mul, Nat.zero_add]
    have : a * 256 * 2 ^ (8 * s.length) = a * (2 ^ (8 * s.length) * 2 ^ (8 * 1)) := by
      rw [Nat.mul_assoc, Nat.mul_comm 256]
    omega
theorem numB_beB (n : Nat) : ∀ w, numB (beB w n) = n % 2 ^ (8 * w)
  | 0 => by simp [beB, numB, Nat.mod_one]
  | w + 1 => by
    rw [beB_step w n []]
    have h0 : numB (UInt8.ofNat (n / 2 ^ (8 * w)) :: beB w n) = (beB w n).foldl (fun n b => n * 256 + b.toNat) (0 * 256 + (UInt8.ofNat (n / 2 ^ (8 * w))).toNat) := rfl
    rw [h0, foldB, beB_len, numB_beB n w, Nat.zero_mul, Nat.zero_add, Nat.mul_add, Nat.pow_add, Nat.mod_mul]
    simp only [UInt8.toNat_ofNat']
    rw [Nat.mul_comm, Nat.add_comm]
theorem numB_back {w n : Nat} (h : n < 2 ^ (8 * w)) : numB (beB w n) = n := by rw [numB_beB, Nat.mod_eq_of_lt h]
/-- The head of a record's blocks. -/
theorem head_back {q : Rcd} (hr : q.root.length = 32) (hs : q.seq.toNat < 2 ^ 32) (hn : q.puts.length < 2 ^ 16) :
    headOk (full (hdR q) 64) ∧ seqOf (full (hdR q) 64) = q.seq.toNat ∧ cntOf (full (hdR q) 64) = q.puts.length ∧ rootOf (full (hdR q) 64) = q.root := by
  rw [full_hd hr]
  have h4 := beB_len 4 q.seq.toNat
  have h2 := beB_len 2 q.puts.length
  have b4 := numB_back (w := 4) (n := q.seq.toNat) hs
  have b2 := numB_back (w := 2) (n := q.puts.length) hn
  unfold hdR headOk seqOf cntOf rootOf
  generalize beB 4 q.seq.toNat = a at *
  generalize beB 2 q.puts.length = c at *
  obtain ⟨a0, a1, a2, a3, rfl⟩ : ∃ a0 a1 a2 a3, a = [a0, a1, a2, a3] := by
    match a, h4 with
    | [a0, a1, a2, a3], _ => exact ⟨a0, a1, a2, a3, rfl⟩
  obtain ⟨c0, c1, rfl⟩ : ∃ c0 c1, c = [c0, c1] := by
    match c, h2 with
    | [c0, c1], _ => exact ⟨c0, c1, rfl⟩
  refine ⟨⟨by simp [hr, zs], by simp, by simp [hr]⟩, by simpa using b4, by simpa using b2, by simp [hr]⟩
theorem row_back {c : List Nat} (hlt : ∀ x ∈ c, x < 2 ^ 16) {r : Nat} {x : Nat} (hx : c[r]? = some x) : numB (((rowB c).take (2 * r + 2)).drop (2 * r)) = x := by
  have hr : r < c.length := (List.getElem?_eq_some_iff.1 hx).1
  have hfl := flat_beB 2 c
  obtain ⟨z, hz⟩ : ∃ z, rowB c = (c.map (beB 2)).flatten ++ z := by
    unfold rowB full
    split
    · exact ⟨[], by simp⟩
    · exact ⟨_, rfl⟩
  rw [hz, List.drop_take, List.drop_append_of_le_length (by rw [hfl]; omega), List.take_append_of_le_length (by rw [List.length_drop, hfl]; omega)]
  have h := flat_drop (f := beB 2) (es := 2) (o := 0) (n := 2) (beB_len 2) hx (by omega)
  rw [show 2 * r + 2 - 2 * r = 2 by omega, show 2 * r = r * 2 + 0 by omega, h, List.drop_zero, List.take_of_length_le (by rw [beB_len]; exact Nat.le_refl _)]
  exact numB_back (hlt x (List.mem_of_getElem? hx))
theorem lay_row {q : Rcd} {rest : List (List UInt8)} {k : Nat} (hk : 32 * k < q.puts.length) : (layR q ++ rest).getD (1 + k) [] = rowB (((atsN q).drop (32 * k)).take 32) := by
  have hal : (atsN q).length = q.puts.length := by simp [atsN]
  have h : (layR q ++ rest)[1 + k]? = some (rowB (((atsN q).drop (32 * k)).take 32)) := by
    rw [Nat.add_comm]
    simp only [layR, List.cons_append, List.getElem?_cons_succ, List.append_assoc]
    rw [List.getElem?_append_left (by simp [headsR, rowsN, hal]; omega)]
    simp only [headsR, rowsN, List.getElem?_map]
    rw [List.getElem?_range (by rw [hal]; omega)]
    rfl
  rw [List.getD_eq_getElem?_getD, h]; rfl
theorem lay_text {q : Rcd} {rest : List (List UInt8)} {i : Nat} {p : Pt} (hp : q.puts[i]? = some p) : (layR q ++ rest).getD (longN q.puts.length - q.puts.length + i) [] = p.b := by
  have hal : (atsN q).length = q.puts.length := by simp [atsN]
  have hi := (List.getElem?_eq_some_iff.1 hp).1
  have hh : (headsR (atsN q)).length = (q.puts.length + 31) / 32 := by simp [headsR, rowsN, hal]
  have h : (layR q ++ rest)[longN q.puts.length - q.puts.length + i]? = some p.b := by
    rw [show longN q.puts.length - q.puts.length + i = ((q.puts.length + 31) / 32 + i) + 1 by unfold longN; omega]
    simp only [layR, List.cons_append, List.getElem?_cons_succ, List.append_assoc]
    rw [List.getElem?_append_right (by omega), hh, Nat.add_sub_cancel_left, List.getElem?_append_left (by simp; exact hi), List.getElem?_map, hp]
    rfl
  rw [List.getD_eq_getElem?_getD, h]; rfl
theorem rowB_len {c : List Nat} (h : c.length ≤ 32) : (rowB c).length = 64 := by
  have hfl := flat_beB 2 c
  unfold rowB full
  split
  · omega
  · simp [zs, hfl]; omega
theorem lay_len {q : Rcd} : (layR q).length = longN q.puts.length := by
  simp [layR, headsR, rowsN, atsN, longN]; omega
theorem back {q : Rcd} {rest : List (List UInt8)} (hr : q.root.length = 32) (hg : goodR q = true) (h64 : q.puts.length ≤ 64) : parseR (layR q ++ rest) = (q, (layR q).length, 0) := by
  obtain ⟨hsq, hpt⟩ := good_inv hg
  unfold okSeq at hsq
  obtain ⟨b1, b2, b3, b4⟩ := head_back hr (by omega) (by omega)
  have h0 : (layR q ++ rest).getD 0 [] = full (hdR q) 64 := rfl
  have hal : (atsN q).length = q.puts.length := by simp [atsN]
  have hlen : (layR q ++ rest).length = longN q.puts.length + rest.length := by rw [List.length_append, lay_len]
  have hlong : longN q.puts.length = 1 + (q.puts.length + 31) / 32 + q.puts.length := rfl
  have hrow : ∀ i, i < q.puts.length → (layR q ++ rest).getD (1 + i / 32) [] = rowB (((atsN q).drop (32 * (i / 32))).take 32) := fun i hi => lay_row (by omega)
  have hputs : putsOf (layR q ++ rest) q.puts.length = q.puts := by
    apply List.ext_getElem?
    intro i
    by_cases hi : i < q.puts.length
    · have hp := List.getElem?_eq_getElem hi
      have hm := hpt _ (List.getElem_mem hi)
      generalize q.puts[i] = p at hp hm
      have hc : (((atsN q).drop (32 * (i / 32))).take 32)[i % 32]? = some p.pos.toNat := by
        rw [List.getElem?_take_of_lt (by omega), List.getElem?_drop, show 32 * (i / 32) + i % 32 = i by omega]
        simp [atsN, hp]
      have hpos : posOf ((layR q ++ rest).getD (1 + i / 32) []) i = p.pos.toNat := by
        rw [hrow i hi]
        refine row_back (fun x hx => ?_) hc
        have hx := List.mem_of_mem_drop (List.mem_of_mem_take hx)
        simp only [atsN, List.mem_map] at hx
        obtain ⟨p', hp', rfl⟩ := hx
        have := hpt p' hp'
        omega
      rw [hp]
      unfold putsOf
      rw [List.getElem?_map, List.getElem?_range hi, Option.map_some, hpos, lay_text hp]
      rw [show ((p.pos.toNat : Nat) : Int) = p.pos by omega]
    · rw [List.getElem?_eq_none (by rw [putsOf_len]; omega), List.getElem?_eq_none (by omega)]
  have hrec : recOf (layR q ++ rest) = q := by
    unfold recOf
    rw [h0, b2, b3, b4, hputs, show ((q.seq.toNat : Nat) : Int) = q.seq by omega]
  have hform : formOk (layR q ++ rest) q.puts.length := by
    refine ⟨fun i hi => ?_, by rw [hrec]; exact hg, ?_⟩
    · rw [hrow i hi]; exact rowB_len (by rw [List.length_take]; omega)
    · rw [hrec, ← lay_len, List.take_left' rfl]
  unfold parseR
  rw [if_neg (by omega), h0, if_neg (by rw [b3]; exact fun h => h.elim (fun h => h b1) (fun h => by omega)), b3, if_neg (by omega), if_pos hform, hrec, lay_len]
end Go.Sh

/- What was laid is parsed as it was. -/
namespace Go.Sh
open Go Go.Abs

section
variable {B : AHeap}
theorem check_zero {q : Rcd} (he : checkE q = 0) : q.puts.length ≤ 64 ∧ goodR q = true := by
  have h64 : q.puts.length ≤ 64 := by
    unfold checkE at he; split at he
    · exact absurd he (by decide)
    · omega
  refine ⟨h64, ?_⟩
  unfold checkE at he; rw [if_neg (by omega)] at he; split at he
  · assumption
  · exact absurd he (by decide)
end
end Go.Sh
