/- A text of this proof. -/
import Derived.Test.YtkpcnmaohhgofaaRecB

/- Records that came in: empty Puts may have no block. -/
namespace Go.Sh
open Go Go.Abs

/-- A slice that is read; an empty one may have no block. -/
def Vw (B : AHeap) (sv : AVal) (es n : Nat) (cs : List AVal) : Prop := View B sv es n cs ∨ (n = 0 ∧ cs = [] ∧ ∃ i, sv = .slice ⟨i, 0, 0⟩ 0 (.ex 0))
theorem vb_lenW {B : AHeap} {sv : AVal} {es n : Nat} {cs : List AVal} {K : AVal → Prop} (h : Vw B sv es n cs) (k : K (.int .i64 n)) : vb (lenSl sv) K := by
  rcases h with h | ⟨rfl, rfl, i, rfl⟩
  · exact vb_len h k
  · exact vb_i (v := .int .i64 (0 : Nat)) rfl k
theorem Vw.at {B : AHeap} {sv : AVal} {es n : Nat} {cs : List AVal} (h : Vw B sv es n cs) {k : Nat} (hk : k < n) : View B sv es n cs := by
  rcases h with h | ⟨rfl, _⟩
  · exact h
  · omega
theorem view_pre {B C : AHeap} {sv : AVal} {es n : Nat} {cs : List AVal} (h : View B sv es n cs) (p : B <+: C) : View C sv es n cs := ((Sep.start B).quiet p).view h (fun _ _ h => h)
theorem Vw.pre {B C : AHeap} {sv : AVal} {es n : Nat} {cs : List AVal} (h : Vw B sv es n cs) (p : B <+: C) : Vw C sv es n cs := h.imp (fun h => view_pre h p) id
/-- A record that is read, whose Puts may have no block. -/
def RecW (B : AHeap) (q : Rcd) (x : AVal) : Prop := q.root.length = 32 ∧ Vw B x 2 q.puts.length (flat ptc q.puts)
theorem RecW.pre {B C : AHeap} {q : Rcd} {x : AVal} (h : RecW B q x) (p : B <+: C) : RecW C q x := ⟨h.1, h.2.pre p⟩
section
variable {B : AHeap}
theorem check_specW {x : AVal} {q : Rcd} (hq : q.root.length = 32 ∧ Vw B x 2 q.puts.length (flat ptc q.puts)) (hl : q.puts.length ≤ 9223372036854775807) : ∃ C, S_record_Check [recV q x] B (.int .i64 (checkE q)) C ∧ B <+: C := by
  obtain ⟨hr, hv0⟩ := hq
  obtain ⟨r, C, h, rfl, k⟩ := record_Check.out (x0 := recV q x) (H := B) (Q := fun r C => r = .int .i64 (checkE q) ∧ B <+: C) (by
    unfold record_Check.w
    have hs : Sep B (fun _ => False) B [] := Sep.start B
    refine s_box hs rfl fun i C1 _ hs => ?_
    simp only [recV, AVal.cells] at hs
    have hw := hv0.pre (hs.pre fun _ x => x)
    repeat first
    | ((with_reducible apply vb_rec33); (· exact hs.g0); (· assumption))
    | ((with_reducible apply vb_lenW); (· exact hw))
    | with_reducible refine vb_i (gtr64 _ _ _) ?_
    | with_reducible refine vb_i (e_fieldAddr _ _) ?_
    by_cases h64 : 64 < q.puts.length
    · repeat first
      | ((with_reducible refine isB_ct ?_ ?_); (· omega))
      refine fin_ret (rvs_v (rvs_nil _)) ⟨hs.pre fun _ x => x, ?_, hs.pre fun _ x => x⟩
      unfold checkE; rw [if_pos h64]; rfl
    repeat first
    | ((with_reducible refine isB_cf ?_ ?_); (· omega))
    refine JoinP.mk (fun e vs C => C1 = C ∧ ((e = .ret ∧ vs = [.int .i64 2] ∧ ¬ okSeq q) ∨ (e = .normal ∧ vs = [.int .i64 0] ∧ okSeq q))) ?_ ?_
    · repeat first
      | ((with_reducible apply vb_rec0); (· exact hs.g0))
      | with_reducible refine vb_i (lss64 _ _ _) ?_
      | with_reducible refine vb_i (e_fieldAddr _ _) ?_
      refine isB_c (fun h1 => ?_) (fun h1 => ?_)
      · exact ⟨rfl, .inl ⟨rfl, rfl, fun h => by unfold okSeq at h; omega⟩⟩
      · repeat first
        | ((with_reducible apply vb_rec0); (· exact hs.g0))
        | with_reducible refine vb_i (gtr64 _ _ _) ?_
        | with_reducible refine vb_i (e_fieldAddr _ _) ?_
        refine isB_c (fun h2 => ?_) (fun h2 => ?_)
        · exact ⟨rfl, .inl ⟨rfl, rfl, fun h => by unfold okSeq at h; omega⟩⟩
        · exact ⟨rfl, .inr ⟨rfl, rfl, by unfold okSeq; omega⟩⟩
    rintro e vs C ⟨rfl, ⟨rfl, rfl, h1⟩ | ⟨rfl, rfl, h1⟩⟩
    · repeat first
      | with_reducible refine onE_i ?_
      | ((with_reducible refine onE_s ?_ ?_); (· decide))
      try simp only [evB]
      refine fin_ret (rvs_v (rvs_nil _)) ⟨hs.pre fun _ x => x, ?_, hs.pre fun _ x => x⟩
      unfold checkE goodR; rw [if_neg h64, decide_eq_false h1]; rfl
    repeat first
    | ((with_reducible apply vb_rec33); (· exact hs.g0); (· assumption))
    | ((with_reducible apply vb_lenW); (· exact hw))
    | with_reducible refine onE_i ?_
    | with_reducible refine vb_i (e_fieldAddr _ _) ?_
    refine LoopP.ruleG (α := Int × Nat) (fun a => [.int .i64 a.1, .int .i64 (a.2 : Int)]) (fun a C => a.2 ≤ q.puts.length ∧ okF 160 q.puts = okF a.1 (q.puts.drop a.2) ∧ Sep B (fun _ => False) C []) (fun a => q.puts.length - a.2) (160, 0) (by simp)
      ⟨by omega, by simp, hs.tail⟩ ?_
    clear hs
    rintro ⟨last, j⟩ C Kn ⟨hj, hok, hs⟩ hk
    unfold record_Check.L7 record_Check.L7.b
    try simp only [evB]
    by_cases hjn : j < q.puts.length
    · have hv := hv0.at hjn
      have hb := List.getElem?_eq_getElem hjn
      rw [List.drop_eq_getElem_cons hjn] at hok
      generalize q.puts[j] = p at hb hok
      repeat first
      | ((with_reducible refine isB_ct ?_ ?_); (· omega))
      | with_reducible refine vb_i (lss64 _ _ _) ?_
      | ((with_reducible apply vb_addrN); (· first | exact hs.o0.view | exact hs.o1.view | exact hs.o2.view | exact hs.o3.view | exact hs.o4.view | exact hs.o5.view | exact hs.o6.view | exact hs.rv hv | exact hs.rv hv2 | exact hs.rv hv3 | exact hs.rv hv4 | exact hs.view hkv hko | assumption); (· omega))
      refine vb_i (el_ldN ptc_len (hs.rv hv) hb) ?_
      refine s_alloc hs fun t C2 _ hs => ?_
      refine s_storeA hs rfl rfl rfl rfl fun C3 hs => ?_
      refine JoinP.mk (fun e vs D => C3 = D ∧ ((e = .ret ∧ vs = [.int .i64 2] ∧ ¬ okP last p) ∨ (e = .normal ∧ okP last p))) ?_ ?_
      · repeat first
        | with_reducible refine vb_i (leq64 _ _ _) ?_
        | with_reducible refine vb_i (e_fieldAddr _ _) ?_
        | ((with_reducible apply vb_ld); (· first | exact hs.g0 | exact hs.g1 | exact hs.g2 | exact hs.g3 | exact hs.g4 | exact hs.g5 | exact hs.g6 | exact hs.rd hg | exact hs.rd hg2 | exact hs.rd hg3 | exact hs.rd hg4 | assumption); (· rfl))
        refine isB_c (fun h1 => ?_) (fun h1 => ?_)
        · exact ⟨rfl, .inl ⟨rfl, rfl, fun h => by unfold okP at h; omega⟩⟩
        repeat first
        | with_reducible refine vb_i (geq64 _ _ _) ?_
        | with_reducible refine vb_i (e_fieldAddr _ _) ?_
        | ((with_reducible apply vb_ld); (· first | exact hs.g0 | exact hs.g1 | exact hs.g2 | exact hs.g3 | exact hs.g4 | exact hs.g5 | exact hs.g6 | exact hs.rd hg | exact hs.rd hg2 | exact hs.rd hg3 | exact hs.rd hg4 | assumption); (· rfl))
        refine isB_c (fun h2 => ?_) (fun h2 => ?_)
        · exact ⟨rfl, .inl ⟨rfl, rfl, fun h => by unfold okP at h; omega⟩⟩
        repeat first
        | with_reducible refine vb_i (neq64 _ _ _) ?_
        | with_reducible refine vb_i (e_lenSt _) ?_
        | with_reducible refine vb_i (e_fieldAddr _ _) ?_
        | ((with_reducible apply vb_ld); (· first | exact hs.g0 | exact hs.g1 | exact hs.g2 | exact hs.g3 | exact hs.g4 | exact hs.g5 | exact hs.g6 | exact hs.rd hg | exact hs.rd hg2 | exact hs.rd hg3 | exact hs.rd hg4 | assumption); (· rfl))
        refine isB_c (fun h3 => ?_) (fun h3 => ?_)
        · exact ⟨rfl, .inl ⟨rfl, rfl, fun h => by unfold okP at h; omega⟩⟩
        · exact ⟨rfl, .inr ⟨rfl, by unfold okP; omega⟩⟩
      rintro e vs D ⟨rfl, ⟨rfl, rfl, h2⟩ | ⟨rfl, h2⟩⟩
      · repeat first
        | with_reducible refine onE_i ?_
        | ((with_reducible refine onE_s ?_ ?_); (· decide))
        try simp only [evB]
        skip
        refine fin_ret (rvs_v (rvs_nil _)) ⟨hs.pre fun _ x => x, ?_, hs.pre fun _ x => x⟩
        unfold checkE goodR; rw [if_neg h64, hok, okF, decide_eq_false h2]; simp [tup1]
      · repeat first
        | with_reducible refine onE_i ?_
        | ((with_reducible refine vb_i (add64 ?_ ?_) ?_); (· omega); (· omega))
        | with_reducible refine vb_i (e_fieldAddr _ _) ?_
        | ((with_reducible apply vb_ld); (· first | exact hs.g0 | exact hs.g1 | exact hs.g2 | exact hs.g3 | exact hs.g4 | exact hs.g5 | exact hs.g6 | exact hs.rd hg | exact hs.rd hg2 | exact hs.rd hg3 | exact hs.rd hg4 | assumption); (· rfl))
        refine hk (p.pos, j + 1) _ ⟨by show j + 1 ≤ _; omega, ?_, hs.tail⟩ (by show q.puts.length - (j + 1) < q.puts.length - j; omega)
        rw [hok, okF, decide_eq_true h2]; rfl
    · obtain rfl : j = q.puts.length := by omega
      repeat first
      | ((with_reducible refine isB_cf ?_ ?_); (· omega))
      | with_reducible refine onE_i ?_
      | with_reducible refine vb_i (lss64 _ _ _) ?_
      try simp only [evB]
      skip
      refine fin_ret (rvs_v (rvs_nil _)) ⟨hs.pre fun _ x => x, ?_, hs.pre fun _ x => x⟩
      unfold checkE goodR; rw [if_neg h64, hok, List.drop_length, okF, decide_eq_true h1]; rfl)
  exact ⟨C, h, k⟩
theorem right_specW {x : AVal} {q : Rcd} (hq : q.root.length = 32 ∧ Vw B x 2 q.puts.length (flat ptc q.puts)) (hl : q.puts.length ≤ 9223372036854775807) : ∃ C, S_cellaretref13_Right [recV q x] B (.bool (goodR q)) C ∧ B <+: C := by
  obtain ⟨hr, hv0⟩ := hq
  obtain ⟨r, C, h, rfl, k⟩ := cellaretref13_Right.out (x0 := recV q x) (H := B) (Q := fun r C => r = .bool (goodR q) ∧ B <+: C) (by
    unfold cellaretref13_Right.w
    have hs : Sep B (fun _ => False) B [] := Sep.start B
    refine s_box hs rfl fun i C1 _ hs => ?_
    simp only [recV, AVal.cells] at hs
    refine JoinP.mk (fun e vs C => C1 = C ∧ ((e = .ret ∧ vs = [.bool false] ∧ ¬ okSeq q) ∨ (e = .normal ∧ okSeq q))) ?_ ?_
    · repeat first
      | ((with_reducible apply vb_rec0); (· exact hs.g0))
      | with_reducible refine vb_i (lss64 _ _ _) ?_
      | with_reducible refine vb_i (e_fieldAddr _ _) ?_
      refine isB_c (fun h1 => ?_) (fun h1 => ?_)
      · exact ⟨rfl, .inl ⟨rfl, rfl, fun h => by unfold okSeq at h; omega⟩⟩
      · repeat first
        | ((with_reducible apply vb_rec0); (· exact hs.g0))
        | with_reducible refine vb_i (gtr64 _ _ _) ?_
        | with_reducible refine vb_i (e_fieldAddr _ _) ?_
        refine isB_c (fun h2 => ?_) (fun h2 => ?_)
        · exact ⟨rfl, .inl ⟨rfl, rfl, fun h => by unfold okSeq at h; omega⟩⟩
        · exact ⟨rfl, .inr ⟨rfl, by unfold okSeq; omega⟩⟩
    rintro e vs C ⟨rfl, ⟨rfl, rfl, h1⟩ | ⟨rfl, h1⟩⟩
    · repeat first
      | with_reducible refine onE_i ?_
      | ((with_reducible refine onE_s ?_ ?_); (· decide))
      try simp only [evB]
      refine fin_ret (rvs_v (rvs_nil _)) ⟨hs.pre fun _ x => x, ?_, hs.pre fun _ x => x⟩
      unfold goodR; rw [decide_eq_false h1]; rfl
    repeat first
    | with_reducible refine onE_i ?_
    refine LoopP.ruleG (α := Nat × Int) (fun a => [.int .i64 (a.1 : Int)])
      (fun a C => a.1 ≤ q.puts.length ∧ okF 160 q.puts = okF a.2 (q.puts.drop a.1) ∧ ((a.1 = 0 ∧ a.2 = 160) ∨ (0 < a.1 ∧ 160 < a.2 ∧ ∃ p, q.puts[a.1 - 1]? = some p ∧ p.pos = a.2)) ∧ Sep B (fun _ => False) C [.obj i (.cells 0 .exact (rcells q x))]) (fun a => q.puts.length - a.1) (0, 160) (by simp)
      ⟨Nat.zero_le _, by simp, .inl ⟨rfl, rfl⟩, hs⟩ ?_
    clear hs
    rintro ⟨j, last⟩ C Kn ⟨hj, hok, hlast, hs⟩ hk
    simp only at hj hok hlast
    unfold cellaretref13_Right.L4 cellaretref13_Right.L4.b
    try simp only [evB]
    have hw := hv0.pre (hs.pre fun _ x => x)
    repeat first
    | ((with_reducible apply vb_rec33); (· exact hs.g0); (· assumption))
    | ((with_reducible apply vb_lenW); (· exact hw))
    | with_reducible refine vb_i (lss64 _ _ _) ?_
    | with_reducible refine vb_i (e_fieldAddr _ _) ?_
    by_cases hjn : j < q.puts.length
    · have hv := hv0.at hjn
      have hv' := hs.rv hv
      have hb := List.getElem?_eq_getElem hjn
      rw [List.drop_eq_getElem_cons hjn] at hok
      generalize q.puts[j] = p at hb hok
      have stop : ¬ okP last p → goodR q = false := fun h => by unfold goodR; rw [hok, okF, decide_eq_false h]; simp
      repeat first
      | ((with_reducible apply vb_rec33); (· exact hs.g0); (· assumption))
      | ((with_reducible refine isB_ct ?_ ?_); (· omega))
      | with_reducible refine vb_i (e_fieldAddr _ _) ?_
      | ((with_reducible apply vb_addrN); (· first | exact hs.o0.view | exact hs.o1.view | exact hs.o2.view | exact hs.o3.view | exact hs.o4.view | exact hs.o5.view | exact hs.o6.view | exact hs.rv hv | exact hs.rv hv2 | exact hs.rv hv3 | exact hs.rv hv4 | exact hs.view hkv hko | assumption); (· omega))
      refine vb_i (el_ldN ptc_len hv' hb) ?_
      refine s_alloc hs fun t C2 _ hs => ?_
      refine s_storeA hs rfl rfl rfl rfl fun C3 hs => ?_
      repeat first
      | with_reducible refine vb_i (lss64 _ _ _) ?_
      | with_reducible refine vb_i (e_fieldAddr _ _) ?_
      | ((with_reducible apply vb_ld); (· first | exact hs.g0 | exact hs.g1 | exact hs.g2 | exact hs.g3 | exact hs.g4 | exact hs.g5 | exact hs.g6 | exact hs.rd hg | exact hs.rd hg2 | exact hs.rd hg3 | exact hs.rd hg4 | assumption); (· rfl))
      refine isB_c (fun h1 => ?_) (fun h1 => ?_)
      · repeat first
        | with_reducible refine onE_i ?_
        | ((with_reducible refine onE_s ?_ ?_); (· decide))
        try simp only [evB]
        refine fin_ret (rvs_v (rvs_nil _)) ⟨hs.pre fun _ x => x, ?_, hs.pre fun _ x => x⟩
        rw [stop (by unfold okP; omega)]; rfl
      repeat first
      | with_reducible refine vb_i (gtr64 _ _ _) ?_
      | with_reducible refine vb_i (e_fieldAddr _ _) ?_
      | ((with_reducible apply vb_ld); (· first | exact hs.g0 | exact hs.g1 | exact hs.g2 | exact hs.g3 | exact hs.g4 | exact hs.g5 | exact hs.g6 | exact hs.rd hg | exact hs.rd hg2 | exact hs.rd hg3 | exact hs.rd hg4 | assumption); (· rfl))
      refine isB_c (fun h2 => ?_) (fun h2 => ?_)
      · repeat first
        | with_reducible refine onE_i ?_
        | ((with_reducible refine onE_s ?_ ?_); (· decide))
        try simp only [evB]
        refine fin_ret (rvs_v (rvs_nil _)) ⟨hs.pre fun _ x => x, ?_, hs.pre fun _ x => x⟩
        rw [stop (by unfold okP; omega)]; rfl
      repeat first
      | with_reducible refine vb_i (neq64 _ _ _) ?_
      | with_reducible refine vb_i (e_lenSt _) ?_
      | with_reducible refine vb_i (e_fieldAddr _ _) ?_
      | ((with_reducible apply vb_ld); (· first | exact hs.g0 | exact hs.g1 | exact hs.g2 | exact hs.g3 | exact hs.g4 | exact hs.g5 | exact hs.g6 | exact hs.rd hg | exact hs.rd hg2 | exact hs.rd hg3 | exact hs.rd hg4 | assumption); (· rfl))
      refine isB_c (fun h3 => ?_) (fun h3 => ?_)
      · repeat first
        | with_reducible refine onE_i ?_
        | ((with_reducible refine onE_s ?_ ?_); (· decide))
        try simp only [evB]
        refine fin_ret (rvs_v (rvs_nil _)) ⟨hs.pre fun _ x => x, ?_, hs.pre fun _ x => x⟩
        rw [stop (by unfold okP; omega)]; rfl
      repeat first
      | with_reducible refine vb_i (gtr64 _ _ _) ?_
      have next : okP last p → okF 160 q.puts = okF p.pos (q.puts.drop (j + 1)) := fun h => by rw [hok, okF, decide_eq_true h]; rfl
      rcases hlast with ⟨rfl, rfl⟩ | ⟨hj0, h160, p', hp', rfl⟩
      · repeat first
        | ((with_reducible refine isB_cf ?_ ?_); (· omega))
        | ((with_reducible refine vb_i (add64 ?_ ?_) ?_); (· omega); (· omega))
        refine hk (1, p.pos) _ ⟨by show 1 ≤ _; omega, next (by unfold okP; omega), .inr ⟨by show 0 < 1; omega, by show 160 < p.pos; omega, p, hb, rfl⟩, hs.tail⟩ (by show _ - 1 < _ - 0; omega)
      · have hv' := hs.rv hv
        repeat first
        | ((with_reducible apply vb_rec33); (· exact hs.g1); (· assumption))
        | ((with_reducible refine isB_ct ?_ ?_); (· omega))
        | ((with_reducible refine vb_i (sub64 ?_ ?_) ?_); (· omega); (· omega))
        | with_reducible refine vb_i (e_fieldAddr _ _) ?_
        | ((with_reducible apply vb_ld); (· first | exact hs.g0 | exact hs.g1 | exact hs.g2 | exact hs.g3 | exact hs.g4 | exact hs.g5 | exact hs.g6 | exact hs.rd hg | exact hs.rd hg2 | exact hs.rd hg3 | exact hs.rd hg4 | assumption); (· rfl))
        | ((with_reducible apply vb_addr); (· first | exact hs.o0.view | exact hs.o1.view | exact hs.o2.view | exact hs.o3.view | exact hs.o4.view | exact hs.o5.view | exact hs.o6.view | exact hs.rv hv | exact hs.rv hv2 | exact hs.rv hv3 | exact hs.rv hv4 | exact hs.view hkv hko | assumption); (· omega); (· omega))
        have hj1 : ((j : Int) - 1).toNat = j - 1 := by omega
        rw [hj1]
        refine vb_i (el_ld1 ptc_len (hs.rv hv) hp' rfl) ?_
        repeat first
        | with_reducible refine vb_i (leq64 _ _ _) ?_
        refine isB_c (fun h4 => ?_) (fun h4 => ?_)
        · repeat first
          | with_reducible refine onE_i ?_
          | ((with_reducible refine onE_s ?_ ?_); (· decide))
          try simp only [evB]
          refine fin_ret (rvs_v (rvs_nil _)) ⟨hs.pre fun _ x => x, ?_, hs.pre fun _ x => x⟩
          rw [stop (by unfold okP; omega)]; rfl
        · repeat first
          | ((with_reducible refine vb_i (add64 ?_ ?_) ?_); (· omega); (· omega))
          refine hk (j + 1, p.pos) _ ⟨by show j + 1 ≤ _; omega, next (by unfold okP; omega), .inr ⟨by show 0 < j + 1; omega, by show 160 < p.pos; omega, p, hb, rfl⟩, hs.tail⟩ (by show _ - (j + 1) < _ - j; omega)
    · obtain rfl : j = q.puts.length := by omega
      repeat first
      | ((with_reducible refine isB_cf ?_ ?_); (· omega))
      | with_reducible refine onE_i ?_
      try simp only [evB]
      refine fin_ret (rvs_v (rvs_nil _)) ⟨hs.pre fun _ x => x, ?_, hs.pre fun _ x => x⟩
      unfold goodR; rw [hok, List.drop_length, okF, decide_eq_true h1]; rfl)
  exact ⟨C, h, k⟩
theorem lay_badW {x : AVal} {q : Rcd} (hq : RecW B q x) (hl : q.puts.length ≤ 9223372036854775807) (he : checkE q ≠ 0) : ∃ C, S_record_Lay [recV q x] B (.tup [.nils, .int .i64 (checkE q)]) C ∧ B <+: C := by
  obtain ⟨r, C, h, rfl, k⟩ := record_Lay.out (x0 := recV q x) (H := B) (Q := fun r C => r = .tup [.nils, .int .i64 (checkE q)] ∧ B <+: C) (by
    unfold record_Lay.w
    have hs : Sep B (fun _ => False) B [] := Sep.start B
    refine s_box hs rfl fun i C1 _ hs => ?_
    simp only [recV, AVal.cells] at hs
    repeat first
    | ((with_reducible apply vb_recA); (· exact hs.g0); (· exact hq.1); (· rfl))
    obtain ⟨C, hc, k⟩ := check_specW (B := C1) ⟨hq.1, hq.2.pre (hs.pre fun _ x => x)⟩ hl
    refine cb_i _ _ hc ?_
    have hs := hs.quiet k
    repeat first
    | ((with_reducible refine isB_ct ?_ ?_); (· omega))
    | with_reducible refine vb_i (neq64 _ _ _) ?_
    exact fin_ret (rvs_v (rvs_v (rvs_nil _))) ⟨hs.pre fun _ x => x, rfl, hs.pre fun _ x => x⟩)
  exact ⟨C, h, k⟩
theorem lay_goodW {x : AVal} {q : Rcd} (hq : RecW B q x) (h64 : q.puts.length ≤ 64) (hg : goodR q = true) :
    ∃ r C, S_record_Lay [recV q x] B (.tup [r, .int .i64 0]) C ∧ Sep B (fun _ => False) C [.sl r 1 (layR q).length (strs (layR q))] := by
  obtain ⟨hr, hv0⟩ := hq
  obtain ⟨hsq, hpt⟩ := good_inv hg
  have he : checkE q = 0 := by unfold checkE; rw [if_neg (by omega), if_pos hg]
  obtain ⟨r, C, h, r', rfl, k⟩ := record_Lay.out (x0 := recV q x) (H := B) (Q := fun r C => ∃ r', r = .tup [r', .int .i64 0] ∧ Sep B (fun _ => False) C [.sl r' 1 (layR q).length (strs (layR q))]) (by
    unfold record_Lay.w
    have hs : Sep B (fun _ => False) B [] := Sep.start B
    refine s_box hs rfl fun i C1 _ hs => ?_
    simp only [recV, AVal.cells] at hs
    repeat first
    | ((with_reducible apply vb_recA); (· exact hs.g0); (· exact hr); (· rfl))
    obtain ⟨C, hc, k⟩ := check_specW (B := C1) ⟨hr, hv0.pre (hs.pre fun _ x => x)⟩ (by omega)
    refine cb_i _ _ hc ?_
    have hs := hs.quiet k
    rw [he]
    repeat first
    | ((with_reducible apply vb_rec0); (· exact hs.g0))
    | ((with_reducible refine isB_cf ?_ ?_); (· omega))
    | with_reducible refine vb_i (neq64 _ _ _) ?_
    | with_reducible refine vb_i (e_fieldAddr _ _) ?_
    unfold okSeq at hsq
    rw [show q.seq = ((q.seq.toNat : Nat) : Int) by omega]
    obtain ⟨C3, hc, k⟩ := be_Put_spec (B := C) (w := 4) (n := q.seq.toNat) (by decide) (by decide) (by omega)
    refine cb_i _ _ hc ?_
    have hs := hs.quiet k
    repeat first
    | ((with_reducible apply vb_rec33); (· exact hs.g0); (· assumption))
    | ((with_reducible apply vb_lenW); (· exact hv0.pre (hs.pre fun _ x => x)))
    | with_reducible refine vb_i e_ext0 ?_
    | with_reducible refine vb_i e_ext1 ?_
    | with_reducible refine vb_i (e_fieldAddr _ _) ?_
    obtain ⟨C4, hc, k⟩ := be_Put_spec (B := C3) (w := 2) (n := q.puts.length) (by decide) (by decide) (by omega)
    refine cb_i _ _ hc ?_
    have hs := hs.quiet k
    repeat first
    | with_reducible refine vb_i e_ext0 ?_
    | with_reducible refine vb_i e_ext1 ?_
    | with_reducible refine vb_i (e_fieldAddr _ _) ?_
    refine vb_i e_sliceArr32 ?_
    refine vb_i (bytes_str (rec_root hs.g0 hr)) ?_
    refine s_row (es := 1) (n := 4) (z := [.str []]) hs rfl fun t C5 _ hs => ?_
    obtain ⟨C6, hc, k⟩ := block_spec (xs := [[114, 99], beB 4 q.seq.toNat, beB 2 q.puts.length, q.root]) (view_row hs.g0 rfl) (by simp) (by simp [beB_len, hr])
    refine cb_i _ _ hc ?_
    have hs := (hs.quiet k).tail
    rw [show full [[114, 99], beB 4 q.seq.toNat, beB 2 q.puts.length, q.root].flatten 64 = full (hdR q) 64 by simp [hdR]]
    refine s_row (es := 1) (n := 1) (z := [.str []]) hs rfl fun o C7 _ hs => ?_
    have hs := (s_own (n := 1) (es := 1) hs rfl).f1
    repeat first
    | ((with_reducible apply vb_rec33); (· exact hs.g0); (· assumption))
    | ((with_reducible apply vb_lenW); (· exact hv0.pre (hs.pre fun _ x => x)))
    | with_reducible refine vb_i (e_fieldAddr _ _) ?_
    have hs := s_nils hs 1
    refine LoopP.ruleG (α := AVal × Nat) (fun a => [a.1, .int .i64 (a.2 : Int)])
      (fun a C => a.2 ≤ q.puts.length ∧ Sep B (fun _ => False) C [.sl a.1 1 a.2 (nums ((atsN q).take a.2)), .obj i (.cells 0 .exact (rcells q x)), .sl (.slice ⟨o, 0, 0⟩ 1 (.ex 1)) 1 1 (strs [full (hdR q) 64])]) (fun a => q.puts.length - a.2) (.nils, 0) (by simp)
      ⟨by omega, hs⟩ ?_
    clear hs
    rintro ⟨sv, j⟩ C Kn ⟨hj, hs⟩ hk
    unfold record_Lay.L9 record_Lay.L9.b
    try simp only [evB]
    by_cases hjn : j < q.puts.length
    · have hb := List.getElem?_eq_getElem hjn
      have hv := hv0.at hjn
      have hv' := hs.rv hv
      have hm := hpt _ (List.getElem_mem hjn)
      have ht : (atsN q).take (j + 1) = (atsN q).take j ++ [q.puts[j].pos.toNat] := by
        rw [List.take_succ_eq_append_getElem (by simpa [atsN] using hjn)]; simp [atsN]
      generalize q.puts[j] = p at hb hm ht
      repeat first
      | ((with_reducible refine isB_ct ?_ ?_); (· omega))
      | with_reducible refine vb_i (lss64 _ _ _) ?_
      | ((with_reducible apply vb_addrN); (· first | exact hs.o0.view | exact hs.o1.view | exact hs.o2.view | exact hs.o3.view | exact hs.o4.view | exact hs.o5.view | exact hs.o6.view | exact hs.rv hv | exact hs.rv hv2 | exact hs.rv hv3 | exact hs.rv hv4 | exact hs.view hkv hko | assumption); (· omega))
      refine vb_i (el_ldN ptc_len (hs.rv hv) hb) ?_
      refine s_alloc hs fun t C2 _ hs => ?_
      refine s_storeA hs rfl rfl rfl rfl fun C3 hs => ?_
      repeat first
      | with_reducible refine vb_i (e_fieldAddr _ _) ?_
      | ((with_reducible apply vb_ld); (· first | exact hs.g0 | exact hs.g1 | exact hs.g2 | exact hs.g3 | exact hs.g4 | exact hs.g5 | exact hs.g6 | exact hs.rd hg | exact hs.rd hg2 | exact hs.rd hg3 | exact hs.rd hg4 | assumption); (· rfl))
      rw [show p.pos = ((p.pos.toNat : Nat) : Int) by omega]
      refine s_push (es := 1) (m := 1) (xs := nums [p.pos.toNat]) hs.tail rfl (by decide) rfl rfl (by unfold room; omega) (by unfold room; omega) fun s' _ hs => ?_
      repeat first
      | ((with_reducible refine vb_i (add64 ?_ ?_) ?_); (· omega); (· omega))
      refine hk (s', j + 1) _ ⟨by show j + 1 ≤ _; omega, ?_⟩ (by show q.puts.length - (j + 1) < q.puts.length - j; omega)
      rw [ht]
      simpa [nums] using hs
    obtain rfl : j = q.puts.length := by omega
    repeat first
    | ((with_reducible refine isB_cf ?_ ?_); (· omega))
    | with_reducible refine onE_i ?_
    | with_reducible refine vb_i (lss64 _ _ _) ?_
    try simp only [evB]
    rw [List.take_of_length_le (by simp [atsN])] at hs
    have hal : (atsN q).length = q.puts.length := by simp [atsN]
    have hs := hs.as (b := Part.vw sv 1 (atsN q).length (nums (atsN q))) rfl fun h => by rw [hal]; exact h.view
    refine LoopP.ruleG (α := AVal × AVal × Nat) (fun a => [a.1, a.2.1])
      (fun a C => a.2.2 ≤ (q.puts.length + 31) / 32 ∧ Sep B (fun _ => False) C [Part.vw a.2.1 1 ((atsN q).drop (32 * a.2.2)).length (nums ((atsN q).drop (32 * a.2.2))), .obj i (.cells 0 .exact (rcells q x)),
        .sl a.1 1 (1 + a.2.2) (strs (full (hdR q) 64 :: (((List.range a.2.2).map fun k => ((atsN q).drop (32 * k)).take 32).map rowB)))]) (fun a => (q.puts.length + 31) / 32 - a.2.2) (.slice ⟨o, 0, 0⟩ 1 (.ex 1), sv, 0) (by simp)
      ⟨Nat.zero_le _, by simpa using hs⟩ ?_
    clear hs
    rintro ⟨out, a, j⟩ C Kn ⟨hj, hs⟩ hk
    unfold record_Lay.L13 record_Lay.L13.b
    try simp only [evB]
    simp only at hj hs
    have hva := hs.head
    refine vb_i (lenSl_view hva) ?_
    have hdl : ((atsN q).drop (32 * j)).length = q.puts.length - 32 * j := by rw [List.length_drop, hal]
    by_cases hjn : 32 * j < q.puts.length
    · repeat first
      | ((with_reducible refine isB_ct ?_ ?_); (· omega))
      | with_reducible refine vb_i (gtr64 _ _ _) ?_
      | ((with_reducible apply vb_len); (· first | exact hs.o0.view | exact hs.o1.view | exact hs.o2.view | exact hs.o3.view | exact hs.o4.view | exact hs.o5.view | exact hs.o6.view | exact hs.rv hv | exact hs.rv hv2 | exact hs.rv hv3 | exact hs.rv hv4 | exact hs.view hkv hko | assumption))
      refine vb_i (e_min64 _ _) ?_
      obtain ⟨m, hm, hm2⟩ : ∃ m : Nat, (if (32 : Int) < ((((atsN q).drop (32 * j)).length : Nat) : Int) then (32 : Int) else ((((atsN q).drop (32 * j)).length : Nat) : Int)) = (m : Int) ∧ m = min (q.puts.length - 32 * j) 32 := by
        refine ⟨min (q.puts.length - 32 * j) 32, ?_, rfl⟩
        rw [hdl]; split <;> omega
      rw [hm]
      have hbn : ∀ d, bnd d (some (.int .i64 (m : Int))) = some m := fun d => by rw [bnd_int (by omega), Int.toNat_natCast]
      obtain ⟨a1, e1, hv1, hid1, _⟩ := slice_full (h := some (.int .i64 (m : Int))) (m := some (.int .i64 (m : Int))) (hi := m) hva hbn hbn rfl (by rw [hdl]; omega) (.inl (by rw [hdl]; omega))
      refine vb_i e1 ?_
      have hrow : ((atsN q).drop (32 * j)).take m = ((atsN q).drop (32 * j)).take 32 := by
        by_cases h : 32 ≤ q.puts.length - 32 * j
        · rw [hm2, Nat.min_eq_right h]
        · rw [List.take_of_length_le (by rw [hdl]; omega), List.take_of_length_le (by rw [hdl]; omega)]
      have hr1 : (nums ((atsN q).drop (32 * j))).take (m * 1) = nums (((atsN q).drop (32 * j)).take 32) := by
        rw [Nat.mul_one, ← hrow]; simp [nums, List.map_take]
      have hrl : (((atsN q).drop (32 * j)).take 32).length = m := by rw [← hrow, List.length_take, hdl]; omega
      rw [hr1, ← hrl] at hv1
      obtain ⟨C2, hc, k⟩ := be_Row_spec hv1 (by omega) (w := 2) (by decide) (by decide) (fun n hn => by
        have hn := List.mem_of_mem_drop (List.mem_of_mem_take hn)
        simp only [atsN, List.mem_map] at hn
        obtain ⟨p, hp, rfl⟩ := hn
        have := hpt p hp
        omega)
      refine cb_i _ _ hc ?_
      have hs := hs.quiet k
      repeat first
      | with_reducible refine vb_i e_ext0 ?_
      | with_reducible refine vb_i e_ext1 ?_
      refine s_row (es := 1) (n := 1) (z := [.str []]) hs rfl fun t C5 _ hs => ?_
      obtain ⟨C6, hc, k⟩ := block_spec (xs := [((((atsN q).drop (32 * j)).take 32).map (beB 2)).flatten]) (view_row hs.g0 rfl) (by simp) (by rw [List.flatten_singleton, flat_beB, hrl]; omega)
      refine cb_i _ _ hc ?_
      have hs := (hs.quiet k).tail
      rw [List.flatten_singleton, show full ((((atsN q).drop (32 * j)).take 32).map (beB 2)).flatten 64 = rowB (((atsN q).drop (32 * j)).take 32) from rfl]
      refine s_push (es := 1) (m := 1) (xs := strs [rowB (((atsN q).drop (32 * j)).take 32)]) hs.f2 rfl (by decide) rfl rfl (by unfold room; omega) (by unfold room; omega) fun out' C7 hs => ?_
      have hva := hs.tail.head
      obtain ⟨a2, e2, hv2, hid2⟩ := slice_view (l := some (.int .i64 (m : Int))) (h := none) (lo := m) (hi := ((atsN q).drop (32 * j)).length) hva (hbn 0) rfl (by rw [hdl]; omega) (Nat.le_refl _)
      refine vb_i e2 ?_
      have hdr : ((atsN q).drop (32 * j)).drop m = (atsN q).drop (32 * (j + 1)) := by
        rw [List.drop_drop]
        by_cases h32 : m = 32
        · rw [h32, Nat.mul_add]
        · rw [List.drop_of_length_le (by omega), List.drop_of_length_le (by omega)]
      have hv2' : View C7 a2 1 ((atsN q).drop (32 * (j + 1))).length (nums ((atsN q).drop (32 * (j + 1)))) := by
        rw [← hdr]
        rw [Nat.mul_one, Nat.mul_one] at hv2
        have e3 : ((nums ((atsN q).drop (32 * j))).drop m).take (((atsN q).drop (32 * j)).length - m) = nums (((atsN q).drop (32 * j)).drop m) := by
          rw [List.take_of_length_le (Nat.le_of_eq (by rw [List.length_drop, nums_len]))]; simp [nums, List.map_drop]
        rw [e3] at hv2
        rw [List.length_drop]; exact hv2
      have hs := hs.f1.as (b := Part.vw a2 1 ((atsN q).drop (32 * (j + 1))).length (nums ((atsN q).drop (32 * (j + 1))))) (by simp only [Part.vw, hid2]) fun _ => hv2'
      refine hk (out', a2, j + 1) _ ⟨by show j + 1 ≤ _; omega, ?_⟩ (by show _ - (j + 1) < _ - j; omega)
      have hs := hs.f2.f1
      rw [show (List.range (j + 1)).map (fun k => ((atsN q).drop (32 * k)).take 32) = (List.range j).map (fun k => ((atsN q).drop (32 * k)).take 32) ++ [((atsN q).drop (32 * j)).take 32] by rw [List.range_succ, List.map_append]; rfl]
      simpa [strs, Nat.add_assoc] using hs
    obtain rfl : j = (q.puts.length + 31) / 32 := by omega
    repeat first
    | ((with_reducible refine isB_cf ?_ ?_); (· omega))
    | with_reducible refine onE_i ?_
    | with_reducible refine vb_i (gtr64 _ _ _) ?_
    | with_reducible refine vb_i (e_fieldAddr _ _) ?_
    try simp only [evB]
    have hs := hs.tail
    rw [show ((List.range ((q.puts.length + 31) / 32)).map fun k => ((atsN q).drop (32 * k)).take 32).map rowB = headsR (atsN q) by unfold headsR rowsN; rw [hal]] at hs
    have hhl : (headsR (atsN q)).length = (q.puts.length + 31) / 32 := by simp [headsR, rowsN, hal]
    repeat first
    | ((with_reducible apply vb_rec33); (· exact hs.g0); (· assumption))
    | ((with_reducible apply vb_lenW); (· exact hv0.pre (hs.pre fun _ x => x)))
    refine LoopP.ruleG (α := AVal × Nat) (fun a => [a.1, .int .i64 (a.2 : Int)])
      (fun a C => a.2 ≤ q.puts.length ∧ Sep B (fun _ => False) C [.sl a.1 1 (1 + (q.puts.length + 31) / 32 + a.2) (strs (full (hdR q) 64 :: headsR (atsN q) ++ (q.puts.take a.2).map Pt.b)), .obj i (.cells 0 .exact (rcells q x))]) (fun a => q.puts.length - a.2) (out, 0) (by simp)
      ⟨Nat.zero_le _, by simpa using hs.f1⟩ ?_
    clear hs
    rintro ⟨sv, j⟩ C Kn ⟨hj, hs⟩ hk
    unfold record_Lay.L19 record_Lay.L19.b
    try simp only [evB]
    by_cases hjn : j < q.puts.length
    · have hb := List.getElem?_eq_getElem hjn
      have hv := hv0.at hjn
      have hv' := hs.rv hv
      have ht : (q.puts.take (j + 1)).map Pt.b = (q.puts.take j).map Pt.b ++ [q.puts[j].b] := by
        rw [List.take_succ_eq_append_getElem hjn, List.map_append]; rfl
      generalize q.puts[j] = p at hb ht
      repeat first
      | ((with_reducible refine isB_ct ?_ ?_); (· omega))
      | with_reducible refine vb_i (lss64 _ _ _) ?_
      | ((with_reducible apply vb_addrN); (· first | exact hs.o0.view | exact hs.o1.view | exact hs.o2.view | exact hs.o3.view | exact hs.o4.view | exact hs.o5.view | exact hs.o6.view | exact hs.rv hv | exact hs.rv hv2 | exact hs.rv hv3 | exact hs.rv hv4 | exact hs.view hkv hko | assumption); (· omega))
      refine vb_i (el_ldN ptc_len (hs.rv hv) hb) ?_
      refine s_alloc hs fun t C2 _ hs => ?_
      refine s_storeA hs rfl rfl rfl rfl fun C3 hs => ?_
      repeat first
      | with_reducible refine vb_i (e_fieldAddr _ _) ?_
      | ((with_reducible apply vb_ld); (· first | exact hs.g0 | exact hs.g1 | exact hs.g2 | exact hs.g3 | exact hs.g4 | exact hs.g5 | exact hs.g6 | exact hs.rd hg | exact hs.rd hg2 | exact hs.rd hg3 | exact hs.rd hg4 | assumption); (· rfl))
      refine s_push (es := 1) (m := 1) (xs := strs [p.b]) hs.tail rfl (by decide) rfl rfl (by unfold room; omega) (by unfold room; omega) fun s' _ hs => ?_
      repeat first
      | ((with_reducible refine vb_i (add64 ?_ ?_) ?_); (· omega); (· omega))
      refine hk (s', j + 1) _ ⟨by show j + 1 ≤ _; omega, ?_⟩ (by show q.puts.length - (j + 1) < q.puts.length - j; omega)
      rw [ht]
      simpa [strs, Nat.add_assoc] using hs
    obtain rfl : j = q.puts.length := by omega
    repeat first
    | ((with_reducible refine isB_cf ?_ ?_); (· omega))
    | with_reducible refine onE_i ?_
    | with_reducible refine vb_i (lss64 _ _ _) ?_
    try simp only [evB]
    rw [List.take_length] at hs
    refine fin_ret (rvs_v (rvs_v (rvs_nil _))) ⟨hs.pre fun _ x => x, sv, rfl, ?_⟩
    have hs := hs.f1.tail
    rw [show (layR q).length = 1 + (q.puts.length + 31) / 32 + q.puts.length by simp [layR, hhl]; omega]
    exact hs)
  exact ⟨r', C, h, k⟩

theorem ref_same_specW {x y : AVal} {p q : Rcd} (hp : RecW B p x) (hq : RecW B q y) (hl : p.puts.length ≤ 9223372036854775807) :
    ∃ C, S_cellaretref13_Same [recV p x, recV q y] B (.bool (decide (p = q))) C ∧ B <+: C := by
  obtain ⟨hpr, hpv⟩ := hp
  obtain ⟨hqr, hqv⟩ := hq
  obtain ⟨r, C, h, rfl, k⟩ := cellaretref13_Same.out (x0 := recV p x) (x1 := recV q y) (H := B) (Q := fun r C => r = .bool (decide (p = q)) ∧ B <+: C) (by
    unfold cellaretref13_Same.w
    have hs : Sep B (fun _ => False) B [] := Sep.start B
    refine s_box hs rfl fun i C1 _ hs => ?_
    refine s_box hs rfl fun j C2 _ hs => ?_
    simp only [recV, AVal.cells] at hs
    refine JoinP.mk (fun e vs C => C2 = C ∧ ((e = .ret ∧ vs = [.bool false] ∧ p ≠ q) ∨ (e = .normal ∧ p.seq = q.seq ∧ p.root = q.root ∧ p.puts.length = q.puts.length))) ?_ ?_
    · repeat first
      | ((with_reducible apply vb_rec0); (· first | exact hs.g0 | exact hs.g1))
      | with_reducible refine vb_i (neq64 _ _ _) ?_
      | with_reducible refine vb_i (e_fieldAddr _ _) ?_
      refine isB_c (fun h1 => ?_) (fun h1 => ?_)
      · exact ⟨rfl, .inl ⟨rfl, rfl, fun e => h1 (by rw [e])⟩⟩
      have h1 := Decidable.not_not.1 h1
      repeat first
      | ((with_reducible apply vb_recR); (· first | exact hs.g0 | exact hs.g1); (· assumption))
      | with_reducible refine vb_i (e_fieldAddr _ _) ?_
      refine vb_i (e_neBytes (by exact hpr) (by exact hqr)) ?_
      refine isB_c (fun h2 => ?_) (fun h2 => ?_)
      · exact ⟨rfl, .inl ⟨rfl, rfl, fun e => h2 (by rw [e])⟩⟩
      have h2 := Decidable.not_not.1 h2
      repeat first
      | ((with_reducible apply vb_rec33); (· first | exact hs.g0 | exact hs.g1); (· assumption))
      | ((with_reducible apply vb_lenW); (· first | exact hpv.pre (hs.pre fun _ x => x) | exact hqv.pre (hs.pre fun _ x => x)))
      | with_reducible refine vb_i (neq64 _ _ _) ?_
      | with_reducible refine vb_i (e_fieldAddr _ _) ?_
      refine isB_c (fun h3 => ?_) (fun h3 => ?_)
      · exact ⟨rfl, .inl ⟨rfl, rfl, fun e => h3 (by rw [e])⟩⟩
      · exact ⟨rfl, .inr ⟨rfl, h1, h2, by omega⟩⟩
    rintro e vs C ⟨rfl, ⟨rfl, rfl, h1⟩ | ⟨rfl, h1, h2, h3⟩⟩
    · repeat first
      | with_reducible refine onE_i ?_
      | ((with_reducible refine onE_s ?_ ?_); (· decide))
      try simp only [evB]
      rw [decide_eq_false h1]
      exact fin_ret (rvs_v (rvs_nil _)) ⟨hs.pre fun _ x => x, rfl, hs.pre fun _ x => x⟩
    repeat first
    | with_reducible refine onE_i ?_
    refine LoopP.ruleG (α := Nat) (fun j => [.int .i64 (j : Int)]) (fun j C => (j ≤ p.puts.length ∧ upSame p.puts q.puts j) ∧ C2 = C) (fun j => p.puts.length - j) 0 (by simp) ⟨⟨Nat.zero_le _, by simp [upSame]⟩, rfl⟩ ?_
    rintro k C Kn ⟨⟨hj, hu⟩, rfl⟩ hk
    unfold cellaretref13_Same.L4 cellaretref13_Same.L4.b
    try simp only [evB]
    repeat first
    | ((with_reducible apply vb_rec33); (· first | exact hs.g0 | exact hs.g1); (· assumption))
    | ((with_reducible apply vb_lenW); (· first | exact hpv.pre (hs.pre fun _ x => x) | exact hqv.pre (hs.pre fun _ x => x)))
    | with_reducible refine vb_i (lss64 _ _ _) ?_
    | with_reducible refine vb_i (e_fieldAddr _ _) ?_
    by_cases hjn : k < p.puts.length
    · have hb := List.getElem?_eq_getElem hjn
      have hv1 := hs.rv (hpv.at hjn)
      have hv2 := hs.rv (hqv.at (k := k) (by omega))
      have hb2 := List.getElem?_eq_getElem (l := q.puts) (i := k) (by omega)
      generalize p.puts[k] = a at hb
      generalize q.puts[k] = b at hb2
      repeat first
      | ((with_reducible apply vb_rec33); (· first | exact hs.g0 | exact hs.g1); (· assumption))
      | ((with_reducible refine isB_ct ?_ ?_); (· omega))
      | with_reducible refine vb_i (e_fieldAddr _ _) ?_
      | ((with_reducible apply vb_addrN); (· first | exact hs.o0.view | exact hs.o1.view | exact hs.o2.view | exact hs.o3.view | exact hs.o4.view | exact hs.o5.view | exact hs.o6.view | exact hs.rv hv | exact hs.rv hv2 | exact hs.rv hv3 | exact hs.rv hv4 | exact hs.view hkv hko | assumption); (· omega))
      refine vb_i (el_ldN ptc_len hv1 hb) ?_
      repeat first
      | ((with_reducible apply vb_rec33); (· first | exact hs.g0 | exact hs.g1); (· assumption))
      | with_reducible refine vb_i (e_fieldAddr _ _) ?_
      | ((with_reducible apply vb_addrN); (· first | exact hs.o0.view | exact hs.o1.view | exact hs.o2.view | exact hs.o3.view | exact hs.o4.view | exact hs.o5.view | exact hs.o6.view | exact hs.rv hv | exact hs.rv hv2 | exact hs.rv hv3 | exact hs.rv hv4 | exact hs.view hkv hko | assumption); (· omega))
      refine vb_i (el_ldN ptc_len hv2 hb2) ?_
      refine vb_i e_nePt ?_
      refine isB_c (fun h4 => ?_) (fun h4 => ?_)
      · repeat first
        | with_reducible refine onE_i ?_
        | ((with_reducible refine onE_s ?_ ?_); (· decide))
        try simp only [evB]
        have : ¬ p = q := fun e => h4 (by rw [e, hb2] at hb; exact (Option.some.inj hb).symm)
        rw [decide_eq_false this]
        exact fin_ret (rvs_v (rvs_nil _)) ⟨hs.pre fun _ x => x, rfl, hs.pre fun _ x => x⟩
      · obtain rfl := Decidable.not_not.1 h4
        repeat first
        | ((with_reducible refine vb_i (add64 ?_ ?_) ?_); (· omega); (· omega))
        exact hk (k + 1) _ ⟨⟨by omega, upSame_step hu hb hb2⟩, rfl⟩ (by omega)
    · obtain rfl : k = p.puts.length := by omega
      repeat first
      | ((with_reducible refine isB_cf ?_ ?_); (· omega))
      | with_reducible refine onE_i ?_
      try simp only [evB]
      rw [decide_eq_true (rec_eq.2 ⟨h1, h2, upSame_end hu h3⟩)]
      exact fin_ret (rvs_v (rvs_nil _)) ⟨hs.pre fun _ x => x, rfl, hs.pre fun _ x => x⟩)
  exact ⟨C, h, k⟩
end
end Go.Sh
