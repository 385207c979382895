/- One text of these: FlatP8, FlatP9, FlatPA, FlatPB, FlatPC, FlatPD, FlatPE, FlatPF, FlatPG, FlatA. -/
import Derived.Test.YtpkhbcjonaeeeaaFlatM
import Derived.Test.YtpkhbcjonaeeeaaAbsE
import Derived.Test.YtpkhbcjonaeeeaaAbsF

/- The document's model. -/
namespace Go.Sh
open Go Go.Abs

/-- Worlds as the document keeps them: each state one text. -/
def flatW (W : List Wd) : Wd := W.map fun c => c.map List.flatten
theorem flatW_len (W : List Wd) : (flatW W).length = W.length := by simp [flatW]
theorem flatW_get {W : List Wd} {k : Nat} {c : Wd} (h : W[k]? = some c) : (flatW W)[k]? = some (c.map List.flatten) := by simp [flatW, h]
/-- States, each of them alone, in these blocks. -/
def stsP (J : List Nat) (F : List (AVal × St)) : Part where
  ids := J
  ok B := (∀ i ∈ J, i < B.length) ∧ ∀ p ∈ F, StAt J B p.1 p.2
  loc B C h k := ⟨fun i hi => by
    have := k.1 i hi
    have e := h i hi
    rw [List.getElem?_eq_getElem this] at e
    exact lt_of_some e, fun p hp => (k.2 p hp).loc h⟩
  live B h i hi := h.1 i hi
section
variable {H0 B C : AHeap} {own : Nat → Prop} {R : List Part} {I J : List Nat} {L : List (AVal × Wd)} {F F' : List (AVal × St)} {W : List Wd} {x n : Nat} {Cv : AVal}
theorem sts_grow (h : Sep H0 own B (stsP J F :: R)) (p : B <+: C) : Sep H0 own C (stsP (J ++ newIds B C) F :: R) := by
  refine h.put p.length_le (fun i hi => ?_) (fun k hk _ => pre_get p hk) ⟨fun i hi => ?_, fun q hq => ?_⟩
  · rcases List.mem_append.1 hi with hi | hi
    · exact .inl hi
    · exact .inr (mem_new.1 hi).1
  · rcases List.mem_append.1 hi with hi | hi
    · exact Nat.lt_of_lt_of_le (h.head.1 i hi) p.length_le
    · exact (mem_new.1 hi).2
  · exact ((h.head.2 q hq).pre p).mono fun i hi => List.mem_append_left _ hi
theorem sts_add (h : Sep H0 own B (stsP J F :: R)) (k : ∀ p ∈ F', StAt J B p.1 p.2) : Sep H0 own B (stsP J (F' ++ F) :: R) :=
  h.as rfl fun ho => ⟨ho.1, fun p hp => (List.mem_append.1 hp).elim (k p) (ho.2 p)⟩
theorem sts_none (h : Sep H0 own B R) : Sep H0 own B (stsP [] [] :: R) := by
  have h := s_nils h 1
  exact h.as rfl fun _ => ⟨fun _ h => (by cases h), fun _ h => (by cases h)⟩
/-- A state that nobody else has joins them. -/
theorem sts_take {sv : AVal} {s : St} (h : Sep H0 own B (.sl sv 1 s.length (strs s) :: stsP J F :: R)) : Sep H0 own B (stsP ((slId sv).toList ++ J) ((sv, s) :: F) :: R) := by
  refine Sep.as h.join rfl fun ⟨g1, g2, _⟩ => ⟨fun i hi => ?_, fun p hp => ?_⟩
  · rcases List.mem_append.1 hi with hi | hi
    · exact Own.lt g1 (by simpa using hi)
    · exact g2.1 i hi
  · rcases List.mem_cons.1 hp with rfl | hp
    · exact ⟨g1.view, fun i hi => by rw [hi]; simp⟩
    · exact (g2.2 p hp).mono fun i hi => List.mem_append_right _ hi
/-- What is known of a model of the document's. -/
theorem ref_base (hs : Sep H0 own B (.obj x (.cells 0 .exact [.int .i64 n, Cv]) :: frozP I L :: R)) (hm : (Cv, flatW W) ∈ L) :
    (∀ i ∈ I, i < B.length ∧ ¬ i = x) ∧ Sep B (fun i => i = x) B [.obj x (.cells 0 .exact [.int .i64 n, Cv])] ∧ ∃ lvs, View B Cv 1 W.length lvs ∧ (∀ i, slId Cv = some i → ¬ i = x) ∧ ∀ (k : Nat) c, W[k]? = some c → ∃ lv, lvs[k]? = some lv ∧ StAt I B lv (c.map List.flatten) := by
  have hf := hs.tail.head
  have hnI : ∀ i ∈ I, i < B.length ∧ ¬ i = x := fun i hi => ⟨hf.1 i hi, fun e => by
    have := (List.pairwise_cons.1 hs.apart).1 _ List.mem_cons_self x (by simp [Part.obj])
    subst e
    exact this hi⟩
  refine ⟨hnI, hs.sub1.own_of fun i ⟨r, hr, hi⟩ => by
      rw [List.mem_singleton] at hr; subst hr
      simpa [Part.obj] using hi, ?_⟩
  obtain ⟨h1, lvs, h2, h3⟩ : WdAt I B Cv (flatW W) := hf.2 _ hm
  rw [flatW_len] at h2
  exact ⟨lvs, h2, fun i hi => (hnI i (h1 i hi)).2, fun k c hc => h3 k _ (flatW_get hc)⟩
theorem ref_fin {P : Part} {ov : AVal} {lvs : List AVal} {W' : Wd} (h0 : Sep H0 own B (.obj x (.cells 0 .exact [.int .i64 n, Cv]) :: frozP I L :: R)) (k : Sep B (fun i => i = x) C [.obj x (.cells 0 .exact [.int .i64 n, ov]), .sl ov 1 W'.length lvs, P])
    (hf : ∀ (k : Nat) s, W'[k]? = some s → ∃ lv, lvs[k]? = some lv ∧ (StAt P.ids C lv s ∨ StAt I C lv s)) : ∃ I', Sep H0 own C (.obj x (.cells 0 .exact [.int .i64 n, ov]) :: frozP I' ((ov, W') :: L) :: R) := by
  have hc := Sep.call1 h0 (k.own_of fun i hi => ⟨_, List.mem_cons_self, by simp [Part.obj, hi]⟩)
  have hc : Sep H0 own C (.obj x (.cells 0 .exact [.int .i64 n, ov]) :: .sl ov 1 W'.length lvs :: P :: frozP I L :: R) := hc
  refine ⟨((slId ov).toList ++ P.ids) ++ I, ?_⟩
  refine (Sep.as (b := frozP (((slId ov).toList ++ P.ids) ++ I) ((ov, W') :: L)) hc.b3.join.join rfl fun ⟨⟨g1, g2, _⟩, g3, _⟩ => ⟨fun i hi => ?_, fun q hq => ?_⟩).f1
  · rcases List.mem_append.1 hi with hi | hi
    · rcases List.mem_append.1 hi with hi | hi
      · exact Own.lt g1 (by simpa using hi)
      · exact P.live C g2 i hi
    · exact g3.1 i hi
  · rcases List.mem_cons.1 hq with rfl | hq
    · refine ⟨fun i hi => by simp only at hi; rw [hi]; simp, lvs, g1.view, fun k s hs => ?_⟩
      obtain ⟨lv, e1, e2⟩ := hf k s hs
      refine ⟨lv, e1, ?_⟩
      rcases e2 with e2 | e2
      · exact e2.mono fun i hi => List.mem_append_left _ (List.mem_append_right _ hi)
      · exact e2.mono fun i hi => List.mem_append_right _ hi
    · exact (g3.2 q hq).mono fun i hi => List.mem_append_right _ hi
theorem ld_one {sv : AVal} {m k : Nat} {cs : List AVal} {y : AVal} (h : View B sv 1 m cs) (hy : cs[k]? = some y) : aLoad B true 1 (.ptr (elP sv 1 k)) = some (.agg [y]) := by
  have e : flat (fun z : AVal => [z]) cs = cs := by
    unfold flat
    have := flatten_one (fun z : AVal => z) cs
    simpa using this
  have hl : cs.length = m := by have := h.1; omega
  have h' : View B sv 1 cs.length (flat (fun z : AVal => [z]) cs) := by rw [e, hl]; exact h
  exact el_ldN (f := fun z : AVal => [z]) (fun _ => rfl) h' hy
theorem ld_fld {sv : AVal} {m k : Nat} {cs : List AVal} {y : AVal} (h : View B sv 1 m cs) (hy : cs[k]? = some y) : aLoad B false 1 (.ptr ⟨(elP sv 1 k).id, (elP sv 1 k).ver, (elP sv 1 k).off + 0⟩) = some y := by
  exact el_ldc h (by have := lt_some hy; rw [h.1] at this; omega) (o := 0) (by decide) (by simpa using hy)
theorem ref_may_spec {a k : Int} (h : B[x]? = some (.cells 0 .exact [.int .i64 n, Cv])) (hn : n ≤ 64) : ∃ C, S_cellaretref26_Flat_May [.ptr ⟨x, 0, 0⟩, .int .i64 a, .int .i64 k] B (.int .i64 (mayE n a k)) C ∧ B <+: C := by
  obtain ⟨r, C, h, rfl, k⟩ := cellaretref26_Flat_May.out (x0 := .ptr ⟨x, 0, 0⟩) (x1 := .int .i64 a) (x2 := .int .i64 k) (H := B) (Q := fun r C => r = .int .i64 (mayE n a k) ∧ B <+: C) (by
    unfold cellaretref26_Flat_May.w
    repeat first
    | with_reducible refine vb_i (lss64 _ _ _) ?_
    refine isB_c (fun h1 => ?_) (fun h1 => ?_)
    · have e : mayE n a k = 2 := if_pos h1
      rw [e]
      exact fin_ret (rvs_v (rvs_nil _)) ⟨List.prefix_refl _, rfl, List.prefix_refl _⟩
    refine JoinP.mk (fun e vs D => B = D ∧ ((e = .ret ∧ vs = [.int .i64 3] ∧ mayE n a k = 3) ∨ (e = .normal ∧ mayE n a k = 0))) ?_ ?_
    · repeat first
      | with_reducible refine vb_i (lss64 _ _ _) ?_
      refine isB_c (fun h2 => ?_) (fun h2 => ?_)
      · exact ⟨rfl, .inl ⟨rfl, rfl, by unfold mayE; rw [if_neg h1, if_pos (by omega)]⟩⟩
      repeat first
      | refine vb_ld h rfl ?_
      | with_reducible refine vb_i (geq64 _ _ _) ?_
      refine isB_c (fun h3 => ?_) (fun h3 => ?_)
      · exact ⟨rfl, .inl ⟨rfl, rfl, by unfold mayE; rw [if_neg h1, if_pos (by omega)]⟩⟩
      repeat first
      | refine vb_ld h rfl ?_
      | with_reducible refine vb_i (gtr64 _ _ _) ?_
      | ((with_reducible refine vb_i (sub64 ?_ ?_) ?_); (· omega); (· omega))
      refine isB_c (fun h4 => ?_) (fun h4 => ?_)
      · exact ⟨rfl, .inl ⟨rfl, rfl, by unfold mayE; rw [if_neg h1, if_pos (by omega)]⟩⟩
      · exact ⟨rfl, .inr ⟨rfl, by unfold mayE; rw [if_neg h1, if_neg (by omega)]⟩⟩
    rintro _ _ _ ⟨rfl, ⟨rfl, rfl, e⟩ | ⟨rfl, e⟩⟩
    · rw [e]
      repeat first
      | with_reducible refine onE_i ?_
      | ((with_reducible refine onE_s ?_ ?_); (· decide))
      try simp only [evB]
      exact fin_ret (rvs_v (rvs_nil _)) ⟨List.prefix_refl _, rfl, List.prefix_refl _⟩
    · rw [e]
      repeat first
      | with_reducible refine onE_i ?_
      exact fin_ret (rvs_v (rvs_nil _)) ⟨List.prefix_refl _, rfl, List.prefix_refl _⟩)
  exact ⟨C, h, k⟩
theorem ref_data_spec {a : Int} {d : List UInt8} (h : B[x]? = some (.cells 0 .exact [.int .i64 n, Cv])) (hn : n ≤ 64) (hd : d.length ≤ 1099511627776) : ∃ C, S_cellaretref26_Flat_Data [.ptr ⟨x, 0, 0⟩, .int .i64 a, .str d] B (.int .i64 (dataE n a d)) C ∧ B <+: C := by
  obtain ⟨r, C, h, rfl, k⟩ := cellaretref26_Flat_Data.out (x0 := .ptr ⟨x, 0, 0⟩) (x1 := .int .i64 a) (x2 := .str d) (H := B) (Q := fun r C => r = .int .i64 (dataE n a d) ∧ B <+: C) (by
    unfold cellaretref26_Flat_Data.w
    refine JoinP.mk (fun e vs D => B = D ∧ ((e = .ret ∧ vs = [.int .i64 2] ∧ dataE n a d = 2) ∨ (e = .normal ∧ d.length % 48 = 0))) ?_ ?_
    · repeat first
      | with_reducible refine vb_i (neq64 _ _ _) ?_
      | ((with_reducible refine vb_i (rem64 ?_ ?_) ?_); (· omega); (· omega))
      | with_reducible refine vb_i (e_lenSt _) ?_
      refine isB_c (fun h1 => ?_) (fun h1 => ?_)
      · exact ⟨rfl, .inl ⟨rfl, rfl, if_pos (by omega)⟩⟩
      repeat first
      | with_reducible refine vb_i (eql64 _ _ _) ?_
      | with_reducible refine vb_i (e_lenSt _) ?_
      refine isB_c (fun h2 => ?_) (fun h2 => ?_)
      · refine ⟨rfl, .inl ⟨rfl, rfl, ?_⟩⟩
        unfold dataE mayE
        rw [if_neg (by omega), if_pos (by omega)]
      · exact ⟨rfl, .inr ⟨rfl, by omega⟩⟩
    rintro _ _ _ ⟨rfl, ⟨rfl, rfl, h1⟩ | ⟨rfl, h1⟩⟩
    · repeat first
      | with_reducible refine onE_i ?_
      | ((with_reducible refine onE_s ?_ ?_); (· decide))
      try simp only [evB]
      rw [h1]
      exact fin_ret (rvs_v (rvs_nil _)) ⟨List.prefix_refl _, rfl, List.prefix_refl _⟩
    · repeat first
      | with_reducible refine onE_i ?_
      | ((with_reducible refine vb_i (quo64 ?_ ?_ ?_) ?_); (· omega); (· omega); (· omega))
      | with_reducible refine vb_i (e_lenSt _) ?_
      have e : dataE n a d = mayE n a (d.length / 48 : Nat) := if_neg (by omega)
      rw [e, show (d.length : Int) / 48 = ((d.length / 48 : Nat) : Int) by omega]
      obtain ⟨C, hc, hp⟩ := ref_may_spec (a := a) (k := (d.length / 48 : Nat)) h hn
      refine cb_i _ _ hc ?_
      exact fin_ret (rvs_v (rvs_nil _)) ⟨hp, rfl, hp⟩)
  exact ⟨C, h, k⟩
theorem ref_last_spec {lv : AVal} {c : Wd} (hv : StAt I B lv (c.map List.flatten)) (hc : c ≠ []) (hl : c.length ≤ 1099511627776) : ∃ C, S_cellaretref26_Chain_Last [.agg [lv]] B (.str (lastS c).flatten) C ∧ B <+: C := by
  obtain ⟨r, C, h, rfl, k⟩ := cellaretref26_Chain_Last.out (x0 := .agg [lv]) (H := B) (Q := fun r C => r = .str (lastS c).flatten ∧ B <+: C) (by
    unfold cellaretref26_Chain_Last.w
    have hs : Sep B (fun _ => False) B [] := Sep.start B
    refine s_box hs rfl ?_
    intro i C1 _ hs
    simp only [AVal.cells] at hs
    have hv' := hs.view hv.1 (fun _ _ h => h)
    have hpos := List.length_pos_iff.2 hc
    have hlen : (c.map List.flatten).length = c.length := by simp
    have hx : (strs (c.map List.flatten))[c.length - 1]? = some (.str (lastS c).flatten) := by
      unfold strs
      rw [List.getElem?_map, List.getElem?_map, last_get hc]
      rfl
    rw [hlen] at hv'
    repeat first
    | ((with_reducible refine vb_i (sub64 ?_ ?_) ?_); (· omega); (· omega))
    | with_reducible refine vb_i (e_fieldAddr _ _) ?_
    | ((with_reducible apply vb_ld); (· first | exact hs.g0 | exact hs.g1 | exact hs.g2 | exact hs.g3 | exact hs.g4 | exact hs.g5 | exact hs.g6 | exact hs.rd hg | exact hs.rd hg2 | exact hs.rd hg3 | exact hs.rd hg4 | assumption); (· rfl))
    | ((with_reducible apply vb_addr); (· first | exact hs.o0.view | exact hs.o1.view | exact hs.o2.view | exact hs.o3.view | exact hs.o4.view | exact hs.o5.view | exact hs.o6.view | exact hs.rv hv | exact hs.rv hv2 | exact hs.rv hv3 | exact hs.rv hv4 | exact hs.view hkv hko | assumption); (· omega); (· omega))
    | ((with_reducible apply vb_len); (· first | exact hs.o0.view | exact hs.o1.view | exact hs.o2.view | exact hs.o3.view | exact hs.o4.view | exact hs.o5.view | exact hs.o6.view | exact hs.rv hv | exact hs.rv hv2 | exact hs.rv hv3 | exact hs.rv hv4 | exact hs.view hkv hko | assumption))
    rw [show ((c.length : Int) - 1).toNat = c.length - 1 by omega]
    refine vb_el0 hv' hx ?_
    have hp := hs.pre fun _ x => x
    exact fin_ret (rvs_v (rvs_nil _)) ⟨hp, rfl, hp⟩)
  exact ⟨C, h, k⟩
end
end Go.Sh

/- The document's model is written, sifted, made safe. -/
namespace Go.Sh
open Go Go.Abs

theorem take_map {α β : Type} {f : α → β} {W : List α} {j : Nat} {c : α} (hb : W[j]? = some c) : (W.take (j + 1)).map f = (W.take j).map f ++ [f c] := by
  rw [List.take_add_one, hb, List.map_append]; rfl
theorem fill_ag {v : AVal} (h : v.sc = true) : fillA (fun i => some (i * 1, 1)) (fillCells 1 [.nils]) [(0, .agg [v])] = some [v] := by
  have dx : v.defd = true := by cases v <;> simp_all [AVal.sc, AVal.defd]
  simp [fillA, fillCells, AVal.cells, AVal.defd, splice]
theorem fill_o {v : AVal} (h : v.sc = true) : fillA (fun k => ([(0, 1)] : List (Nat × Nat))[k]?) [.nils] [(0, v)] = some [v] := by
  have dx : v.defd = true := by cases v <;> simp_all [AVal.sc, AVal.defd]
  simp [fillA, sc_cells h, dx, splice]
/-- A row of values that stand for these. -/
def rowP {α : Type} (P : AVal → α → Prop) (cvs : List AVal) (W : List α) : Prop := cvs.length = W.length ∧ ∀ (k : Nat) c, W[k]? = some c → ∃ lv, cvs[k]? = some lv ∧ P lv c
theorem rowP.nil {α : Type} (P : AVal → α → Prop) : rowP P [] [] := ⟨rfl, fun _ _ h => by simp at h⟩
theorem rowP.push {α : Type} {P : AVal → α → Prop} {cvs : List AVal} {W : List α} (h : rowP P cvs W) {cv : AVal} {c : α} (hm : P cv c) : rowP P (cvs ++ [cv]) (W ++ [c]) := by
  refine ⟨by simp [h.1], fun k x hk => ?_⟩
  by_cases hkc : k < W.length
  · rw [List.getElem?_append_left hkc] at hk
    obtain ⟨lv, q1, q2⟩ := h.2 k x hk
    exact ⟨lv, by rw [List.getElem?_append_left (lt_some q1)]; exact q1, q2⟩
  · have hke : k = W.length := by have := lt_some hk; simp at this; omega
    subst hke
    rw [List.getElem?_append_right (Nat.le_refl _), Nat.sub_self] at hk
    cases hk
    exact ⟨cv, by rw [List.getElem?_append_right (by rw [h.1]; exact Nat.le_refl _), h.1, Nat.sub_self]; rfl, hm⟩
/-- A state's texts, written once more. -/
def wrT (a : Nat) (d : List UInt8) (c : Wd) : St := c.map List.flatten ++ [(withS (lastS c) a d).flatten]
theorem wrT_flat (W : List Wd) (a : Nat) (d : List UInt8) : W.map (wrT a d) = flatW (writeW W a d) := by
  unfold flatW writeW wrT
  rw [List.map_map]
  exact List.map_congr_left fun c _ => by simp
theorem safe_flat' (W : List Wd) : W.map (fun c => [(lastS c).flatten]) = flatW (safeW W) := by
  unfold flatW safeW
  rw [List.map_map]
  exact List.map_congr_left fun c _ => by simp
section
variable {H0 B C : AHeap} {own : Nat → Prop} {R : List Part} {I J : List Nat} {L : List (AVal × Wd)} {F F' : List (AVal × St)} {W : List Wd} {x n : Nat} {Cv : AVal}
theorem ref_done {J : List Nat} {F : List (AVal × St)} {ov : AVal} {lvs : List AVal} {W' : Wd} (h0 : Sep H0 own B (.obj x (.cells 0 .exact [.int .i64 n, Cv]) :: frozP I L :: R)) (k : Sep B (fun i => i = x) C [.obj x (.cells 0 .exact [.int .i64 n, ov]), .sl ov 1 lvs.length lvs, stsP J F])
    (hr : rowOf F lvs W') : ∃ Cv' I' L', Sep H0 own C (.obj x (.cells 0 .exact [.int .i64 n, Cv']) :: frozP I' L' :: R) ∧ (Cv', W') ∈ L' ∧ ∀ q ∈ L, q ∈ L' := by
  rw [hr.1] at k
  have hj := k.tail.tail.head.2
  obtain ⟨I', h⟩ := ref_fin (P := stsP J F) h0 k (fun i s hs => by
    obtain ⟨lv, q1, q2⟩ := hr.get hs
    exact ⟨lv, q1, .inl (hj _ q2)⟩)
  exact ⟨ov, I', _, h, List.mem_cons_self, fun q hq => List.mem_cons_of_mem _ hq⟩
theorem ref_write {a : Int} {d : List UInt8} (h0 : Sep H0 own B (.obj x (.cells 0 .exact [.int .i64 n, Cv]) :: frozP I L :: R)) (hm : (Cv, flatW W) ∈ L) (hW : okAll n W) (hn : n ≤ 64) (hT : total W ≤ 1099511627776) (hd0 : dataE n a d = 0) :
    ∃ Cv' I' L' C, S_cellaretref26_Flat_Write [.ptr ⟨x, 0, 0⟩, .int .i64 a, .str d] B (.tup []) C ∧ Sep H0 own C (.obj x (.cells 0 .exact [.int .i64 n, Cv']) :: frozP I' L' :: R) ∧ (Cv', flatW (writeW W a.toNat d)) ∈ L' ∧ ∀ q ∈ L, q ∈ L' := by
  obtain ⟨r, C, h, rfl, ⟨Cv', I', L', k1⟩⟩ := cellaretref26_Flat_Write.out (x0 := .ptr ⟨x, 0, 0⟩) (x1 := .int .i64 a) (x2 := .str d) (H := B) (Q := fun r C => r = .tup [] ∧ ∃ Cv' I' L', Sep H0 own C (.obj x (.cells 0 .exact [.int .i64 n, Cv']) :: frozP I' L' :: R) ∧ (Cv', flatW (writeW W a.toNat d)) ∈ L' ∧ ∀ q ∈ L, q ∈ L') (by
    unfold cellaretref26_Flat_Write.w
    obtain ⟨hd48, hd1, ha0, han⟩ := data_zero hd0
    have hWl := total_len hW
    obtain ⟨hnI, hs, clvs, hv, hnl, hall⟩ := ref_base h0 hm
    refine LoopP.ruleG (α := (Nat × AVal × List AVal) × List Nat × List (AVal × St)) (fun q => [q.1.2.1, .int .i64 (q.1.1 : Int)]) (fun q D => (q.1.1 ≤ W.length ∧ rowOf q.2.2 q.1.2.2 ((W.take q.1.1).map (wrT a.toNat d))) ∧
      Sep B (fun i => i = x) D [.obj x (.cells 0 .exact [.int .i64 n, Cv]), .sl q.1.2.1 1 q.1.2.2.length q.1.2.2, stsP q.2.1 q.2.2]) (fun q => W.length - q.1.1) ((0, .nils, []), [], []) (by simp)
      ⟨⟨Nat.zero_le _, rowOf.nil _⟩, (sts_none (s_nils hs 1)).b2.f1⟩ ?_
    clear hs
    rintro ⟨⟨j, ov, lvs⟩, J, F⟩ D Kn ⟨⟨hj, hr⟩, hs⟩ hk
    simp only at hj hr hs hk
    unfold cellaretref26_Flat_Write.L2 cellaretref26_Flat_Write.L2.b
    try simp only [evB]
    have hvD := hs.view hv hnl
    have hol : lvs.length = j := by rw [hr.1, List.length_map, List.length_take]; omega
    repeat first
    | refine vb_len hvD ?_
    | with_reducible refine vb_i (lss64 _ _ _) ?_
    | with_reducible refine vb_i (e_nilCheck _) ?_
    | with_reducible refine vb_i (e_fieldAddr _ _) ?_
    | ((with_reducible apply vb_ld); (· first | exact hs.g0 | exact hs.g1 | exact hs.g2 | exact hs.g3 | exact hs.g4 | exact hs.g5 | exact hs.g6 | exact hs.rd hg | exact hs.rd hg2 | exact hs.rd hg3 | exact hs.rd hg4 | assumption); (· rfl))
    refine isB_c (fun h2 => ?_) (fun h2 => ?_)
    · have hjW : j < W.length := by omega
      have hb := List.getElem?_eq_getElem hjW
      have hmem := List.getElem_mem hjW
      generalize W[j] = c at hb hmem
      obtain ⟨lv, q1, q2⟩ := hall j c hb
      obtain ⟨hne, hok⟩ := hW.2 c hmem
      have hcl : c.length ≤ 1099511627776 := Nat.le_trans (len_total hmem) hT
      have hlast := hok _ (last_mem' hne)
      have hfl := flat48 hlast.2
      rw [hlast.1] at hfl
      have q2D : StAt I D lv (c.map List.flatten) := q2.loc fun i hi => hs.frame i (hnI i hi).1 (hnI i hi).2
      repeat first
      | with_reducible refine vb_i (e_nilCheck _) ?_
      | with_reducible refine vb_i (e_fieldAddr _ _) ?_
      | ((with_reducible apply vb_ld); (· first | exact hs.g0 | exact hs.g1 | exact hs.g2 | exact hs.g3 | exact hs.g4 | exact hs.g5 | exact hs.g6 | exact hs.rd hg | exact hs.rd hg2 | exact hs.rd hg3 | exact hs.rd hg4 | assumption); (· rfl))
      | ((with_reducible apply vb_addrN); (· first | exact hs.o0.view | exact hs.o1.view | exact hs.o2.view | exact hs.o3.view | exact hs.o4.view | exact hs.o5.view | exact hs.o6.view | exact hs.rv hv | exact hs.rv hv2 | exact hs.rv hv3 | exact hs.rv hv4 | exact hs.view hkv hko | assumption); (· omega))
      try refine vb_addrN hvD (by omega) ?_
      refine vb_i (ld_one hvD q1) ?_
      obtain ⟨D2, hc, hp⟩ := ref_last_spec q2D hne hcl
      refine cb_i _ _ hc ?_
      have hs := hs.quiet hp
      clear hc
      have hwf := with_flat (a := a.toNat) (d := d) hlast hd48
      repeat first
      | ((with_reducible refine vb_i (mul64 ?_ ?_) ?_); (· omega); (· omega))
      refine vb_i (e_sliceStrTo (by omega) (by omega)) ?_
      rw [show (48 * a).toNat = 48 * a.toNat by omega]
      refine vb_i (adds (by rw [List.length_take]; omega)) ?_
      repeat first
      | ((with_reducible refine vb_i (add64 ?_ ?_) ?_); (· omega); (· omega))
      | ((with_reducible refine vb_i (mul64 ?_ ?_) ?_); (· omega); (· omega))
      | with_reducible refine vb_i (e_lenSt _) ?_
      refine vb_i (e_sliceStrFrom (by omega) (by omega)) ?_
      rw [show (48 * a + (d.length : Int)).toNat = 48 * a.toNat + d.length by omega]
      refine vb_i (adds (by rw [List.length_append, List.length_take, List.length_drop]; omega)) ?_
      rw [← hwf]
      refine s_row hs (cs := []) (by rfl) ?_
      intro i1 D3 hp3 hs
      have hs := s_own hs (n := 0) (es := 1) rfl
      have hv3 := hs.view hv hnl
      have q23 : StAt I D3 lv (c.map List.flatten) := (q2D.pre hp).pre hp3
      repeat first
      | refine vb_ld hs.g1 rfl ?_
      | with_reducible refine vb_i (e_fieldAddr _ _) ?_
      | ((with_reducible apply vb_addrN); (· first | exact hs.o0.view | exact hs.o1.view | exact hs.o2.view | exact hs.o3.view | exact hs.o4.view | exact hs.o5.view | exact hs.o6.view | exact hs.rv hv | exact hs.rv hv2 | exact hs.rv hv3 | exact hs.rv hv4 | exact hs.view hkv hko | assumption); (· omega))
      try refine vb_addrN hv3 (by omega) ?_
      skip
      refine vb_i (ld_fld hv3 q1) ?_
      have hcm : (c.map List.flatten).length = c.length := by simp
      refine s_appv hs (by decide) q23.1 (by simp [strs, AVal.isCell]) (by unfold room; omega) (by unfold room; omega) ?_
      intro s1 D4 hs
      refine s_push (m := 1) (xs := [.str (withS (lastS c) a.toNat d).flatten]) hs (by rfl) (by decide) rfl rfl (by unfold room; omega) (by unfold room; omega) ?_
      intro s2 D5 hs
      have e : ([] ++ strs (c.map List.flatten)) ++ [.str (withS (lastS c) a.toNat d).flatten] = strs (wrT a.toNat d c) := by simp [strs, wrT]
      have e2 : 0 + (c.map List.flatten).length + 1 = (wrT a.toNat d c).length := by simp [wrT]
      rw [e, e2] at hs
      have hsc := view_sc hs.o0.view
      have hs := sts_take hs.f3.f1
      refine vb_bld (fill_o hsc) ?_
      refine s_push (m := 1) (xs := [s2]) hs.f2 (fill_ag hsc) (by decide) rfl (by simp [sc_cell hsc]) (by unfold room; omega) (by unfold room; omega) ?_
      intro ov' D6 hs
      repeat first
      | ((with_reducible refine vb_i (add64 ?_ ?_) ?_); (· omega); (· omega))
      refine hk ((j + 1, ov', lvs ++ [s2]), (slId s2).toList ++ J, (s2, wrT a.toNat d c) :: F) _ ⟨⟨by simp only; omega, ?_⟩, ?_⟩ (by simp only; omega)
      · simp only
        rw [take_map hb]
        exact hr.push (fun _ h => List.mem_cons_of_mem _ h) List.mem_cons_self
      · simp only
        rw [List.length_append]
        exact hs.f2
    · obtain rfl : j = W.length := by omega
      rw [List.take_length, wrT_flat] at hr
      have hosc := view_sc hs.o1.view
      repeat first
      | with_reducible refine onE_i ?_
      | with_reducible refine vb_i (e_nilCheck _) ?_
      | with_reducible refine vb_i (e_fieldAddr _ _) ?_
      | ((with_reducible first | apply s_store1 hs | apply s_store1 hs.f1 | apply s_store1 hs.f2 | apply s_store1 hs.f3); (· rfl); (· first | rfl | assumption); (· simp only [List.length_cons, List.length_nil]; omega); intro _ hs; try simp only [List.set_cons_zero, List.set_cons_succ, Nat.add_zero, Nat.zero_add] at hs)
      exact fin_normal (rvs_nil _) ⟨rfl, ref_done h0 hs hr⟩)
  exact ⟨Cv', I', L', C, h, k1⟩
theorem ref_safe (h0 : Sep H0 own B (.obj x (.cells 0 .exact [.int .i64 n, Cv]) :: frozP I L :: R)) (hm : (Cv, flatW W) ∈ L) (hW : okAll n W) (hn : n ≤ 64) (hT : total W ≤ 1099511627776) :
    ∃ Cv' I' L' C, S_cellaretref26_Flat_Safe [.ptr ⟨x, 0, 0⟩] B (.tup []) C ∧ Sep H0 own C (.obj x (.cells 0 .exact [.int .i64 n, Cv']) :: frozP I' L' :: R) ∧ (Cv', flatW (safeW W)) ∈ L' ∧ ∀ q ∈ L, q ∈ L' := by
  obtain ⟨r, C, h, rfl, ⟨Cv', I', L', k1⟩⟩ := cellaretref26_Flat_Safe.out (x0 := .ptr ⟨x, 0, 0⟩) (H := B) (Q := fun r C => r = .tup [] ∧ ∃ Cv' I' L', Sep H0 own C (.obj x (.cells 0 .exact [.int .i64 n, Cv']) :: frozP I' L' :: R) ∧ (Cv', flatW (safeW W)) ∈ L' ∧ ∀ q ∈ L, q ∈ L') (by
    unfold cellaretref26_Flat_Safe.w
    have hWl := total_len hW
    obtain ⟨hnI, hs, clvs, hv, hnl, hall⟩ := ref_base h0 hm
    refine LoopP.ruleG (α := (Nat × AVal × List AVal) × List Nat × List (AVal × St)) (fun q => [q.1.2.1, .int .i64 (q.1.1 : Int)]) (fun q D => (q.1.1 ≤ W.length ∧ rowOf q.2.2 q.1.2.2 ((W.take q.1.1).map (fun c => [(lastS c).flatten]))) ∧
      Sep B (fun i => i = x) D [.obj x (.cells 0 .exact [.int .i64 n, Cv]), .sl q.1.2.1 1 q.1.2.2.length q.1.2.2, stsP q.2.1 q.2.2]) (fun q => W.length - q.1.1) ((0, .nils, []), [], []) (by simp)
      ⟨⟨Nat.zero_le _, rowOf.nil _⟩, (sts_none (s_nils hs 1)).b2.f1⟩ ?_
    clear hs
    rintro ⟨⟨j, ov, lvs⟩, J, F⟩ D Kn ⟨⟨hj, hr⟩, hs⟩ hk
    simp only at hj hr hs hk
    unfold cellaretref26_Flat_Safe.L2 cellaretref26_Flat_Safe.L2.b
    try simp only [evB]
    have hvD := hs.view hv hnl
    have hol : lvs.length = j := by rw [hr.1, List.length_map, List.length_take]; omega
    repeat first
    | refine vb_len hvD ?_
    | with_reducible refine vb_i (lss64 _ _ _) ?_
    | with_reducible refine vb_i (e_nilCheck _) ?_
    | with_reducible refine vb_i (e_fieldAddr _ _) ?_
    | ((with_reducible apply vb_ld); (· first | exact hs.g0 | exact hs.g1 | exact hs.g2 | exact hs.g3 | exact hs.g4 | exact hs.g5 | exact hs.g6 | exact hs.rd hg | exact hs.rd hg2 | exact hs.rd hg3 | exact hs.rd hg4 | assumption); (· rfl))
    refine isB_c (fun h2 => ?_) (fun h2 => ?_)
    · have hjW : j < W.length := by omega
      have hb := List.getElem?_eq_getElem hjW
      have hmem := List.getElem_mem hjW
      generalize W[j] = c at hb hmem
      obtain ⟨lv, q1, q2⟩ := hall j c hb
      obtain ⟨hne, hok⟩ := hW.2 c hmem
      have hcl : c.length ≤ 1099511627776 := Nat.le_trans (len_total hmem) hT
      have q2D : StAt I D lv (c.map List.flatten) := q2.loc fun i hi => hs.frame i (hnI i hi).1 (hnI i hi).2
      repeat first
      | with_reducible refine vb_i (e_nilCheck _) ?_
      | with_reducible refine vb_i (e_fieldAddr _ _) ?_
      | ((with_reducible apply vb_ld); (· first | exact hs.g0 | exact hs.g1 | exact hs.g2 | exact hs.g3 | exact hs.g4 | exact hs.g5 | exact hs.g6 | exact hs.rd hg | exact hs.rd hg2 | exact hs.rd hg3 | exact hs.rd hg4 | assumption); (· rfl))
      | ((with_reducible apply vb_addrN); (· first | exact hs.o0.view | exact hs.o1.view | exact hs.o2.view | exact hs.o3.view | exact hs.o4.view | exact hs.o5.view | exact hs.o6.view | exact hs.rv hv | exact hs.rv hv2 | exact hs.rv hv3 | exact hs.rv hv4 | exact hs.view hkv hko | assumption); (· omega))
      try refine vb_addrN hvD (by omega) ?_
      refine vb_i (ld_one hvD q1) ?_
      obtain ⟨D2, hc, hp⟩ := ref_last_spec q2D hne hcl
      refine cb_i _ _ hc ?_
      have hs := hs.quiet hp
      clear hc
      refine s_row hs (cs := strs [(lastS c).flatten]) (by rfl) ?_
      intro i1 D3 hp3 hs
      have hs := s_own hs (n := 1) (es := 1) rfl
      generalize AVal.slice ⟨i1, 0, 0⟩ 1 (.ex 1) = s2 at *
      have hsc := view_sc hs.o0.view
      have hs := sts_take (s := [(lastS c).flatten]) hs.f3.f1
      refine vb_bld (fill_o hsc) ?_
      refine s_push (m := 1) (xs := [s2]) hs.f2 (fill_ag hsc) (by decide) rfl (by simp [sc_cell hsc]) (by unfold room; omega) (by unfold room; omega) ?_
      intro ov' D6 hs
      repeat first
      | ((with_reducible refine vb_i (add64 ?_ ?_) ?_); (· omega); (· omega))
      refine hk ((j + 1, ov', lvs ++ [s2]), (slId s2).toList ++ J, (s2, [(lastS c).flatten]) :: F) _ ⟨⟨by simp only; omega, ?_⟩, ?_⟩ (by simp only; omega)
      · simp only
        rw [take_map hb]
        exact hr.push (fun _ h => List.mem_cons_of_mem _ h) List.mem_cons_self
      · simp only
        rw [List.length_append]
        exact hs.f2
    · obtain rfl : j = W.length := by omega
      rw [List.take_length, safe_flat'] at hr
      have hosc := view_sc hs.o1.view
      repeat first
      | with_reducible refine onE_i ?_
      | with_reducible refine vb_i (e_nilCheck _) ?_
      | with_reducible refine vb_i (e_fieldAddr _ _) ?_
      | ((with_reducible first | apply s_store1 hs | apply s_store1 hs.f1 | apply s_store1 hs.f2 | apply s_store1 hs.f3); (· rfl); (· first | rfl | assumption); (· simp only [List.length_cons, List.length_nil]; omega); intro _ hs; try simp only [List.set_cons_zero, List.set_cons_succ, Nat.add_zero, Nat.zero_add] at hs)
      exact fin_normal (rvs_nil _) ⟨rfl, ref_done h0 hs hr⟩)
  exact ⟨Cv', I', L', C, h, k1⟩
theorem ref_saw {a : Int} {d : List UInt8} (h0 : Sep H0 own B (.obj x (.cells 0 .exact [.int .i64 n, Cv]) :: frozP I L :: R)) (hm : (Cv, flatW W) ∈ L) (hW : okAll n W) (hn : n ≤ 64) (hT : total W ≤ 1099511627776) (hd0 : dataE n a d = 0) :
    ∃ Cv' I' L' C, S_cellaretref26_Flat_Saw [.ptr ⟨x, 0, 0⟩, .int .i64 a, .str d] B (.bool (decide (sawW W a.toNat d ≠ []))) C ∧ Sep H0 own C (.obj x (.cells 0 .exact [.int .i64 n, Cv']) :: frozP I' L' :: R) ∧ (Cv', flatW (sawR W a.toNat d)) ∈ L' ∧ ∀ q ∈ L, q ∈ L' := by
  obtain ⟨r, C, h, rfl, ⟨Cv', I', L', k1⟩⟩ := cellaretref26_Flat_Saw.out (x0 := .ptr ⟨x, 0, 0⟩) (x1 := .int .i64 a) (x2 := .str d) (H := B) (Q := fun r C => r = .bool (decide (sawW W a.toNat d ≠ [])) ∧ ∃ Cv' I' L', Sep H0 own C (.obj x (.cells 0 .exact [.int .i64 n, Cv']) :: frozP I' L' :: R) ∧ (Cv', flatW (sawR W a.toNat d)) ∈ L' ∧ ∀ q ∈ L, q ∈ L') (by
    unfold cellaretref26_Flat_Saw.w
    obtain ⟨hd48, hd1, ha0, han⟩ := data_zero hd0
    have hWl := total_len hW
    obtain ⟨hnI, hs, clvs, hv, hnl, hall⟩ := ref_base h0 hm
    refine LoopP.ruleG (α := Nat × AVal × List AVal) (fun q => [q.2.1, .int .i64 (q.1 : Int)]) (fun q D => (q.1 ≤ W.length ∧ rowP (StAt I B) q.2.2 (flatW (sawW (W.take q.1) a.toNat d))) ∧
      Sep B (fun i => i = x) D [.obj x (.cells 0 .exact [.int .i64 n, Cv]), .sl q.2.1 1 q.2.2.length q.2.2]) (fun q => W.length - q.1) (0, .nils, []) (by simp)
      ⟨⟨Nat.zero_le _, rowP.nil _⟩, (s_nils hs 1).f1⟩ ?_
    clear hs
    rintro ⟨j, ov, lvs⟩ D Kn ⟨⟨hj, hr⟩, hs⟩ hk
    simp only at hj hr hs hk
    unfold cellaretref26_Flat_Saw.L3 cellaretref26_Flat_Saw.L3.b
    try simp only [evB]
    have hvD := hs.view hv hnl
    have hol : lvs.length ≤ j := by
      rw [hr.1, flatW_len]
      unfold sawW
      exact Nat.le_trans (List.length_filter_le _ _) (by rw [List.length_take]; omega)
    repeat first
    | refine vb_len hvD ?_
    | with_reducible refine vb_i (lss64 _ _ _) ?_
    | with_reducible refine vb_i (e_nilCheck _) ?_
    | with_reducible refine vb_i (e_fieldAddr _ _) ?_
    | ((with_reducible apply vb_ld); (· first | exact hs.g0 | exact hs.g1 | exact hs.g2 | exact hs.g3 | exact hs.g4 | exact hs.g5 | exact hs.g6 | exact hs.rd hg | exact hs.rd hg2 | exact hs.rd hg3 | exact hs.rd hg4 | assumption); (· rfl))
    refine isB_c (fun h2 => ?_) (fun h2 => ?_)
    · have hjW : j < W.length := by omega
      have hb := List.getElem?_eq_getElem hjW
      have hmem := List.getElem_mem hjW
      generalize W[j] = c at hb hmem
      obtain ⟨lv, q1, q2⟩ := hall j c hb
      obtain ⟨hne, hok⟩ := hW.2 c hmem
      have hcl : c.length ≤ 1099511627776 := Nat.le_trans (len_total hmem) hT
      have hlast := hok _ (last_mem' hne)
      have hfl := flat48 hlast.2
      rw [hlast.1] at hfl
      have q2D : StAt I D lv (c.map List.flatten) := q2.loc fun i hi => hs.frame i (hnI i hi).1 (hnI i hi).2
      repeat first
      | with_reducible refine vb_i (e_nilCheck _) ?_
      | with_reducible refine vb_i (e_fieldAddr _ _) ?_
      | ((with_reducible apply vb_ld); (· first | exact hs.g0 | exact hs.g1 | exact hs.g2 | exact hs.g3 | exact hs.g4 | exact hs.g5 | exact hs.g6 | exact hs.rd hg | exact hs.rd hg2 | exact hs.rd hg3 | exact hs.rd hg4 | assumption); (· rfl))
      | ((with_reducible apply vb_addrN); (· first | exact hs.o0.view | exact hs.o1.view | exact hs.o2.view | exact hs.o3.view | exact hs.o4.view | exact hs.o5.view | exact hs.o6.view | exact hs.rv hv | exact hs.rv hv2 | exact hs.rv hv3 | exact hs.rv hv4 | exact hs.view hkv hko | assumption); (· omega))
      try refine vb_addrN hvD (by omega) ?_
      refine vb_i (ld_one hvD q1) ?_
      obtain ⟨D2, hc, hp⟩ := ref_last_spec q2D hne hcl
      refine cb_i _ _ hc ?_
      have hs := hs.quiet hp
      have hvD := v_pre hvD hp
      clear hc
      repeat first
      | ((with_reducible refine vb_i (add64 ?_ ?_) ?_); (· omega); (· omega))
      | ((with_reducible refine vb_i (mul64 ?_ ?_) ?_); (· omega); (· omega))
      | with_reducible refine vb_i (e_lenSt _) ?_
      refine vb_i (e_sliceStr (by omega) (by omega) (by omega)) ?_
      have hpt := part48 hlast.2 a.toNat (d.length / 48)
      rw [show (48 * a).toNat = 48 * a.toNat by omega, show (48 * a + (d.length : Int)).toNat = 48 * a.toNat + 48 * (d.length / 48) by omega, ← hpt]
      have hst := saw_step (a := a.toNat) (d := d) hb
      refine vb_i (eqls _ _) ?_
      refine isB_c (fun h3 => ?_) (fun h3 => ?_)
      · have hse : sees a.toNat d c = true := decide_eq_true h3
        rw [hse, if_pos rfl] at hst
        repeat first
        | refine vb_ld hs.g0 rfl ?_
        | ((with_reducible apply vb_addrN); (· first | exact hs.o0.view | exact hs.o1.view | exact hs.o2.view | exact hs.o3.view | exact hs.o4.view | exact hs.o5.view | exact hs.o6.view | exact hs.rv hv | exact hs.rv hv2 | exact hs.rv hv3 | exact hs.rv hv4 | exact hs.view hkv hko | assumption); (· omega))
        try refine vb_addrN hvD (by omega) ?_
        refine vb_i (ld_one hvD q1) ?_
        have hsc := view_sc q2.1
        refine s_push (m := 1) (xs := [lv]) hs.f1 (fill_ag hsc) (by decide) rfl (by simp [sc_cell hsc]) (by unfold room; omega) (by unfold room; omega) ?_
        intro ov' D6 hs
        repeat first
        | ((with_reducible refine vb_i (add64 ?_ ?_) ?_); (· omega); (· omega))
        refine hk (j + 1, ov', lvs ++ [lv]) _ ⟨⟨by simp only; omega, ?_⟩, ?_⟩ (by simp only; omega)
        · simp only
          rw [hst]
          have e : flatW (sawW (W.take j) a.toNat d ++ [c]) = flatW (sawW (W.take j) a.toNat d) ++ [c.map List.flatten] := by simp [flatW]
          rw [e]
          exact hr.push q2
        · simp only
          rw [List.length_append]
          exact hs.f1
      · have hse : sees a.toNat d c = false := decide_eq_false h3
        rw [hse, if_neg (by decide), List.append_nil] at hst
        repeat first
        | ((with_reducible refine vb_i (add64 ?_ ?_) ?_); (· omega); (· omega))
        refine hk (j + 1, ov, lvs) _ ⟨⟨by simp only; omega, ?_⟩, hs⟩ (by simp only; omega)
        simp only
        rw [hst]
        exact hr
    · obtain rfl : j = W.length := by omega
      rw [List.take_length] at hr
      have hosc := view_sc hs.o1.view
      have hlen : lvs.length = (sawW W a.toNat d).length := by rw [hr.1, flatW_len]
      clear hk
      repeat first
      | with_reducible refine onE_i ?_
      | with_reducible refine vb_i (eql64 _ _ _) ?_
      | ((with_reducible apply vb_len); (· first | exact hs.o0.view | exact hs.o1.view | exact hs.o2.view | exact hs.o3.view | exact hs.o4.view | exact hs.o5.view | exact hs.o6.view | exact hs.rv hv | exact hs.rv hv2 | exact hs.rv hv3 | exact hs.rv hv4 | exact hs.view hkv hko | assumption))
      try refine vb_len hs.o1.view ?_
      skip
      refine isB_c (fun h3 => ?_) (fun h3 => ?_)
      · have e0 : sawW W a.toNat d = [] := List.eq_nil_of_length_eq_zero (by omega)
        have e3 : sawR W a.toNat d = W := if_pos e0
        rw [e3]
        have := Sep.call1 h0 (hs.own_of fun i hi => ⟨_, List.mem_cons_self, by simp [Part.obj, hi]⟩)
        refine fin_ret (rvs_v (rvs_nil _)) ⟨by rw [e0]; rfl, Cv, I, L, this.f1.tail, hm, fun _ h => h⟩
      · have e0 : sawW W a.toNat d ≠ [] := fun e => h3 (by rw [hlen, e]; rfl)
        have e3 : sawR W a.toNat d = sawW W a.toNat d := if_neg e0
        rw [e3]
        repeat first
        | with_reducible refine vb_i (e_nilCheck _) ?_
        | with_reducible refine vb_i (e_fieldAddr _ _) ?_
        | ((with_reducible first | apply s_store1 hs | apply s_store1 hs.f1 | apply s_store1 hs.f2 | apply s_store1 hs.f3); (· rfl); (· first | rfl | assumption); (· simp only [List.length_cons, List.length_nil]; omega); intro _ hs; try simp only [List.set_cons_zero, List.set_cons_succ, Nat.add_zero, Nat.zero_add] at hs)
        have hs := (sts_none hs).b2
        rw [hr.1] at hs
        obtain ⟨I', k⟩ := ref_fin (P := stsP [] []) h0 hs (fun i s hi => by
          obtain ⟨lv, q1, q2⟩ := hr.2 i s hi
          exact ⟨lv, q1, .inr (q2.loc fun i hi => hs.frame i (hnI i hi).1 (hnI i hi).2)⟩)
        refine fin_ret (rvs_v (rvs_nil _)) ⟨by rw [decide_eq_true e0]; rfl, ov, I', _, k, List.mem_cons_self, fun q hq => List.mem_cons_of_mem _ hq⟩)
  exact ⟨Cv', I', L', C, h, k1⟩
end
end Go.Sh

/- The document's model crashes, is read, is made. -/
namespace Go.Sh
open Go Go.Abs

theorem flat_mem {n : Nat} {s : St} {acc : List St} (hs : okSt n s) (ha : ∀ t ∈ acc, okSt n t) : s.flatten ∈ acc.map List.flatten ↔ s ∈ acc := by
  refine ⟨fun h => ?_, fun h => List.mem_map.2 ⟨s, h, rfl⟩⟩
  obtain ⟨t, h1, h2⟩ := List.mem_map.1 h
  exact st_inj (ha t h1) hs h2 ▸ h1
theorem crash_flat' (W : List Wd) : (crashL [] W.flatten).map (fun s => [s.flatten]) = flatW (crashW W) := by
  unfold flatW crashW
  rw [List.map_map]
  exact List.map_congr_left fun c _ => by simp
theorem crashL_oks {n : Nat} {l : List St} (h : ∀ s ∈ l, okSt n s) : ∀ s ∈ crashL [] l, okSt n s := fun s hs => by
  rcases crashL_mem.1 hs with h1 | h1
  · cases h1
  · exact h s h1
theorem w_oks {n : Nat} {W : List Wd} (hW : okAll n W) : ∀ s ∈ W.flatten, okSt n s := fun s hs => by
  obtain ⟨c, h1, h2⟩ := List.mem_flatten.1 hs
  exact (hW.2 c h1).2 s h2
section
variable {H0 B C : AHeap} {own : Nat → Prop} {R : List Part} {I J : List Nat} {L : List (AVal × Wd)} {F F' : List (AVal × St)} {W : List Wd} {x n : Nat} {Cv : AVal}
set_option maxHeartbeats 400000 in
theorem ref_crash (h0 : Sep H0 own B (.obj x (.cells 0 .exact [.int .i64 n, Cv]) :: frozP I L :: R)) (hm : (Cv, flatW W) ∈ L) (hW : okAll n W) (hn : n ≤ 64) (hT : total W ≤ 1099511627776) :
    ∃ Cv' I' L' C, S_cellaretref26_Flat_Crash [.ptr ⟨x, 0, 0⟩] B (.tup []) C ∧ Sep H0 own C (.obj x (.cells 0 .exact [.int .i64 n, Cv']) :: frozP I' L' :: R) ∧ (Cv', flatW (crashW W)) ∈ L' ∧ ∀ q ∈ L, q ∈ L' := by
  obtain ⟨r, C, h, rfl, ⟨Cv', I', L', k1⟩⟩ := cellaretref26_Flat_Crash.out (x0 := .ptr ⟨x, 0, 0⟩) (H := B) (Q := fun r C => r = .tup [] ∧ ∃ Cv' I' L', Sep H0 own C (.obj x (.cells 0 .exact [.int .i64 n, Cv']) :: frozP I' L' :: R) ∧ (Cv', flatW (crashW W)) ∈ L' ∧ ∀ q ∈ L, q ∈ L') (by
    unfold cellaretref26_Flat_Crash.w
    have hWl := total_len hW
    obtain ⟨hnI, hs, clvs, hv, hnl, hall⟩ := ref_base h0 hm
    refine LoopP.ruleG (α := Nat × AVal × List St) (fun q => [q.2.1, .int .i64 (q.1 : Int)]) (fun q D => (q.1 ≤ W.length ∧ q.2.2 = crashL [] (W.take q.1).flatten) ∧
      Sep B (fun i => i = x) D [.obj x (.cells 0 .exact [.int .i64 n, Cv]), .sl q.2.1 1 q.2.2.length (strs (q.2.2.map List.flatten))]) (fun q => W.length - q.1) (0, .nils, []) (by simp)
      ⟨⟨Nat.zero_le _, rfl⟩, (s_nils hs 1).f1⟩ ?_
    clear hs
    rintro ⟨j, av, acc⟩ D Kn ⟨⟨hj, hacc⟩, hs⟩ hk
    simp only at hj hacc hs hk
    unfold cellaretref26_Flat_Crash.L2 cellaretref26_Flat_Crash.L2.b
    try simp only [evB]
    have hvD := hs.view hv hnl
    repeat first
    | refine vb_len hvD ?_
    | with_reducible refine vb_i (lss64 _ _ _) ?_
    | with_reducible refine vb_i (e_nilCheck _) ?_
    | with_reducible refine vb_i (e_fieldAddr _ _) ?_
    | ((with_reducible apply vb_ld); (· first | exact hs.g0 | exact hs.g1 | exact hs.g2 | exact hs.g3 | exact hs.g4 | exact hs.g5 | exact hs.g6 | exact hs.rd hg | exact hs.rd hg2 | exact hs.rd hg3 | exact hs.rd hg4 | assumption); (· rfl))
    refine isB_c (fun h2 => ?_) (fun h2 => ?_)
    · have hjW : j < W.length := by omega
      have hb := List.getElem?_eq_getElem hjW
      have hmem := List.getElem_mem hjW
      generalize W[j] = c at hb hmem
      obtain ⟨lv, q1, q2⟩ := hall j c hb
      obtain ⟨hne, hok⟩ := hW.2 c hmem
      have hts := total_step hb
      have htm := total_mono W (j + 1)
      have hfl : (W.take (j + 1)).flatten = (W.take j).flatten ++ c := by rw [List.take_add_one, hb, List.flatten_append]; simp
      have hclen : c.length ≤ 1099511627776 := Nat.le_trans (len_total hmem) hT
      have hoks0 : ∀ s ∈ (W.take j).flatten, okSt n s := fun s hs => w_oks hW s (by
        have e : W.flatten = (W.take j).flatten ++ (W.drop j).flatten := by rw [← List.flatten_append, List.take_append_drop]
        rw [e]; exact List.mem_append_left _ hs)
      refine LoopP.ruleG (α := Nat × AVal × List St) (fun q => [q.2.1, .int .i64 (q.1 : Int)]) (fun q E => (q.1 ≤ c.length ∧ q.2.2 = crashL acc (c.take q.1)) ∧
        Sep B (fun i => i = x) E [.obj x (.cells 0 .exact [.int .i64 n, Cv]), .sl q.2.1 1 q.2.2.length (strs (q.2.2.map List.flatten))]) (fun q => c.length - q.1) (0, av, acc) (by simp)
        ⟨⟨Nat.zero_le _, rfl⟩, hs⟩ ?_
      clear hs hvD
      rintro ⟨k, av2, acc2⟩ E Kn' ⟨⟨hk1, hacc2⟩, hs⟩ hk'
      simp only at hk1 hacc2 hs hk'
      unfold cellaretref26_Flat_Crash.L5 cellaretref26_Flat_Crash.L5.b
      try simp only [evB]
      have hvE := hs.view hv hnl
      have q2E : StAt I E lv (c.map List.flatten) := q2.loc fun i hi => hs.frame i (hnI i hi).1 (hnI i hi).2
      have hcm : (c.map List.flatten).length = c.length := by simp
      have q2v := q2E.1
      rw [hcm] at q2v
      have hal := crashL_len (c.take k) acc
      have hal2 := crashL_len (W.take j).flatten []
      have htk : (c.take k).length ≤ c.length := by rw [List.length_take]; omega
      unfold total at hts htm
      simp only [List.length_nil] at hal2
      rw [← hacc] at hal2
      rw [← hacc2] at hal
      have hal3 : acc2.length ≤ 1099511627776 := by unfold total at hT; omega
      have hoka : ∀ t ∈ acc2, okSt n t := fun t ht => by
        rw [hacc2, hacc, ← crash_app] at ht
        refine crashL_oks (fun s hs => ?_) t ht
        rcases List.mem_append.1 hs with h | h
        · exact hoks0 s h
        · exact hok s (List.mem_of_mem_take h)
      repeat first
      | with_reducible refine vb_i (e_nilCheck _) ?_
      | with_reducible refine vb_i (e_fieldAddr _ _) ?_
      | ((with_reducible apply vb_ld); (· first | exact hs.g0 | exact hs.g1 | exact hs.g2 | exact hs.g3 | exact hs.g4 | exact hs.g5 | exact hs.g6 | exact hs.rd hg | exact hs.rd hg2 | exact hs.rd hg3 | exact hs.rd hg4 | assumption); (· rfl))
      | ((with_reducible apply vb_addrN); (· first | exact hs.o0.view | exact hs.o1.view | exact hs.o2.view | exact hs.o3.view | exact hs.o4.view | exact hs.o5.view | exact hs.o6.view | exact hs.rv hv | exact hs.rv hv2 | exact hs.rv hv3 | exact hs.rv hv4 | exact hs.view hkv hko | assumption); (· omega))
      try refine vb_i (ld_fld hvE q1) ?_
      repeat first
      | refine vb_len q2v ?_
      | with_reducible refine vb_i (lss64 _ _ _) ?_
      refine isB_c (fun h3 => ?_) (fun h3 => ?_)
      · have hkc : k < c.length := by omega
        have hb2 := List.getElem?_eq_getElem hkc
        have hmem2 := List.getElem_mem hkc
        generalize c[k] = s at hb2 hmem2
        have hst := crash_step hb2 acc
        rw [← hacc2] at hst
        have hss := hok s hmem2
        have hfs := flat48 hss.2
        have hx : (strs (c.map List.flatten))[k]? = some (.str s.flatten) := by
          unfold strs
          rw [List.getElem?_map, List.getElem?_map, hb2]
          rfl
        repeat first
        | with_reducible refine vb_i (e_nilCheck _) ?_
        | with_reducible refine vb_i (e_fieldAddr _ _) ?_
        | ((with_reducible apply vb_ld); (· first | exact hs.g0 | exact hs.g1 | exact hs.g2 | exact hs.g3 | exact hs.g4 | exact hs.g5 | exact hs.g6 | exact hs.rd hg | exact hs.rd hg2 | exact hs.rd hg3 | exact hs.rd hg4 | assumption); (· rfl))
        | ((with_reducible apply vb_addrN); (· first | exact hs.o0.view | exact hs.o1.view | exact hs.o2.view | exact hs.o3.view | exact hs.o4.view | exact hs.o5.view | exact hs.o6.view | exact hs.rv hv | exact hs.rv hv2 | exact hs.rv hv3 | exact hs.rv hv4 | exact hs.view hkv hko | assumption); (· omega))
        try refine vb_i (ld_fld hvE q1) ?_
        repeat first
        | ((with_reducible apply vb_addrN); (· first | exact hs.o0.view | exact hs.o1.view | exact hs.o2.view | exact hs.o3.view | exact hs.o4.view | exact hs.o5.view | exact hs.o6.view | exact hs.rv hv | exact hs.rv hv2 | exact hs.rv hv3 | exact hs.rv hv4 | exact hs.view hkv hko | assumption); (· omega))
        | ((with_reducible apply vb_el0); (· first | exact hs.o0.view | exact hs.o1.view | exact hs.o2.view | exact hs.o3.view | exact hs.o4.view | exact hs.o5.view | exact hs.o6.view | exact hs.rv hv | exact hs.rv hv2 | exact hs.rv hv3 | exact hs.rv hv4 | exact hs.view hkv hko | assumption); (· first | exact hx | exact hx2 | assumption))
        try refine vb_el0 q2v hx ?_
        have hva := hs.o1.view
        refine LoopP.ruleG (α := Nat) (fun i => [.bool (decide (s ∈ acc2.take i)), .int .i64 (i : Int)]) (fun i D => i ≤ acc2.length ∧ E = D) (fun i => acc2.length - i) 0 (by simp) ⟨Nat.zero_le _, rfl⟩ ?_
        rintro i _ Kl ⟨hi, rfl⟩ hkl
        unfold cellaretref26_Flat_Crash.L10 cellaretref26_Flat_Crash.L10.b
        try simp only [evB]
        repeat first
        | refine vb_len hva ?_
        | with_reducible refine vb_i (lss64 _ _ _) ?_
        refine isB_c (fun h4 => ?_) (fun h4 => ?_)
        · have hil : i < acc2.length := by omega
          have hb4 := List.getElem?_eq_getElem hil
          have hmem4 := List.getElem_mem hil
          generalize acc2[i] = t at hb4 hmem4
          have htk4 : acc2.take (i + 1) = acc2.take i ++ [t] := by rw [List.take_add_one, hb4]; rfl
          have hx4 : (strs (acc2.map List.flatten))[i]? = some (.str t.flatten) := by
            unfold strs
            rw [List.getElem?_map, List.getElem?_map, hb4]
            rfl
          by_cases h5 : s ∈ acc2.take i
          · rw [decide_eq_true h5]
            refine isB_Tr rfl ?_
            repeat first
            | ((with_reducible refine vb_i (add64 ?_ ?_) ?_); (· omega); (· omega))
            have := hkl (i + 1) E ⟨by omega, rfl⟩ (by omega)
            rw [htk4, decide_eq_true (List.mem_append_left _ h5)] at this
            exact this
          · rw [decide_eq_false h5]
            refine isB_Fa rfl ?_
            refine vb_addrN hva (by omega) ?_
            refine vb_el0 hva hx4 ?_
            refine vb_i (eqls _ _) ?_
            repeat first
            | ((with_reducible refine vb_i (add64 ?_ ?_) ?_); (· omega); (· omega))
            have := hkl (i + 1) E ⟨by omega, rfl⟩ (by omega)
            have e : decide (s ∈ acc2.take (i + 1)) = decide (t.flatten = s.flatten) := by
              rw [htk4]
              refine decide_eq_decide.2 ⟨fun h => ?_, fun h => List.mem_append_right _ ?_⟩
              · rcases List.mem_append.1 h with h | h
                · exact absurd h h5
                · rw [List.mem_singleton.1 h]
              · rw [st_inj (hoka t hmem4) hss h]; exact List.mem_singleton_self _
            rw [e] at this
            exact this
        · obtain rfl : i = acc2.length := by omega
          rw [List.take_length]
          clear hkl
          repeat first
          | with_reducible refine onE_i ?_
          | with_reducible refine vb_i e_notd ?_
          try simp only [evB]
          refine Or.elim (Classical.em (s ∈ acc2)) (fun hin => ?_) (fun hin => ?_)
          · have hadd : addS acc2 s = acc2 := if_pos hin
            rw [hadd] at hst
            refine isB_Fa (by simp [hin]) ?_
            repeat first
            | ((with_reducible refine vb_i (add64 ?_ ?_) ?_); (· omega); (· omega))
            exact hk' (k + 1, av2, acc2) _ ⟨⟨by simp only; omega, hst.symm⟩, hs⟩ (by simp only; omega)
          · have hadd : addS acc2 s = acc2 ++ [s] := if_neg hin
            rw [hadd] at hst
            refine isB_Tr (by simp [hin]) ?_
            have htk2 : (c.take k).length + 1 ≤ c.length := by rw [List.length_take]; omega
            refine s_push (m := 1) (xs := [.str s.flatten]) hs.f1 (by rfl) (by decide) rfl rfl (by unfold room; omega) (by unfold room; omega) ?_
            intro av3 E4 hs
            have e : strs (acc2.map List.flatten) ++ [.str s.flatten] = strs ((acc2 ++ [s]).map List.flatten) := by simp [strs]
            rw [e] at hs
            repeat first
            | ((with_reducible refine vb_i (add64 ?_ ?_) ?_); (· omega); (· omega))
            refine hk' (k + 1, av3, acc2 ++ [s]) _ ⟨⟨by simp only; omega, hst.symm⟩, ?_⟩ (by simp only; omega)
            simp only
            rw [List.length_append]
            exact hs.f1
      · obtain rfl : k = c.length := by omega
        rw [List.take_length] at hacc2
        clear hk'
        repeat first
        | with_reducible refine onE_i ?_
        | ((with_reducible refine vb_i (add64 ?_ ?_) ?_); (· omega); (· omega))
        refine hk (j + 1, av2, acc2) _ ⟨⟨by simp only; omega, ?_⟩, hs⟩ (by simp only; omega)
        simp only
        rw [hfl, crash_app, ← hacc]
        exact hacc2
    · obtain rfl : j = W.length := by omega
      rw [List.take_length] at hacc
      have hal := crashL_len W.flatten []
      rw [← hacc] at hal
      unfold total at hT
      simp only [List.length_nil] at hal
      clear hk hvD
      repeat first
      | with_reducible refine onE_i ?_
      have hva := hs.o1.view
      have hnl2 := hs
      refine LoopP.ruleG (α := (Nat × AVal × List AVal) × List Nat × List (AVal × St)) (fun q => [q.1.2.1, .int .i64 (q.1.1 : Int)]) (fun q D => (q.1.1 ≤ acc.length ∧ rowOf q.2.2 q.1.2.2 ((acc.take q.1.1).map (fun s => [s.flatten]))) ∧
        Sep B (fun i => i = x) D [.obj x (.cells 0 .exact [.int .i64 n, Cv]), .sl q.1.2.1 1 q.1.2.2.length q.1.2.2, stsP q.2.1 q.2.2, .sl av 1 acc.length (strs (acc.map List.flatten))]) (fun q => acc.length - q.1.1) ((0, .nils, []), [], []) (by simp)
        ⟨⟨Nat.zero_le _, rowOf.nil _⟩, (sts_none (s_nils hs 1)).b2.f1⟩ ?_
      clear hs hva hnl2
      rintro ⟨⟨j, ov, lvs⟩, J, F⟩ D2 Kn2 ⟨⟨hj, hr⟩, hs⟩ hk
      simp only at hj hr hs hk
      unfold cellaretref26_Flat_Crash.L17 cellaretref26_Flat_Crash.L17.b
      try simp only [evB]
      have hva := hs.o3.view
      have hol : lvs.length = j := by rw [hr.1, List.length_map, List.length_take]; omega
      repeat first
      | refine vb_len hva ?_
      | with_reducible refine vb_i (lss64 _ _ _) ?_
      refine isB_c (fun h2 => ?_) (fun h2 => ?_)
      · have hja : j < acc.length := by omega
        have hb := List.getElem?_eq_getElem hja
        generalize acc[j] = s at hb
        have hx : (strs (acc.map List.flatten))[j]? = some (.str s.flatten) := by
          unfold strs
          rw [List.getElem?_map, List.getElem?_map, hb]
          rfl
        try refine vb_addrN hva (by omega) ?_
        try refine vb_el0 hva hx ?_
        refine s_row hs (cs := strs [s.flatten]) (by rfl) ?_
        intro i1 D3 hp3 hs
        have hs := s_own hs (n := 1) (es := 1) rfl
        generalize AVal.slice ⟨i1, 0, 0⟩ 1 (.ex 1) = s2 at *
        have hsc := view_sc hs.o0.view
        have hs := sts_take (s := [s.flatten]) hs.f3.f1
        refine vb_bld (fill_o hsc) ?_
        refine s_push (m := 1) (xs := [s2]) hs.f2 (fill_ag hsc) (by decide) rfl (by simp [sc_cell hsc]) (by unfold room; omega) (by unfold room; omega) ?_
        intro ov' D6 hs
        repeat first
        | ((with_reducible refine vb_i (add64 ?_ ?_) ?_); (· omega); (· omega))
        refine hk ((j + 1, ov', lvs ++ [s2]), (slId s2).toList ++ J, (s2, [s.flatten]) :: F) _ ⟨⟨by simp only; omega, ?_⟩, ?_⟩ (by simp only; omega)
        · simp only
          rw [take_map hb]
          exact hr.push (fun _ h => List.mem_cons_of_mem _ h) List.mem_cons_self
        · simp only
          rw [List.length_append]
          exact hs.f2
      · obtain rfl : j = acc.length := by omega
        rw [List.take_length, hacc, crash_flat'] at hr
        have hosc := view_sc hs.o1.view
        have hs := hs.f3.tail
        repeat first
        | with_reducible refine onE_i ?_
        | with_reducible refine vb_i (e_nilCheck _) ?_
        | with_reducible refine vb_i (e_fieldAddr _ _) ?_
        | ((with_reducible first | apply s_store1 hs | apply s_store1 hs.f1 | apply s_store1 hs.f2 | apply s_store1 hs.f3); (· rfl); (· first | rfl | assumption); (· simp only [List.length_cons, List.length_nil]; omega); intro _ hs; try simp only [List.set_cons_zero, List.set_cons_succ, Nat.add_zero, Nat.zero_add] at hs)
        exact fin_normal (rvs_nil _) ⟨rfl, ref_done h0 hs hr⟩)
  exact ⟨Cv', I', L', C, h, k1⟩
end
end Go.Sh

/- The document's model is read, counted, made; data of an act. -/
namespace Go.Sh
open Go Go.Abs

/-- An act. -/
structure Ac where
  k : Int
  a : Int
  m : Int
  c : UInt8
  o : Bool
def acC (x : Ac) : List AVal := [.int .i64 x.k, .int .i64 x.a, .int .i64 x.m, ofByte x.c, .bool x.o]
def Ac.n (x : Ac) : Nat := (min (max x.m 0) 70).toNat
def Ac.data (x : Ac) : List UInt8 := List.replicate (48 * x.n) x.c ++ if x.o = true then [x.c] else []
theorem Ac.len (x : Ac) : x.data.length ≤ 3361 := by
  unfold Ac.data Ac.n
  split <;> simp <;> omega
theorem fill_one {v : AVal} (c : UInt8) (N j : Nat) (hj : j < N) (hv : v = ofByte c) : ((List.replicate j c ++ List.replicate (N - j) 0).map ofByte).set j v = (List.replicate (j + 1) c ++ List.replicate (N - (j + 1)) (0 : UInt8)).map ofByte := by
  subst hv
  rw [← List.map_set, List.set_append_right _ _ (by simp), List.length_replicate, Nat.sub_self, show N - j = (N - (j + 1)) + 1 by omega, List.replicate_succ, List.set_cons_zero, List.replicate_succ']
  simp
section
variable {H0 B C : AHeap} {own : Nat → Prop} {R : List Part} {I J : List Nat} {L : List (AVal × Wd)} {F F' : List (AVal × St)} {W : List Wd} {x n : Nat} {Cv : AVal}
theorem data_at (t : Ac) : ∃ C, S_cellaretlaw26_data [.agg (acC t)] B (.str t.data) C ∧ B <+: C := by
  obtain ⟨r, C, h, rfl, k⟩ := cellaretlaw26_data.out (x0 := .agg (acC t)) (H := B) (Q := fun r C => r = .str t.data ∧ B <+: C) (by
    unfold cellaretlaw26_data.w
    have hs : Sep B (fun _ => False) B [] := Sep.start B
    refine s_box hs rfl ?_
    intro q C1 _ hs
    simp only [AVal.cells, acC] at hs
    have hN : t.n ≤ 70 := by unfold Ac.n; omega
    refine vb_i (e_fieldAddr _ _) ?_
    refine vb_ld (x := .int .i64 t.m) hs.g0 rfl ?_
    refine vb_i (v := .int .i64 (max t.m 0)) (by simp only [aFold, aMax2]; congr 2; split <;> omega) ?_
    refine vb_i (v := .int .i64 (t.n : Int)) (by simp only [aFold, aMin2, Ac.n]; congr 2; split <;> omega) ?_
    repeat first
    | ((with_reducible refine vb_i (mul64 ?_ ?_) ?_); (· omega); (· omega))
    rw [show (48 : Int) * (t.n : Int) = ((48 * t.n : Nat) : Int) by omega]
    refine s_make hs (n := 48 * t.n) (by omega) (by omega) (by omega) (by omega) ?_
    intro bv C2 _ _ hs
    have ez : fillCells (48 * t.n) [.int .u8 0] = (List.replicate 0 t.c ++ List.replicate (48 * t.n - 0) 0).map ofByte := by simp [fillCells, ofByte]
    rw [ez] at hs
    have hl0 : [AVal.int .u8 0].length = 1 := rfl
    rw [hl0] at hs
    refine LoopP.ruleG (α := Nat) (fun j => [.int .i64 (j : Int)]) (fun j D => j ≤ 48 * t.n ∧ Sep B (fun _ => False) D [.sl bv 1 (48 * t.n) ((List.replicate j t.c ++ List.replicate (48 * t.n - j) 0).map ofByte), .obj q (.cells 0 .exact [.int .i64 t.k, .int .i64 t.a, .int .i64 t.m, ofByte t.c, .bool t.o])]) (fun j => 48 * t.n - j) 0 (by simp) ⟨Nat.zero_le _, hs⟩ ?_
    clear hs ez
    rintro j D Kn ⟨hj, hs⟩ hk
    unfold cellaretlaw26_data.L4 cellaretlaw26_data.L4.b
    try simp only [evB]
    refine vb_len hs.o0.view ?_
    refine vb_i (lss64 _ _ _) ?_
    refine isB_c (fun h3 => ?_) (fun h3 => ?_)
    · refine vb_i (e_fieldAddr _ _) ?_
      refine vb_ld (x := ofByte t.c) hs.g1 rfl ?_
      refine vb_addrN hs.o0.view (by omega) ?_
      refine s_el0 hs (by omega) rfl ?_
      intro D2 hs
      repeat first
      | ((with_reducible refine vb_i (add64 ?_ ?_) ?_); (· omega); (· omega))
      refine hk (j + 1) _ ⟨by omega, ?_⟩ (by omega)
      rw [fill_one t.c _ j (by omega) rfl] at hs
      exact hs
    · obtain rfl : j = 48 * t.n := by omega
      clear hk
      rw [Nat.sub_self, List.replicate_zero, List.append_nil] at hs
      refine JoinP.mk (fun e vs E => e = .normal ∧ ∃ sv, vs = [sv] ∧ ∃ m, Sep B (fun _ => False) E [.sl sv 1 m (t.data.map ofByte)]) ?_ ?_
      · refine vb_i (e_fieldAddr _ _) ?_
        refine vb_ld (x := .bool t.o) hs.g1 rfl ?_
        refine Or.elim (Bool.eq_false_or_eq_true t.o) (fun ho => ?_) (fun ho => ?_)
        · refine isB_Tr ho ?_
          refine vb_i (e_fieldAddr _ _) ?_
          refine vb_ld (x := ofByte t.c) hs.g1 rfl ?_
          refine s_push (m := 1) (xs := [ofByte t.c]) hs (by rfl) (by decide) rfl rfl (by unfold room; omega) (by unfold room; omega) ?_
          intro sv E hs
          refine ⟨rfl, sv, rfl, 48 * t.n + 1, ?_⟩
          have e : (List.replicate (48 * t.n) t.c).map ofByte ++ [ofByte t.c] = t.data.map ofByte := by unfold Ac.data; rw [if_pos ho]; simp
          rw [e] at hs
          exact hs.f1.tail
        · refine isB_Fa ho ?_
          refine ⟨rfl, bv, rfl, 48 * t.n, ?_⟩
          have e : (List.replicate (48 * t.n) t.c).map ofByte = t.data.map ofByte := by unfold Ac.data; rw [if_neg (by rw [ho]; decide)]; simp
          rw [e] at hs
          exact hs.f1.tail
      clear hs
      rintro _ _ E ⟨rfl, sv, rfl, m, hs⟩
      rw [onE_same]
      refine vb_i (bytes_str hs.o0.view) ?_
      have hp := hs.pre fun _ x => x
      exact fin_ret (rvs_v (rvs_nil _)) ⟨hp, rfl, hp⟩)
  exact ⟨C, h, k⟩
theorem ref_states (h0 : Sep H0 own B (.obj x (.cells 0 .exact [.int .i64 n, Cv]) :: frozP I L :: R)) (hm : (Cv, flatW W) ∈ L) (hW : okAll n W) (hT : total W ≤ 1099511627776) : ∃ C, S_cellaretref26_Flat_States [.ptr ⟨x, 0, 0⟩] B (.int .i64 (total W)) C ∧ B <+: C := by
  obtain ⟨r, C, h, rfl, k⟩ := cellaretref26_Flat_States.out (x0 := .ptr ⟨x, 0, 0⟩) (H := B) (Q := fun r C => r = .int .i64 (total W) ∧ B <+: C) (by
    unfold cellaretref26_Flat_States.w
    have hWl := total_len hW
    obtain ⟨hnI, hs, clvs, hv, hnl, hall⟩ := ref_base h0 hm
    refine LoopP.ruleG (α := Nat) (fun j => [.int .i64 (total (W.take j) : Nat), .int .i64 (j : Int)]) (fun j D => (j ≤ W.length ∧ total (W.take j) ≤ 1099511627776) ∧ B = D) (fun j => W.length - j) 0 (by simp [total]) ⟨⟨Nat.zero_le _, by simp [total]⟩, rfl⟩ ?_
    rintro j D Kn ⟨⟨hj, ht⟩, rfl⟩ hk
    unfold cellaretref26_Flat_States.L3 cellaretref26_Flat_States.L3.b
    try simp only [evB]
    repeat first
    | refine vb_len hv ?_
    | with_reducible refine vb_i (lss64 _ _ _) ?_
    | with_reducible refine vb_i (e_nilCheck _) ?_
    | with_reducible refine vb_i (e_fieldAddr _ _) ?_
    | ((with_reducible apply vb_ld); (· first | exact hs.g0 | exact hs.g1 | exact hs.g2 | exact hs.g3 | exact hs.g4 | exact hs.g5 | exact hs.g6 | exact hs.rd hg | exact hs.rd hg2 | exact hs.rd hg3 | exact hs.rd hg4 | assumption); (· rfl))
    refine isB_c (fun h1 => ?_) (fun h1 => ?_)
    · have hjW : j < W.length := by omega
      have hb := List.getElem?_eq_getElem hjW
      generalize W[j] = c at hb
      have hst := total_step hb
      have hmono := total_mono W (j + 1)
      obtain ⟨lv, q1, q2⟩ := hall j c hb
      have hcm : (c.map List.flatten).length = c.length := by simp
      have q2v := q2.1
      rw [hcm] at q2v
      repeat first
      | with_reducible refine vb_i (e_nilCheck _) ?_
      | with_reducible refine vb_i (e_fieldAddr _ _) ?_
      | ((with_reducible apply vb_ld); (· first | exact hs.g0 | exact hs.g1 | exact hs.g2 | exact hs.g3 | exact hs.g4 | exact hs.g5 | exact hs.g6 | exact hs.rd hg | exact hs.rd hg2 | exact hs.rd hg3 | exact hs.rd hg4 | assumption); (· rfl))
      | ((with_reducible apply vb_addrN); (· first | exact hs.o0.view | exact hs.o1.view | exact hs.o2.view | exact hs.o3.view | exact hs.o4.view | exact hs.o5.view | exact hs.o6.view | exact hs.rv hv | exact hs.rv hv2 | exact hs.rv hv3 | exact hs.rv hv4 | exact hs.view hkv hko | assumption); (· omega))
      try refine vb_i (ld_fld hv q1) ?_
      repeat first
      | refine vb_len q2v ?_
      | ((with_reducible refine vb_i (add64 ?_ ?_) ?_); (· omega); (· omega))
      have := hk (j + 1) B ⟨⟨by omega, by omega⟩, rfl⟩ (by omega)
      rw [hst] at this
      exact this
    · obtain rfl : j = W.length := by omega
      repeat first
      | with_reducible refine onE_i ?_
      try simp only [evB]
      rw [List.take_length]
      exact fin_ret (rvs_v (rvs_nil _)) ⟨List.prefix_refl _, rfl, List.prefix_refl _⟩)
  exact ⟨C, h, k⟩
def refR (W : List Wd) (a k : Int) : AVal := if alikeW W a.toNat k.toNat (readS W a.toNat k.toNat) = true then .tup [.str (readS W a.toNat k.toNat), .bool true] else .tup [.str [], .bool false]
theorem ref_read {a k : Int} (h0 : Sep H0 own B (.obj x (.cells 0 .exact [.int .i64 n, Cv]) :: frozP I L :: R)) (hm : (Cv, flatW W) ∈ L) (hW : okAll n W) (hn : n ≤ 64) (hT : total W ≤ 1099511627776) (hz : mayE n a k = 0) :
    ∃ C, S_cellaretref26_Flat_Read [.ptr ⟨x, 0, 0⟩, .int .i64 a, .int .i64 k] B (refR W a k) C ∧ B <+: C := by
  obtain ⟨r, C, h, rfl, k⟩ := cellaretref26_Flat_Read.out (x0 := .ptr ⟨x, 0, 0⟩) (x1 := .int .i64 a) (x2 := .int .i64 k) (H := B) (Q := fun r C => r = refR W a k ∧ B <+: C) (by
    unfold cellaretref26_Flat_Read.w
    have hWl := total_len hW
    obtain ⟨hk1, ha0, hak⟩ := may_zero hz
    obtain ⟨hnI, hs, clvs, hv, hnl, hall⟩ := ref_base h0 hm
    have hb0 := headD_get hW.1
    have hmem0 := List.mem_of_getElem? hb0
    have hpos := lt_some hb0
    have hst : readS W a.toNat k.toNat = partS (lastS (W.headD [])) a.toNat k.toNat := rfl
    generalize W.headD [] = c0 at *
    obtain ⟨lv0, e1, e2⟩ := hall 0 c0 hb0
    obtain ⟨hne, hok⟩ := hW.2 c0 hmem0
    have hlast := hok _ (last_mem' hne)
    have hfl := flat48 hlast.2
    rw [hlast.1] at hfl
    repeat first
    | refine vb_ld hs.g0 rfl ?_
    | ((with_reducible apply vb_addr); (· first | exact hs.o0.view | exact hs.o1.view | exact hs.o2.view | exact hs.o3.view | exact hs.o4.view | exact hs.o5.view | exact hs.o6.view | exact hs.rv hv | exact hs.rv hv2 | exact hs.rv hv3 | exact hs.rv hv4 | exact hs.view hkv hko | assumption); (· omega); (· omega))
    try refine vb_addr hv (by omega) (by omega) ?_
    refine vb_i (ld_one hv (k := (0 : Int).toNat) e1) ?_
    obtain ⟨C1, hc, hp⟩ := ref_last_spec e2 hne (Nat.le_trans (len_total hmem0) hT)
    refine cb_i _ _ hc ?_
    have hs := hs.quiet hp
    repeat first
    | ((with_reducible refine vb_i (add64 ?_ ?_) ?_); (· omega); (· omega))
    | ((with_reducible refine vb_i (mul64 ?_ ?_) ?_); (· omega); (· omega))
    refine vb_i (e_sliceStr (by omega) (by omega) (by omega)) ?_
    have hpt := part48 hlast.2 a.toNat k.toNat
    rw [show (48 * a).toNat = 48 * a.toNat by omega, show (48 * a + 48 * k).toNat = 48 * a.toNat + 48 * k.toNat by omega, ← hpt, ← hst]
    have hR : refR W a k = if alikeW W a.toNat k.toNat (readS W a.toNat k.toNat) = true then .tup [.str (readS W a.toNat k.toNat), .bool true] else .tup [.str [], .bool false] := rfl
    rw [hR]
    clear hst hpt hc
    generalize readS W a.toNat k.toNat = s
    refine LoopP.ruleG (α := Nat) (fun j => [.int .i64 (j : Int)]) (fun j D => (j ≤ W.length ∧ alikeW (W.take j) a.toNat k.toNat s = true) ∧ C1 <+: D) (fun j => W.length - j) 0 (by simp) ⟨⟨Nat.zero_le _, by simp [alikeW]⟩, List.prefix_refl _⟩ ?_
    rintro j D Kn ⟨⟨hj, hal⟩, hpD⟩ hk
    have hs := hs.quiet hpD
    have hvD := v_pre hv (hp.trans hpD)
    unfold cellaretref26_Flat_Read.L3 cellaretref26_Flat_Read.L3.b
    try simp only [evB]
    repeat first
    | refine vb_len hvD ?_
    | with_reducible refine vb_i (lss64 _ _ _) ?_
    | with_reducible refine vb_i (e_nilCheck _) ?_
    | with_reducible refine vb_i (e_fieldAddr _ _) ?_
    | ((with_reducible apply vb_ld); (· first | exact hs.g0 | exact hs.g1 | exact hs.g2 | exact hs.g3 | exact hs.g4 | exact hs.g5 | exact hs.g6 | exact hs.rd hg | exact hs.rd hg2 | exact hs.rd hg3 | exact hs.rd hg4 | assumption); (· rfl))
    refine isB_c (fun h2 => ?_) (fun h2 => ?_)
    · have hjW : j < W.length := by omega
      have hb := List.getElem?_eq_getElem hjW
      have hmem := List.getElem_mem hjW
      generalize W[j] = c at hb hmem
      obtain ⟨lv, q1, q2⟩ := hall j c hb
      obtain ⟨hne, hok⟩ := hW.2 c hmem
      have hlast := hok _ (last_mem' hne)
      have hfl := flat48 hlast.2
      rw [hlast.1] at hfl
      repeat first
      | with_reducible refine vb_i (e_nilCheck _) ?_
      | with_reducible refine vb_i (e_fieldAddr _ _) ?_
      | ((with_reducible apply vb_ld); (· first | exact hs.g0 | exact hs.g1 | exact hs.g2 | exact hs.g3 | exact hs.g4 | exact hs.g5 | exact hs.g6 | exact hs.rd hg | exact hs.rd hg2 | exact hs.rd hg3 | exact hs.rd hg4 | assumption); (· rfl))
      | ((with_reducible apply vb_addrN); (· first | exact hs.o0.view | exact hs.o1.view | exact hs.o2.view | exact hs.o3.view | exact hs.o4.view | exact hs.o5.view | exact hs.o6.view | exact hs.rv hv | exact hs.rv hv2 | exact hs.rv hv3 | exact hs.rv hv4 | exact hs.view hkv hko | assumption); (· omega))
      try refine vb_addrN hvD (by omega) ?_
      refine vb_i (ld_one hvD q1) ?_
      obtain ⟨D2, hc, hp2⟩ := ref_last_spec (q2.pre (hp.trans hpD)) hne (Nat.le_trans (len_total hmem) hT)
      refine cb_i _ _ hc ?_
      have hpE := hpD.trans hp2
      repeat first
      | ((with_reducible refine vb_i (add64 ?_ ?_) ?_); (· omega); (· omega))
      | ((with_reducible refine vb_i (mul64 ?_ ?_) ?_); (· omega); (· omega))
      refine vb_i (e_sliceStr (by omega) (by omega) (by omega)) ?_
      have hpt := part48 hlast.2 a.toNat k.toNat
      rw [show (48 * a).toNat = 48 * a.toNat by omega, show (48 * a + 48 * k).toNat = 48 * a.toNat + 48 * k.toNat by omega, ← hpt]
      refine vb_i (neqs _ _) ?_
      refine isB_c (fun h3 => ?_) (fun h3 => ?_)
      · have e3 : alikeW W a.toNat k.toNat s = false := alike_no hb h3
        rw [if_neg (by rw [e3]; decide)]
        repeat first
        | with_reducible refine onE_i ?_
        | ((with_reducible refine onE_s ?_ ?_); (· decide))
        try simp only [evB]
        exact fin_ret (rvs_v (rvs_v (rvs_nil _))) ⟨hp.trans hpE, rfl, hp.trans hpE⟩
      · repeat first
        | ((with_reducible refine vb_i (add64 ?_ ?_) ?_); (· omega); (· omega))
        refine hk (j + 1) _ ⟨⟨by omega, ?_⟩, hpE⟩ (by omega)
        rw [alike_take hb, hal, Decidable.not_not.1 h3]
        simp
    · obtain rfl : j = W.length := by omega
      rw [List.take_length] at hal
      rw [if_pos hal]
      repeat first
      | with_reducible refine onE_i ?_
      try simp only [evB]
      exact fin_ret (rvs_v (rvs_v (rvs_nil _))) ⟨hp.trans hpD, rfl, hp.trans hpD⟩)
  exact ⟨C, h, k⟩
theorem new_flatW (n : Nat) : flatW (newW n) = [[zs (48 * n)]] := by
  have e : (List.replicate n (zs 48)).flatten = zs (48 * n) := by
    unfold zs
    induction n with
    | zero => rfl
    | succ n ih => rw [List.replicate_succ, List.flatten_cons, ih, List.replicate_append_replicate]; congr 1; omega
  simp [flatW, newW, e]
theorem ref_new (h0 : Sep H0 own B (frozP I L :: R)) (h2 : n ≤ 64) :
    ∃ x Cv I' L' C, S_cellaretref26_New [.int .i64 (n : Int)] B (.ptr ⟨x, 0, 0⟩) C ∧ Sep H0 own C (.obj x (.cells 0 .exact [.int .i64 n, Cv]) :: frozP I' L' :: R) ∧ (Cv, flatW (newW n)) ∈ L' ∧ ∀ q ∈ L, q ∈ L' := by
  obtain ⟨r, C, h, ⟨x, Cv, I', rfl, k1⟩, k⟩ := cellaretref26_New.out (x0 := .int .i64 (n : Int)) (H := B) (Q := fun r C => (∃ x Cv I', r = .ptr ⟨x, 0, 0⟩ ∧ Sep B (fun _ => False) C [.obj x (.cells 0 .exact [.int .i64 n, Cv]), frozP I' [(Cv, flatW (newW n))]]) ∧ B <+: C) (by
    unfold cellaretref26_New.w
    have hs : Sep B (fun _ => False) B [] := Sep.start B
    repeat first
    | ((with_reducible refine vb_i (mul64 ?_ ?_) ?_); (· omega); (· omega))
    refine cb_i _ _ ⟨48 * n, by congr 2, by omega, rfl, rfl⟩ ?_
    refine s_row (sts_none hs) (cs := strs [zs (48 * n)]) (by rfl) ?_
    intro i1 D3 hp3 hs
    have hs := s_own hs (n := 1) (es := 1) rfl
    generalize AVal.slice ⟨i1, 0, 0⟩ 1 (.ex 1) = s2 at *
    have hsc := view_sc hs.o0.view
    have hs := sts_take (s := [zs (48 * n)]) hs
    refine vb_bld (fill_o hsc) ?_
    refine s_row hs (cs := [s2]) (fill_ag hsc) ?_
    intro i2 D4 hp4 hs
    have hs := s_own hs (n := 1) (es := 1) rfl
    generalize AVal.slice ⟨i2, 0, 0⟩ 1 (.ex 1) = cv at *
    have hcs := view_sc hs.o0.view
    have hs := Sep.as (b := frozP ((slId cv).toList ++ ((slId s2).toList ++ [])) [(cv, flatW (newW n))]) hs.join rfl (fun ⟨g1, g2, _⟩ => by
      refine ⟨fun i hi => ?_, fun q hq => ?_⟩
      · rcases List.mem_append.1 hi with hi | hi
        · exact Own.lt g1 (by simpa using hi)
        · exact g2.1 i hi
      · rw [List.mem_singleton] at hq
        subst hq
        rw [new_flatW]
        refine ⟨fun i hi => by simp only at hi; rw [hi]; simp, [s2], g1.view, fun k t hk => ?_⟩
        have hk0 : k = 0 := by have := lt_some hk; simp at this; omega
        subst hk0
        cases hk
        exact ⟨s2, rfl, (g2.2 _ List.mem_cons_self).mono fun i hi => List.mem_append_right _ hi⟩)
    refine vb_bld (fill_nv hcs) ?_
    refine s_box hs rfl ?_
    intro q E2 _ hs
    simp only [AVal.cells] at hs
    have hp := hs.pre fun _ x => x
    exact fin_ret (rvs_v (rvs_nil _)) ⟨hp, ⟨q, cv, _, rfl, hs⟩, hp⟩)
  have hs := Sep.call (R1 := []) h0 (k1.own_of fun _ h => h.elim)
  have hs : Sep H0 own C (.obj x (.cells 0 .exact [.int .i64 n, Cv]) :: frozP I' [(Cv, flatW (newW n))] :: frozP I L :: R) := hs
  have hs := Sep.as (b := frozP (I' ++ I) ((Cv, flatW (newW n)) :: L)) hs.b2.join rfl (fun ⟨g1, g2, _⟩ => by
    refine ⟨fun i hi => ?_, fun q hq => ?_⟩
    · rcases List.mem_append.1 hi with hi | hi
      · exact g1.1 i hi
      · exact g2.1 i hi
    · rcases List.mem_cons.1 hq with rfl | hq
      · exact (g1.2 _ List.mem_cons_self).mono fun i hi => List.mem_append_left _ hi
      · exact (g2.2 q hq).mono fun i hi => List.mem_append_right _ hi)
  exact ⟨x, Cv, _, _, C, h, hs.f1, List.mem_cons_self, fun q hq => List.mem_cons_of_mem _ hq⟩
end
end Go.Sh

/- A call of both models. -/
namespace Go.Sh
open Go Go.Abs

/-- Both models' worlds behind an act. -/
def doW (n : Nat) (W : List Wd) (t : Ac) : List Wd :=
  if t.k = 0 ∨ t.k = 1 ∨ t.k = 2 then (if dataE n t.a t.data = 0 then writeW W t.a.toNat t.data else W)
  else if t.k = 3 then discW n W t.a t.m
  else if t.k = 5 then sawN n W t.a t.data
  else if t.k = 6 then safeW W
  else if t.k = 7 then crashW W
  else W
theorem len_le_total {n : Nat} {W : List Wd} (h : okAll n W) : W.length ≤ total W := total_len h
theorem zs_data {n : Nat} {a k : Int} (h : mayE n a k = 0) : dataE n a (zs (48 * k.toNat)) = 0 := by
  have hm := may_zero h
  have e : (zs (48 * k.toNat)).length = 48 * k.toNat := zs_len _
  unfold dataE
  rw [e, if_neg (by omega), show ((48 * k.toNat / 48 : Nat) : Int) = k by omega]
  exact h
theorem disc_ok {n : Nat} {W : List Wd} {a k : Int} (h : okAll n W) : okAll n (discW n W a k) ∧ total (discW n W a k) ≤ 2 * total W := by
  have hl := total_len h
  unfold discW
  split
  · rename_i hz
    obtain ⟨_, _, _, hd⟩ := data_zero (zs_data hz)
    refine ⟨write_ok h hd, ?_⟩
    rw [total_write]; omega
  · exact ⟨h, by omega⟩
theorem do_ok {n : Nat} {W : List Wd} (t : Ac) (h : okAll n W) : okAll n (doW n W t) ∧ total (doW n W t) ≤ 2 * total W := by
  have hl := total_len h
  unfold doW
  split
  · split
    · rename_i hz
      obtain ⟨_, _, _, hd⟩ := data_zero hz
      refine ⟨write_ok h hd, ?_⟩
      rw [total_write]; omega
    · exact ⟨h, by omega⟩
  split
  · exact disc_ok h
  split
  · unfold sawN
    split
    · exact ⟨saw_ok h, by have := total_saw W t.a.toNat t.data; omega⟩
    · exact ⟨h, by omega⟩
  split
  · exact ⟨safe_ok h, by have := total_safe h; omega⟩
  split
  · exact ⟨crash_ok h, by have := total_crash W; omega⟩
  · exact ⟨h, by omega⟩
/-- Both models, and what else is there. -/
def PairAt (H0 : AHeap) (own : Nat → Prop) (R : List Part) (p x n : Nat) (L : List (AVal × Wd)) (W : List Wd) (C : AHeap) : Prop :=
  ∃ lv cvs Cv I L', Sep H0 own C (flP p n lv cvs :: .obj x (.cells 0 .exact [.int .i64 n, Cv]) :: frozP I L' :: R) ∧ rowOf L' cvs W ∧ (Cv, flatW W) ∈ L' ∧ ∀ q ∈ L, q ∈ L'
section
variable {H0 B C : AHeap} {own : Nat → Prop} {R : List Part} {I J : List Nat} {L L1 : List (AVal × Wd)} {W : List Wd} {p x n : Nat} {Cv lv : AVal} {cvs : List AVal}
theorem pair_fin {b : AObj} {q : Nat} (hs : Sep H0 own C (flP p n lv cvs :: .obj x (.cells 0 .exact [.int .i64 n, Cv]) :: frozP I L1 :: .obj q b :: R)) (hr : rowOf L1 cvs W) (hm : (Cv, flatW W) ∈ L1) (hL : ∀ q ∈ L, q ∈ L1) : PairAt H0 own R p x n L W C :=
  ⟨lv, cvs, Cv, I, L1, (hs.f3.tail), hr, hm, hL⟩
set_option maxHeartbeats 1000000 in
theorem do_spec (t : Ac) (hs : Sep H0 own B (flP p n lv cvs :: .obj x (.cells 0 .exact [.int .i64 n, Cv]) :: frozP I L :: R)) (hr : rowOf L cvs W) (hm : (Cv, flatW W) ∈ L) (hW : okAll n W) (hn : n ≤ 64) (hn0 : 0 < n) (hT : total W ≤ 1099511627776) :
    ∃ C, S_cellaretlaw26_do [.ptr ⟨p, 0, 0⟩, .ptr ⟨x, 0, 0⟩, .agg (acC t)] B (.bool true) C ∧ PairAt H0 own R p x n L (doW n W t) C := by
  obtain ⟨r, C, h, rfl, k⟩ := cellaretlaw26_do.out (x0 := .ptr ⟨p, 0, 0⟩) (x1 := .ptr ⟨x, 0, 0⟩) (x2 := .agg (acC t)) (H := B) (Q := fun r C => r = .bool true ∧ PairAt H0 own R p x n L (doW n W t) C) ⟨⟨p, 0, 0⟩, rfl, lt_of_some (flat_open hs).g0⟩ (by
    unfold cellaretlaw26_doV.w
    have hdl := t.len
    refine s_box hs rfl ?_
    intro q C1 _ hs
    simp only [AVal.cells, acC] at hs
    refine vb_ldA hs.g0 rfl ?_
    obtain ⟨C2, hc, hp⟩ := data_at (B := C1) t
    refine cb_i _ _ hc ?_
    have hs := hs.quiet hp
    refine vb_i (e_fieldAddr _ _) ?_
    refine vb_ld (x := .int .i64 t.a) hs.g0 rfl ?_
    obtain ⟨C3, hc, hp⟩ := ref_data_spec (a := t.a) (d := t.data) hs.g2 hn (by omega)
    refine cb_i _ _ hc ?_
    have hs := hs.quiet hp
    clear hc hp
    refine vb_i (e_fieldAddr _ _) ?_
    refine vb_ld (x := .int .i64 t.k) hs.g0 rfl ?_
    refine JoinP.mk (fun e vs D => e = .normal ∧ vs = [.bool (decide (t.k = 0 ∨ t.k = 1 ∨ t.k = 2))] ∧ C3 = D) ?_ ?_
    · refine vb_i (eql64 _ _ _) ?_
      refine isB_c (fun h1 => ?_) (fun h1 => ?_)
      · exact ⟨rfl, by rw [decide_eq_true h1, decide_eq_true (.inl h1)], rfl⟩
      refine vb_i (eql64 _ _ _) ?_
      refine isB_c (fun h2 => ?_) (fun h2 => ?_)
      · exact ⟨rfl, by rw [decide_eq_true h2, decide_eq_true (.inr (.inl h2))], rfl⟩
      refine vb_i (eql64 _ _ _) ?_
      exact ⟨rfl, by rw [decide_eq_decide.2 (show t.k = 2 ↔ (t.k = 0 ∨ t.k = 1 ∨ t.k = 2) by omega)], rfl⟩
    rintro _ _ _ ⟨rfl, rfl, rfl⟩
    rw [onE_same]
    try simp only [evB]
    refine isB_c (fun h1 => ?_) (fun h1 => ?_)
    · have eW : doW n W t = if dataE n t.a t.data = 0 then writeW W t.a.toNat t.data else W := if_pos h1
      rw [eW]
      refine JoinP.mk (fun e vs D => e = .normal ∧ ∃ Cv' I' L', Sep H0 own D (.obj x (.cells 0 .exact [.int .i64 n, Cv']) :: frozP I' L' :: flP p n lv cvs :: .obj q (.cells 0 .exact [.int .i64 t.k, .int .i64 t.a, .int .i64 t.m, ofByte t.c, .bool t.o]) :: R) ∧ (Cv', flatW (if dataE n t.a t.data = 0 then writeW W t.a.toNat t.data else W)) ∈ L' ∧ ∀ q ∈ L, q ∈ L') ?_ ?_
      · refine vb_i (eql64 _ _ _) ?_
        refine isB_c (fun h2 => ?_) (fun h2 => ?_)
        · refine vb_i (e_fieldAddr _ _) ?_
          refine vb_ld (x := .int .i64 t.a) hs.g0 rfl ?_
          obtain ⟨Cv', I', L', D, hc, hs, hm', hL⟩ := ref_write (a := t.a) (d := t.data) hs.f3.f3 hm hW hn hT h2
          refine cb_i _ _ hc ?_
          refine ⟨rfl, Cv', I', L', hs.f3.b2, ?_, hL⟩
          rw [if_pos h2]
          exact hm'
        · refine ⟨rfl, Cv, I, L, hs.f3.f3.f3.b2, ?_, fun _ h => h⟩
          rw [if_neg h2]
          exact hm
      clear hs hm
      rintro _ _ D ⟨rfl, Cv', I', L', hs, hm, hL⟩
      rw [onE_same]
      refine vb_i (e_fieldAddr _ _) ?_
      refine vb_ld (x := .int .i64 t.a) hs.g3 rfl ?_
      obtain ⟨cvs', I2, L2, E, hc, hs, hr2, hL2⟩ := write_flat (a := t.a) (d := t.data) (hs.f1.f2) (hr.mono hL) hW hn hn0 hT (by omega)
      refine cb_i _ _ hc ?_
      refine vb_i (eql64 _ _ _) ?_
      exact fin_ret (rvs_v (rvs_nil _)) ⟨by simp [tup1], pair_fin (hs.f2.f1) hr2 (hL2 _ hm) (fun q hq => hL2 _ (hL q hq))⟩
    refine vb_i (eql64 _ _ _) ?_
    refine isB_c (fun h3 => ?_) (fun h3 => ?_)
    · have eW : doW n W t = discW n W t.a t.m := by unfold doW; rw [if_neg h1, if_pos h3]
      rw [eW]
      refine vb_i (e_fieldAddr _ _) ?_
      refine vb_ld (x := .int .i64 t.a) hs.g0 rfl ?_
      refine vb_i (e_fieldAddr _ _) ?_
      refine vb_ld (x := .int .i64 t.m) hs.g0 rfl ?_
      obtain ⟨C4, hc, hp⟩ := ref_may_spec (a := t.a) (k := t.m) hs.g2 hn
      refine cb_i _ _ hc ?_
      have hs := hs.quiet hp
      refine JoinP.mk (fun e vs D => e = .normal ∧ ∃ Cv' I' L', Sep H0 own D (.obj x (.cells 0 .exact [.int .i64 n, Cv']) :: frozP I' L' :: flP p n lv cvs :: .obj q (.cells 0 .exact [.int .i64 t.k, .int .i64 t.a, .int .i64 t.m, ofByte t.c, .bool t.o]) :: R) ∧ (Cv', flatW (discW n W t.a t.m)) ∈ L' ∧ ∀ q ∈ L, q ∈ L') ?_ ?_
      · refine vb_i (eql64 _ _ _) ?_
        refine isB_c (fun h2 => ?_) (fun h2 => ?_)
        · obtain ⟨hk1, ha0, hak⟩ := may_zero h2
          refine vb_i (e_fieldAddr _ _) ?_
          refine vb_ld (x := .int .i64 t.a) hs.g0 rfl ?_
          refine vb_i (e_fieldAddr _ _) ?_
          refine vb_ld (x := .int .i64 t.m) hs.g0 rfl ?_
          repeat first
          | ((with_reducible refine vb_i (mul64 ?_ ?_) ?_); (· omega); (· omega))
          refine cb_i _ _ ⟨48 * t.m.toNat, by congr 2; omega, by omega, rfl, rfl⟩ ?_
          obtain ⟨Cv', I', L', D, hc, hs, hm', hL⟩ := ref_write (a := t.a) (d := zs (48 * t.m.toNat)) hs.f3.f3 hm hW hn hT (zs_data h2)
          refine cb_i _ _ hc ?_
          refine ⟨rfl, Cv', I', L', hs.f3.b2, ?_, hL⟩
          unfold discW
          rw [if_pos h2]
          exact hm'
        · refine ⟨rfl, Cv, I, L, hs.f3.f3.f3.b2, ?_, fun _ h => h⟩
          unfold discW
          rw [if_neg h2]
          exact hm
      clear hs hm
      rintro _ _ D ⟨rfl, Cv', I', L', hs, hm, hL⟩
      rw [onE_same]
      refine vb_i (e_fieldAddr _ _) ?_
      refine vb_ld (x := .int .i64 t.a) hs.g3 rfl ?_
      refine vb_i (e_fieldAddr _ _) ?_
      refine vb_ld (x := .int .i64 t.m) hs.g3 rfl ?_
      obtain ⟨cvs', I2, L2, E, hc, hs, hr2, hL2⟩ := disc_flat (a := t.a) (k := t.m) (hs.f1.f2) (hr.mono hL) hW hn hn0 hT
      refine cb_i _ _ hc ?_
      refine vb_i (eql64 _ _ _) ?_
      exact fin_ret (rvs_v (rvs_nil _)) ⟨by simp [tup1], pair_fin (hs.f2.f1) hr2 (hL2 _ hm) (fun q hq => hL2 _ (hL q hq))⟩
    refine vb_i (eql64 _ _ _) ?_
    refine isB_c (fun h5 => ?_) (fun h5 => ?_)
    · have eW : doW n W t = sawN n W t.a t.data := by unfold doW; rw [if_neg h1, if_neg h3, if_pos h5]
      rw [eW]
      refine vb_i (neq64 _ _ _) ?_
      refine isB_c (fun h2 => ?_) (fun h2 => ?_)
      · refine vb_i (e_fieldAddr _ _) ?_
        refine vb_ld (x := .int .i64 t.a) hs.g0 rfl ?_
        obtain ⟨lv', cvs', D, hc, hs, hr2⟩ := saw_flat (a := t.a) (d := t.data) (hs.f3.f2) hr hW hn hT (by omega)
        refine cb_i _ _ hc ?_
        have e1 : sawE n W t.a t.data = false := decide_eq_false (fun h => h2 h.1)
        have e2 : sawN n W t.a t.data = W := if_neg h2
        rw [e1]
        refine vb_i (e_not _) ?_
        refine fin_ret (rvs_v (rvs_nil _)) ⟨by simp [tup1], pair_fin (hs.f3.f1) hr2 ?_ (fun q hq => hq)⟩
        rw [e2]; exact hm
      · have h2 : dataE n t.a t.data = 0 := by omega
        have e1 : sawE n W t.a t.data = decide (sawW W t.a.toNat t.data ≠ []) := decide_eq_decide.2 ⟨fun h => h.2, fun h => ⟨h2, h⟩⟩
        have e2 : sawN n W t.a t.data = sawR W t.a.toNat t.data := if_pos h2
        refine vb_i (e_fieldAddr _ _) ?_
        refine vb_ld (x := .int .i64 t.a) hs.g0 rfl ?_
        obtain ⟨lv', cvs', D, hc, hs, hr2⟩ := saw_flat (a := t.a) (d := t.data) (hs.f3.f2) hr hW hn hT (by omega)
        refine cb_i _ _ hc ?_
        refine vb_i (e_fieldAddr _ _) ?_
        refine vb_ld (x := .int .i64 t.a) hs.g2 rfl ?_
        obtain ⟨Cv', I', L', E, hc, hs, hm', hL⟩ := ref_saw (a := t.a) (d := t.data) (hs.f1.f3) hm hW hn hT h2
        refine cb_i _ _ hc ?_
        rw [e1]
        refine vb_i e_boolEq ?_
        rw [e2] at hr2 ⊢
        exact fin_ret (rvs_v (rvs_nil _)) ⟨by simp [tup1], pair_fin (hs.f2) (hr2.mono hL) hm' hL⟩
    refine vb_i (eql64 _ _ _) ?_
    refine isB_c (fun h6 => ?_) (fun h6 => ?_)
    · have eW : doW n W t = safeW W := by unfold doW; rw [if_neg h1, if_neg h3, if_neg h5, if_pos h6]
      rw [eW]
      obtain ⟨Cv', I', L', D, hc, hs, hm', hL⟩ := ref_safe hs.f3.f3 hm hW hn hT
      refine cb_i _ _ hc ?_
      obtain ⟨cvs', I2, L2, E, hc, hs, hr2, hL2⟩ := safe_flat (hs.f1.f3) (hr.mono hL) hW hT
      refine cb_i _ _ hc ?_
      exact fin_ret (rvs_v (rvs_nil _)) ⟨rfl, pair_fin (hs.f2.f1) hr2 (hL2 _ hm') (fun q hq => hL2 _ (hL q hq))⟩
    refine vb_i (eql64 _ _ _) ?_
    refine isB_c (fun h7 => ?_) (fun h7 => ?_)
    · have eW : doW n W t = crashW W := by unfold doW; rw [if_neg h1, if_neg h3, if_neg h5, if_neg h6, if_pos h7]
      rw [eW]
      obtain ⟨Cv', I', L', D, hc, hs, hm', hL⟩ := ref_crash hs.f3.f3 hm hW hn hT
      refine cb_i _ _ hc ?_
      obtain ⟨lv', cvs', I2, L2, E, hc, hs, hr2, hL2⟩ := crash_flat (hs.f1.f3) (hr.mono hL) hW hn hT
      refine cb_i _ _ hc ?_
      exact fin_ret (rvs_v (rvs_nil _)) ⟨rfl, pair_fin (hs.f2.f1) hr2 (hL2 _ hm') (fun q hq => hL2 _ (hL q hq))⟩
    have eW : doW n W t = W := by unfold doW; rw [if_neg h1, if_neg h3, if_neg h5, if_neg h6, if_neg h7]
    rw [eW]
    refine vb_i (e_fieldAddr _ _) ?_
    refine vb_ld (x := .int .i64 t.a) hs.g0 rfl ?_
    refine vb_i (e_fieldAddr _ _) ?_
    refine vb_ld (x := .int .i64 t.m) hs.g0 rfl ?_
    obtain ⟨C4, hc, hp⟩ := read_flat (a := t.a) (k := t.m) (hs.f3.f2) hr hW hn hT
    refine cb_i _ _ hc ?_
    have hs := hs.quiet hp
    refine vb_i e_ext0 ?_
    refine vb_i e_ext1 ?_
    refine vb_i (e_fieldAddr _ _) ?_
    refine vb_ld (x := .int .i64 t.a) hs.g0 rfl ?_
    refine vb_i (e_fieldAddr _ _) ?_
    refine vb_ld (x := .int .i64 t.m) hs.g0 rfl ?_
    obtain ⟨C5, hc, hp⟩ := ref_may_spec (a := t.a) (k := t.m) hs.g2 hn
    refine cb_i _ _ hc ?_
    have hs := hs.quiet hp
    refine vb_i (neq64 _ _ _) ?_
    refine isB_c (fun h2 => ?_) (fun h2 => ?_)
    · have e1 : readE n W t.a t.m = mayE n t.a t.m := if_pos h2
      have e2 : readR n W t.a t.m = [] := if_neg (by rw [e1]; exact h2)
      rw [e1, e2]
      refine vb_i (eqls _ _) ?_
      refine isB_Tr (by simp) ?_
      refine vb_i (eql64 _ _ _) ?_
      exact fin_ret (rvs_v (rvs_nil _)) ⟨by simp [tup1], pair_fin hs.b3 hr hm (fun q hq => hq)⟩
    have h2 : mayE n t.a t.m = 0 := by omega
    refine vb_i (e_fieldAddr _ _) ?_
    refine vb_ld (x := .int .i64 t.a) hs.g0 rfl ?_
    refine vb_i (e_fieldAddr _ _) ?_
    refine vb_ld (x := .int .i64 t.m) hs.g0 rfl ?_
    obtain ⟨C6, hc, hp⟩ := ref_read (a := t.a) (k := t.m) (hs.f3.f3) hm hW hn hT h2
    refine cb_i _ _ hc ?_
    have hs := hs.quiet hp
    have fin := pair_fin (L := L) hs.b3 hr hm (fun q hq => hq)
    unfold refR
    refine Or.elim (Bool.eq_false_or_eq_true (alikeW W t.a.toNat t.m.toNat (readS W t.a.toNat t.m.toNat))) (fun hal => ?_) (fun hal => ?_)
    · have e1 : readE n W t.a t.m = 0 := by unfold readE; rw [if_neg (by omega), if_pos hal]
      have e2 : readR n W t.a t.m = readS W t.a.toNat t.m.toNat := if_pos e1
      rw [e1, e2, if_pos hal]
      refine vb_i e_ext0 ?_
      refine vb_i e_ext1 ?_
      refine vb_i (e_not _) ?_
      refine isB_Fa rfl ?_
      refine vb_i (eqls _ _) ?_
      refine isB_Tr (by simp) ?_
      refine vb_i (eql64 _ _ _) ?_
      exact fin_ret (rvs_v (rvs_nil _)) ⟨by simp [tup1], fin⟩
    · have e1 : readE n W t.a t.m = 15 := by unfold readE; rw [if_neg (by omega), if_neg (by rw [hal]; decide)]
      have e2 : readR n W t.a t.m = [] := if_neg (by rw [e1]; decide)
      rw [e1, e2, if_neg (by rw [hal]; decide)]
      refine vb_i e_ext0 ?_
      refine vb_i e_ext1 ?_
      refine vb_i (e_not _) ?_
      refine isB_Tr rfl ?_
      refine vb_i (eqls _ _) ?_
      refine isB_Tr (by simp) ?_
      refine vb_i (eql64 _ _ _) ?_
      exact fin_ret (rvs_v (rvs_nil _)) ⟨by simp [tup1], fin⟩)
  exact ⟨C, h, k⟩
end
/-- Both orders come to the same. -/
theorem load_same {H C : AHeap} {i v off m : Nat} {x : AVal} (h : aLoad H false m (.ptr ⟨i, v, off⟩) = some x) (e : C[i]? = H[i]?) : aLoad C false m (.ptr ⟨i, v, off⟩) = some x := by
  simp only [aLoad, rdCells, e] at h ⊢
  exact h
theorem cellaretlaw26_do.ok (args : List AVal) (H : AHeap) (r : AVal) (H' : AHeap) (h : S_cellaretlaw26_do args H r H') : ∃ x0 x1 x2 : AVal, args = [x0, x1, x2] ∧ cellaretlaw26_do.w x0 x1 x2 H fun r1 H1 => r1 = r ∧ H1 = H' := by
  obtain ⟨x0, x1, x2, h1, h, p, rfl, hp⟩ := h
  refine ⟨_, _, _, h1, ?_⟩
  unfold cellaretlaw26_doV.w at h
  unfold cellaretlaw26_do.w
  by_cases hd : x2.defd = true
  rotate_left
  · have e : aBox H x2 = none := if_neg hd
    rw [e] at h
    exact h.elim
  rw [e_box hd] at h ⊢
  have hsome : ∀ (v : AVal) (D : AHeap) (F : AVal → AHeap → Prop), Go.Abs.hb (some (v, D)) F = F v D := fun _ _ _ => rfl
  rw [hsome] at h ⊢
  refine vb_imp h fun v3 h => cb_imp h fun v4 H5 hS1 h => vb_imp h fun v6 h => vb_imp h fun v7 h => cb_imp h fun v8 H9 hS2 h => vb_imp h fun v10 h => vb_imp h fun v11 h => ?_
  obtain ⟨Q, hA, hK⟩ := h
  have hl1 := (cellaretlaw26_data.quiet hS1).length_le
  have hl2 := (cellaretref26_Flat_Data.quiet hS2).length_le
  rw [List.length_append, List.length_singleton] at hl1
  refine JoinP.mk (fun e vs D => Q e vs D ∧ H9 = D) ?_ ?_
  · exact vb_imp hA fun v13 h => isB_imp h fun b14 h => cond_imp h (fun h => ⟨h, rfl⟩) fun h => vb_imp h fun v15 h => isB_imp h fun b16 h => cond_imp h (fun h => ⟨h, rfl⟩) fun h => vb_imp h fun v17 h => ⟨h, rfl⟩
  rintro e vs _ ⟨q, rfl⟩
  have h := hK _ _ _ q
  refine onE_imp h (fun h => isB_imp h fun b21 h => cond_imp h (fun h => h) fun h => vb_imp h fun v37 h => isB_imp h fun b38 h => cond_imp h (fun h => h) fun h => vb_imp h fun v67 h => isB_imp h fun b68 h => cond_imp h (fun h => ?_) (fun h => h)) (fun h => h)
  refine vb_imp h fun v69 h => isB_imp h fun b70 h => cond_imp h (fun h => h) fun h => ⟨h, ?_⟩
  refine vb_i (e_fieldAddr _ _) ?_
  have h : vb (aLoad H9 false 1 (.ptr ⟨H.length, 0, 0 + 1⟩)) fun v77 => cb (S_flat_Flat_Saw [.ptr p, v77, v4] H9) fun v78 H79 => vb (aLoad H79 false 1 (.ptr ⟨H.length, 0, 0 + 1⟩)) fun v81 => cb (S_cellaretref26_Flat_Saw [x1, v81, v4] H79) fun v82 H83 => vb (aEql false .bool H83 v78 v82) fun v84 => fin .ret [.v (v84)] H83 (fun r1 H1 => r1 = r ∧ H1 = H') := h
  cases hv : aLoad H9 false 1 (.ptr ⟨H.length, 0, 0 + 1⟩) with
  | none => rw [hv] at h; exact h.elim
  | some v =>
    rw [hv] at h
    refine vb_i rfl ?_
    refine vb_i (e_fieldAddr _ _) ?_
    refine vb_i hv ?_
    obtain ⟨w, D, s1, h⟩ : cb (S_flat_Flat_Saw [.ptr p, v, v4] H9) fun v78 H79 => vb (aLoad H79 false 1 (.ptr ⟨H.length, 0, 0 + 1⟩)) fun v81 => cb (S_cellaretref26_Flat_Saw [x1, v81, v4] H79) fun v82 H83 => vb (aEql false .bool H83 v78 v82) fun v84 => fin .ret [.v (v84)] H83 (fun r1 H1 => r1 = r ∧ H1 = H') := h
    refine ⟨w, D, s1, ?_⟩
    obtain ⟨y0, y1, y2, ey, _, hf⟩ := s1
    cases ey
    have e := load_same hv (hf H.length (by omega) fun r hr => by cases hr; omega)
    rw [e] at h
    exact h
end Go.Sh

/- What must come at any rate; every call is answered as the document says. -/
namespace Go.Sh
open Go Go.Abs

def awT : Ac := ⟨0, 0, 1, 97, false⟩
theorem aw_d0 : dataE 2 0 awT.data = 0 := by decide +kernel
theorem aw_len : (crashW (writeW (newW 2) 0 awT.data)).length = 2 := by decide +kernel
theorem aw_read : readE 2 (crashW (writeW (newW 2) 0 awT.data)) 0 1 = 15 := by decide +kernel
theorem aw_saw : sawE 2 (crashW (writeW (newW 2) 0 awT.data)) 0 awT.data = true := by decide +kernel
theorem aw_one : (sawN 2 (crashW (writeW (newW 2) 0 awT.data)) 0 awT.data).length = 1 := by decide +kernel
theorem aw_e : readE 2 (sawN 2 (crashW (writeW (newW 2) 0 awT.data)) 0 awT.data) 0 2 = 0 := by decide +kernel
theorem aw_r : readR 2 (sawN 2 (crashW (writeW (newW 2) 0 awT.data)) 0 awT.data) 0 2 = awT.data ++ zs 48 := by decide +kernel
theorem aw_t1 : total (writeW (newW 2) 0 awT.data) = 2 := by decide +kernel
theorem aw_t2 : total (crashW (writeW (newW 2) 0 awT.data)) = 2 := by decide +kernel
theorem total_new (n : Nat) : total (newW n) = 1 := by simp [total, newW]
theorem row_one {cv : AVal} {c : Wd} : rowOf [(cv, c)] [cv] [c] := (rowOf.nil _).push (cvs := []) (W := []) (fun _ h => h) List.mem_cons_self
section
variable {H0 B C : AHeap} {own : Nat → Prop} {R : List Part} {I J : List Nat} {L L1 : List (AVal × Wd)} {W : List Wd} {p x n : Nat} {Cv lv : AVal} {cvs : List AVal}
theorem awake_spec : ∃ C, S_cellaretlaw26_awake [] B (.bool true) C ∧ B <+: C := by
  obtain ⟨r, C, h, rfl, k⟩ := cellaretlaw26_awake.out (H := B) (Q := fun r C => r = .bool true ∧ B <+: C) (by
    unfold cellaretlaw26_awake.w
    obtain ⟨q, lv, cv, I, C, hc, hp, hs⟩ := new_good (B := B) (n := 2) (by omega) (by omega)
    refine cb_i _ _ hc ?_
    refine vb_i e_ext0 ?_
    refine vb_i e_ext1 ?_
    refine vb_bld (cs := acC awT) (by rfl) ?_
    obtain ⟨C, hc, hp⟩ := data_at (B := C) awT
    refine cb_i _ _ hc ?_
    have hs := hs.quiet hp
    clear hc hp
    refine JoinP.mk (fun e vs D => e = .normal ∧ ∃ cvs' I' L', Sep B (fun _ => False) D [flP q 2 lv cvs', frozP I' L'] ∧ rowOf L' cvs' (writeW (newW 2) 0 awT.data)) ?_ ?_
    · refine vb_i (neq64 _ _ _) ?_
      refine isB_cf (by decide) ?_
      refine vb_i (e_ptrNil _ _) ?_
      refine isB_Fa rfl ?_
      obtain ⟨cvs', I', L', D, hc, hs, hr, _⟩ := write_flat (a := 0) (d := awT.data) hs (row_one (c := [List.replicate 2 (zs 48)])) (new_ok (n := 2)) (by omega) (by omega) (by rw [show [[List.replicate 2 (zs 48)]] = newW 2 from rfl, total_new]; decide) (by decide +kernel)
      refine cb_i _ _ hc ?_
      rw [aw_d0]
      refine vb_i (neq64 _ _ _) ?_
      refine isB_cf (by decide) ?_
      rw [if_pos aw_d0] at hr
      exact ⟨rfl, cvs', I', L', hs, hr⟩
    clear hs
    rintro _ _ D ⟨rfl, cvs', I', L', hs, hr⟩
    rw [onE_same]
    have h1 : okAll 2 (writeW (newW 2) 0 awT.data) := write_ok new_ok (by decide +kernel)
    obtain ⟨lv', cvs', I', L', D, hc, hs, hr, _⟩ := crash_flat hs hr h1 (by omega) (by rw [aw_t1]; decide)
    refine cb_i _ _ hc ?_
    have h2 := crash_ok h1
    obtain ⟨D, hc, hp⟩ := read_flat (a := 0) (k := 1) hs hr h2 (by omega) (by rw [aw_t2]; decide)
    refine cb_i _ _ hc ?_
    have hs := hs.quiet hp
    refine vb_i e_ext0 ?_
    refine vb_i e_ext1 ?_
    rw [aw_read]
    obtain ⟨D, hc, hp⟩ := worlds_spec (flat_open hs).g0 (flat_open hs).o1.view
    refine cb_i _ _ hc ?_
    have hs := hs.quiet hp
    have hl := hr.1
    rw [aw_len] at hl
    rw [hl]
    obtain ⟨lv', cvs', D, hc, hs, hr⟩ := saw_flat (a := 0) (d := awT.data) hs hr h2 (by omega) (by rw [aw_t2]; decide) (by decide +kernel)
    refine cb_i _ _ hc ?_
    rw [aw_saw]
    have h3 : okAll 2 (sawN 2 (crashW (writeW (newW 2) 0 awT.data)) 0 awT.data) := by
      rw [sawN, if_pos aw_d0]
      exact saw_ok h2
    have h3t : total (sawN 2 (crashW (writeW (newW 2) 0 awT.data)) 0 awT.data) ≤ 1099511627776 := by
      rw [sawN, if_pos aw_d0]
      have := total_saw (crashW (writeW (newW 2) 0 awT.data)) (0 : Int).toNat awT.data
      rw [aw_t2] at this
      omega
    obtain ⟨D, hc, hp⟩ := read_flat (a := 0) (k := 2) hs hr h3 (by omega) h3t
    refine cb_i _ _ hc ?_
    have hs := hs.quiet hp
    refine vb_i e_ext0 ?_
    refine vb_i e_ext1 ?_
    rw [aw_e, aw_r]
    refine vb_i (eql64 _ _ _) ?_
    refine isB_ct (by decide) ?_
    refine vb_i (eql64 _ _ _) ?_
    refine isB_ct (by decide) ?_
    refine isB_Tr rfl ?_
    obtain ⟨D, hc, hp⟩ := worlds_spec (flat_open hs).g0 (flat_open hs).o1.view
    refine cb_i _ _ hc ?_
    have hs := hs.quiet hp
    have hl := hr.1
    rw [aw_one] at hl
    rw [hl]
    refine vb_i (eql64 _ _ _) ?_
    refine isB_ct (by decide) ?_
    refine cb_i _ _ ⟨48, rfl, by omega, rfl, rfl⟩ ?_
    refine vb_i (adds (by have := awT.len; rw [zs_len]; omega)) ?_
    refine vb_i (eqls _ _) ?_
    refine isB_Tr (by simp) ?_
    refine vb_i (eql64 _ _ _) ?_
    have hp := hs.pre fun _ x => x
    exact fin_ret (rvs_v (rvs_nil _)) ⟨hp, by simp [tup1], hp⟩)
  exact ⟨C, h, k⟩
theorem law_FlatDoes {xv : AVal} {m : Int} {l : List Ac} (hv : View B xv 5 l.length (flat acC l)) : ∃ C, S_cellaretlaw26_FlatDoes [.int .i64 m, xv] B (.bool true) C := by
  obtain ⟨r, C, h, rfl⟩ := cellaretlaw26_FlatDoes.out (x0 := .int .i64 m) (x1 := xv) (H := B) (Q := fun r C => r = .bool true) (by
    unfold cellaretlaw26_FlatDoes.w
    refine Or.elim (Classical.em (m < 1 ∨ 64 < m)) (fun hb => ?_) (fun hb => ?_)
    · obtain ⟨C, hc, hp⟩ := new_bad (B := B) hb
      refine cb_i _ _ hc ?_
      refine vb_i e_ext0 ?_
      refine vb_i e_ext1 ?_
      obtain ⟨D, hc, hp⟩ := awake_spec (B := C)
      refine JoinP.mk (fun e vs E => e = .ret ∧ vs = [.bool true]) ?_ ?_
      · refine vb_i (lss64 _ _ _) ?_
        refine isB_c (fun h1 => ?_) (fun h1 => ?_)
        · refine cb_i _ _ hc ?_
          refine isB_Tr rfl ?_
          refine vb_i (e_nilNil _) ?_
          refine isB_Tr rfl ?_
          refine vb_i (eql64 _ _ _) ?_
          exact ⟨rfl, by simp⟩
        · refine vb_i (gtr64 _ _ _) ?_
          refine isB_ct (by omega) ?_
          refine cb_i _ _ hc ?_
          refine isB_Tr rfl ?_
          refine vb_i (e_nilNil _) ?_
          refine isB_Tr rfl ?_
          refine vb_i (eql64 _ _ _) ?_
          exact ⟨rfl, by simp⟩
      rintro _ _ D ⟨rfl, rfl⟩
      repeat first
      | with_reducible refine onE_i ?_
      | ((with_reducible refine onE_s ?_ ?_); (· decide))
      try simp only [evB]
      exact fin_ret (rvs_v (rvs_nil _)) rfl
    obtain ⟨n, rfl⟩ : ∃ n : Nat, m = n := ⟨m.toNat, by omega⟩
    obtain ⟨p, lv, cv, I, C, hc, hp, hs⟩ := new_good (B := B) (n := n) (by omega) (by omega)
    refine cb_i _ _ hc ?_
    refine vb_i e_ext0 ?_
    refine vb_i e_ext1 ?_
    refine JoinP.mk (fun e vs E => e = .normal ∧ vs = [.bool false] ∧ C = E) ?_ ?_
    · refine vb_i (lss64 _ _ _) ?_
      refine isB_cf (by omega) ?_
      refine vb_i (gtr64 _ _ _) ?_
      refine isB_cf (by omega) ?_
      exact ⟨rfl, rfl, rfl⟩
    rintro _ _ _ ⟨rfl, rfl, rfl⟩
    rw [onE_same]
    have hs := hs.f1
    obtain ⟨x, Cv, I, L, C, hc, hs, hm, hL⟩ := ref_new hs (n := n) (by omega)
    have hr := (row_one (cv := cv) (c := [List.replicate n (zs 48)])).mono hL
    refine cb_i _ _ hc ?_
    obtain ⟨C', hc, hp⟩ := awake_spec (B := C)
    refine JoinP.mk (fun e vs E => e = .normal ∧ C' = E) ?_ ?_
    · refine vb_i (neq64 _ _ _) ?_
      refine isB_cf (by decide) ?_
      refine vb_i (e_ptrNil _ _) ?_
      refine isB_Fa rfl ?_
      refine cb_i _ _ hc ?_
      refine vb_i (e_not _) ?_
      refine isB_Fa rfl ?_
      exact ⟨rfl, rfl⟩
    rintro _ _ _ ⟨rfl, rfl⟩
    rw [onE_same]
    have hs := (hs.quiet hp).f2
    clear hc hp
    have h1 : okAll n (newW n) := new_ok
    have h2 := total_new n
    have hr : rowOf L [cv] (newW n) := hr
    generalize newW n = W0 at *
    generalize [cv] = cvs0 at *
    refine LoopP.ruleG (α := Nat × List Wd) (fun q => [.int .i64 (q.1 : Int)]) (fun q D => (q.1 ≤ l.length ∧ q.1 ≤ 30 ∧ okAll n q.2 ∧ total q.2 ≤ 2 ^ q.1) ∧ PairAt B (fun _ => False) [] p x n [] q.2 D) (fun q => 30 - q.1) (0, W0) (by simp)
      ⟨⟨Nat.zero_le _, Nat.zero_le _, h1, by rw [h2]; exact Nat.one_le_two_pow⟩, lv, cvs0, Cv, I, L, hs, hr, hm, fun _ h => by cases h⟩ ?_
    clear hs hr hm hL h1 h2
    rintro ⟨j, W⟩ D Kn ⟨⟨hj1, hj2, hW, hT⟩, lv, cvs, Cv, I, L, hs, hr, hm, _⟩ hk
    simp only at hj1 hj2 hW hT hs hr hm hk
    unfold cellaretlaw26_FlatDoes.L8 cellaretlaw26_FlatDoes.L8.b
    try simp only [evB]
    have hvD := hs.view hv (fun _ _ h => h)
    refine JoinP.mk (fun e vs E => D = E ∧ ((e = .normal ∧ j < l.length ∧ j < 30) ∨ (e = .exit 0))) ?_ ?_
    · refine vb_len hvD ?_
      refine vb_i (lss64 _ _ _) ?_
      refine isB_c (fun h4 => ?_) (fun h4 => ?_)
      · refine vb_i (lss64 _ _ _) ?_
        refine isB_c (fun h5 => ?_) (fun h5 => ?_)
        · exact ⟨rfl, .inl ⟨rfl, by omega, by omega⟩⟩
        · exact ⟨rfl, .inr rfl⟩
      · exact ⟨rfl, .inr rfl⟩
    rintro _ _ _ ⟨rfl, ⟨rfl, h4, h5⟩ | rfl⟩
    · have hb := List.getElem?_eq_getElem h4
      generalize l[j] = t at hb
      have hpow : total W ≤ 1073741824 := Nat.le_trans hT (Nat.le_trans (Nat.pow_le_pow_right (by decide) hj2) (by decide))
      repeat first
      | with_reducible refine onE_i ?_
      | ((with_reducible refine onE_s ?_ ?_); (· decide))
      | ((with_reducible apply vb_addrN); (· first | exact hs.o0.view | exact hs.o1.view | exact hs.o2.view | exact hs.o3.view | exact hs.o4.view | exact hs.o5.view | exact hs.o6.view | exact hs.rv hv | exact hs.rv hv2 | exact hs.rv hv3 | exact hs.rv hv4 | exact hs.view hkv hko | assumption); (· omega))
      try refine vb_addrN hvD (by omega) ?_
      refine vb_elN hvD (fun _ => rfl) hb ?_
      obtain ⟨E, hc, hP⟩ := do_spec t hs hr hm hW (by omega) (by omega) (by omega)
      refine cb_i _ _ hc ?_
      obtain ⟨hW2, hT2⟩ := do_ok t hW
      obtain ⟨lv, cvs, Cv, I, L, hs, hr, hm, _⟩ := hP
      generalize doW n W t = W2 at *
      refine vb_i (e_not _) ?_
      refine isB_Fa rfl ?_
      obtain ⟨E, hc, hp⟩ := worlds_spec (flat_open hs).g0 (flat_open hs).o1.view
      refine cb_i _ _ hc ?_
      have hs := hs.quiet hp
      obtain ⟨_, _, lvs, hCv, _, _⟩ := ref_base (hs.f1.f2.f1) hm
      repeat first
      | refine vb_ld hs.g1 rfl ?_
      | refine vb_len hCv ?_
      | with_reducible refine vb_i (neq64 _ _ _) ?_
      try rw [hr.1]
      try refine vb_i (neq64 _ _ _) ?_
      refine isB_cf (by have := hr.1; omega) ?_
      have hl2 := total_len hW2
      obtain ⟨E, hc, hp⟩ := states_spec (hs.f2.f1) hr (by omega) (by omega)
      refine cb_i _ _ hc ?_
      have hs := hs.quiet hp
      obtain ⟨E, hc, hp⟩ := ref_states (hs.f1.f2.f1) hm hW2 (by omega)
      refine cb_i _ _ hc ?_
      have hs := hs.quiet hp
      refine vb_i (neq64 _ _ _) ?_
      refine isB_cf (by omega) ?_
      repeat first
      | ((with_reducible refine vb_i (add64 ?_ ?_) ?_); (· omega); (· omega))
      refine hk (j + 1, W2) _ ⟨⟨by simp only; omega, by simp only; omega, hW2, ?_⟩, lv, cvs, Cv, I, L, hs, hr, hm, fun _ h => (by cases h)⟩ (by simp only; omega)
      simp only
      rw [Nat.pow_succ]
      omega
    · clear hk
      repeat first
      | with_reducible refine onE_i ?_
      try simp only [evB]
      skip
      exact fin_ret (rvs_v (rvs_nil _)) rfl)
  exact ⟨C, h⟩
end
end Go.Sh

/- Without a crash there is one world. -/
namespace Go.Sh
open Go Go.Abs

theorem rem8 {a b : Int} (h0 : 0 ≤ a) (hb : 0 < b) : aBin .rem (.int .u8 a) (.int .u8 b) = some (.int .u8 (a % b)) := by
  show (if b = 0 then none else some (AVal.int .u8 (a.tmod b))) = _
  rw [if_neg (by omega), Int.tmod_eq_emod_of_nonneg h0]
theorem int_u8 {a : Int} (h0 : 0 ≤ a) (h1 : a < 256) : aInt2 .i64 (.int .u8 a) = some (.int .i64 a) := by
  show some (AVal.int .i64 (IntKind.wrap .i64 a)) = _
  rw [wrap64 (by omega) (by omega)]
theorem read_one {n : Nat} {c : Wd} (h : okAll n [c]) (h1 : 1 ≤ n) : readE n [c] 0 n = 0 ∧ readR n [c] 0 n = (lastS c).flatten := by
  obtain ⟨hne, hok⟩ := h.2 c List.mem_cons_self
  have hl := hok _ (last_mem' hne)
  have hm : mayE n 0 n = 0 := by
    unfold mayE
    rw [if_neg (by omega), if_neg (by omega)]
  have hp : partS (lastS c) 0 n = (lastS c).flatten := by
    unfold partS
    rw [Nat.zero_add, List.drop_zero, List.take_of_length_le (by rw [hl.1]; exact Nat.le_refl _)]
  have hS : readS [c] (0 : Int).toNat (n : Int).toNat = (lastS c).flatten := hp
  have hA : alikeW [c] (0 : Int).toNat (n : Int).toNat (lastS c).flatten = true := by
    show (decide (partS (lastS c) 0 n = (lastS c).flatten) && true) = true
    rw [hp]; simp
  have e : readE n [c] 0 n = 0 := by
    unfold readE
    rw [if_neg (by omega), hS, if_pos hA]
  refine ⟨e, ?_⟩
  unfold readR
  rw [if_pos e, hS]
theorem saw_single (n : Nat) (c : Wd) (a : Int) (d : List UInt8) : sawN n [c] a d = [c] := by
  unfold sawN sawR sawW
  split
  · split
    · rfl
    · rename_i h
      cases hs : sees a.toNat d c with
      | false => exact absurd (by simp [hs]) h
      | true => simp [hs]
  · rfl
theorem last_app (c : Wd) (s : St) : lastS (c ++ [s]) = s := by simp [lastS]
theorem total_single (c : Wd) : total [c] = c.length := by simp [total]
section
variable {H0 B C : AHeap} {own : Nat → Prop} {R : List Part} {I J : List Nat} {L L1 : List (AVal × Wd)} {W : List Wd} {p x n : Nat} {Cv lv : AVal} {cvs : List AVal}
theorem two_of {H0 B : AHeap} {own : Nat → Prop} {a b : Part} {R : List Part} (h : Sep H0 own B (a :: b :: R)) : Sep H0 own B [a, b] := Sep.drop (R1 := [a, b]) h
set_option maxHeartbeats 1000000 in
theorem law_FlatOne {xv : AVal} {m : Int} {l : List Ac} (h0 : 0 ≤ m) (h255 : m < 256) (hv : View B xv 5 l.length (flat acC l)) : ∃ C, S_cellaretlaw26_FlatOne [.int .u8 m, xv] B (.bool true) C := by
  obtain ⟨r, C, h, rfl⟩ := cellaretlaw26_FlatOne.out (x0 := .int .u8 m) (x1 := xv) (H := B) (Q := fun r C => r = .bool true) (by
    unfold cellaretlaw26_FlatOne.w
    refine vb_i (rem8 h0 (by decide)) ?_
    refine vb_i (int_u8 (by omega) (by omega)) ?_
    refine vb_i (add64 (by omega) (by omega)) ?_
    obtain ⟨n, hn⟩ : ∃ n : Nat, m % 64 + 1 = n := ⟨(m % 64 + 1).toNat, by omega⟩
    have hn1 : 1 ≤ n := by omega
    have hn64 : n ≤ 64 := by omega
    rw [hn]
    clear hn h0 h255
    obtain ⟨p, lv, cv, I, C, hc, hp, hs⟩ := new_good (B := B) (n := n) (by omega) (by omega)
    refine cb_i _ _ hc ?_
    refine vb_i e_ext0 ?_
    refine vb_i e_ext1 ?_
    obtain ⟨C', hc, hp⟩ := awake_spec (B := C)
    refine JoinP.mk (fun e vs E => e = .normal ∧ C' = E) ?_ ?_
    · refine vb_i (neq64 _ _ _) ?_
      refine isB_cf (by decide) ?_
      refine vb_i (e_ptrNil _ _) ?_
      refine isB_Fa rfl ?_
      refine cb_i _ _ hc ?_
      refine vb_i (e_not _) ?_
      refine isB_Fa rfl ?_
      exact ⟨rfl, rfl⟩
    rintro _ _ _ ⟨rfl, rfl⟩
    rw [onE_same]
    have hs := hs.quiet hp
    clear hc hp
    refine vb_i (mul64 (by omega) (by omega)) ?_
    refine cb_i _ _ ⟨48 * n, by congr 2, by omega, rfl, rfl⟩ ?_
    have ez : zs (48 * n) = (lastS [List.replicate n (zs 48)]).flatten := by
      have := new_flatW n
      simp only [flatW, newW, List.map_cons, List.map_nil, List.cons.injEq, and_true] at this
      exact this.symm
    rw [ez]
    refine LoopP.ruleG (α := Nat × Wd) (fun q => [.str (lastS q.2).flatten, .int .i64 (q.1 : Int)]) (fun q D => (q.1 ≤ l.length ∧ q.1 ≤ 40 ∧ okAll n [q.2] ∧ q.2.length ≤ 1 + q.1) ∧ ∃ lv cvs I L, Sep B (fun _ => False) D [flP p n lv cvs, frozP I L] ∧ rowOf L cvs [q.2]) (fun q => 40 - q.1) (0, [List.replicate n (zs 48)]) (by simp)
      ⟨⟨Nat.zero_le _, Nat.zero_le _, new_ok, by simp⟩, lv, [cv], I, _, hs, row_one⟩ ?_
    clear hs ez
    rintro ⟨j, c⟩ D Kn ⟨⟨hj1, hj2, hW, hT⟩, lv, cvs, I, L, hs, hr⟩ hk
    simp only at hj1 hj2 hW hT hs hr hk
    unfold cellaretlaw26_FlatOne.L7 cellaretlaw26_FlatOne.L7.b
    try simp only [evB]
    have hvD := hs.view hv (fun _ _ h => h)
    refine JoinP.mk (fun e vs E => D = E ∧ ((e = .normal ∧ j < l.length ∧ j < 40) ∨ (e = .exit 0))) ?_ ?_
    · refine vb_len hvD ?_
      refine vb_i (lss64 _ _ _) ?_
      refine isB_c (fun h4 => ?_) (fun h4 => ?_)
      · refine vb_i (lss64 _ _ _) ?_
        refine isB_c (fun h5 => ?_) (fun h5 => ?_)
        · exact ⟨rfl, .inl ⟨rfl, by omega, by omega⟩⟩
        · exact ⟨rfl, .inr rfl⟩
      · exact ⟨rfl, .inr rfl⟩
    rintro _ _ _ ⟨rfl, ⟨rfl, h4, h5⟩ | rfl⟩
    · have hb := List.getElem?_eq_getElem h4
      generalize l[j] = t at hb
      have hdl := t.len
      obtain ⟨hne, hok⟩ := hW.2 c List.mem_cons_self
      have hlast := hok _ (last_mem' hne)
      have hfl := flat48 hlast.2
      rw [hlast.1] at hfl
      have htot : total [c] ≤ 1099511627776 := by rw [total_single]; omega
      refine onE_s (by decide) ?_
      refine onE_i ?_
      refine vb_addrN hvD (by omega) ?_
      refine vb_elN hvD (fun _ => rfl) hb ?_
      refine s_alloc hs ?_
      intro q D1 _ hs
      refine s_storeA hs rfl rfl rfl (by rfl) ?_
      intro D2 hs
      refine vb_ldA hs.g0 rfl ?_
      obtain ⟨D3, hc, hp⟩ := data_at (B := D2) t
      refine cb_i _ _ hc ?_
      have hs := (hs.quiet hp).b2
      clear hc hp
      simp only [acC] at hs
      refine vb_i (e_fieldAddr _ _) ?_
      refine vb_ld (x := .int .i64 t.k) hs.g2 rfl ?_
      refine JoinP.mk (fun e vs D => e = .normal ∧ vs = [.bool (decide (t.k = 0 ∨ t.k = 1 ∨ t.k = 2))] ∧ D3 = D) ?_ ?_
      · refine vb_i (eql64 _ _ _) ?_
        refine isB_c (fun h1 => ?_) (fun h1 => ?_)
        · exact ⟨rfl, by rw [decide_eq_true h1, decide_eq_true (.inl h1)], rfl⟩
        refine vb_i (eql64 _ _ _) ?_
        refine isB_c (fun h2 => ?_) (fun h2 => ?_)
        · exact ⟨rfl, by rw [decide_eq_true h2, decide_eq_true (.inr (.inl h2))], rfl⟩
        refine vb_i (eql64 _ _ _) ?_
        exact ⟨rfl, by rw [decide_eq_decide.2 (show t.k = 2 ↔ (t.k = 0 ∨ t.k = 1 ∨ t.k = 2) by omega)], rfl⟩
      rintro _ _ _ ⟨rfl, rfl, rfl⟩
      rw [onE_same]
      try simp only [evB]
      refine isB_c (fun h1 => ?_) (fun h1 => ?_)
      · refine vb_i (e_fieldAddr _ _) ?_
        refine vb_ld (x := .int .i64 t.a) hs.g2 rfl ?_
        obtain ⟨cvs, I, L, E, hc, hs, hr, _⟩ := write_flat (a := t.a) (d := t.data) hs hr hW (by omega) (by omega) htot (by omega)
        refine cb_i _ _ hc ?_
        refine vb_i (eql64 _ _ _) ?_
        refine isB_c (fun h2 => ?_) (fun h2 => ?_)
        · rw [if_pos h2] at hr
          obtain ⟨hd48, hd1, ha0, han⟩ := data_zero h2
          have hW' := write_ok (d := t.data) hW han
          have eW : writeW [c] t.a.toNat t.data = [c ++ [withS (lastS c) t.a.toNat t.data]] := rfl
          rw [eW] at hr hW'
          have hwf := with_flat (a := t.a.toNat) (d := t.data) hlast hd48
          refine vb_i (e_fieldAddr _ _) ?_
          refine vb_ld (x := .int .i64 t.a) hs.g2 rfl ?_
          refine vb_i (mul64 (by omega) (by omega)) ?_
          refine vb_i (e_sliceStrTo (by omega) (by omega)) ?_
          rw [show (48 * t.a).toNat = 48 * t.a.toNat by omega]
          refine vb_i (adds (by rw [List.length_take]; omega)) ?_
          refine vb_i (e_fieldAddr _ _) ?_
          refine vb_ld (x := .int .i64 t.a) hs.g2 rfl ?_
          refine vb_i (mul64 (by omega) (by omega)) ?_
          refine vb_i (e_lenSt _) ?_
          refine vb_i (add64 (by omega) (by omega)) ?_
          refine vb_i (e_sliceStrFrom (by omega) (by omega)) ?_
          rw [show (48 * t.a + (t.data.length : Int)).toNat = 48 * t.a.toNat + t.data.length by omega]
          refine vb_i (adds (by rw [List.length_append, List.length_take, List.length_drop]; omega)) ?_
          rw [← hwf]
          have hnow : (withS (lastS c) t.a.toNat t.data).flatten = (lastS (c ++ [withS (lastS c) t.a.toNat t.data])).flatten := by rw [last_app]
          have hT' : (c ++ [withS (lastS c) t.a.toNat t.data]).length ≤ 1 + (j + 1) := by simp; omega
          generalize c ++ [withS (lastS c) t.a.toNat t.data] = c' at *
          obtain ⟨E, hc, hp⟩ := read_flat (a := 0) (k := (n : Int)) hs hr hW' (by omega) (by rw [total_single]; omega)
          refine cb_i _ _ hc ?_
          have hs := hs.quiet hp
          obtain ⟨e1, e2⟩ := read_one hW' hn1
          rw [e1, e2]
          refine vb_i e_ext0 ?_
          refine vb_i e_ext1 ?_
          refine vb_i (neqs _ _) ?_
          refine isB_cf (fun h => h hnow.symm) ?_
          refine vb_i (neq64 _ _ _) ?_
          refine isB_cf (by decide) ?_
          obtain ⟨E, hc, hp⟩ := worlds_spec (flat_open hs).g0 (flat_open hs).o1.view
          refine cb_i _ _ hc ?_
          have hs := hs.quiet hp
          rw [hr.1]
          refine vb_i (neq64 _ _ _) ?_
          refine isB_cf (by simp) ?_
          repeat first
          | ((with_reducible refine vb_i (add64 ?_ ?_) ?_); (· omega); (· omega))
          try rw [hnow]
          refine hk (j + 1, _) _ ⟨⟨by simp only; omega, by simp only; omega, hW', by simp only; omega⟩, _, _, _, _, two_of hs, hr⟩ (by simp only; omega)
        · rw [if_neg h2] at hr
          have hW' := hW
          have hnow : (lastS c).flatten = (lastS c).flatten := rfl
          have hT' : c.length ≤ 1 + (j + 1) := by omega
          generalize hcc : c = c' at *
          obtain ⟨E, hc, hp⟩ := read_flat (a := 0) (k := (n : Int)) hs hr hW' (by omega) (by rw [total_single]; omega)
          refine cb_i _ _ hc ?_
          have hs := hs.quiet hp
          obtain ⟨e1, e2⟩ := read_one hW' hn1
          rw [e1, e2]
          refine vb_i e_ext0 ?_
          refine vb_i e_ext1 ?_
          refine vb_i (neqs _ _) ?_
          refine isB_cf (fun h => h hnow.symm) ?_
          refine vb_i (neq64 _ _ _) ?_
          refine isB_cf (by decide) ?_
          obtain ⟨E, hc, hp⟩ := worlds_spec (flat_open hs).g0 (flat_open hs).o1.view
          refine cb_i _ _ hc ?_
          have hs := hs.quiet hp
          rw [hr.1]
          refine vb_i (neq64 _ _ _) ?_
          refine isB_cf (by simp) ?_
          repeat first
          | ((with_reducible refine vb_i (add64 ?_ ?_) ?_); (· omega); (· omega))
          try rw [hnow]
          refine hk (j + 1, _) _ ⟨⟨by simp only; omega, by simp only; omega, hW', by simp only; omega⟩, _, _, _, _, two_of hs, hr⟩ (by simp only; omega)
      refine vb_i (eql64 _ _ _) ?_
      refine isB_c (fun h3 => ?_) (fun h3 => ?_)
      · refine vb_i (e_fieldAddr _ _) ?_
        refine vb_ld (x := .int .i64 t.a) hs.g2 rfl ?_
        refine vb_i (e_fieldAddr _ _) ?_
        refine vb_ld (x := .int .i64 t.m) hs.g2 rfl ?_
        obtain ⟨cvs, I, L, E, hc, hs, hr, _⟩ := disc_flat (a := t.a) (k := t.m) hs hr hW (by omega) (by omega) htot
        refine cb_i _ _ hc ?_
        refine vb_i (eql64 _ _ _) ?_
        refine isB_c (fun h2 => ?_) (fun h2 => ?_)
        · unfold discW at hr
          rw [if_pos h2] at hr
          obtain ⟨hk1, ha0, hak⟩ := may_zero h2
          have ezl : (zs (48 * t.m.toNat)).length = 48 * t.m.toNat := zs_len _
          have hW' := write_ok (d := zs (48 * t.m.toNat)) hW (a := t.a.toNat) (by rw [ezl]; omega)
          have eW : writeW [c] t.a.toNat (zs (48 * t.m.toNat)) = [c ++ [withS (lastS c) t.a.toNat (zs (48 * t.m.toNat))]] := rfl
          rw [eW] at hr hW'
          have hwf := with_flat (a := t.a.toNat) (d := zs (48 * t.m.toNat)) hlast (by rw [ezl]; omega)
          refine vb_i (e_fieldAddr _ _) ?_
          refine vb_ld (x := .int .i64 t.a) hs.g2 rfl ?_
          refine vb_i (mul64 (by omega) (by omega)) ?_
          refine vb_i (e_sliceStrTo (by omega) (by omega)) ?_
          rw [show (48 * t.a).toNat = 48 * t.a.toNat by omega]
          refine vb_i (e_fieldAddr _ _) ?_
          refine vb_ld (x := .int .i64 t.m) hs.g2 rfl ?_
          refine vb_i (mul64 (by omega) (by omega)) ?_
          refine cb_i _ _ ⟨48 * t.m.toNat, by congr 2; omega, by omega, rfl, rfl⟩ ?_
          refine vb_i (adds (by rw [List.length_take]; omega)) ?_
          refine vb_i (e_fieldAddr _ _) ?_
          refine vb_ld (x := .int .i64 t.a) hs.g2 rfl ?_
          refine vb_i (mul64 (by omega) (by omega)) ?_
          refine vb_i (e_fieldAddr _ _) ?_
          refine vb_ld (x := .int .i64 t.m) hs.g2 rfl ?_
          refine vb_i (mul64 (by omega) (by omega)) ?_
          refine vb_i (add64 (by omega) (by omega)) ?_
          refine vb_i (e_sliceStrFrom (by omega) (by omega)) ?_
          rw [show (48 * t.a + 48 * t.m).toNat = 48 * t.a.toNat + (zs (48 * t.m.toNat)).length by omega]
          refine vb_i (adds (by rw [List.length_append, List.length_take, List.length_drop]; omega)) ?_
          rw [← hwf]
          have hnow : (withS (lastS c) t.a.toNat (zs (48 * t.m.toNat))).flatten = (lastS (c ++ [withS (lastS c) t.a.toNat (zs (48 * t.m.toNat))])).flatten := by rw [last_app]
          have hT' : (c ++ [withS (lastS c) t.a.toNat (zs (48 * t.m.toNat))]).length ≤ 1 + (j + 1) := by simp; omega
          generalize c ++ [withS (lastS c) t.a.toNat (zs (48 * t.m.toNat))] = c' at *
          obtain ⟨E, hc, hp⟩ := read_flat (a := 0) (k := (n : Int)) hs hr hW' (by omega) (by rw [total_single]; omega)
          refine cb_i _ _ hc ?_
          have hs := hs.quiet hp
          obtain ⟨e1, e2⟩ := read_one hW' hn1
          rw [e1, e2]
          refine vb_i e_ext0 ?_
          refine vb_i e_ext1 ?_
          refine vb_i (neqs _ _) ?_
          refine isB_cf (fun h => h hnow.symm) ?_
          refine vb_i (neq64 _ _ _) ?_
          refine isB_cf (by decide) ?_
          obtain ⟨E, hc, hp⟩ := worlds_spec (flat_open hs).g0 (flat_open hs).o1.view
          refine cb_i _ _ hc ?_
          have hs := hs.quiet hp
          rw [hr.1]
          refine vb_i (neq64 _ _ _) ?_
          refine isB_cf (by simp) ?_
          repeat first
          | ((with_reducible refine vb_i (add64 ?_ ?_) ?_); (· omega); (· omega))
          try rw [hnow]
          refine hk (j + 1, _) _ ⟨⟨by simp only; omega, by simp only; omega, hW', by simp only; omega⟩, _, _, _, _, two_of hs, hr⟩ (by simp only; omega)
        · unfold discW at hr
          rw [if_neg h2] at hr
          have hW' := hW
          have hnow : (lastS c).flatten = (lastS c).flatten := rfl
          have hT' : c.length ≤ 1 + (j + 1) := by omega
          generalize hcc : c = c' at *
          obtain ⟨E, hc, hp⟩ := read_flat (a := 0) (k := (n : Int)) hs hr hW' (by omega) (by rw [total_single]; omega)
          refine cb_i _ _ hc ?_
          have hs := hs.quiet hp
          obtain ⟨e1, e2⟩ := read_one hW' hn1
          rw [e1, e2]
          refine vb_i e_ext0 ?_
          refine vb_i e_ext1 ?_
          refine vb_i (neqs _ _) ?_
          refine isB_cf (fun h => h hnow.symm) ?_
          refine vb_i (neq64 _ _ _) ?_
          refine isB_cf (by decide) ?_
          obtain ⟨E, hc, hp⟩ := worlds_spec (flat_open hs).g0 (flat_open hs).o1.view
          refine cb_i _ _ hc ?_
          have hs := hs.quiet hp
          rw [hr.1]
          refine vb_i (neq64 _ _ _) ?_
          refine isB_cf (by simp) ?_
          repeat first
          | ((with_reducible refine vb_i (add64 ?_ ?_) ?_); (· omega); (· omega))
          try rw [hnow]
          refine hk (j + 1, _) _ ⟨⟨by simp only; omega, by simp only; omega, hW', by simp only; omega⟩, _, _, _, _, two_of hs, hr⟩ (by simp only; omega)
      refine vb_i (eql64 _ _ _) ?_
      refine isB_c (fun h6 => ?_) (fun h6 => ?_)
      · refine vb_i (e_fieldAddr _ _) ?_
        refine vb_ld (x := .int .i64 t.a) hs.g2 rfl ?_
        obtain ⟨lv, cvs, E, hc, hs, hr⟩ := saw_flat (a := t.a) (d := t.data) hs hr hW (by omega) htot (by omega)
        refine cb_i _ _ hc ?_
        rw [saw_single] at hr
        have hW' := hW
        have hnow : (lastS c).flatten = (lastS c).flatten := rfl
        have hT' : c.length ≤ 1 + (j + 1) := by omega
        generalize hcc : c = c' at *
        obtain ⟨E, hc, hp⟩ := read_flat (a := 0) (k := (n : Int)) hs hr hW' (by omega) (by rw [total_single]; omega)
        refine cb_i _ _ hc ?_
        have hs := hs.quiet hp
        obtain ⟨e1, e2⟩ := read_one hW' hn1
        rw [e1, e2]
        refine vb_i e_ext0 ?_
        refine vb_i e_ext1 ?_
        refine vb_i (neqs _ _) ?_
        refine isB_cf (fun h => h hnow.symm) ?_
        refine vb_i (neq64 _ _ _) ?_
        refine isB_cf (by decide) ?_
        obtain ⟨E, hc, hp⟩ := worlds_spec (flat_open hs).g0 (flat_open hs).o1.view
        refine cb_i _ _ hc ?_
        have hs := hs.quiet hp
        rw [hr.1]
        refine vb_i (neq64 _ _ _) ?_
        refine isB_cf (by simp) ?_
        repeat first
        | ((with_reducible refine vb_i (add64 ?_ ?_) ?_); (· omega); (· omega))
        try rw [hnow]
        refine hk (j + 1, _) _ ⟨⟨by simp only; omega, by simp only; omega, hW', by simp only; omega⟩, _, _, _, _, two_of hs, hr⟩ (by simp only; omega)
      refine vb_i (eql64 _ _ _) ?_
      refine isB_c (fun h7 => ?_) (fun h7 => ?_)
      · obtain ⟨cvs, I, L, E, hc, hs, hr, _⟩ := safe_flat hs hr hW htot
        refine cb_i _ _ hc ?_
        have hW' := safe_ok hW
        have eW : safeW [c] = [[lastS c]] := rfl
        rw [eW] at hr hW'
        have hnow : (lastS c).flatten = (lastS [lastS c]).flatten := rfl
        have hT' : [lastS c].length ≤ 1 + (j + 1) := by simp
        generalize [lastS c] = c' at *
        obtain ⟨E, hc, hp⟩ := read_flat (a := 0) (k := (n : Int)) hs hr hW' (by omega) (by rw [total_single]; omega)
        refine cb_i _ _ hc ?_
        have hs := hs.quiet hp
        obtain ⟨e1, e2⟩ := read_one hW' hn1
        rw [e1, e2]
        refine vb_i e_ext0 ?_
        refine vb_i e_ext1 ?_
        refine vb_i (neqs _ _) ?_
        refine isB_cf (fun h => h hnow.symm) ?_
        refine vb_i (neq64 _ _ _) ?_
        refine isB_cf (by decide) ?_
        obtain ⟨E, hc, hp⟩ := worlds_spec (flat_open hs).g0 (flat_open hs).o1.view
        refine cb_i _ _ hc ?_
        have hs := hs.quiet hp
        rw [hr.1]
        refine vb_i (neq64 _ _ _) ?_
        refine isB_cf (by simp) ?_
        repeat first
        | ((with_reducible refine vb_i (add64 ?_ ?_) ?_); (· omega); (· omega))
        try rw [hnow]
        refine hk (j + 1, _) _ ⟨⟨by simp only; omega, by simp only; omega, hW', by simp only; omega⟩, _, _, _, _, two_of hs, hr⟩ (by simp only; omega)
      · have hW' := hW
        have hnow : (lastS c).flatten = (lastS c).flatten := rfl
        have hT' : c.length ≤ 1 + (j + 1) := by omega
        generalize hcc : c = c' at *
        obtain ⟨E, hc, hp⟩ := read_flat (a := 0) (k := (n : Int)) hs hr hW' (by omega) (by rw [total_single]; omega)
        refine cb_i _ _ hc ?_
        have hs := hs.quiet hp
        obtain ⟨e1, e2⟩ := read_one hW' hn1
        rw [e1, e2]
        refine vb_i e_ext0 ?_
        refine vb_i e_ext1 ?_
        refine vb_i (neqs _ _) ?_
        refine isB_cf (fun h => h hnow.symm) ?_
        refine vb_i (neq64 _ _ _) ?_
        refine isB_cf (by decide) ?_
        obtain ⟨E, hc, hp⟩ := worlds_spec (flat_open hs).g0 (flat_open hs).o1.view
        refine cb_i _ _ hc ?_
        have hs := hs.quiet hp
        rw [hr.1]
        refine vb_i (neq64 _ _ _) ?_
        refine isB_cf (by simp) ?_
        repeat first
        | ((with_reducible refine vb_i (add64 ?_ ?_) ?_); (· omega); (· omega))
        try rw [hnow]
        refine hk (j + 1, _) _ ⟨⟨by simp only; omega, by simp only; omega, hW', by simp only; omega⟩, _, _, _, _, two_of hs, hr⟩ (by simp only; omega)
    · clear hk
      repeat first
      | with_reducible refine onE_i ?_
      try simp only [evB]
      skip
      exact fin_ret (rvs_v (rvs_nil _)) rfl)
  exact ⟨C, h⟩
end
end Go.Sh

/- A copy goes its own way; a nil model has no worlds. -/
namespace Go.Sh
open Go Go.Abs

section
variable {H0 B C : AHeap} {own : Nat → Prop} {R : List Part} {I J : List Nat} {L L1 : List (AVal × Wd)} {W : List Wd} {p x n : Nat} {Cv lv : AVal} {cvs : List AVal}
set_option maxHeartbeats 1000000 in
theorem law_FlatApart {xv yv : AVal} {l l' : List Ac} (t : Ac) (hv : View B xv 5 l.length (flat acC l)) (hv' : View B yv 5 l'.length (flat acC l')) (ht : (AVal.int .i64 t.a).sc = true) : ∃ C, S_cellaretlaw26_FlatApart [xv, yv, .agg (acC t)] B (.bool true) C := by
  obtain ⟨r, C, h, rfl⟩ := cellaretlaw26_FlatApart.out (x0 := xv) (x1 := yv) (x2 := .agg (acC t)) (H := B) (Q := fun r C => r = .bool true) (by
    unfold cellaretlaw26_FlatApart.w
    have hs : Sep B (fun _ => False) B [] := Sep.start B
    refine s_box hs rfl ?_
    intro q C1 _ hs
    simp only [AVal.cells, acC] at hs
    have hdl := t.len
    obtain ⟨p, lv, cv, I, C2, hc, hp, hk⟩ := new_good (B := C1) (n := 3) (by omega) (by omega)
    refine cb_i _ _ hc ?_
    have hs := Sep.call (R1 := []) hs (hk.own_of fun _ h => h.elim)
    have hs : Sep B (fun _ => False) C2 [flP p 3 lv [cv], frozP I [(cv, [List.replicate 3 (zs 48)])], .obj q (.cells 0 .exact [.int .i64 t.k, .int .i64 t.a, .int .i64 t.m, ofByte t.c, .bool t.o])] := hs
    clear hc hp hk
    refine vb_i e_ext0 ?_
    refine vb_i e_ext1 ?_
    obtain ⟨x, Cv, I, L, C3, hc, hs, hm, hL⟩ := ref_new hs.f1 (n := 3) (by omega)
    have hr := (row_one (cv := cv) (c := [List.replicate 3 (zs 48)])).mono hL
    refine cb_i _ _ hc ?_
    obtain ⟨C', hc, hp⟩ := awake_spec (B := C3)
    refine JoinP.mk (fun e vs E => e = .normal ∧ C' = E) ?_ ?_
    · refine vb_i (neq64 _ _ _) ?_
      refine isB_cf (by decide) ?_
      refine vb_i (e_ptrNil _ _) ?_
      refine isB_Fa rfl ?_
      refine cb_i _ _ hc ?_
      refine vb_i (e_not _) ?_
      refine isB_Fa rfl ?_
      exact ⟨rfl, rfl⟩
    rintro _ _ _ ⟨rfl, rfl⟩
    rw [onE_same]
    have hs := (hs.quiet hp).f2
    clear hc hp
    have h1 : okAll 3 (newW 3) := new_ok
    have h2 := total_new 3
    have hr : rowOf L [cv] (newW 3) := hr
    generalize newW 3 = W0 at *
    generalize [cv] = cvs0 at *
    refine LoopP.ruleG (α := Nat × List Wd) (fun q => [.int .i64 (q.1 : Int)]) (fun w D => (w.1 ≤ l.length ∧ w.1 ≤ 20 ∧ okAll 3 w.2 ∧ total w.2 ≤ 2 ^ w.1) ∧ PairAt B (fun _ => False) [.obj q (.cells 0 .exact [.int .i64 t.k, .int .i64 t.a, .int .i64 t.m, ofByte t.c, .bool t.o])] p x 3 [] w.2 D) (fun q => 20 - q.1) (0, W0) (by simp)
      ⟨⟨Nat.zero_le _, Nat.zero_le _, h1, by rw [h2]; exact Nat.one_le_two_pow⟩, lv, cvs0, Cv, I, L, hs, hr, hm, fun _ h => by cases h⟩ ?_
    clear hs hr hm hL h1 h2
    rintro ⟨j, W⟩ D Kn ⟨⟨hj1, hj2, hW, hT⟩, lv, cvs, Cv, I, L, hs, hr, hm, _⟩ hk
    simp only at hj1 hj2 hW hT hs hr hm hk
    unfold cellaretlaw26_FlatApart.L6 cellaretlaw26_FlatApart.L6.b
    try simp only [evB]
    have hvD := hs.view hv (fun _ _ h => h)
    have hpow : total W ≤ 1048576 := Nat.le_trans hT (Nat.le_trans (Nat.pow_le_pow_right (by decide) hj2) (by decide))
    refine JoinP.mk (fun e vs E => D = E ∧ ((e = .normal ∧ j < l.length ∧ j < 20) ∨ (e = .exit 0))) ?_ ?_
    · refine vb_len hvD ?_
      refine vb_i (lss64 _ _ _) ?_
      refine isB_c (fun h4 => ?_) (fun h4 => ?_)
      · refine vb_i (lss64 _ _ _) ?_
        refine isB_c (fun h5 => ?_) (fun h5 => ?_)
        · exact ⟨rfl, .inl ⟨rfl, by omega, by omega⟩⟩
        · exact ⟨rfl, .inr rfl⟩
      · exact ⟨rfl, .inr rfl⟩
    rintro _ _ _ ⟨rfl, ⟨rfl, h4, h5⟩ | rfl⟩
    · have hb := List.getElem?_eq_getElem h4
      generalize l[j] = u at hb
      refine onE_s (by decide) ?_
      refine onE_i ?_
      refine vb_addrN hvD (by omega) ?_
      refine vb_elN hvD (fun _ => rfl) hb ?_
      obtain ⟨E, hc, hP⟩ := do_spec u hs hr hm hW (by omega) (by omega) (by omega)
      refine cb_i _ _ hc ?_
      obtain ⟨hW2, hT2⟩ := do_ok u hW
      obtain ⟨lv, cvs, Cv, I, L, hs, hr, hm, _⟩ := hP
      generalize doW 3 W u = W2 at *
      repeat first
      | ((with_reducible refine vb_i (add64 ?_ ?_) ?_); (· omega); (· omega))
      refine hk (j + 1, W2) _ ⟨⟨by simp only; omega, by simp only; omega, hW2, ?_⟩, lv, cvs, Cv, I, L, hs, hr, hm, fun _ h => (by cases h)⟩ (by simp only; omega)
      simp only
      rw [Nat.pow_succ]
      omega
    clear hk hvD
    refine onE_i ?_
    try simp only [evB]
    repeat first
    | with_reducible refine onE_i ?_
    obtain ⟨p2, lv2, E, hc, hp, hk⟩ := copy_flat (hs.f2.f1) hr hW (by omega)
    refine cb_i _ _ hc ?_
    have hs := Sep.call01 hs (hk.own_of fun _ h => h.elim)
    clear hc hp hk
    have hCsc : Cv.sc = true := (hs.tail.tail.tail.head.2 _ hm).sc
    refine vb_i (e_nilCheck _) ?_
    refine vb_i (e_fieldAddr _ _) ?_
    refine vb_ld (x := Cv) hs.g2 rfl ?_
    refine vb_bld (fill_nv hCsc) ?_
    refine s_box hs rfl ?_
    intro y E2 _ hs
    simp only [AVal.cells] at hs
    have hs := hs.f4.f4.f4
    refine LoopP.ruleG (α := Nat × List Wd × List Wd) (fun q => [.int .i64 (q.1 : Int)]) (fun w D => (w.1 ≤ l'.length ∧ w.1 ≤ 20 ∧ okAll 3 w.2.1 ∧ total w.2.1 ≤ 2 ^ (20 + w.1) ∧ okAll 3 w.2.2 ∧ total w.2.2 ≤ 2 ^ (20 + w.1)) ∧ ∃ lv cvs Cv lv2 cvs2 Cv2 I L,
      Sep B (fun _ => False) D [flP p 3 lv cvs, .obj x (.cells 0 .exact [.int .i64 (3 : Nat), Cv]), frozP I L, .obj y (.cells 0 .exact [.int .i64 (3 : Nat), Cv2]), flP p2 3 lv2 cvs2, .obj q (.cells 0 .exact [.int .i64 t.k, .int .i64 t.a, .int .i64 t.m, ofByte t.c, .bool t.o])] ∧
      rowOf L cvs w.2.1 ∧ (Cv, flatW w.2.1) ∈ L ∧ rowOf L cvs2 w.2.2 ∧ (Cv2, flatW w.2.2) ∈ L) (fun q => 20 - q.1) (0, W, W) (by simp)
      ⟨⟨Nat.zero_le _, Nat.zero_le _, hW, hpow, hW, hpow⟩, lv, cvs, Cv, lv2, cvs, Cv, I, L, hs, hr, hm, hr, hm⟩ ?_
    clear hs hr hm hW hT hpow hj1 hj2 hCsc
    rintro ⟨j, W, W2⟩ D Kn ⟨⟨hj1, hj2, hW, hT, hW2, hT2⟩, lv, cvs, Cv, lv2, cvs2, Cv2, I, L, hs, hr, hm, hr2, hm2⟩ hk
    simp only at hj1 hj2 hW hT hW2 hT2 hs hr hm hr2 hm2 hk
    unfold cellaretlaw26_FlatApart.L12 cellaretlaw26_FlatApart.L12.b
    try simp only [evB]
    have hvD := hs.view hv' (fun _ _ h => h)
    have hpow : 2 ^ (20 + j) ≤ 1099511627776 := Nat.le_trans (Nat.pow_le_pow_right (by decide) (show 20 + j ≤ 40 by omega)) (by decide)
    refine JoinP.mk (fun e vs E => D = E ∧ ((e = .normal ∧ j < l'.length ∧ j < 20) ∨ (e = .exit 2))) ?_ ?_
    · refine vb_len hvD ?_
      refine vb_i (lss64 _ _ _) ?_
      refine isB_c (fun h4 => ?_) (fun h4 => ?_)
      · refine vb_i (lss64 _ _ _) ?_
        refine isB_c (fun h5 => ?_) (fun h5 => ?_)
        · exact ⟨rfl, .inl ⟨rfl, by omega, by omega⟩⟩
        · exact ⟨rfl, .inr rfl⟩
      · exact ⟨rfl, .inr rfl⟩
    rintro _ _ _ ⟨rfl, ⟨rfl, h4, h5⟩ | rfl⟩
    · have hb := List.getElem?_eq_getElem h4
      generalize l'[j] = u at hb
      have hps : 2 ^ (20 + (j + 1)) = 2 ^ (20 + j) * 2 := Nat.pow_succ _ _
      refine onE_s (by decide) ?_
      refine onE_i ?_
      refine vb_i (rem64 (by omega) (by decide)) ?_
      refine vb_i (eql64 _ _ _) ?_
      refine isB_c (fun h6 => ?_) (fun h6 => ?_)
      · refine vb_addrN hvD (by omega) ?_
        refine vb_elN hvD (fun _ => rfl) hb ?_
        obtain ⟨E, hc, hP⟩ := do_spec u hs.f4.f4.f4.b2.f1 hr2 hm2 hW2 (by omega) (by omega) (by omega)
        refine cb_i _ _ hc ?_
        obtain ⟨hWn, hTn⟩ := do_ok u hW2
        obtain ⟨lv2, cvs2, Cv2, I, L', hs, hr2, hm2, hL⟩ := hP
        generalize doW 3 W2 u = Wn at *
        refine vb_i (e_not _) ?_
        refine isB_Fa rfl ?_
        refine vb_i (rem64 (by omega) (by decide)) ?_
        refine vb_i (eql64 _ _ _) ?_
        refine isB_cf (by omega) ?_
        repeat first
        | ((with_reducible refine vb_i (add64 ?_ ?_) ?_); (· omega); (· omega))
        exact hk (j + 1, W, Wn) _ ⟨⟨by simp only; omega, by simp only; omega, hW, by simp only; omega, hWn, by simp only; omega⟩, lv, cvs, Cv, lv2, cvs2, Cv2, I, L', hs.b4.b3.b2, hr.mono hL, hL _ hm, hr2, hm2⟩ (by simp only; omega)
      · refine vb_i (rem64 (by omega) (by decide)) ?_
        refine vb_i (eql64 _ _ _) ?_
        refine isB_ct (by omega) ?_
        refine vb_addrN hvD (by omega) ?_
        refine vb_elN hvD (fun _ => rfl) hb ?_
        obtain ⟨E, hc, hP⟩ := do_spec u hs hr hm hW (by omega) (by omega) (by omega)
        refine cb_i _ _ hc ?_
        obtain ⟨hWn, hTn⟩ := do_ok u hW
        obtain ⟨lv, cvs, Cv, I, L', hs, hr, hm, hL⟩ := hP
        generalize doW 3 W u = Wn at *
        refine vb_i (e_not _) ?_
        refine isB_Fa rfl ?_
        repeat first
        | ((with_reducible refine vb_i (add64 ?_ ?_) ?_); (· omega); (· omega))
        exact hk (j + 1, Wn, W2) _ ⟨⟨by simp only; omega, by simp only; omega, hWn, by simp only; omega, hW2, by simp only; omega⟩, lv, cvs, Cv, lv2, cvs2, Cv2, I, L', hs, hr, hm, hr2.mono hL, hL _ hm2⟩ (by simp only; omega)
    clear hk hvD
    have hl1 := total_len hW
    have hl2 := total_len hW2
    refine onE_i ?_
    try simp only [evB]
    refine onE_i ?_
    refine vb_i (e_fieldAddr _ _) ?_
    refine vb_ld (x := .int .i64 t.a) hs.g5 rfl ?_
    refine vb_i (e_fieldAddr _ _) ?_
    refine vb_ld (x := .int .i64 t.m) hs.g5 rfl ?_
    obtain ⟨E, hc, hp⟩ := read_nil (B := D) (a := .int .i64 t.a) (k := .int .i64 t.m)
    refine cb_i _ _ hc ?_
    have hs := hs.quiet hp
    refine vb_i e_ext0 ?_
    refine vb_i e_ext1 ?_
    obtain ⟨E, hc, hp⟩ := safe_nil (B := E)
    refine cb_i _ _ hc ?_
    have hs := hs.quiet hp
    obtain ⟨E, hc, hp⟩ := crash_nil' (B := E)
    refine cb_i _ _ hc ?_
    have hs := hs.quiet hp
    obtain ⟨E, hc, hp⟩ := states_spec (hs.f2.f1) hr (by omega) (by omega)
    refine cb_i _ _ hc ?_
    have hs := hs.quiet hp
    obtain ⟨E, hc, hp⟩ := ref_states (hs.f1.f2.f1) hm hW (by omega)
    refine cb_i _ _ hc ?_
    have hs := hs.quiet hp
    refine vb_i (eql64 _ _ _) ?_
    refine isB_ct rfl ?_
    obtain ⟨E, hc, hp⟩ := states_spec (hs.f2.f4) hr2 (by omega) (by omega)
    refine cb_i _ _ hc ?_
    have hs := hs.quiet hp
    obtain ⟨E, hc, hp⟩ := ref_states (hs.f2.f3) hm2 hW2 (by omega)
    refine cb_i _ _ hc ?_
    have hs := hs.quiet hp
    refine vb_i (eql64 _ _ _) ?_
    refine isB_ct rfl ?_
    refine vb_i (eqls _ _) ?_
    refine isB_Tr (by simp) ?_
    refine vb_i (eql64 _ _ _) ?_
    refine isB_ct rfl ?_
    refine vb_i (e_fieldAddr _ _) ?_
    refine vb_ld (x := .int .i64 t.a) hs.g5 rfl ?_
    refine vb_ldA hs.g5 rfl ?_
    obtain ⟨E, hc, hp⟩ := data_at (B := E) t
    refine cb_i _ _ hc ?_
    have hs := hs.quiet hp
    obtain ⟨E, hc, hp⟩ := write_nil (B := E) (a := .int .i64 t.a) (d := t.data) (by omega) ht
    refine cb_i _ _ hc ?_
    have hs := hs.quiet hp
    refine vb_i (eql64 _ _ _) ?_
    refine isB_ct rfl ?_
    refine vb_i (e_fieldAddr _ _) ?_
    refine vb_ld (x := .int .i64 t.a) hs.g5 rfl ?_
    refine vb_i (e_fieldAddr _ _) ?_
    refine vb_ld (x := .int .i64 t.m) hs.g5 rfl ?_
    obtain ⟨E, hc, hp⟩ := disc_nil (B := E) (a := .int .i64 t.a) (k := .int .i64 t.m)
    refine cb_i _ _ hc ?_
    have hs := hs.quiet hp
    refine vb_i (eql64 _ _ _) ?_
    refine isB_ct rfl ?_
    refine vb_i (e_fieldAddr _ _) ?_
    refine vb_ld (x := .int .i64 t.a) hs.g5 rfl ?_
    refine vb_ldA hs.g5 rfl ?_
    obtain ⟨E, hc, hp⟩ := data_at (B := E) t
    refine cb_i _ _ hc ?_
    have hs := hs.quiet hp
    obtain ⟨E, hc, hp⟩ := saw_nil (B := E) (a := .int .i64 t.a) (d := t.data) (by omega)
    refine cb_i _ _ hc ?_
    refine vb_i (e_not _) ?_
    refine isB_Tr rfl ?_
    obtain ⟨E, hc, hp⟩ := worlds_nil (B := E)
    refine cb_i _ _ hc ?_
    obtain ⟨E, hc, hp⟩ := states_nil (B := E)
    refine cb_i _ _ hc ?_
    refine vb_i (add64 (by decide) (by decide)) ?_
    refine vb_i (eql64 _ _ _) ?_
    refine isB_ct (by decide) ?_
    obtain ⟨E, hc, hp⟩ := copy_nil' (B := E)
    refine cb_i _ _ hc ?_
    refine vb_i (e_nilNil _) ?_
    exact fin_ret (rvs_v (rvs_nil _)) rfl)
  exact ⟨C, h⟩
end
end Go.Sh

/- Behind a crash each state since the last Safe may be, and no other one. -/
namespace Go.Sh
open Go Go.Abs

theorem addS_nodup {out : List St} (h : out.Nodup) (s : St) : (addS out s).Nodup := by
  unfold addS
  split
  · exact h
  · rename_i hs
    rw [List.nodup_append]
    refine ⟨h, by simp, fun a ha b hb e => ?_⟩
    rw [List.mem_singleton] at hb
    subst hb; subst e
    exact hs ha
theorem crashL_nodup : ∀ (l out : List St), out.Nodup → (crashL out l).Nodup
  | [], _, h => h
  | s :: l, out, h => crashL_nodup l (addS out s) (addS_nodup h s)
theorem uniq_len : ∀ (acc : List St), acc.Nodup → (∀ s ∈ acc, ∀ t ∈ acc, s.flatten = t.flatten → s = t) → ∀ s ∈ acc, (acc.filter fun t => decide (t.flatten = s.flatten)).length = 1
  | [], _, _, _, h => by cases h
  | a :: l, hn, inj, s, hs => by
    obtain ⟨hal, hl⟩ := List.nodup_cons.1 hn
    by_cases e : s = a
    · subst e
      have hnil : (l.filter fun t => decide (t.flatten = s.flatten)) = [] := by
        rw [List.filter_eq_nil_iff]
        intro t ht h
        have := inj t (List.mem_cons_of_mem _ ht) s List.mem_cons_self (of_decide_eq_true h)
        subst this
        exact hal ht
      rw [List.filter_cons_of_pos (by simp), hnil]
      rfl
    · have hs' : s ∈ l := (List.mem_cons.1 hs).resolve_left e
      rw [List.filter_cons_of_neg (by
        intro h
        exact e (inj a List.mem_cons_self s hs (of_decide_eq_true h)).symm)]
      exact uniq_len l hl (fun s h1 t h2 => inj s (List.mem_cons_of_mem _ h1) t (List.mem_cons_of_mem _ h2)) s hs'
theorem data_whole {n : Nat} {d : List UInt8} (h1 : 1 ≤ n) (hd : d.length = 48 * n) : dataE n 0 d = 0 := by
  unfold dataE mayE
  rw [if_neg (by omega), if_neg (by omega), if_neg (by omega)]
theorem crash_one (c : Wd) : crashW [c] = (crashL [] c).map oneW := by
  unfold crashW
  rw [show [c].flatten = c by simp]
theorem saw_crash' {n : Nat} {c : Wd} {d : List UInt8} (hW : okAll n [c]) (hd : d.length = 48 * n) : sawW (crashW [c]) 0 d = ((crashL [] c).filter fun s => decide (s.flatten = d)).map oneW := by
  have hoks := crashL_oks (hW.2 c List.mem_cons_self).2
  rw [crash_one]
  unfold sawW
  rw [List.filter_map]
  congr 1
  refine List.filter_congr fun s hs => ?_
  have hl := (hoks s hs).1
  show decide (partS (lastS [s]) 0 (d.length / 48) = d) = _
  have e : partS (lastS [s]) 0 (d.length / 48) = s.flatten := by
    show ((s.take (0 + d.length / 48)).drop 0).flatten = s.flatten
    rw [List.drop_zero, List.take_of_length_le (by omega)]
  rw [e]
theorem saw_crash {n : Nat} {c : Wd} {d : List UInt8} (hW : okAll n [c]) (h1 : 1 ≤ n) (hd : d.length = 48 * n) : sawE n (crashW [c]) 0 d = decide (d ∈ c.map List.flatten) := by
  have h0 := data_whole h1 hd
  refine decide_eq_decide.2 ⟨fun ⟨_, h⟩ => ?_, fun h => ⟨h0, fun e => ?_⟩⟩
  · have h : sawW (crashW [c]) 0 d ≠ [] := h
    rw [saw_crash' hW hd] at h
    obtain ⟨s, hs⟩ := List.exists_mem_of_ne_nil _ (fun e => h (by rw [e]; rfl) : ((crashL [] c).filter fun s => decide (s.flatten = d)) ≠ [])
    obtain ⟨h2, h3⟩ := List.mem_filter.1 hs
    refine List.mem_map.2 ⟨s, (crashL_mem.1 h2).resolve_left (by simp), of_decide_eq_true h3⟩
  · have e : sawW (crashW [c]) 0 d = [] := e
    rw [saw_crash' hW hd, List.map_eq_nil_iff, List.filter_eq_nil_iff] at e
    obtain ⟨s, h2, h3⟩ := List.mem_map.1 h
    exact e s (crashL_mem.2 (.inr h2)) (decide_eq_true h3)
theorem saw_len {n : Nat} {c : Wd} {d : List UInt8} (hW : okAll n [c]) (h1 : 1 ≤ n) (hd : d.length = 48 * n) (hm : d ∈ c.map List.flatten) : (sawN n (crashW [c]) 0 d).length = 1 := by
  have h0 := data_whole h1 hd
  have hoks := (hW.2 c List.mem_cons_self).2
  have hok2 := crashL_oks hoks
  obtain ⟨s, h2, rfl⟩ := List.mem_map.1 hm
  have hl : (sawW (crashW [c]) 0 s.flatten).length = 1 := by
    rw [saw_crash' hW hd, List.length_map]
    exact uniq_len _ (crashL_nodup _ _ List.nodup_nil) (fun s hs t ht e => st_inj (hok2 s hs) (hok2 t ht) e) s (crashL_mem.2 (.inr h2))
  have e : sawN n (crashW [c]) 0 s.flatten = sawW (crashW [c]) 0 s.flatten := by
    unfold sawN sawR
    rw [if_pos h0]
    show (if sawW (crashW [c]) 0 s.flatten = [] then _ else _) = _
    rw [if_neg (fun e => by rw [e] at hl; cases hl)]
    rfl
  rw [e]
  exact hl
section
variable {H0 B C : AHeap} {own : Nat → Prop} {R : List Part} {I J : List Nat} {L L1 : List (AVal × Wd)} {W : List Wd} {p x n : Nat} {Cv lv : AVal} {cvs : List AVal}
set_option maxHeartbeats 1000000 in
theorem law_FlatAll {Lv Ov : AVal} {m pk : Int} {l : List Ac} {o : List UInt8} (h0 : 0 ≤ m) (h255 : m < 256) (hp0 : 0 ≤ pk) (hp255 : pk < 256) (hv : View B Lv 5 l.length (flat acC l)) (ho : View B Ov 1 o.length (o.map ofByte)) (hol : o.length ≤ 9223372036854775807) :
    ∃ C, S_cellaretlaw26_FlatAll [.agg [.int .u8 m, Lv, .int .u8 pk, Ov]] B (.bool true) C := by
  obtain ⟨r, C, h, rfl⟩ := cellaretlaw26_FlatAll.out (x0 := .agg [.int .u8 m, Lv, .int .u8 pk, Ov]) (H := B) (Q := fun r C => r = .bool true) (by
    unfold cellaretlaw26_FlatAll.w
    have hs : Sep B (fun _ => False) B [] := Sep.start B
    refine s_box hs rfl ?_
    intro q C1 _ hs
    simp only [AVal.cells] at hs
    refine vb_i (e_fieldAddr _ _) ?_
    refine vb_ld (x := .int .u8 m) hs.g0 rfl ?_
    refine vb_i (e_fieldAddr _ _) ?_
    refine vb_ld (x := Lv) hs.g0 rfl ?_
    refine vb_i (e_fieldAddr _ _) ?_
    refine vb_ld (x := .int .u8 pk) hs.g0 rfl ?_
    refine vb_i (e_fieldAddr _ _) ?_
    refine vb_ld (x := Ov) hs.g0 rfl ?_
    have hs := hs.tail
    refine vb_i (rem8 h0 (by decide)) ?_
    refine vb_i (int_u8 (by omega) (by omega)) ?_
    refine vb_i (add64 (by omega) (by omega)) ?_
    obtain ⟨n, hn⟩ : ∃ n : Nat, m % 5 + 1 = n := ⟨(m % 5 + 1).toNat, by omega⟩
    have hn1 : 1 ≤ n := by omega
    have hn64 : n ≤ 64 := by omega
    rw [hn]
    clear hn h0 h255
    obtain ⟨p, lv, cv, I, C2, hc, hp, hk⟩ := new_good (B := C1) (n := n) (by omega) (by omega)
    refine cb_i _ _ hc ?_
    have hs := Sep.call (R1 := []) hs (hk.own_of fun _ h => h.elim)
    have hs : Sep B (fun _ => False) C2 [flP p n lv [cv], frozP I [(cv, [List.replicate n (zs 48)])]] := hs
    clear hc hp hk
    refine vb_i e_ext0 ?_
    refine vb_i e_ext1 ?_
    obtain ⟨C', hc, hp⟩ := awake_spec (B := C2)
    refine JoinP.mk (fun e vs E => e = .normal ∧ vs = [.bool false] ∧ C' = E) ?_ ?_
    · refine vb_i (neq64 _ _ _) ?_
      refine isB_cf (by decide) ?_
      refine vb_i (e_ptrNil _ _) ?_
      refine isB_Fa rfl ?_
      refine cb_i _ _ hc ?_
      refine vb_i (e_not _) ?_
      refine isB_Fa rfl ?_
      exact ⟨rfl, rfl, rfl⟩
    rintro _ _ _ ⟨rfl, rfl, rfl⟩
    rw [onE_same]
    have hs := hs.quiet hp
    clear hc hp
    refine vb_i (mul64 (by omega) (by omega)) ?_
    refine cb_i _ _ ⟨48 * n, by congr 2, by omega, rfl, rfl⟩ ?_
    have ez : zs (48 * n) = (lastS [List.replicate n (zs 48)]).flatten := by
      have := new_flatW n
      simp only [flatW, newW, List.map_cons, List.map_nil, List.cons.injEq, and_true] at this
      exact this.symm
    rw [ez]
    refine s_row hs (cs := strs ([List.replicate n (zs 48)].map List.flatten)) (by rfl) ?_
    intro i1 D3 hp3 hs
    have hs := s_own hs (n := 1) (es := 1) rfl
    generalize AVal.slice ⟨i1, 0, 0⟩ 1 (.ex 1) = av0 at *
    refine LoopP.ruleG (α := Nat × AVal × Wd) (fun q => [.str (lastS q.2.2).flatten, q.2.1, .int .i64 (q.1 : Int)]) (fun w D => (w.1 ≤ l.length ∧ w.1 ≤ 25 ∧ okAll n [w.2.2] ∧ w.2.2.length ≤ 1 + w.1) ∧ ∃ lv cvs I L, Sep B (fun _ => False) D [flP p n lv cvs, frozP I L, .sl w.2.1 1 w.2.2.length (strs (w.2.2.map List.flatten))] ∧ rowOf L cvs [w.2.2]) (fun q => 25 - q.1) (0, av0, [List.replicate n (zs 48)]) (by simp)
      ⟨⟨Nat.zero_le _, Nat.zero_le _, new_ok, by simp⟩, lv, [cv], I, _, hs.b2, row_one⟩ ?_
    clear hs ez
    rintro ⟨j, av, c⟩ D Kn ⟨⟨hj1, hj2, hW, hT⟩, lv, cvs, I, L, hs, hr⟩ hk
    simp only at hj1 hj2 hW hT hs hr hk
    unfold cellaretlaw26_FlatAll.L9 cellaretlaw26_FlatAll.L9.b
    try simp only [evB]
    have hvD := hs.view hv (fun _ _ h => h)
    obtain ⟨hne, hok⟩ := hW.2 c List.mem_cons_self
    have hlast := hok _ (last_mem' hne)
    have hfl := flat48 hlast.2
    rw [hlast.1] at hfl
    have htot : total [c] ≤ 1099511627776 := by rw [total_single]; omega
    refine JoinP.mk (fun e vs E => D = E ∧ ((e = .normal ∧ j < l.length ∧ j < 25) ∨ (e = .exit 0))) ?_ ?_
    · refine vb_len hvD ?_
      refine vb_i (lss64 _ _ _) ?_
      refine isB_c (fun h4 => ?_) (fun h4 => ?_)
      · refine vb_i (lss64 _ _ _) ?_
        refine isB_c (fun h5 => ?_) (fun h5 => ?_)
        · exact ⟨rfl, .inl ⟨rfl, by omega, by omega⟩⟩
        · exact ⟨rfl, .inr rfl⟩
      · exact ⟨rfl, .inr rfl⟩
    rintro _ _ _ ⟨rfl, ⟨rfl, h4, h5⟩ | rfl⟩
    · have hb := List.getElem?_eq_getElem h4
      generalize l[j] = t at hb
      have hdl := t.len
      refine onE_s (by decide) ?_
      refine onE_i ?_
      refine vb_addrN hvD (by omega) ?_
      refine vb_elN hvD (fun _ => rfl) hb ?_
      refine s_alloc hs ?_
      intro q D1 _ hs
      refine s_storeA hs rfl rfl rfl (by rfl) ?_
      intro D2 hs
      refine vb_ldA hs.g0 rfl ?_
      obtain ⟨D3, hc, hp⟩ := data_at (B := D2) t
      refine cb_i _ _ hc ?_
      have hs := (hs.quiet hp).b3
      clear hc hp
      simp only [acC] at hs
      refine JoinP.mk (fun e vs E => e = .normal ∧ ∃ av' c' lv cvs I L, vs = [.str (lastS c').flatten, av'] ∧ (okAll n [c'] ∧ c'.length ≤ 1 + (j + 1)) ∧
        Sep B (fun _ => False) E [flP p n lv cvs, frozP I L, .sl av' 1 c'.length (strs (c'.map List.flatten)), .obj q (.cells 0 .exact [.int .i64 t.k, .int .i64 t.a, .int .i64 t.m, ofByte t.c, .bool t.o])] ∧ rowOf L cvs [c']) ?_ ?_
      · have same : ∀ E, Sep B (fun _ => False) E [flP p n lv cvs, frozP I L, .sl av 1 c.length (strs (c.map List.flatten)), .obj q (.cells 0 .exact [.int .i64 t.k, .int .i64 t.a, .int .i64 t.m, ofByte t.c, .bool t.o])] → AExit.normal = AExit.normal ∧ ∃ av' c' lv cvs I L, [AVal.str (lastS c).flatten, av] = [.str (lastS c').flatten, av'] ∧ (okAll n [c'] ∧ c'.length ≤ 1 + (j + 1)) ∧
            Sep B (fun _ => False) E [flP p n lv cvs, frozP I L, .sl av' 1 c'.length (strs (c'.map List.flatten)), .obj q (.cells 0 .exact [.int .i64 t.k, .int .i64 t.a, .int .i64 t.m, ofByte t.c, .bool t.o])] ∧ rowOf L cvs [c'] := fun E hs => ⟨rfl, av, c, lv, cvs, I, L, rfl, ⟨hW, by omega⟩, hs, hr⟩
        refine vb_i (e_fieldAddr _ _) ?_
        refine vb_ld (x := .int .i64 t.k) hs.g3 rfl ?_
        refine vb_i (geq64 _ _ _) ?_
        refine isB_c (fun h1 => ?_) (fun h1 => ?_)
        · refine vb_i (e_fieldAddr _ _) ?_
          refine vb_ld (x := .int .i64 t.k) hs.g3 rfl ?_
          refine vb_i (lss64 _ _ _) ?_
          refine isB_c (fun h2 => ?_) (fun h2 => ?_)
          · refine vb_i (e_fieldAddr _ _) ?_
            refine vb_ld (x := .int .i64 t.a) hs.g3 rfl ?_
            obtain ⟨cvs, I, L, E, hc, hs, hr2, _⟩ := write_flat (a := t.a) (d := t.data) hs hr hW (by omega) (by omega) htot (by omega)
            refine cb_i _ _ hc ?_
            refine vb_i (eql64 _ _ _) ?_
            refine isB_c (fun h3 => ?_) (fun h3 => ?_)
            · rw [if_pos h3] at hr2
              obtain ⟨hd48, hd1, ha0, han⟩ := data_zero h3
              have hW' := write_ok (d := t.data) hW han
              have eW : writeW [c] t.a.toNat t.data = [c ++ [withS (lastS c) t.a.toNat t.data]] := rfl
              rw [eW] at hr2 hW'
              have hwf := with_flat (a := t.a.toNat) (d := t.data) hlast hd48
              refine vb_i (e_fieldAddr _ _) ?_
              refine vb_ld (x := .int .i64 t.a) hs.g3 rfl ?_
              refine vb_i (mul64 (by omega) (by omega)) ?_
              refine vb_i (e_sliceStrTo (by omega) (by omega)) ?_
              rw [show (48 * t.a).toNat = 48 * t.a.toNat by omega]
              refine vb_i (adds (by rw [List.length_take]; omega)) ?_
              refine vb_i (e_fieldAddr _ _) ?_
              refine vb_ld (x := .int .i64 t.a) hs.g3 rfl ?_
              refine vb_i (mul64 (by omega) (by omega)) ?_
              refine vb_i (e_lenSt _) ?_
              refine vb_i (add64 (by omega) (by omega)) ?_
              refine vb_i (e_sliceStrFrom (by omega) (by omega)) ?_
              rw [show (48 * t.a + (t.data.length : Int)).toNat = 48 * t.a.toNat + t.data.length by omega]
              refine vb_i (adds (by rw [List.length_append, List.length_take, List.length_drop]; omega)) ?_
              rw [← hwf]
              generalize withS (lastS c) t.a.toNat t.data = s' at *
              refine s_push (m := 1) (xs := [.str s'.flatten]) hs.f2 (by rfl) (by decide) rfl rfl (by unfold room; omega) (by unfold room; omega) ?_
              intro av' E2 hs
              have e1 : strs (c.map List.flatten) ++ [.str s'.flatten] = strs ((c ++ [s']).map List.flatten) := by simp [strs]
              have e2 : c.length + 1 = (c ++ [s']).length := by simp
              rw [e1, e2] at hs
              exact ⟨rfl, av', c ++ [s'], _, _, _, _, by rw [last_app], ⟨hW', by simp; omega⟩, hs.b2, hr2⟩
            · rw [if_neg h3] at hr2
              exact ⟨rfl, av, c, _, _, _, _, rfl, ⟨hW, by omega⟩, hs, hr2⟩
          · exact same _ hs
        · exact same _ hs
      clear hs hr hW hT hvD hne hok hlast hfl htot
      rintro _ _ E ⟨rfl, av, c, lv, cvs, I, L, rfl, ⟨hW, hT⟩, hs, hr⟩
      rw [onE_same]
      try simp only [evB]
      refine vb_i (e_fieldAddr _ _) ?_
      refine vb_ld (x := .int .i64 t.k) hs.g3 rfl ?_
      refine vb_i (eql64 _ _ _) ?_
      refine isB_c (fun h1 => ?_) (fun h1 => ?_)
      · obtain ⟨cvs, I, L, E2, hc, hs, hr, _⟩ := safe_flat hs hr hW (by rw [total_single]; omega)
        refine cb_i _ _ hc ?_
        have hW' := safe_ok hW
        have eW : safeW [c] = [[lastS c]] := rfl
        rw [eW] at hr hW'
        refine s_row hs (cs := strs ([lastS c].map List.flatten)) (by rfl) ?_
        intro i1 E3 hp3 hs
        have hs := s_own hs (n := 1) (es := 1) rfl
        generalize AVal.slice ⟨i1, 0, 0⟩ 1 (.ex 1) = av' at *
        refine vb_i (add64 (by omega) (by omega)) ?_
        have := hk (j + 1, av', [lastS c]) _ ⟨⟨by simp only; omega, by simp only; omega, hW', by simp⟩, _, _, _, _, Sep.drop (R1 := [_, _, _]) hs.b2, hr⟩ (by simp only; omega)
        exact this
      · refine vb_i (add64 (by omega) (by omega)) ?_
        exact hk (j + 1, av, c) _ ⟨⟨by simp only; omega, by simp only; omega, hW, by simp only; omega⟩, _, _, _, _, Sep.drop (R1 := [_, _, _]) hs, hr⟩ (by simp only; omega)
    clear hk hvD
    refine onE_i ?_
    try simp only [evB]
    refine onE_i ?_
    obtain ⟨lv, cvs, I, L, E, hc, hs, hr, _⟩ := crash_flat hs hr hW (by omega) htot
    refine cb_i _ _ hc ?_
    have hWc := crash_ok hW
    have hTc := total_crash [c]
    obtain ⟨p2, lv2, E2, hc, hp, hk2⟩ := copy_flat hs hr hWc (by omega)
    refine cb_i _ _ hc ?_
    have hs := Sep.call01 hs (hk2.own_of fun _ h => h.elim)
    clear hc hp hk2
    have hclen := List.length_pos_iff.2 hne
    obtain ⟨pi, hpi⟩ : ∃ pi : Nat, pk % (c.length : Int) = pi := ⟨(pk % (c.length : Int)).toNat, by have := Int.emod_nonneg pk (show (c.length : Int) ≠ 0 by omega); omega⟩
    have hpl : pi < c.length := by have := Int.emod_lt_of_pos pk (show (0 : Int) < c.length by omega); omega
    have hbp := List.getElem?_eq_getElem hpl
    have hmp := List.getElem_mem hpl
    generalize c[pi] = s at hbp hmp
    have hss := hok s hmp
    have hfs := flat48 hss.2
    rw [hss.1] at hfs
    have hxs : (strs (c.map List.flatten))[pi]? = some (.str s.flatten) := by
      unfold strs
      rw [List.getElem?_map, List.getElem?_map, hbp]
      rfl
    have hsm : s.flatten ∈ c.map List.flatten := List.mem_map.2 ⟨s, hmp, rfl⟩
    refine JoinP.mk (fun e vs D => e = .normal ∧ ∃ lv cvs', Sep B (fun _ => False) D [flP p n lv cvs', frozP I L, flP p2 n lv2 cvs, .sl av 1 c.length (strs (c.map List.flatten))]) ?_ ?_
    · refine vb_i (int_u8 hp0 hp255) ?_
      refine vb_len hs.o3.view ?_
      refine vb_i (rem64 hp0 (by omega)) ?_
      rw [hpi]
      refine vb_addrN hs.o3.view hpl ?_
      refine vb_el0 hs.o3.view hxs ?_
      obtain ⟨lv', cvs', D, hc, hs, hr'⟩ := saw_flat (a := 0) (d := s.flatten) (hs.f2.f2) hr hWc (by omega) (by omega) (by omega)
      refine cb_i _ _ hc ?_
      rw [saw_crash hW hn1 hfs, decide_eq_true hsm]
      refine vb_i (e_not _) ?_
      refine isB_Fa rfl ?_
      obtain ⟨D, hc, hp⟩ := worlds_spec (flat_open hs).g0 (flat_open hs).o1.view
      refine cb_i _ _ hc ?_
      have hs := hs.quiet hp
      have hl := hr'.1
      rw [saw_len hW hn1 hfs hsm] at hl
      rw [hl]
      refine vb_i (neq64 _ _ _) ?_
      refine isB_cf (by decide) ?_
      exact ⟨rfl, _, _, hs⟩
    clear hs
    rintro _ _ D ⟨rfl, lv, cvs', hs⟩
    rw [onE_same]
    have hoD := hs.view ho (fun _ _ h => h)
    obtain ⟨ot, hot⟩ : ∃ ot : List UInt8, ot = o.take 400 := ⟨_, rfl⟩
    have hotl : ot.length ≤ 400 := by rw [hot, List.length_take]; omega
    refine JoinP.mk (fun e vs E => e = .normal ∧ D = E ∧ ∃ sv k, vs = [sv] ∧ View D sv 1 k (ot.map ofByte)) ?_ ?_
    · refine vb_len hoD ?_
      refine vb_i (gtr64 _ _ _) ?_
      refine isB_c (fun h1 => ?_) (fun h1 => ?_)
      · obtain ⟨sv, g1, g2, _⟩ := slice_view (l := none) (h := some (.int .i64 400)) hoD (lo := 0) (hi := 400) rfl (by rfl) (by omega) (by omega)
        refine vb_i g1 ?_
        refine ⟨rfl, rfl, sv, 400, rfl, ?_⟩
        rw [hot, List.map_take]
        simpa using g2
      · refine ⟨rfl, rfl, Ov, o.length, rfl, ?_⟩
        rw [hot, List.take_of_length_le (by omega)]
        exact hoD
    rintro _ _ _ ⟨rfl, rfl, sv, k, rfl, hsv⟩
    rw [onE_same]
    try simp only [evB]
    refine vb_i (bytes_str hsv) ?_
    refine vb_i (mul64 (by omega) (by omega)) ?_
    refine cb_i _ _ ⟨ot, 48 * n, by congr 2, by omega, rfl, rfl⟩ ?_
    obtain ⟨X, hX, hXd⟩ : ∃ X : List UInt8, X.length = 48 * n ∧ X = (full ot (48 * n)).take (48 * n) := ⟨_, by
      rw [List.length_take]
      by_cases hle : ot.length ≤ 48 * n
      · rw [full_len hle]; omega
      · unfold full
        rw [if_pos (by omega)]; omega, rfl⟩
    refine JoinP.mk (fun e vs E => e = .normal ∧ D = E ∧ vs = [.str X]) ?_ ?_
    · refine vb_i (e_lenSt _) ?_
      refine vb_i (mul64 (by omega) (by omega)) ?_
      refine vb_i (gtr64 _ _ _) ?_
      refine isB_c (fun h1 => ?_) (fun h1 => ?_)
      · refine vb_i (mul64 (by omega) (by omega)) ?_
        refine vb_i (e_sliceStrTo (by omega) (by omega)) ?_
        rw [show (48 * (n : Int)).toNat = 48 * n by omega, ← hXd]
        exact ⟨rfl, rfl, rfl⟩
      · rw [List.take_of_length_le (by omega)] at hXd
        rw [← hXd]
        exact ⟨rfl, rfl, rfl⟩
    rintro _ _ _ ⟨rfl, rfl, rfl⟩
    rw [onE_same]
    have hva := hs.o3.view
    refine LoopP.ruleG (α := Nat) (fun i => [.bool (decide (X ∈ (c.map List.flatten).take i)), .int .i64 (i : Int)]) (fun i E => i ≤ c.length ∧ D = E) (fun i => c.length - i) 0 (by simp) ⟨Nat.zero_le _, rfl⟩ ?_
    rintro i _ Kl ⟨hi, rfl⟩ hkl
    unfold cellaretlaw26_FlatAll.L30 cellaretlaw26_FlatAll.L30.b
    try simp only [evB]
    refine vb_len hva ?_
    refine vb_i (lss64 _ _ _) ?_
    refine isB_c (fun h4 => ?_) (fun h4 => ?_)
    · have hil : i < c.length := by omega
      have hb4 := List.getElem?_eq_getElem hil
      generalize c[i] = u at hb4
      have hm4 : (c.map List.flatten)[i]? = some u.flatten := by rw [List.getElem?_map, hb4]; rfl
      have htk4 : (c.map List.flatten).take (i + 1) = (c.map List.flatten).take i ++ [u.flatten] := by rw [List.take_add_one, hm4]; rfl
      have hx4 : (strs (c.map List.flatten))[i]? = some (.str u.flatten) := by
        unfold strs
        rw [List.getElem?_map, hm4]
        rfl
      by_cases h5 : X ∈ (c.map List.flatten).take i
      · rw [decide_eq_true h5]
        refine isB_Tr rfl ?_
        refine vb_i (add64 (by omega) (by omega)) ?_
        have := hkl (i + 1) D ⟨by omega, rfl⟩ (by omega)
        rw [htk4, decide_eq_true (List.mem_append_left _ h5)] at this
        exact this
      · rw [decide_eq_false h5]
        refine isB_Fa rfl ?_
        refine vb_addrN hva (by omega) ?_
        refine vb_el0 hva hx4 ?_
        refine vb_i (eqls _ _) ?_
        refine vb_i (add64 (by omega) (by omega)) ?_
        have := hkl (i + 1) D ⟨by omega, rfl⟩ (by omega)
        have e : decide (X ∈ (c.map List.flatten).take (i + 1)) = decide (u.flatten = X) := by
          rw [htk4]
          refine decide_eq_decide.2 ⟨fun h => ?_, fun h => List.mem_append_right _ (by rw [h]; exact List.mem_singleton_self _)⟩
          rcases List.mem_append.1 h with h | h
          · exact absurd h h5
          · exact (List.mem_singleton.1 h).symm
        rw [e] at this
        exact this
    · obtain rfl : i = c.length := by omega
      rw [List.take_of_length_le (by simp)]
      clear hkl
      refine onE_i ?_
      try simp only [evB]
      obtain ⟨lv', cvs', D2, hc, hs, hr'⟩ := saw_flat (a := 0) (d := X) (hs.f1.f2) hr hWc (by omega) (by omega) (by omega)
      refine cb_i _ _ hc ?_
      rw [saw_crash hW hn1 hX]
      refine vb_i e_boolEq ?_
      exact fin_ret (rvs_v (rvs_nil _)) (by simp [tup1]))
  exact ⟨C, h⟩
end
end Go.Sh

/- A row of bytes that comes in. -/
namespace Go.Sh
open Go Go.Abs
section
variable {H : Type} {P : Program} {B : AHeap} {top : Bool}
theorem bytes_view26 {t e : TypeId} {a : AVal} {d : DataW H} (ht : P.underlying t = some (.slice e)) (hk : flatK P 9 e = some [.int .u8]) (hc : P.cellsOf e = 1) (h : Arg P B true t [a] d) :
    ∃ l : List UInt8, View B a 1 l.length (l.map ofByte) ∧ l.length ≤ 9223372036854775807 := by
  obtain ⟨l, hv, hl, _⟩ := h.viewR (fun b : UInt8 => [ofByte b]) (fun _ _ => True) (fun _ => by rw [hc]; rfl) ht (fun cs d hd => by
    obtain ⟨_, _, rfl, ⟨n, rfl, h1, h2⟩, rfl⟩ := Arg.fit 9 e _ hk cs d hd
    obtain ⟨b, hb⟩ := byte_of h1 h2
    exact ⟨b, by rw [hb], trivial⟩)
  rw [hc, flatten_one ofByte l] at hv
  exact ⟨l, hv, Nat.le_trans hl (by decide)⟩
end
end Go.Sh
