/- Regions that draw their order: what comes ahead at any rate; the run in the text's order; frames. -/
import Derived.Test.YtgcjchcmnlifmaaAbs18a
namespace Go.Abs
open Go

theorem forceN_eq {α : Type} (n : Nat) (k : Nat → α) : forceN n k = k n := by cases n <;> rfl

/-- A set of operations that has, with each, what must be ahead of it. -/
def Closed (L : List Oper) (D : Nat → Prop) : Prop :=
  ∀ j o, D j → L[j]? = some o → ∀ e ∈ o.after.toList, Region.binds .any e = true → D e.on

theorem maskOf_bit (acc : List Nat) : ∀ (es : List Edge) (s i : Nat), Nat.testBit (maskOf acc es s) i = true →
    Nat.testBit s i = true ∨ ∃ e ∈ es, Region.binds .any e = true ∧ (e.on = i ∨ Nat.testBit (acc.getD e.on 0) i = true)
  | [], s, i, h => .inl h
  | e :: es, s, i, h => by
    simp only [maskOf] at h
    cases hb : Region.binds .any e with
    | false =>
      rw [hb] at h
      rcases maskOf_bit acc es s i h with h | ⟨e', he', h⟩
      · exact .inl h
      · exact .inr ⟨e', List.mem_cons_of_mem _ he', h⟩
    | true =>
      rw [hb] at h
      rcases maskOf_bit acc es _ i h with h | ⟨e', he', h⟩
      · have h' : Nat.testBit (s ||| (2 ^ e.on ||| acc.getD e.on 0)) i = true := h
        rw [Nat.testBit_or, Nat.testBit_or, Nat.testBit_two_pow] at h'
        simp only [Bool.or_eq_true, decide_eq_true_eq] at h'
        rcases h' with h | h | h
        · exact .inl h
        · exact .inr ⟨e, List.mem_cons_self .., hb, .inl h⟩
        · exact .inr ⟨e, List.mem_cons_self .., hb, .inr h⟩
      · exact .inr ⟨e', List.mem_cons_of_mem _ he', h⟩

theorem masks_spec (L : List Oper) : ∀ (l : List Oper) (acc : List Nat), L = L.take acc.length ++ l → acc.length ≤ L.length →
    (∀ D, Closed L D → ∀ j i, j < acc.length → D j → Nat.testBit (acc.getD j 0) i = true → D i) →
    (masks l acc).length = L.length ∧ ∀ D, Closed L D → ∀ j i, D j → Nat.testBit ((masks l acc).getD j 0) i = true → D i
  | [], acc, hL, hlen, h => by
    have : acc.length = L.length := by
      have := congrArg List.length hL
      simp at this; omega
    refine ⟨this, fun D hD j i hj hb => ?_⟩
    simp only [masks] at hb
    by_cases hjl : j < acc.length
    · exact h D hD j i hjl hj hb
    · simp [List.getD, List.getElem?_eq_none (Nat.le_of_not_lt hjl)] at hb
  | o :: l, acc, hL, hlen, h => by
    simp only [masks, forceN_eq]
    have hlt : acc.length < L.length := by
      have := congrArg List.length hL
      simp at this; omega
    have ho : L[acc.length]? = some o := by
      rw [hL, List.getElem?_append_right (by simp; omega)]
      simp [Nat.min_eq_left hlen]
    refine masks_spec L l (acc ++ [maskOf acc o.after.toList 0]) ?_ (by simp; omega) fun D hD j i hj hDj hb => ?_
    · have e : (acc ++ [maskOf acc o.after.toList 0]).length = acc.length + 1 := by simp
      rw [e, List.take_succ_eq_append_getElem hlt]
      have : L[acc.length] = o := by
        have := List.getElem?_eq_getElem hlt
        rw [ho] at this; exact (Option.some.inj this).symm
      rw [this, List.append_assoc, List.singleton_append]
      exact hL
    · by_cases hja : j < acc.length
      · refine h D hD j i hja hDj ?_
        rwa [List.getD, List.getElem?_append_left hja] at hb
      · have : j = acc.length := by simp at hj; omega
        subst this
        have e : (acc ++ [maskOf acc o.after.toList 0]).getD acc.length 0 = maskOf acc o.after.toList 0 := by simp [List.getD]
        rw [e] at hb
        rcases maskOf_bit acc _ _ _ hb with hb | ⟨ed, hed, hbind, hb⟩
        · simp at hb
        · have hDe := hD _ o hDj ho ed hed hbind
          rcases hb with hb | hb
          · subst hb; exact hDe
          · by_cases hel : ed.on < acc.length
            · exact h D hD ed.on i hel hDe hb
            · simp [List.getD, List.getElem?_eq_none (Nat.le_of_not_lt hel)] at hb

section
variable {P : Program} {sp : Specs} {ops : Array Oper}

theorem rows_get (P : Program) (sp : Specs) (ops : Array Oper) : ∀ (l : List Oper) (ms : List Nat) (i j : Nat) (o : Oper), l[j]? = some o →
    (opRows P sp ops l ms i)[j]? = some ⟨i + j, o.dst, namesOf ops o, heapKind P sp o.op, ms.getD j 0⟩
  | [], _, _, _, _, h => by simp at h
  | o :: l, ms, i, 0, o', h => by
    simp at h; subst h
    cases ms <;> simp [opRows, List.getD]
  | o :: l, ms, i, j + 1, o', h => by
    simp at h
    simp only [opRows, List.getElem?_cons_succ]
    rw [rows_get P sp ops l ms.tail (i + 1) j o' h]
    cases ms <;> simp [List.getD] <;> omega

theorem against_get : ∀ {xs : List OpRow} {y : OpRow}, againstAll y xs = true → ∀ x ∈ xs, pairOk x y = true
  | [], _, _, x, hx => by simp at hx
  | z :: xs, y, h, x, hx => by
    simp only [againstAll, Bool.and_eq_true] at h
    rcases List.mem_cons.1 hx with rfl | hx
    · exact h.1
    · exact against_get h.2 x hx

theorem rowsOk_get : ∀ (ys seen : List OpRow), rowsOk seen ys = true → (∀ (j : Nat) (y : OpRow), ys[j]? = some y → (∀ x ∈ seen, pairOk x y = true) ∧ ∀ i x, i < j → ys[i]? = some x → pairOk x y = true)
  | [], _, _, _, _, h => by simp at h
  | z :: ys, seen, h, j, y, hy => by
    simp only [rowsOk, Bool.and_eq_true] at h
    cases j with
    | zero =>
      simp at hy; subst hy
      exact ⟨against_get h.1, fun i x hi => by omega⟩
    | succ j =>
      simp at hy
      obtain ⟨h1, h2⟩ := rowsOk_get ys (z :: seen) h.2 j y hy
      refine ⟨fun x hx => h1 x (List.mem_cons_of_mem _ hx), fun i x hi hx => ?_⟩
      cases i with
      | zero => simp at hx; subst hx; exact h1 _ (List.mem_cons_self ..)
      | succ i => simp at hx; exact h2 i x (by omega) hx

/-- Nothing of one's slots is the other one's, and not both are loud. -/
structure Indep (P : Program) (sp : Specs) (ops : Array Oper) (x y : Oper) : Prop where
  d1 : ∀ d, x.dst = some d → d ∉ namesOf ops y
  d2 : ∀ d, y.dst = some d → d ∉ namesOf ops x
  loud : ¬ (heapKind P sp x.op = 2 ∧ heapKind P sp y.op ≠ 0) ∧ ¬ (heapKind P sp x.op ≠ 0 ∧ heapKind P sp y.op = 2)

theorem clash_false {d : Option Nat} {names : List Nat} (h : clash d names = false) : ∀ x, d = some x → x ∉ names := by
  rintro x rfl hx
  simp only [clash, List.any_eq_false] at h
  exact h x hx (by simp)

theorem heapKind_le (op : Op) : heapKind P sp op ≤ 2 := by
  unfold heapKind
  split <;> try omega
  · cases scalarT P _ <;> simp
  · split <;> omega

theorem pair_indep {i j m1 m2 : Nat} {x y : Oper} (h : pairOk ⟨i, x.dst, namesOf ops x, heapKind P sp x.op, m1⟩ ⟨j, y.dst, namesOf ops y, heapKind P sp y.op, m2⟩ = true) :
    Nat.testBit m2 i = true ∨ Indep P sp ops x y := by
  unfold pairOk at h
  cases hb : Nat.testBit m2 i with
  | true => exact .inl rfl
  | false =>
    right
    simp only [hb, cond_false, Bool.and_eq_true, Bool.not_eq_true'] at h
    refine ⟨clash_false h.1.1, clash_false h.1.2, ?_⟩
    have hl := h.2
    have h1 := heapKind_le (P := P) (sp := sp) x.op
    have h2 := heapKind_le (P := P) (sp := sp) y.op
    generalize heapKind P sp x.op = a at *
    generalize heapKind P sp y.op = b at *
    have ha : a = 0 ∨ a = 1 ∨ a = 2 := by omega
    have hb : b = 0 ∨ b = 1 ∨ b = 2 := by omega
    rcases ha with rfl | rfl | rfl <;> rcases hb with rfl | rfl | rfl <;> simp [loudPair] at hl ⊢

/-- All that drawOk says. -/
theorem drawOk_spec (h : drawOk P sp ops = true) (i j : Nat) (x y : Oper) (hij : i < j) (hx : ops.toList[i]? = some x) (hy : ops.toList[j]? = some y) :
    (∀ D, Closed ops.toList D → D j → D i) ∨ Indep P sp ops x y := by
  unfold drawOk at h
  simp only [Bool.and_eq_true] at h
  have hm := masks_spec ops.toList ops.toList [] (by simp) (by simp) (fun _ _ j i hj => by simp at hj)
  have gx := rows_get P sp ops ops.toList (masks ops.toList []) 0 i x hx
  have gy := rows_get P sp ops ops.toList (masks ops.toList []) 0 j y hy
  have := (rowsOk_get _ [] h.2 j _ gy).2 i _ hij gx
  simp only [Nat.zero_add] at this
  rcases pair_indep this with hb | hb
  · exact .inl fun D hD hj => hm.2 D hD j i hj hb
  · exact .inr hb

theorem edgesOk_spec : ∀ (l : List Oper) (k : Nat), edgesOk l k = true → ∀ j o, l[j]? = some o → ∀ e ∈ o.after.toList, Region.binds .any e = true → e.on < k + j
  | [], _, _, _, _, h => by simp at h
  | o :: l, k, h, j, o', hj => by
    simp only [edgesOk, Bool.and_eq_true] at h
    intro e he hb
    cases j with
    | zero =>
      simp at hj; subst hj
      have := List.all_eq_true.1 h.1 e he
      simp [hb] at this
      omega
    | succ j =>
      simp at hj
      have := edgesOk_spec l (k + 1) h.2 j o' hj e he hb
      omega

theorem drawOk_edges (h : drawOk P sp ops = true) (j : Nat) (o : Oper) (hj : ops.toList[j]? = some o) (e : Edge) (he : e ∈ o.after.toList) (hb : Region.binds .any e = true) : e.on < j := by
  unfold drawOk at h
  simp only [Bool.and_eq_true] at h
  have := edgesOk_spec _ 0 h.1 j o hj e he hb
  omega

/-- Whether a guard lets an operation be done. -/
def WantA (ops : Array Oper) (o : Oper) (fr : List AVal) (b : Bool) : Prop :=
  (guardSlot ops o = some none ∧ b = true) ∨ ∃ t want c, guardSlot ops o = some (some (t, want)) ∧ fr.getD t .undef = .bool c ∧ b = (c == want)

def StepT (P : Program) (sp : Specs) (ops : Array Oper) (o : Oper) (fr : List AVal) (H : AHeap) (v : AVal) (H' : AHeap) : Prop :=
  (WantA ops o fr true ∧ aopP P sp o.op (evalA fr) H v H') ∨ (WantA ops o fr false ∧ v = .undef ∧ H' = H)

structure Trace (P : Program) (sp : Specs) (ops : Array Oper) (l : List Oper) (frs : Nat → List AVal) (Hs : Nat → AHeap) (vs : Nat → AVal) : Prop where
  step : ∀ j o, l[j]? = some o → StepT P sp ops o (frs j) (Hs j) (vs j) (Hs (j + 1))
  put : ∀ j o, l[j]? = some o → frs (j + 1) = putA (frs j) o.dst (vs j)

theorem trace_of : ∀ (l : List Oper) (fr : List AVal) (H : AHeap) (K : List AVal → AHeap → Prop), evOps P sp ops l fr H K →
    ∃ frs Hs vs, frs 0 = fr ∧ Hs 0 = H ∧ K (frs l.length) (Hs l.length) ∧ Trace P sp ops l frs Hs vs
  | [], fr, H, K, h => ⟨fun _ => fr, fun _ => H, fun _ => .undef, rfl, rfl, h, fun j o hj => by simp at hj, fun j o hj => by simp at hj⟩
  | o :: l, fr, H, K, h => by
    have join : ∀ v H1, StepT P sp ops o fr H v H1 → evOps P sp ops l (putA fr o.dst v) H1 K →
        ∃ frs Hs vs, frs 0 = fr ∧ Hs 0 = H ∧ K (frs (o :: l).length) (Hs (o :: l).length) ∧ Trace P sp ops (o :: l) frs Hs vs := by
      intro v H1 hs hr
      obtain ⟨frs, Hs, vs, h1, h2, h3, h4⟩ := trace_of l _ _ K hr
      refine ⟨fun k => match k with | 0 => fr | k + 1 => frs k, fun k => match k with | 0 => H | k + 1 => Hs k, fun k => match k with | 0 => v | k + 1 => vs k, rfl, rfl, h3, ?_, ?_⟩
      · intro j o' hj
        cases j with
        | zero => simp at hj; subst hj; simp only [h2]; exact hs
        | succ j => simp at hj; exact h4.step j o' hj
      · intro j o' hj
        cases j with
        | zero => simp at hj; subst hj; exact h1
        | succ j => simp at hj; exact h4.put j o' hj
    have doit : ∀ fr0, fr0 = fr → WantA ops o fr true → stepA P sp o fr0 H (fun fr H => evOps P sp ops l fr H K) →
        ∃ frs Hs vs, frs 0 = fr ∧ Hs 0 = H ∧ K (frs (o :: l).length) (Hs (o :: l).length) ∧ Trace P sp ops (o :: l) frs Hs vs := by
      intro fr0 h0 hw hs
      subst h0
      obtain ⟨v, H1, ho, hr⟩ := stepA_some hs
      exact join v H1 (.inl ⟨hw, ho⟩) hr
    have leave : ∀ fr0, fr0 = fr → WantA ops o fr false → evOps P sp ops l (putA fr0 o.dst .undef) H K →
        ∃ frs Hs vs, frs 0 = fr ∧ Hs 0 = H ∧ K (frs (o :: l).length) (Hs (o :: l).length) ∧ Trace P sp ops (o :: l) frs Hs vs := by
      intro fr0 h0 hw hr
      subst h0
      exact join .undef H (.inr ⟨hw, rfl, rfl⟩) hr
    unfold evOps at h
    split at h
    · exact h.elim
    · rename_i hg
      exact doit fr rfl (.inl ⟨hg, rfl⟩) h
    · rename_i t want hg
      obtain ⟨b, hb, h⟩ := isB_some h
      have hw : ∀ r, (b == want) = r → WantA ops o fr r := fun r hr => .inr ⟨t, want, b, hg, hb, hr.symm⟩
      cases b <;> cases want <;> simp only [cond_true, cond_false] at h <;> rw [set_same hb] at h
      · exact doit fr rfl (hw _ rfl) h
      · exact leave fr rfl (hw _ rfl) h
      · exact leave fr rfl (hw _ rfl) h
      · exact doit fr rfl (hw _ rfl) h

/-- The frame when just the operations of D are done. -/
def frD (L : List Oper) (vs : Nat → AVal) (fr : List AVal) (D : Nat → Bool) : Nat → List AVal
  | 0 => fr
  | k + 1 => cond (D k) (putA (frD L vs fr D k) ((L[k]?).bind (·.dst)) (vs k)) (frD L vs fr D k)

theorem putA_len (fr : List AVal) (d : Option Tmp) (v : AVal) : (putA fr d v).length = fr.length := by cases d <;> simp [putA]
theorem frD_len (L : List Oper) (vs : Nat → AVal) (fr : List AVal) (D : Nat → Bool) (k : Nat) : (frD L vs fr D k).length = fr.length := by
  induction k with
  | zero => rfl
  | succ k ih =>
    simp only [frD]
    cases D k <;> simp [ih, putA_len]

theorem putA_getD (fr : List AVal) (d : Option Tmp) (v : AVal) (t : Nat) : (putA fr d v).getD t .undef = if d = some t ∧ t < fr.length then v else fr.getD t .undef := by
  cases d with
  | none => simp [putA]
  | some d =>
    by_cases hd : d = t
    · subst hd
      by_cases hl : d < fr.length
      · rw [if_pos ⟨rfl, hl⟩]; exact getD_set_eq hl
      · rw [if_neg (by simp [hl])]
        have e1 : fr[d]? = none := List.getElem?_eq_none (Nat.le_of_not_lt hl)
        have e2 : (fr.set d v)[d]? = none := List.getElem?_eq_none (by rw [List.length_set]; exact Nat.le_of_not_lt hl)
        simp [putA, List.getD, e1, e2]
    · rw [if_neg (by simp [hd])]; exact getD_set_ne hd

theorem trace_len {l : List Oper} {frs : Nat → List AVal} {Hs : Nat → AHeap} {vs : Nat → AVal} (T : Trace P sp ops l frs Hs vs) : ∀ k, k ≤ l.length → (frs k).length = (frs 0).length := by
  intro k
  induction k with
  | zero => intro _; rfl
  | succ k ih =>
    intro hk
    have ho : l[k]? = some l[k] := List.getElem?_eq_getElem (by omega)
    rw [T.put k _ ho, putA_len, ih (by omega)]

theorem frD_eq {L : List Oper} {frs : Nat → List AVal} {Hs : Nat → AHeap} {vs : Nat → AVal} (T : Trace P sp ops L frs Hs vs) (D : Nat → Bool) (t j : Nat) (hj : j ≤ L.length)
    (h1 : ∀ i o, i < j → L[i]? = some o → D i = false → o.dst ≠ some t) (h2 : ∀ i o, j ≤ i → L[i]? = some o → D i = true → o.dst ≠ some t) :
    (frD L vs (frs 0) D L.length).getD t .undef = (frs j).getD t .undef := by
  have c1 : ∀ k, k ≤ j → (frD L vs (frs 0) D k).getD t .undef = (frs k).getD t .undef := by
    intro k
    induction k with
    | zero => intro _; rfl
    | succ k ih =>
      intro hk
      have ho : L[k]? = some L[k] := List.getElem?_eq_getElem (by omega)
      simp only [frD]
      rw [T.put k _ ho]
      cases hD : D k with
      | true =>
        simp only [cond_true, ho, Option.bind_some]
        rw [putA_getD, putA_getD, frD_len, trace_len T k (by omega), ih (by omega)]
      | false =>
        simp only [cond_false]
        rw [putA_getD, if_neg (fun hh => h1 k _ (by omega) ho hD hh.1), ih (by omega)]
  have c2 : ∀ k, j ≤ k → k ≤ L.length → (frD L vs (frs 0) D k).getD t .undef = (frD L vs (frs 0) D j).getD t .undef := by
    intro k hjk
    induction k with
    | zero => intro _; have : j = 0 := by omega
              subst this; rfl
    | succ k ih =>
      intro hk
      by_cases e : j = k + 1
      · rw [e]
      · have ho : L[k]? = some L[k] := List.getElem?_eq_getElem (by omega)
        simp only [frD]
        cases hD : D k with
        | true =>
          simp only [cond_true, ho, Option.bind_some]
          rw [putA_getD, if_neg (fun hh => h2 k _ (by omega) ho hD hh.1), ih (by omega) (by omega)]
        | false => simp only [cond_false]; exact ih (by omega) (by omega)
  rw [c2 L.length hj (Nat.le_refl _), c1 j (Nat.le_refl _)]

theorem frD_add {L : List Oper} {vs : Nat → AVal} {fr : List AVal} {D D' : Nat → Bool} {j : Nat} {oj : Oper} (hoj : L[j]? = some oj) (hj : D j = false) (hD : ∀ i, D' i = (D i || Nat.beq i j))
    (h2 : ∀ i o d, j < i → L[i]? = some o → D i = true → oj.dst = some d → o.dst ≠ some d) (t : Nat) :
    (frD L vs fr D' L.length).getD t .undef = (putA (frD L vs fr D L.length) oj.dst (vs j)).getD t .undef := by
  have hjl : j < L.length := (List.getElem?_eq_some_iff.1 hoj).1
  have hne : ∀ i, i ≠ j → D' i = D i := fun i hi => by rw [hD]; simp [hi]
  have hjj : D' j = true := by rw [hD]; simp
  have c1 : ∀ k, k ≤ j → frD L vs fr D' k = frD L vs fr D k := by
    intro k
    induction k with
    | zero => intro _; rfl
    | succ k ih => intro hk; simp only [frD]; rw [hne k (by omega), ih (by omega)]
  by_cases hd : oj.dst = some t
  · have c2 : ∀ k, j < k → k ≤ L.length → (frD L vs fr D' k).getD t .undef = if t < fr.length then vs j else .undef := by
      intro k hjk
      induction k with
      | zero => omega
      | succ k ih =>
        intro hk
        by_cases e : j = k
        · subst e
          simp only [frD, hjj, cond_true, hoj, Option.bind_some]
          rw [putA_getD, frD_len]
          by_cases hl : t < fr.length
          · rw [if_pos ⟨hd, hl⟩, if_pos hl]
          · rw [if_neg (by simp [hl]), if_neg hl]
            simp [List.getD, List.getElem?_eq_none (show (frD L vs fr D' j).length ≤ t by rw [frD_len]; omega)]
        · have ho : L[k]? = some L[k] := List.getElem?_eq_getElem (by omega)
          simp only [frD]
          cases hDk : D' k with
          | true =>
            simp only [cond_true, ho, Option.bind_some]
            rw [putA_getD, if_neg (fun hh => h2 k _ t (by omega) ho (by rw [← hne k (by omega)]; exact hDk) hd hh.1), ih (by omega) (by omega)]
          | false => simp only [cond_false]; exact ih (by omega) (by omega)
    rw [c2 L.length hjl (Nat.le_refl _), putA_getD, frD_len]
    by_cases hl : t < fr.length
    · rw [if_pos hl, if_pos ⟨hd, hl⟩]
    · rw [if_neg hl, if_neg (by simp [hl])]
      simp [List.getD, List.getElem?_eq_none (show (frD L vs fr D L.length).length ≤ t by rw [frD_len]; omega)]
  · rw [putA_getD, if_neg (fun hh => hd hh.1)]
    have c2 : ∀ k, k ≤ L.length → (frD L vs fr D' k).getD t .undef = (frD L vs fr D k).getD t .undef := by
      intro k
      induction k with
      | zero => intro _; rfl
      | succ k ih =>
        intro hk
        have ho : L[k]? = some L[k] := List.getElem?_eq_getElem (by omega)
        simp only [frD]
        by_cases e : k = j
        · subst e
          rw [hjj, hj]
          simp only [cond_true, cond_false, hoj, Option.bind_some]
          rw [putA_getD, if_neg (fun hh => hd hh.1), ih (by omega)]
        · rw [hne k e]
          cases D k with
          | true => simp only [cond_true]; rw [putA_getD, putA_getD, frD_len, frD_len, ih (by omega)]
          | false => simp only [cond_false]; exact ih (by omega)
    exact c2 L.length (Nat.le_refl _)

theorem frD_all {L : List Oper} {frs : Nat → List AVal} {Hs : Nat → AHeap} {vs : Nat → AVal} (T : Trace P sp ops L frs Hs vs) {D : Nat → Bool} (hD : ∀ i, i < L.length → D i = true) :
    frD L vs (frs 0) D L.length = frs L.length := by
  have c : ∀ k, k ≤ L.length → frD L vs (frs 0) D k = frs k := by
    intro k
    induction k with
    | zero => intro _; rfl
    | succ k ih =>
      intro hk
      have ho : L[k]? = some L[k] := List.getElem?_eq_getElem (by omega)
      simp only [frD]
      rw [hD k (by omega), T.put k _ ho, ih (by omega)]
      simp [ho]
  exact c _ (Nat.le_refl _)
end
end Go.Abs
