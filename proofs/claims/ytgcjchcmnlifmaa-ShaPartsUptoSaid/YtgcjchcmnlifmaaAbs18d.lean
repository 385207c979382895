/- Regions that draw their order: the run in the text's order is one that is; one operation, in any order. -/
import Derived.Test.YtgcjchcmnlifmaaAbs18c
namespace Go.Abs
open Go

section
variable {P : Program} {sp : Specs} {ops : Array Oper}

theorem wp_exists {o : Oper} {a : Act} {w : World} {K : Act → World → Prop} (h : o.wp P a w K (fun _ _ _ => False)) : ∃ a' w', K a' w' := by
  unfold Oper.wp at h
  generalize (execOp a.eval o).run P w = r at h
  cases r with
  | ok x w' =>
    cases x <;> simp only [Oper.upon] at h
    case value v => exact ⟨_, _, h⟩
    case skip => exact ⟨_, _, h⟩
    case defer d => exact ⟨_, _, h⟩
    case enter f args =>
      obtain ⟨e, w'', fr, h, _⟩ := h []
      cases e with
      | returned v => exact ⟨_, _, h⟩
      | panicked c => exact h.elim
      | outgrown => obtain ⟨_, _, h⟩ := h; exact h.elim
    case row r args =>
      obtain ⟨v, w'', h, _⟩ := h (Frame.enter P 0 #[] .normal) []
      exact ⟨_, _, h⟩
    all_goals exact h.elim
  | halt x w' => cases x <;> simp only [Oper.upon] at h

theorem want_ok {o : Oper} {fr : List AVal} {b : Bool} (h : WantA ops o fr b) {E : Env} {a : Act} (hf : RelF E fr a) : Region.wanted o (yielded ops a.tmps) = b := by
  rcases h with ⟨h1, rfl⟩ | ⟨t, want, c, h1, h2, rfl⟩
  · exact wanted_none h1 _
  · exact wanted_guard hf h1 h2

theorem looks_names {o : Oper} {t : Nat} (h : t ∈ o.looksAt ops) : t ∈ namesOf ops o := List.mem_append_right _ h

theorem want_slot {o : Oper} {fr fr' : List AVal} {b : Bool} (h : WantA ops o fr b) (hs : ∀ t ∈ namesOf ops o, fr'.getD t .undef = fr.getD t .undef) : WantA ops o fr' b := by
  rcases h with h | ⟨t, want, c, h1, h2, h3⟩
  · exact .inl h
  · refine .inr ⟨t, want, c, h1, ?_, h3⟩
    rw [hs t ?_, h2]
    refine looks_names ?_
    unfold guardSlot at h1
    unfold Oper.looksAt
    split at h1
    · cases h1
    · rename_i j want' hg
      rw [hg]
      split at h1
      · rename_i t' ht
        simp only [Option.some.injEq, Prod.mk.injEq] at h1
        obtain ⟨rfl, rfl⟩ := h1
        simp [ht]
      · cases h1

theorem eval_slot {o : Oper} {fr fr' : List AVal} (hs : ∀ t ∈ namesOf ops o, fr'.getD t .undef = fr.getD t .undef) : ∀ x ∈ o.op.operands.toList, evalA fr' x = evalA fr x := by
  intro x hx
  cases x with
  | tmp t =>
    simp only [evalA]
    refine hs t (looks_names ?_)
    unfold Oper.looksAt
    exact List.mem_append_left _ (List.mem_filterMap.2 ⟨_, hx, rfl⟩)
  | const v => rfl
  | global g => rfl
  | func f => rfl

theorem RelL.of_get {E : Env} : ∀ {xs : List AVal} {l : List Value}, xs.length = l.length → (∀ (i : Nat) (x : AVal) (y : Value), xs[i]? = some x → l[i]? = some y → RelV E x y) → RelL E xs l
  | [], [], _, _ => RelGL.nil
  | [], _ :: _, h, _ => by simp at h
  | _ :: _, [], h, _ => by simp at h
  | x :: xs, y :: ys, h, hg => RelGL.cons (hg 0 x y (by simp) (by simp)) (RelL.of_get (by simpa using h) fun i x y hx hy => hg (i + 1) x y (by simpa using hx) (by simpa using hy))

theorem list_eq_getD {l l' : List AVal} (hl : l.length = l'.length) (h : ∀ t, l.getD t .undef = l'.getD t .undef) : l = l' := by
  refine List.ext_getElem hl fun i h1 h2 => ?_
  have := h i
  simpa [List.getD, h1, h2] using this

/-- All that is known of the run in the text's order. -/
structure Tr (P : Program) (sp : Specs) (ops : Array Oper) (E0 : Env) (w0 : World) (L : List Oper) (frs : Nat → List AVal) (Hs : Nat → AHeap) (vs : Nat → AVal) : Prop where
  T : Trace P sp ops L frs Hs vs
  zero : E0.H = Hs 0
  run : ∀ k, k ≤ L.length → ∃ E w a, RelW E w ∧ RelF E (frs k) a ∧ E.H = Hs k ∧ Ext E0 w0 E w
  mono : ∀ k, k < L.length → (Hs k).length ≤ (Hs (k + 1)).length
  pre : ∀ j o, L[j]? = some o → heapKind P sp o.op ≠ 2 → Hs j <+: Hs (j + 1)
  none : ∀ j o, L[j]? = some o → heapKind P sp o.op = 0 → Hs (j + 1) = Hs j

theorem tr_of (hsp : SpecsOk P sp) {E0 : Env} {w0 : World} {a0 : Act} {L : List Oper} {frs : Nat → List AVal} {Hs : Nat → AHeap} {vs : Nat → AVal} (T : Trace P sp ops L frs Hs vs)
    (hH : E0.H = Hs 0) (hw : RelW E0 w0) (hf : RelF E0 (frs 0) a0) : Tr P sp ops E0 w0 L frs Hs vs := by
  have one : ∀ k, k < L.length → ∀ E w a, RelW E w → RelF E (frs k) a → E.H = Hs k → Ext E0 w0 E w →
      ∃ E' w' a', RelW E' w' ∧ RelF E' (frs (k + 1)) a' ∧ E'.H = Hs (k + 1) ∧ Ext E0 w0 E' w' ∧ (Hs k).length ≤ (Hs (k + 1)).length := by
    intro k hk E w a h1 h2 h3 h4
    have ho : L[k]? = some L[k] := List.getElem?_eq_getElem hk
    rw [T.put k _ ho]
    rcases T.step k _ ho with ⟨_, hs⟩ | ⟨_, hv, hs⟩
    · obtain ⟨a', w', u, E', rfl, g1, g2, g3, g4⟩ := wp_exists (op_sound hsp hs h3 h1 h2 (fun _ _ _ => False))
      exact ⟨E', w', _, g2, RelF.put (RelF.ext g4 h2) _ g1, g3, h4.trans g4, by rw [← h3, ← g3]; exact g4.len⟩
    · exact ⟨E, w, _, h1, RelF.put h2 _ (u := undef) (by rw [hv]; simp only [RelG]), by rw [hs]; exact h3, h4, by rw [hs]; exact Nat.le_refl _⟩
  have run : ∀ k, k ≤ L.length → ∃ E w a, RelW E w ∧ RelF E (frs k) a ∧ E.H = Hs k ∧ Ext E0 w0 E w := by
    intro k
    induction k with
    | zero => intro _; exact ⟨E0, w0, a0, hw, hf, hH, Ext.refl _ _⟩
    | succ k ih =>
      intro hk
      obtain ⟨E, w, a, h1, h2, h3, h4⟩ := ih (by omega)
      obtain ⟨E', w', a', g1, g2, g3, g4, _⟩ := one k hk E w a h1 h2 h3 h4
      exact ⟨E', w', a', g1, g2, g3, g4⟩
  refine ⟨T, hH, run, fun k hk => ?_, fun j o hj hk => ?_, fun j o hj hk => ?_⟩
  · obtain ⟨E, w, a, h1, h2, h3, h4⟩ := run k (by omega)
    obtain ⟨_, _, _, _, _, _, _, g⟩ := one k hk E w a h1 h2 h3 h4
    exact g
  · rcases T.step j o hj with ⟨_, hs⟩ | ⟨_, _, hs⟩
    · have hle := heapKind_le (P := P) (sp := sp) o.op
      have : heapKind P sp o.op = 0 ∨ heapKind P sp o.op = 1 := by omega
      rcases this with hk | hk
      · rw [(kind0_P hk hs (Hs j)).1]; exact List.prefix_refl _
      · exact kind1 hsp.quiet hk (fun k => rfl) hs
    · rw [hs]; exact List.prefix_refl _
  · rcases T.step j o hj with ⟨_, hs⟩ | ⟨_, _, hs⟩
    · exact (kind0_P hk hs (Hs j)).1
    · exact hs

section tr
variable {E0 : Env} {w0 : World} {L : List Oper} {frs : Nat → List AVal} {Hs : Nat → AHeap} {vs : Nat → AVal} (R : Tr P sp ops E0 w0 L frs Hs vs)
include R

theorem Tr.mono' : ∀ i j, i ≤ j → j ≤ L.length → (Hs i).length ≤ (Hs j).length := by
  intro i j hij
  induction j with
  | zero => intro _; have : i = 0 := by omega
            rw [this]; exact Nat.le_refl _
  | succ j ih =>
    intro hj
    by_cases e : i = j + 1
    · rw [e]; exact Nat.le_refl _
    · exact Nat.le_trans (ih (by omega) (by omega)) (R.mono j (by omega))

theorem Tr.pre' : ∀ i j, i ≤ j → j ≤ L.length → (∀ k o, i ≤ k → k < j → L[k]? = some o → heapKind P sp o.op ≠ 2) → Hs i <+: Hs j := by
  intro i j hij
  induction j with
  | zero => intro _ _; have : i = 0 := by omega
            rw [this]; exact List.prefix_refl _
  | succ j ih =>
    intro hj hk
    by_cases e : i = j + 1
    · rw [e]; exact List.prefix_refl _
    · have ho : L[j]? = some L[j] := List.getElem?_eq_getElem (by omega)
      exact (ih (by omega) (by omega) fun k o h1 h2 h3 => hk k o h1 (by omega) h3).trans (R.pre j _ ho (hk j _ (by omega) (by omega) ho))

omit R in
theorem next_write (L : List Oper) (j : Nat) (hj : j ≤ L.length) : ∃ e, j ≤ e ∧ e ≤ L.length ∧ (∀ k o, j ≤ k → k < e → L[k]? = some o → heapKind P sp o.op ≠ 2) ∧ (∀ o, L[e]? = some o → heapKind P sp o.op = 2) := by
  generalize hd : L.length - j = d
  induction d generalizing j with
  | zero => exact ⟨j, Nat.le_refl _, hj, fun k o h1 h2 => by omega, fun o ho => by have := lt_of_getElem? ho; omega⟩
  | succ d ih =>
    have ho : L[j]? = some L[j] := List.getElem?_eq_getElem (by omega)
    by_cases hk : heapKind P sp L[j].op = 2
    · exact ⟨j, Nat.le_refl _, hj, fun k o h1 h2 => by omega, fun o ho' => by rw [ho] at ho'; cases ho'; exact hk⟩
    · obtain ⟨e, h1, h2, h3, h4⟩ := ih (j + 1) (by omega) (by omega)
      refine ⟨e, by omega, h2, fun k o g1 g2 g3 => ?_, h4⟩
      by_cases e' : k = j
      · subst e'; rw [ho] at g3; cases g3; exact hk
      · exact h3 k o (by omega) g2 g3
where
  lt_of_getElem? {L : List Oper} {e : Nat} {o : Oper} (h : L[e]? = some o) : e < L.length := (List.getElem?_eq_some_iff.1 h).1

/-- Where a run stands that has done the operations of D. -/
structure St (P : Program) (sp : Specs) (E0 : Env) (w0 : World) (L : List Oper) (frs : Nat → List AVal) (Hs : Nat → AHeap) (vs : Nat → AVal) (D : Nat → Bool) (e : Nat) (E : Env) (w : World) (a : Act) : Prop where
  rel : RelW E w
  fr : RelF E (frD L vs (frs 0) D L.length) a
  defers : a.defers = []
  ext : Ext0 E0 w0 E w
  le : e ≤ L.length
  heap : E.H = Hs e
  done : ∀ i o, i < e → L[i]? = some o → heapKind P sp o.op = 2 → D i = true
  here : ∀ o, L[e]? = some o → heapKind P sp o.op = 2 ∧ D e = false
  news : ∀ x, E.S x → x < E.H.length → (x < E0.H.length ∧ E0.S x) ∨ ∃ i, i < L.length ∧ D i = true ∧ (Hs i).length ≤ x ∧ x < (Hs (i + 1)).length
  full : ∀ i x, i < L.length → D i = true → (Hs i).length ≤ x → x < (Hs (i + 1)).length → E.S x ∧ x < E.H.length

variable {D D' : Nat → Bool} {e j : Nat} {E : Env} {w : World} {a : Act} {oj : Oper}

/-- What is known where an operation is about to be done. -/
structure At (P : Program) (sp : Specs) (ops : Array Oper) (L : List Oper) (D D' : Nat → Bool) (j : Nat) (oj : Oper) : Prop where
  hj : L[j]? = some oj
  hD : D j = false
  hD' : ∀ i, D' i = (D i || Nat.beq i j)
  before : ∀ i o, i < j → L[i]? = some o → D i = true ∨ Indep P sp ops o oj
  after : ∀ i o, j < i → L[i]? = some o → D i = false ∨ Indep P sp ops oj o

omit R in
theorem At.lt (A : At P sp ops L D D' j oj) : j < L.length := (List.getElem?_eq_some_iff.1 A.hj).1
omit R in
theorem At.self (A : At P sp ops L D D' j oj) : D' j = true := by rw [A.hD']; simp
omit R in
theorem At.ne (A : At P sp ops L D D' j oj) {i : Nat} (h : i ≠ j) : D' i = D i := by rw [A.hD']; simp [h]
omit R in
theorem At.up (A : At P sp ops L D D' j oj) {i : Nat} (h : D i = true) : D' i = true := by rw [A.hD', h]; rfl

theorem At.slot (A : At P sp ops L D D' j oj) : ∀ t ∈ namesOf ops oj, (frD L vs (frs 0) D L.length).getD t .undef = (frs j).getD t .undef := by
  intro t ht
  refine frD_eq R.T D t j (Nat.le_of_lt A.lt) (fun i o hi ho hDi hd => ?_) (fun i o hi ho hDi hd => ?_)
  · rcases A.before i o hi ho with h | h
    · rw [h] at hDi; cases hDi
    · exact h.d1 t hd ht
  · by_cases hij : i = j
    · subst hij; rw [A.hD] at hDi; cases hDi
    · rcases A.after i o (by omega) ho with h | h
      · rw [h] at hDi; cases hDi
      · exact h.d2 t hd ht

omit R in
theorem At.frame (A : At P sp ops L D D' j oj) : frD L vs (frs 0) D' L.length = putA (frD L vs (frs 0) D L.length) oj.dst (vs j) := by
  refine list_eq_getD (by rw [frD_len, putA_len, frD_len]) fun t => frD_add A.hj A.hD A.hD' (fun i o d hi ho hDi hd hd' => ?_) t
  rcases A.after i o hi ho with h | h
  · rw [h] at hDi; cases hDi
  · exact h.d1 d hd (List.mem_append_left _ (by rw [hd']; simp))

/-- An operation that writes nothing. -/
theorem fin_quiet (A : At P sp ops L D D' j oj) (s : St P sp E0 w0 L frs Hs vs D e E w a) (hk : heapKind P sp oj.op ≠ 2) {E1 : Env} {w1 : World} {u : Value} (h1 : RelW E1 w1) (h2 : Ext0 E w E1 w1) (h3 : RelV E1 (vs j) u)
    (h4 : E1.H = E.H) (h5 : ∀ x, E1.S x → x < E1.H.length → (E.S x ∧ x < E.H.length) ∨ ((Hs j).length ≤ x ∧ x < (Hs (j + 1)).length)) (h6 : ∀ x, (Hs j).length ≤ x → x < (Hs (j + 1)).length → E1.S x ∧ x < E1.H.length) :
    ∃ e' E' , St P sp E0 w0 L frs Hs vs D' e' E' w1 (a.put oj.dst u) := by
  have hej : e ≠ j := fun h => hk (s.here oj (by rw [h]; exact A.hj)).1
  have _ := R
  refine ⟨e, E1, h1, ?_, by cases oj.dst <;> simpa [Act.put] using s.defers, s.ext.trans h2, s.le, by rw [h4]; exact s.heap, fun i o hi ho hko => A.up (s.done i o hi ho hko), fun o ho => ?_, fun x hx hxl => ?_, fun i x hi hDi hx1 hx2 => ?_⟩
  · rw [A.frame]
    exact RelF.put (RelL.ext0 h2.toSub s.fr) oj.dst h3
  · obtain ⟨g1, g2⟩ := s.here o ho
    exact ⟨g1, by rw [A.ne hej]; exact g2⟩
  · rcases h5 x hx hxl with ⟨g1, g2⟩ | g
    · rcases s.news x g1 g2 with g | ⟨i, g, g', g''⟩
      · exact .inl g
      · exact .inr ⟨i, g, A.up g', g''⟩
    · exact .inr ⟨j, A.lt, A.self, g⟩
  · by_cases hij : i = j
    · subst hij; exact h6 x hx1 hx2
    · rw [A.ne hij] at hDi
      obtain ⟨g1, g2⟩ := s.full i x hi hDi hx1 hx2
      exact ⟨h2.S x g2 g1, by rw [h4]; exact g2⟩

omit R in
theorem at_here (A : At P sp ops L D D' j oj) (s : St P sp E0 w0 L frs Hs vs D e E w a) (hk : heapKind P sp oj.op = 2) : j = e := by
  have h1 : ¬ j < e := fun h => by
    have := s.done j oj h A.hj hk
    rw [A.hD] at this; cases this
  by_cases h2 : e < j
  · exfalso
    have hel : e < L.length := Nat.lt_trans h2 A.lt
    have ho : L[e]? = some L[e] := List.getElem?_eq_getElem hel
    obtain ⟨g1, g2⟩ := s.here _ ho
    rcases A.before e _ h2 ho with h | h
    · rw [h] at g2; cases g2
    · exact h.loud.1 ⟨g1, by rw [hk]; decide⟩
  · omega

/-- An operation that may write. -/
theorem fin_loud (A : At P sp ops L D D' j oj) (s : St P sp E0 w0 L frs Hs vs D e E w a) (hk : heapKind P sp oj.op = 2) {E1 : Env} {w1 : World} {u : Value} (h1 : RelW E1 w1) (h2 : Ext E w E1 w1) (h3 : RelV E1 (vs j) u)
    (h4 : E1.H = Hs (j + 1)) : ∃ e' E' , St P sp E0 w0 L frs Hs vs D' e' E' w1 (a.put oj.dst u) := by
  have hje := at_here A s hk
  subst hje
  obtain ⟨e', n1, n2, n3, n4⟩ := next_write (P := P) (sp := sp) L (j + 1) A.lt
  have hp : E1.H <+: Hs e' := by rw [h4]; exact R.pre' (j + 1) e' n1 n2 n3
  have x := adv_ext (w := w1) hp
  refine ⟨e', E1.adv (Hs e'), adv_rel h1 hp, ?_, by cases oj.dst <;> simpa [Act.put] using s.defers, (s.ext.trans h2.toExt0).trans x, n2, rfl, fun i o hi ho hko => ?_, fun o ho => ⟨n4 o ho, ?_⟩, fun y hy hyl => ?_, fun i y hi hDi hy1 hy2 => ?_⟩
  · rw [A.frame]
    exact RelF.put (RelL.ext0 x.toSub (RelL.ext h2 s.fr)) oj.dst (RelV.ext0 x.toSub h3)
  · by_cases hij : i = j
    · subst hij; exact A.self
    · by_cases hlt : i < j
      · exact A.up (s.done i o hlt ho hko)
      · exact absurd hko (n3 i o (by omega) hi ho)
  · rw [A.ne (by omega)]
    rcases A.after e' o (by omega) ho with h | h
    · exact h
    · exact absurd ⟨hk, by rw [n4 o ho]; decide⟩ h.loud.1
  · obtain ⟨g1, g2⟩ := hy
    rcases h2.news y g1 g2 with ⟨g3, g4⟩ | g3
    · rcases s.news y g4 g3 with g | ⟨i, g, g', g''⟩
      · exact .inl g
      · exact .inr ⟨i, g, A.up g', g''⟩
    · exact .inr ⟨j, A.lt, A.self, by rw [← s.heap]; exact g3, by rw [← h4]; exact g2⟩
  · have key : E1.S y ∧ y < E1.H.length := by
      by_cases hij : i = j
      · subst hij
        rw [← h4] at hy2
        rw [← s.heap] at hy1
        exact ⟨h2.full y hy1 hy2, hy2⟩
      · rw [A.ne hij] at hDi
        obtain ⟨g1, g2⟩ := s.full i y hi hDi hy1 hy2
        exact ⟨h2.S y g2 g1, Nat.lt_of_lt_of_le g2 h2.len⟩
    exact ⟨key, Nat.lt_of_lt_of_le key.2 hp.length_le⟩

/-- An operation's slots, and nothing else. -/
def maskF (names : List Nat) (fr : List AVal) : List AVal := (List.range fr.length).map fun t => if t ∈ names then fr.getD t .undef else .undef

omit R in
theorem maskF_getD {names : List Nat} {fr : List AVal} {t : Nat} (h : t ∈ names) : (maskF names fr).getD t .undef = fr.getD t .undef := by
  unfold maskF
  by_cases hl : t < fr.length
  · simp [List.getD, hl, h]
  · have e1 : (List.range fr.length)[t]? = none := List.getElem?_eq_none (by simpa using Nat.le_of_not_lt hl)
    have e2 : fr[t]? = none := List.getElem?_eq_none (Nat.le_of_not_lt hl)
    simp only [List.getD, List.getElem?_map, e1, e2, Option.map_none]

theorem st_step (hsp : SpecsOk P sp) (A : At P sp ops L D D' j oj) (s : St P sp E0 w0 L frs Hs vs D e E w a) (Q : Exit → Act → World → Prop) :
    (Region.wanted oj (yielded ops a.tmps) = true → oj.wp P a w (fun a' w' => ∃ e' E', St P sp E0 w0 L frs Hs vs D' e' E' w' a') Q) ∧
    (Region.wanted oj (yielded ops a.tmps) = false → ∃ e' E', St P sp E0 w0 L frs Hs vs D' e' E' w (a.put oj.dst undef)) := by
  have slot := A.slot R
  rcases R.T.step j oj A.hj with ⟨hwant, hs⟩ | ⟨hwant, hv, hs⟩
  · have hw := want_ok (want_slot hwant slot) s.fr
    refine ⟨fun _ => ?_, fun h => by rw [hw] at h; cases h⟩
    by_cases hk2 : heapKind P sp oj.op = 2
    · have hje := at_here A s hk2
      subst hje
      rw [← aopP_congr oj.op (eval_slot slot) (Hs j)] at hs
      refine Oper.wp_mono (K := After E w a oj.dst (vs j) (Hs (j + 1))) (fun a' w' ha => ?_) (op_sound hsp hs s.heap s.rel s.fr Q)
      obtain ⟨u, E1, rfl, g1, g2, g3, g4⟩ := ha
      exact fin_loud R A s hk2 g2 g4 g1 g3
    · by_cases hk0 : heapKind P sp oj.op = 0
      · have hHj := R.none j oj A.hj hk0
        have hs' := (kind0_P hk0 hs E.H).2
        rw [← aopP_congr oj.op (eval_slot slot) E.H] at hs'
        refine Oper.wp_mono (K := After E w a oj.dst (vs j) E.H) (fun a' w' ha => ?_) (op_sound hsp hs' rfl s.rel s.fr Q)
        obtain ⟨u, E1, rfl, g1, g2, g3, g4⟩ := ha
        refine fin_quiet R A s hk2 g2 g4.toExt0 g1 g3 (fun x hx hxl => ?_) (fun x hx1 hx2 => by rw [hHj] at hx2; omega)
        rcases g4.news x hx hxl with ⟨q1, q2⟩ | q
        · exact .inl ⟨q2, q1⟩
        · rw [g3] at hxl; omega
      · have hk1 : heapKind P sp oj.op = 1 := by have := heapKind_le (P := P) (sp := sp) oj.op; omega
        have hje : j < e := by
          refine Classical.byContradiction fun hh => ?_
          have hne : e ≠ j := fun h => hk2 (s.here oj (by rw [h]; exact A.hj)).1
          have hlt : e < j := by omega
          have hel : e < L.length := Nat.lt_trans hlt A.lt
          have ho : L[e]? = some L[e] := List.getElem?_eq_getElem hel
          obtain ⟨q1, q2⟩ := s.here _ ho
          rcases A.before e _ hlt ho with h | h
          · rw [h] at q2; cases q2
          · exact h.loud.1 ⟨q1, by rw [hk1]; decide⟩
        have nowr : ∀ k o, j ≤ k → k < e → L[k]? = some o → heapKind P sp o.op ≠ 2 := by
          intro k o hjk hke ho hko
          by_cases hkj : k = j
          · subst hkj; rw [A.hj] at ho; cases ho; exact hk2 hko
          · have := s.done k o hke ho hko
            rcases A.after k o (by omega) ho with h | h
            · rw [h] at this; cases this
            · exact h.loud.2 ⟨by rw [hk1]; decide, hko⟩
        have pj : Hs j <+: Hs e := R.pre' j e (Nat.le_of_lt hje) s.le nowr
        have pj1 : Hs j <+: Hs (j + 1) := R.pre j oj A.hj hk2
        have pje : Hs (j + 1) <+: Hs e := R.pre' (j + 1) e hje s.le fun k o h1 h2 h3 => nowr k o (by omega) h2 h3
        obtain ⟨F, wF, aF, f1, f2, f3, f4⟩ := R.run j (Nat.le_of_lt A.lt)
        have pF : F.H <+: E.H := by rw [f3, s.heap]; exact pj
        have hl0 : E0.H.length ≤ (Hs j).length := by rw [R.zero]; exact R.mono' 0 j (Nat.zero_le _) (Nat.le_of_lt A.lt)
        have hSF : ∀ x, x < F.H.length → E.S x → F.S x := by
          intro x hx hSx
          by_cases h0 : x < E0.H.length
          · rcases s.news x hSx (Nat.lt_of_lt_of_le hx pF.length_le) with ⟨q1, q2⟩ | ⟨i, q1, q2, q3, q4⟩
            · exact f4.S x q1 q2
            · have := R.mono' 0 i (Nat.zero_le _) (Nat.le_of_lt q1)
              rw [← R.zero] at this
              omega
          · exact f4.full x (by omega) hx
        have hcut := cut_rel s.rel f1 pF hSF
        have hfr : RelF (E.cut F.H) (maskF (namesOf ops oj) (frD L vs (frs 0) D L.length)) a := by
          refine RelL.of_get (by simp [maskF, s.fr.length]) fun i x y hx hy => ?_
          simp only [maskF, List.getElem?_map] at hx
          have hil : i < a.tmps.toList.length := (List.getElem?_eq_some_iff.1 hy).1
          have hil' : i < (frD L vs (frs 0) D L.length).length := by rw [s.fr.length]; exact hil
          rw [List.getElem?_range hil'] at hx
          simp only [Option.map_some, Option.some.injEq] at hx
          subst hx
          by_cases hin : i ∈ namesOf ops oj
          · rw [if_pos hin]
            have r1 := s.fr.getD i undef
            have r2 := f2.getD i undef
            rw [← slot i hin] at r2
            have hy' : a.tmps.toList.getD i undef = y := by simp only [List.getD, hy, Option.getD_some]
            rw [hy'] at r1
            exact RelV.cut pF r1 r2
          · rw [if_neg hin]; simp only [RelG]
        have hs' : aopP P sp oj.op (evalA (maskF (namesOf ops oj) (frD L vs (frs 0) D L.length))) (Hs j) (vs j) (Hs (j + 1)) := by
          rw [aopP_congr oj.op (eval_slot fun t ht => (maskF_getD ht).trans (slot t ht)) (Hs j)]
          exact hs
        refine Oper.wp_mono (K := After (E.cut F.H) w a oj.dst (vs j) (Hs (j + 1))) (fun a' w' ha => ?_) (op_sound hsp hs' (by rw [← f3]; rfl) hcut hfr Q)
        obtain ⟨u, E1, rfl, g1, g2, g3, g4⟩ := ha
        have p1 : F.H <+: E1.H := by rw [f3, g3]; exact pj1
        have p2 : E1.H <+: E.H := by rw [g3, s.heap]; exact pje
        have hn : ∀ i, F.H.length ≤ i → i < E1.H.length → ¬ E.S i := by
          intro x hx1 hx2 hSx
          rw [f3] at hx1
          rcases s.news x hSx (Nat.lt_of_lt_of_le hx2 p2.length_le) with ⟨q1, q2⟩ | ⟨i, q1, q2, q3, q4⟩
          · omega
          · rw [g3] at hx2
            have hij : i ≠ j := fun h => by subst h; rw [A.hD] at q2; cases q2
            by_cases hlt : i < j
            · have := R.mono' (i + 1) j hlt (Nat.le_of_lt A.lt)
              omega
            · have := R.mono' (j + 1) i (by omega) (Nat.le_of_lt q1)
              omega
        obtain ⟨k1, k2, k3⟩ := join_all s.rel g2 g4 p1 p2 hn
        have hr : ∀ x, (F.H.length ≤ x ∧ x < E1.H.length) ↔ ((Hs j).length ≤ x ∧ x < (Hs (j + 1)).length) := by intro x; rw [f3, g3]
        refine fin_quiet R A s hk2 k2 k1 (RelV.ext0 k3 g1) rfl (fun x hx hxl => ?_) (fun x hx1 hx2 => ?_)
        · rcases hx with q | q
          · exact .inl q
          · exact .inr ((hr x).1 q)
        · exact ⟨Or.inr ((hr x).2 ⟨hx1, hx2⟩), Nat.lt_of_lt_of_le hx2 (by rw [← g3]; exact p2.length_le)⟩
  · have hw := want_ok (want_slot hwant slot) s.fr
    refine ⟨fun h => (by rw [hw] at h; cases h), fun _ => ?_⟩
    have hvr : ∀ E : Env, RelV E (vs j) undef := fun E => by rw [hv]; simp only [RelG]
    by_cases hk2 : heapKind P sp oj.op = 2
    · have hje := at_here A s hk2
      subst hje
      exact fin_loud R A s hk2 s.rel (Ext.refl _ _) (hvr E) (by rw [hs]; exact s.heap)
    · exact fin_quiet R A s hk2 s.rel (Ext0.refl _ _) (hvr E) rfl (fun x hx hxl => .inl ⟨hx, hxl⟩) (fun x hx1 hx2 => by rw [hs] at hx2; omega)

end tr
end
end Go.Abs
