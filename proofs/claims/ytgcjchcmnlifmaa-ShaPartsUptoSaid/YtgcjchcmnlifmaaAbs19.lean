/- A function, whole; and what may be left out of what it leaves. -/
import Derived.Test.YtgcjchcmnlifmaaAbs18
namespace Go.Abs
open Go

section
variable {P : Program} {E : Env} {w : World} {sp : Specs}

theorem result_one (hw : RelW E w) {fr : List AVal} {a : Act} (hf : RelF E fr a) {r : ResultVar} {v : AVal} (h : resultA P fr E.H r = some v) :
    ∃ u, ((match r with | .tmp t => pure (a.tmps.getD t undef) | .cell p t => do loadVar t (← asAddr (a.tmps.getD p undef)) : Sem Value)).run P w = .ok u w ∧ RelV E v u := by
  cases r with
  | tmp t =>
    simp only [resultA, Option.some.injEq] at h; subst h
    exact ⟨_, rfl, eval_sound hf (.tmp t)⟩
  | cell p ty =>
    simp only [resultA] at h
    split at h
    · rename_i i d hi hd
      have hp := eval_sound hf (.tmp p)
      obtain ⟨u, w', E', h1, h2, h3, h4, h5⟩ := loadVar_sound hw hi hd hp h
      have hpt : ∃ q, a.eval (.tmp p) = .pointer (some q) := by
        have h := h
        unfold aLoad at h
        split at h
        · rename_i q hq
          have := hp
          simp only [evalA] at this
          rw [hq] at this
          simp only [RelG] at this
          obtain ⟨x, hx, _⟩ := this
          exact ⟨x, hx⟩
        · cases h
      obtain ⟨q, hq⟩ := hpt
      have hq' : a.tmps.getD p undef = .pointer (some q) := hq
      have hrun : (do loadVar ty (← asAddr (a.tmps.getD p undef)) : Sem Value).run P w = (Instr.loadAt ty (a.eval (.tmp p))).run P w := by
        rw [hq', hq]; simp [asAddr, Instr.loadAt, Instr.sureAddr]
      have hsame : w' = w ∧ RelV E v u := by
        have h := h
        have hp2 := hp
        unfold aLoad at h
        split at h
        · rename_i r hr
          simp only [evalA] at hp2
          rw [hr] at hp2
          simp only [RelG] at hp2
          obtain ⟨x, hx, hx1, hx2, hx3, hx4⟩ := hp2
          split at h
          · rename_i cs hrd
            obtain ⟨g1, g2, vs, g3, g4, g5, _⟩ := rd_sound hw hrd hx1
            have hadr := hx4 g2
            rw [hx] at h1
            cases hag : aggB d with
            | true =>
              simp only [hag, cond_true, Option.some.injEq] at h hrd g4
              subst h
              have hl := run_loadCells_of (P := P) (w := w) x _ _ hadr vs g5
              rw [g4] at hl
              simp [Instr.loadAt, Instr.sureAddr, loadVar, run_agg hd, hag, run_size hi, hl] at h1
              obtain ⟨rfl, rfl⟩ := h1
              exact ⟨rfl, by simp only [RelG]; exact ⟨vs, rfl, g3⟩⟩
            | false =>
              simp only [hag, cond_false] at h g4
              cases vs with
              | nil => simp at g4
              | cons y ys =>
                cases cs with
                | nil => simp at h
                | cons c cs =>
                  simp only [List.head?_cons, Option.some.injEq] at h
                  subst h
                  have hc := g5 0 y (by simp)
                  simp only [Nat.add_zero] at hc
                  rw [← hadr] at hc
                  simp [Instr.loadAt, Instr.sureAddr, loadVar, run_agg hd, hag, hc] at h1
                  obtain ⟨rfl, rfl⟩ := h1
                  exact ⟨rfl, (RelGL.cons_iff.1 g3).1⟩
          · cases h
        · cases h
      obtain ⟨rfl, hv⟩ := hsame
      exact ⟨u, by rw [← h1]; exact hrun, hv⟩
    · cases h

theorem results_list (hw : RelW E w) {fr : List AVal} {a : Act} (hf : RelF E fr a) : ∀ (rs : List ResultVar) {vs : List AVal}, resultsL P fr E.H rs = some vs →
    ∃ us : List Value, (rs.mapM (fun r => match r with | .tmp t => pure (a.tmps.getD t undef) | .cell p t => do loadVar t (← asAddr (a.tmps.getD p undef)) : ResultVar → Sem Value)).run P w = .ok us w ∧ RelL E vs us
  | [], vs, h => by
    simp only [resultsL, Option.some.injEq] at h; subst h
    exact ⟨[], by simp, RelGL.nil⟩
  | r :: rs, vs, h => by
    simp only [resultsL] at h
    split at h
    · rename_i v vs' h1 h2
      simp only [Option.some.injEq] at h; subst h
      obtain ⟨u, g1, g2⟩ := result_one (P := P) hw hf h1
      obtain ⟨us, g3, g4⟩ := results_list hw hf rs h2
      refine ⟨u :: us, ?_, RelGL.cons g2 g4⟩
      rw [List.mapM_cons]
      simp only [Sem.run_bind, g1, Result.andThen_ok, g3, Sem.run_pure]
    · cases h

theorem results_sound (hw : RelW E w) {fr : List AVal} {a : Act} (hf : RelF E fr a) {fn : Func} {v : AVal} (h : resultsA P fr E.H fn.results.toList = some v) :
    ∃ u, (results fn a.tmps).run P w = .ok u w ∧ RelV E v u := by
  unfold resultsA at h
  have main : ∀ vs, resultsL P fr E.H fn.results.toList = some vs → ∃ us : List Value, RelL E vs us ∧
      (results fn a.tmps).run P w = .ok (if h : us.toArray.size = 1 then us.toArray[0] else .tuple us.toArray) w := by
    intro vs hvs
    obtain ⟨us, g1, g2⟩ := results_list (P := P) hw hf fn.results.toList hvs
    refine ⟨us, g2, ?_⟩
    unfold results
    rw [Array.mapM_eq_mapM_toList]
    simp only [Sem.run_bind, Sem.run_map]
    refine (congrArg (fun z : Result (List Value) => (z.andThen fun a w' => Result.ok a.toArray w').andThen fun a w' => (pure (if h : a.size = 1 then a[0] else .tuple a) : Sem Value).run P w') g1).trans ?_
    simp
  split at h
  · rename_i v' hv
    simp only [Option.some.injEq] at h; subst h
    obtain ⟨us, g1, g2⟩ := main _ hv
    simp only [RelGL] at g1
    obtain ⟨u, us', rfl, g3, rfl⟩ := g1
    exact ⟨u, by rw [g2]; simp, g3⟩
  · rename_i vs hne hv
    simp only [Option.some.injEq] at h; subst h
    obtain ⟨us, g1, g2⟩ := main _ hv
    refine ⟨.tuple us.toArray, ?_, by simp only [RelG]; exact ⟨us, rfl, g1⟩⟩
    rw [g2]
    have hl := g1.length
    have : ¬ us.toArray.size = 1 := by
      intro e
      have : vs.length = 1 := by rw [hl]; simpa using e
      match vs, this with
      | [x], _ => exact hne x rfl
    rw [dif_neg this]
  · cases h

theorem frame0_rel {args : List AVal} {vs : List Value} (h : RelL E args vs) (n : Nat) : RelF E (frame0 args n) { tmps := vs.toArray ++ Array.replicate (n - vs.toArray.size) undef, defers := [] } := by
  unfold RelF frame0
  simp only [Array.toList_append, Array.toList_replicate, List.size_toArray]
  rw [← h.length]
  exact RelGL.append h (RelGL.replicate_undef _ _ (by simp))

theorem fn_calls (hsp : SpecsOk P sp) (hdr : DrawSound P sp) {T : Cuts} {f : FuncId} {fn : Func} (hf : P.funcs[f]? = some fn) {args : List AVal} {H : AHeap} {K : AVal → AHeap → Prop}
    (h : evFn P sp T fn args H K) {vs : List Value} (hH : E.H = H) (hw : RelW E w) (ha : RelL E args vs) :
    Calls P f vs.toArray w fun e w' => ∃ v r E', e = .returned v ∧ K r E'.H ∧ RelV E' r v ∧ RelW E' w' ∧ Ext E w E' w' := by
  unfold evFn at h
  split at h
  · rename_i c hc
    refine calls_of_wp hf hc (Code.wp_mono (fun e a' w' hp => ?_) (code_sound hsp hdr T c (frame0 args fn.ntmps) H _ E w _ h hH hw (frame0_rel ha fn.ntmps) rfl))
    obtain ⟨E', fr', e', rfl, hk, hw', hf', hd', hx, hag⟩ := hp
    obtain ⟨he, hk⟩ := hk
    split at hk
    · rename_i vs hvs
      rw [rvs_ok] at hvs
      obtain ⟨v, hv, hk⟩ : ∃ v, resultsA P fr' E'.H fn.results.toList = some v ∧ K v E'.H := by
        refine ⟨tup1 vs, ?_, hk⟩
        unfold resultsA
        rw [hvs]
        match vs with
        | [] => rfl
        | [x] => rfl
        | x :: y :: l => rfl
      obtain ⟨u, g1, g2⟩ := results_sound (P := P) hw' hf' hv
      rcases he with rfl | rfl
      · exact ⟨hd', u, g1, u, v, E', rfl, hk, g2, hw', hx⟩
      · exact ⟨hd', u, g1, u, v, E', rfl, hk, g2, hw', hx⟩
    · exact hk.elim
  · exact h.elim
end
end Go.Abs
