/- Each operation is sound. -/
import Derived.Test.YtgcjchcmnlifmaaAbs14
namespace Go.Abs
open Go
section
variable {P : Program} {E : Env} {w : World} {sp : Specs}

set_option maxHeartbeats 4000000 in
theorem op_sound (hsp : SpecsOk P sp) {o : Oper} {fr : List AVal} {H H' : AHeap} {v : AVal} (ho : aopP P sp o.op (evalA fr) H v H') (hH : E.H = H) (hw : RelW E w) {a : Act} (hf : RelF E fr a)
    (Q : Exit → Act → World → Prop) : o.wp P a w (After E w a o.dst v H') Q := by
  subst hH
  obtain ⟨dst, op, type, pos, after, guard⟩ := o
  cases op
  case call c =>
    obtain ⟨callee, args, ts⟩ := c
    cases callee with
    | invoke r m => simp only [aopP, aop] at ho; cases ho
    | value f =>
      simp only [aopP] at ho
      unfold callP at ho
      split at ho
      · rename_i k first cap hfv
        split at ho
        · rename_i q g hg
          have hfo := hsp.ok k q g hg
          have hrf := eval_sound hf f
          rw [hfv] at hrf
          simp only [RelG] at hrf
          obtain ⟨f', c', he, h1, h2⟩ := hrf
          have hargs := (h1.append (evals_sound hf args.toList)).append h2
          have hcall := hfo.does _ _ _ _ ho E w _ rfl hw hargs
          unfold Oper.wp
          have harr : (f' ++ List.map a.eval args.toList ++ c').toArray = f'.toArray ++ args.map a.eval ++ c'.toArray := by simp
          rw [harr] at hcall
          simp only [execOp, resolve, he, Deferred.ofValue, Sem.run_bind, Sem.run_pure, Result.andThen, invoke, hfo.enters, Oper.upon]
          refine hcall.mono fun e w' hh => ?_
          obtain ⟨v, E', rfl, g1, g2, g3, g4⟩ := hh
          exact ⟨v, E', rfl, g1, g2, g3, g4⟩
        · exact ho.elim
      · exact ho.elim
    | builtin b =>
      simp only [aopP, aop] at ho
      exact bltin_sound (o := ⟨dst, .call ⟨.builtin b, args, ts⟩, type, pos, after, guard⟩) hw hf rfl ho Q
  all_goals simp only [aopP, aop] at ho
  all_goals try (cases ho; done)
  case move x =>
    simp only [Option.some.injEq, Prod.mk.injEq] at ho; obtain ⟨rfl, rfl⟩ := ho
    exact upon_value (s := pure (a.eval x)) (by simp [execOp]) (Runs.pure hw (by simp) (eval_sound hf x))
  case assign x =>
    simp only [Option.some.injEq, Prod.mk.injEq] at ho; obtain ⟨rfl, rfl⟩ := ho
    exact upon_value (s := pure (a.eval x)) (by simp [execOp]) (Runs.pure hw (by simp) (eval_sound hf x))
  case pick c x y =>
    refine upon_keep (s := do pure (if ← asBool (a.eval c) then a.eval x else a.eval y)) hw ho (by simp [execOp]) fun hr => ?_
    obtain ⟨t, h1, h2⟩ := aPick_sound (eval_sound hf c) (eval_sound hf x) (eval_sound hf y) hr
    exact ⟨_, by simp [h1, asBool], h2⟩
  case alloc t =>
    split at ho
    · rename_i z hz
      obtain ⟨i, zv, h1, h2, rfl⟩ := zeroA_some hz
      exact upon_value (s := Instr.alloc t true (.tuple #[])) rfl (alloc_sound hw h1 h2 ho)
    · cases ho
  case box t x => exact upon_value (s := Instr.box t (a.eval x)) rfl (box_sound hw (eval_sound hf x) ho)
  case build t ps =>
    have hp : RelParts E (ps.toList.map fun p => (p.1, evalA fr p.2)) (ps.map fun p => (p.1, a.eval p.2)).toList := by
      rw [Array.toList_map]; exact parts_sound hf _
    split at ho
    · rename_i n e z hu hz
      obtain ⟨it, zv, h1, h2, rfl⟩ := zeroA_some hz
      split at ho
      · rename_i i hi
        refine upon_keep (s := Instr.build t (ps.map fun (i, x) => (i, a.eval x))) hw ho rfl fun hr => aBuildArr_sound hu h1 h2 hi hp hr
      · cases ho
    · rename_i fs z hu hz
      obtain ⟨it, zv, h1, h2, rfl⟩ := zeroA_some hz
      split at ho
      · rename_i pl hpl
        refine upon_keep (s := Instr.build t (ps.map fun (i, x) => (i, a.eval x))) hw ho rfl fun hr => aBuildStr_sound hu h1 h2 hpl hp hr
      · cases ho
    · cases ho
  case buildSlice t n ps =>
    have hp : RelParts E (ps.toList.map fun p => (p.1, evalA fr p.2)) (ps.map fun p => (p.1, a.eval p.2)).toList := by
      rw [Array.toList_map]; exact parts_sound hf _
    split at ho
    · rename_i e hu
      split at ho
      · rename_i i z hi hz
        obtain ⟨it, zv, h1, h2, rfl⟩ := zeroA_some hz
        rw [hi] at h1; cases h1
        cases hc : ((List.map toA zv.cells.toList).length == i.size && Nat.ble (n * i.size) (2 ^ 24)) with
        | false => rw [hc] at ho; cases ho
        | true =>
          rw [hc] at ho
          simp only [cond_true] at ho
          simp only [List.length_map, Array.length_toList, Bool.and_eq_true, beq_iff_eq, Nat.ble_eq] at hc
          exact upon_value (s := Instr.buildSlice t n (ps.map fun (i, x) => (i, a.eval x))) rfl (aBuildSlice_sound hw hu hi h2 hc.1 hc.2 hp ho)
      · cases ho
    · cases ho
  case load t x =>
    split at ho
    · rename_i i d hi hd
      cases hr : aLoad E.H (aggB d) i.size (evalA fr x) with
      | none => rw [hr] at ho; cases ho
      | some u =>
        rw [hr] at ho
        simp only [keep, Option.some.injEq, Prod.mk.injEq] at ho
        obtain ⟨rfl, rfl⟩ := ho
        exact upon_value (s := Instr.loadAt t (a.eval x)) rfl (loadVar_sound hw hi hd (eval_sound hf x) hr)
    · cases ho
  case store t x y =>
    split at ho
    · rename_i i hi
      cases hr : aStore E.H i.size (evalA fr x) (evalA fr y) with
      | none => rw [hr] at ho; cases ho
      | some H1 =>
        rw [hr] at ho
        simp only [skip, Option.some.injEq, Prod.mk.injEq] at ho
        obtain ⟨rfl, rfl⟩ := ho
        obtain ⟨w', E', g1, g2, g3, g4⟩ := storeVar_sound (P := P) hw hi (eval_sound hf x) (eval_sound hf y) hr
        unfold Oper.wp
        simp only [execOp, Sem.run_bind, g1, Result.andThen, Sem.run_pure, Oper.upon]
        exact ⟨undef, E', rfl, by simp only [RelG], g2, g3, g4⟩
    · cases ho
  case nilCheck x =>
    cases hr : aNilCheck (evalA fr x) with
    | none => rw [hr] at ho; cases ho
    | some u =>
      rw [hr] at ho
      simp only [keep, Option.some.injEq, Prod.mk.injEq] at ho
      obtain ⟨rfl, rfl⟩ := ho
      rcases aNilCheck_sound (eval_sound hf x) hr with ⟨g1, p, g2⟩ | ⟨g1, f, l, k, g2⟩
      · exact upon_value (s := pure (a.eval x)) (by simp [execOp, g2]) (Runs.pure hw (by simp) g1)
      · exact upon_value (s := pure (a.eval x)) (by simp [execOp, g2]) (Runs.pure hw (by simp) g1)
  case binOp bop t x y t2 =>
    have hx := eval_sound hf x
    have hy := eval_sound hf y
    cases hs : scalarT P t with
    | true =>
      rw [hs] at ho
      simp only [cond_true] at ho
      refine upon_keep (s := do eqGuard bop t x y (a.eval x) (a.eval y); binOp bop t (a.eval x) (a.eval y)) hw ho rfl fun hr => ?_
      obtain ⟨u, h1, h2⟩ := aBin_sound (P := P) (w := w) (t := t) hx hy hr
      refine ⟨u, ?_, h2⟩
      rw [Sem.run_bind, guard_scalar (aBin_left hr hx), Result.andThen_ok, h1]
    | false =>
      rw [hs] at ho
      simp only [cond_false] at ho
      split at ho
      · split at ho
        · rename_i ek hk
          refine upon_keep (s := do eqGuard .eql t x y (a.eval x) (a.eval y); binOp .eql t (a.eval x) (a.eval y)) hw ho rfl fun hr => ?_
          exact aEql_sound (neq := false) hk hx hy hr x y
        · cases ho
      · split at ho
        · rename_i ek hk
          refine upon_keep (s := do eqGuard .neq t x y (a.eval x) (a.eval y); binOp .neq t (a.eval x) (a.eval y)) hw ho rfl fun hr => ?_
          exact aEql_sound (neq := true) hk hx hy hr x y
        · cases ho
      · cases ho
  case unOp uop t x =>
    refine upon_keep (s := Op.unary uop (a.eval x)) hw ho rfl fun hr => aUn_sound (eval_sound hf x) hr
  case convert s d x =>
    split at ho
    · rename_i ds k hs hd
      exact upon_keep (s := convert s d (a.eval x)) hw ho rfl fun hr => aInt2_sound (eval_sound hf x) hs hd hr
    · rename_i hs hd
      exact upon_keep (s := convert s d (a.eval x)) hw ho rfl fun hr => aStr2_sound (eval_sound hf x) hs hd hr
    · rename_i e hs hd
      split at ho
      · rename_i he
        exact upon_keep (s := convert s d (a.eval x)) hw ho rfl fun hr => aBytes2Str_sound hw (eval_sound hf x) hs he hd hr
      · cases ho
    · rename_i e hs hd
      split at ho
      · rename_i he
        exact upon_value (s := convert s d (a.eval x)) rfl (aStr2Bytes_sound hw (eval_sound hf x) hs hd he ho)
      · cases ho
    · cases ho
  case makeFunc fn first cap =>
    simp only [Option.some.injEq, Prod.mk.injEq] at ho; obtain ⟨rfl, rfl⟩ := ho
    refine upon_value (s := Instr.makeFunc fn (first.map a.eval) (cap.map a.eval)) rfl (Runs.pure hw (by simp [Instr.makeFunc]; rfl) ?_)
    simp only [RelG]
    exact ⟨first.toList.map a.eval, cap.toList.map a.eval, by rw [map_arr, map_arr], evals_sound hf _, evals_sound hf _⟩
  case makeSlice t l c =>
    split at ho
    · rename_i e hu
      split at ho
      · rename_i i z hi hz
        obtain ⟨it, zv, h1, h2, rfl⟩ := zeroA_some hz
        rw [hi] at h1; cases h1
        cases hc : ((List.map toA zv.cells.toList).length == i.size) with
        | false => rw [hc] at ho; cases ho
        | true =>
          rw [hc] at ho
          simp only [cond_true] at ho
          simp only [List.length_map, Array.length_toList, beq_iff_eq] at hc
          exact upon_value (s := Instr.makeSlice t (a.eval l) (a.eval c)) rfl (aMakeSlice_sound hw hu hi h2 hc (eval_sound hf l) (eval_sound hf c) ho)
      · cases ho
    · cases ho
  case slice t x lo hi mx =>
    cases hc : (mx.isSome && !hi.isSome) with
    | true => rw [hc] at ho; cases ho
    | false =>
      rw [hc] at ho
      simp only [cond_false] at ho
      have hmx : (mx.map (evalA fr)).isSome = true → (hi.map (evalA fr)).isSome = true := by
        cases mx <;> cases hi <;> simp_all
      split at ho
      · rename_i hu
        cases mx with
        | some m => simp at ho
        | none =>
          simp only [Option.isSome_none, cond_false] at ho
          exact upon_keep (s := Instr.sliceAt t (a.eval x) (lo.map a.eval) (hi.map a.eval) none) hw ho rfl fun hr => aSliceStr_sound (eval_sound hf x) hu (evalO_sound hf lo) (evalO_sound hf hi) hr
      · rename_i e hu
        split at ho
        · rename_i i hi'
          exact upon_keep (s := Instr.sliceAt t (a.eval x) (lo.map a.eval) (hi.map a.eval) (mx.map a.eval)) hw ho rfl fun hr => aSlice_sound (eval_sound hf x) hu hi' (evalO_sound hf lo) (evalO_sound hf hi) (evalO_sound hf mx) hr hmx
        · cases ho
      · rename_i n e hu
        split at ho
        · rename_i i hi'
          exact upon_keep (s := Instr.sliceAt t (a.eval x) (lo.map a.eval) (hi.map a.eval) (mx.map a.eval)) hw ho rfl fun hr => aSliceArr_sound (eval_sound hf x) hu hi' (evalO_sound hf lo) (evalO_sound hf hi) (evalO_sound hf mx) hr hmx
        · cases ho
      · cases ho
  case fieldAddr t x k =>
    split at ho
    · rename_i fs hu
      split at ho
      · rename_i f hfk
        split at ho
        · rename_i i hi
          cases hz : (i.size == 0) with
          | true => rw [hz] at ho; cases ho
          | false =>
            rw [hz] at ho
            simp only [cond_false] at ho
            refine upon_keep (s := Instr.fieldAt t (a.eval x) k) hw ho rfl fun hr => aFieldAddr_sound (eval_sound hf x) hu hfk (fun w p => ?_) hr
            have : i.size ≠ 0 := by simpa using hz
            simp [fieldPlace, run_size hi, this]
        · cases ho
      · cases ho
    · cases ho
  case field t x k =>
    split at ho
    · rename_i fs hu
      split at ho
      · rename_i f hfk
        split at ho
        · rename_i i d hi hd
          exact upon_keep (s := Instr.field t (a.eval x) k) hw ho rfl fun hr => aField_sound (eval_sound hf x) hu hfk hi hd hr
        · cases ho
      · cases ho
    · cases ho
  case indexAddr t x i =>
    split at ho
    · rename_i e hu
      split at ho
      · rename_i inf hi
        exact upon_keep (s := Instr.indexAt t (a.eval x) (a.eval i)) hw ho rfl fun hr => aIndexAddr_sound (eval_sound hf x) (eval_sound hf i) hu hi hr
      · cases ho
    · rename_i n e hu
      split at ho
      · rename_i inf hi
        exact upon_keep (s := Instr.indexAt t (a.eval x) (a.eval i)) hw ho rfl fun hr => aIndexAddrArr_sound (eval_sound hf x) (eval_sound hf i) hu hi hr
      · cases ho
    · cases ho
  case index t x i =>
    split at ho
    · rename_i hu
      exact upon_keep (s := Instr.index t (a.eval x) (a.eval i)) hw ho rfl fun hr => aIndexStr_sound (eval_sound hf x) (eval_sound hf i) hu hr
    · rename_i n e hu
      split at ho
      · rename_i inf d hi hd
        exact upon_keep (s := Instr.index t (a.eval x) (a.eval i)) hw ho rfl fun hr => aIndexArr_sound (eval_sound hf x) (eval_sound hf i) hu hi hd hr
      · cases ho
    · cases ho
  case extract x i =>
    exact upon_keep (s := Instr.extract (a.eval x) i) hw ho rfl fun hr => aExtract_sound (eval_sound hf x) hr
end
end Go.Abs
