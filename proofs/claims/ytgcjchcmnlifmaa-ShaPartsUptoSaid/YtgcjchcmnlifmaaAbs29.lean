/- A seat's functions, one by one. -/
import Derived.Test.YtgcjchcmnlifmaaAbs28
namespace Go.Abs
open Go

def spOf : List (Nat × Bool × Abs.Spec) → Specs
  | [] => fun _ => none
  | x :: l => fun f => cond (Nat.beq x.1 f) (some x.2) (spOf l f)

theorem SpecsOk.nil {P : Program} : SpecsOk P (spOf []) := ⟨nofun, nofun⟩
theorem SpecsOk.cons {P : Program} {l : List (Nat × Bool × Abs.Spec)} {f : Nat} {q : Bool} {g : Abs.Spec} (h : SpecsOk P (spOf l)) (k : FnOk P f g) (hq : q = true → ∀ args H r H', g args H r H' → H <+: H') : SpecsOk P (spOf ((f, q, g) :: l)) where
  ok i q' g' hi := by
    unfold spOf at hi
    cases hb : Nat.beq f i with
    | true => rw [hb] at hi; cases hi; rw [← Nat.eq_of_beq_eq_true hb]; exact k
    | false => rw [hb] at hi; exact h.ok i q' g' hi
  quiet i g' hi := by
    unfold spOf at hi
    cases hb : Nat.beq f i with
    | true => rw [hb] at hi; cases hi; exact hq rfl
    | false => rw [hb] at hi; exact h.quiet i g' hi

theorem enters_of {P : Program} {f : FuncId} {fn : Func} (hf : P.funcs[f]? = some fn) (hn : (fn.name == "runtime.NumGoroutine") = false) (hb : fn.body.isNone = false) (args : Array Value) (w : World) :
    (callFunc f args).run P w = .ok (.enter f args) w := by
  have h1 : fn.name ≠ "runtime.NumGoroutine" := by simpa using hn
  have h2 : fn.body ≠ none := by intro h; rw [h] at hb; cases hb
  simp [callFunc, hf, h1, h2, Sem.run]
theorem fn_ok0 {P : Program} {sp : Specs} (hsp : SpecsOk P sp) (hm : P.follows .mixedOrders = true) {T : Cuts} {f : FuncId} {fn : Func} {g : Abs.Spec} {w : AHeap → (AVal → AHeap → Prop) → Prop} (hf : P.funcs[f]? = some fn)
    (he : ∀ (args : Array Value) (w : World), (callFunc f args).run P w = .ok (.enter f args) w)
    (hok : ∀ args H r H', g args H r H' → args = [] ∧ w H fun r1 H1 => Weak H r1 H1 r H')
    (heq : ∀ (H : AHeap) (K : AVal → AHeap → Prop), evFn P sp T fn [] H K = w H K) : FnOk P f g := by
  refine fn_ok hsp hm (T := T) hf he ?_
  intro args H r H' h
  obtain ⟨rfl, hw⟩ := hok args H r H' h
  rw [heq]
  exact hw
theorem fn_ok1 {P : Program} {sp : Specs} (hsp : SpecsOk P sp) (hm : P.follows .mixedOrders = true) {T : Cuts} {f : FuncId} {fn : Func} {g : Abs.Spec} {w : AVal → AHeap → (AVal → AHeap → Prop) → Prop} (hf : P.funcs[f]? = some fn)
    (he : ∀ (args : Array Value) (w : World), (callFunc f args).run P w = .ok (.enter f args) w)
    (hok : ∀ args H r H', g args H r H' → ∃ x0, args = [x0] ∧ w x0 H fun r1 H1 => Weak H r1 H1 r H')
    (heq : ∀ (x0 : AVal) (H : AHeap) (K : AVal → AHeap → Prop), evFn P sp T fn [x0] H K = w x0 H K) : FnOk P f g := by
  refine fn_ok hsp hm (T := T) hf he ?_
  intro args H r H' h
  obtain ⟨x0, rfl, hw⟩ := hok args H r H' h
  rw [heq]
  exact hw
theorem fn_ok2 {P : Program} {sp : Specs} (hsp : SpecsOk P sp) (hm : P.follows .mixedOrders = true) {T : Cuts} {f : FuncId} {fn : Func} {g : Abs.Spec} {w : AVal → AVal → AHeap → (AVal → AHeap → Prop) → Prop} (hf : P.funcs[f]? = some fn)
    (he : ∀ (args : Array Value) (w : World), (callFunc f args).run P w = .ok (.enter f args) w)
    (hok : ∀ args H r H', g args H r H' → ∃ x0 x1, args = [x0, x1] ∧ w x0 x1 H fun r1 H1 => Weak H r1 H1 r H')
    (heq : ∀ (x0 x1 : AVal) (H : AHeap) (K : AVal → AHeap → Prop), evFn P sp T fn [x0, x1] H K = w x0 x1 H K) : FnOk P f g := by
  refine fn_ok hsp hm (T := T) hf he ?_
  intro args H r H' h
  obtain ⟨x0, x1, rfl, hw⟩ := hok args H r H' h
  rw [heq]
  exact hw
theorem fn_ok3 {P : Program} {sp : Specs} (hsp : SpecsOk P sp) (hm : P.follows .mixedOrders = true) {T : Cuts} {f : FuncId} {fn : Func} {g : Abs.Spec} {w : AVal → AVal → AVal → AHeap → (AVal → AHeap → Prop) → Prop} (hf : P.funcs[f]? = some fn)
    (he : ∀ (args : Array Value) (w : World), (callFunc f args).run P w = .ok (.enter f args) w)
    (hok : ∀ args H r H', g args H r H' → ∃ x0 x1 x2, args = [x0, x1, x2] ∧ w x0 x1 x2 H fun r1 H1 => Weak H r1 H1 r H')
    (heq : ∀ (x0 x1 x2 : AVal) (H : AHeap) (K : AVal → AHeap → Prop), evFn P sp T fn [x0, x1, x2] H K = w x0 x1 x2 H K) : FnOk P f g := by
  refine fn_ok hsp hm (T := T) hf he ?_
  intro args H r H' h
  obtain ⟨x0, x1, x2, rfl, hw⟩ := hok args H r H' h
  rw [heq]
  exact hw
theorem fn_ok4 {P : Program} {sp : Specs} (hsp : SpecsOk P sp) (hm : P.follows .mixedOrders = true) {T : Cuts} {f : FuncId} {fn : Func} {g : Abs.Spec} {w : AVal → AVal → AVal → AVal → AHeap → (AVal → AHeap → Prop) → Prop} (hf : P.funcs[f]? = some fn)
    (he : ∀ (args : Array Value) (w : World), (callFunc f args).run P w = .ok (.enter f args) w)
    (hok : ∀ args H r H', g args H r H' → ∃ x0 x1 x2 x3, args = [x0, x1, x2, x3] ∧ w x0 x1 x2 x3 H fun r1 H1 => Weak H r1 H1 r H')
    (heq : ∀ (x0 x1 x2 x3 : AVal) (H : AHeap) (K : AVal → AHeap → Prop), evFn P sp T fn [x0, x1, x2, x3] H K = w x0 x1 x2 x3 H K) : FnOk P f g := by
  refine fn_ok hsp hm (T := T) hf he ?_
  intro args H r H' h
  obtain ⟨x0, x1, x2, x3, rfl, hw⟩ := hok args H r H' h
  rw [heq]
  exact hw
theorem fn_ok5 {P : Program} {sp : Specs} (hsp : SpecsOk P sp) (hm : P.follows .mixedOrders = true) {T : Cuts} {f : FuncId} {fn : Func} {g : Abs.Spec} {w : AVal → AVal → AVal → AVal → AVal → AHeap → (AVal → AHeap → Prop) → Prop} (hf : P.funcs[f]? = some fn)
    (he : ∀ (args : Array Value) (w : World), (callFunc f args).run P w = .ok (.enter f args) w)
    (hok : ∀ args H r H', g args H r H' → ∃ x0 x1 x2 x3 x4, args = [x0, x1, x2, x3, x4] ∧ w x0 x1 x2 x3 x4 H fun r1 H1 => Weak H r1 H1 r H')
    (heq : ∀ (x0 x1 x2 x3 x4 : AVal) (H : AHeap) (K : AVal → AHeap → Prop), evFn P sp T fn [x0, x1, x2, x3, x4] H K = w x0 x1 x2 x3 x4 H K) : FnOk P f g := by
  refine fn_ok hsp hm (T := T) hf he ?_
  intro args H r H' h
  obtain ⟨x0, x1, x2, x3, x4, rfl, hw⟩ := hok args H r H' h
  rw [heq]
  exact hw
theorem fn_ok6 {P : Program} {sp : Specs} (hsp : SpecsOk P sp) (hm : P.follows .mixedOrders = true) {T : Cuts} {f : FuncId} {fn : Func} {g : Abs.Spec} {w : AVal → AVal → AVal → AVal → AVal → AVal → AHeap → (AVal → AHeap → Prop) → Prop} (hf : P.funcs[f]? = some fn)
    (he : ∀ (args : Array Value) (w : World), (callFunc f args).run P w = .ok (.enter f args) w)
    (hok : ∀ args H r H', g args H r H' → ∃ x0 x1 x2 x3 x4 x5, args = [x0, x1, x2, x3, x4, x5] ∧ w x0 x1 x2 x3 x4 x5 H fun r1 H1 => Weak H r1 H1 r H')
    (heq : ∀ (x0 x1 x2 x3 x4 x5 : AVal) (H : AHeap) (K : AVal → AHeap → Prop), evFn P sp T fn [x0, x1, x2, x3, x4, x5] H K = w x0 x1 x2 x3 x4 x5 H K) : FnOk P f g := by
  refine fn_ok hsp hm (T := T) hf he ?_
  intro args H r H' h
  obtain ⟨x0, x1, x2, x3, x4, x5, rfl, hw⟩ := hok args H r H' h
  rw [heq]
  exact hw
/-- The same, where nothing is renamed. -/
theorem fn_okE {P : Program} {sp : Specs} (hsp : SpecsOk P sp) (hm : P.follows .mixedOrders = true) {T : Cuts} {f : FuncId} {fn : Func} {g : Abs.Spec} (hf : P.funcs[f]? = some fn)
    (he : ∀ (args : Array Value) (w : World), (callFunc f args).run P w = .ok (.enter f args) w)
    (h : ∀ args H r H', g args H r H' → evFn P sp T fn args H fun r1 H1 => r1 = r ∧ H1 = H') : FnOk P f g where
  enters := he
  does args H r H' hg E w vs hH hw ha := by
    refine Calls.mono (fn_calls hsp (draw_sound hsp hm) hf (h args H r H' hg) hH hw ha) ?_
    rintro e w' ⟨v, r1, E', rfl, ⟨rfl, hk⟩, hv, hw', hx⟩
    exact ⟨v, E', rfl, hv, hw', hk, hx⟩
theorem fn_ok1E {P : Program} {sp : Specs} (hsp : SpecsOk P sp) (hm : P.follows .mixedOrders = true) {T : Cuts} {f : FuncId} {fn : Func} {g : Abs.Spec} {w : AVal → AHeap → (AVal → AHeap → Prop) → Prop} (hf : P.funcs[f]? = some fn)
    (he : ∀ (args : Array Value) (w : World), (callFunc f args).run P w = .ok (.enter f args) w)
    (hok : ∀ args H r H', g args H r H' → ∃ x0, args = [x0] ∧ w x0 H fun r1 H1 => r1 = r ∧ H1 = H')
    (heq : ∀ (x0 : AVal) (H : AHeap) (K : AVal → AHeap → Prop), evFn P sp T fn [x0] H K = w x0 H K) : FnOk P f g := by
  refine fn_okE hsp hm (T := T) hf he ?_
  intro args H r H' h
  obtain ⟨x0, rfl, hw⟩ := hok args H r H' h
  rw [heq]
  exact hw
theorem fn_ok2E {P : Program} {sp : Specs} (hsp : SpecsOk P sp) (hm : P.follows .mixedOrders = true) {T : Cuts} {f : FuncId} {fn : Func} {g : Abs.Spec} {w : AVal → AVal → AHeap → (AVal → AHeap → Prop) → Prop} (hf : P.funcs[f]? = some fn)
    (he : ∀ (args : Array Value) (w : World), (callFunc f args).run P w = .ok (.enter f args) w)
    (hok : ∀ args H r H', g args H r H' → ∃ x0 x1, args = [x0, x1] ∧ w x0 x1 H fun r1 H1 => r1 = r ∧ H1 = H')
    (heq : ∀ (x0 x1 : AVal) (H : AHeap) (K : AVal → AHeap → Prop), evFn P sp T fn [x0, x1] H K = w x0 x1 H K) : FnOk P f g := by
  refine fn_okE hsp hm (T := T) hf he ?_
  intro args H r H' h
  obtain ⟨x0, x1, rfl, hw⟩ := hok args H r H' h
  rw [heq]
  exact hw
theorem fn_ok3E {P : Program} {sp : Specs} (hsp : SpecsOk P sp) (hm : P.follows .mixedOrders = true) {T : Cuts} {f : FuncId} {fn : Func} {g : Abs.Spec} {w : AVal → AVal → AVal → AHeap → (AVal → AHeap → Prop) → Prop} (hf : P.funcs[f]? = some fn)
    (he : ∀ (args : Array Value) (w : World), (callFunc f args).run P w = .ok (.enter f args) w)
    (hok : ∀ args H r H', g args H r H' → ∃ x0 x1 x2, args = [x0, x1, x2] ∧ w x0 x1 x2 H fun r1 H1 => r1 = r ∧ H1 = H')
    (heq : ∀ (x0 x1 x2 : AVal) (H : AHeap) (K : AVal → AHeap → Prop), evFn P sp T fn [x0, x1, x2] H K = w x0 x1 x2 H K) : FnOk P f g := by
  refine fn_okE hsp hm (T := T) hf he ?_
  intro args H r H' h
  obtain ⟨x0, x1, x2, rfl, hw⟩ := hok args H r H' h
  rw [heq]
  exact hw
theorem fn_ok4E {P : Program} {sp : Specs} (hsp : SpecsOk P sp) (hm : P.follows .mixedOrders = true) {T : Cuts} {f : FuncId} {fn : Func} {g : Abs.Spec} {w : AVal → AVal → AVal → AVal → AHeap → (AVal → AHeap → Prop) → Prop} (hf : P.funcs[f]? = some fn)
    (he : ∀ (args : Array Value) (w : World), (callFunc f args).run P w = .ok (.enter f args) w)
    (hok : ∀ args H r H', g args H r H' → ∃ x0 x1 x2 x3, args = [x0, x1, x2, x3] ∧ w x0 x1 x2 x3 H fun r1 H1 => r1 = r ∧ H1 = H')
    (heq : ∀ (x0 x1 x2 x3 : AVal) (H : AHeap) (K : AVal → AHeap → Prop), evFn P sp T fn [x0, x1, x2, x3] H K = w x0 x1 x2 x3 H K) : FnOk P f g := by
  refine fn_okE hsp hm (T := T) hf he ?_
  intro args H r H' h
  obtain ⟨x0, x1, x2, x3, rfl, hw⟩ := hok args H r H' h
  rw [heq]
  exact hw
end Go.Abs
