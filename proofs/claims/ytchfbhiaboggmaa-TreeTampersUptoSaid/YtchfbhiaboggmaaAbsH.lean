/- One text of these: Abs42, Abs43. -/
import Derived.Test.YtchfbhiaboggmaaAbsF

/- What is reckoned over calls of function values that are not known: more calls, more ends. -/
namespace Go.Abs
open Go

/-- What a call of a function value comes to. -/
abbrev CallsT := AVal → List AVal → AHeap → AVal → AHeap → Prop
abbrev CallsT.le (A B : CallsT) : Prop := ∀ f a H r H', A f a H r H' → B f a H r H'

/-- What holds of F's end holds of G's. -/
def Im {α : Type} (F G : (α → Prop) → Prop) : Prop := ∀ K K' : α → Prop, (∀ a, K a → K' a) → F K → G K'

section
variable {α : Type}
theorem Im.pt (a : α) : Im (fun K : α → Prop => K a) fun K => K a := fun _ _ h k => h _ k
theorem Im.no {G : (α → Prop) → Prop} : Im (fun _ : α → Prop => False) G := fun _ _ _ h => h.elim
theorem Im.vb {r : Option AVal} {F G : AVal → (α → Prop) → Prop} (h : ∀ v, Im (F v) (G v)) : Im (fun K => vb r fun v => F v K) fun K => vb r fun v => G v K := by
  cases r with
  | none => exact fun _ _ _ h => h.elim
  | some v => exact h v
theorem Im.hb {r : Option (AVal × AHeap)} {F G : AVal → AHeap → (α → Prop) → Prop} (h : ∀ v H, Im (F v H) (G v H)) : Im (fun K => hb r fun v H => F v H K) fun K => hb r fun v H => G v H K := by
  rcases r with _ | ⟨v, H⟩
  · exact fun _ _ _ h => h.elim
  · exact h v H
theorem Im.sb {r : Option AHeap} {F G : AHeap → (α → Prop) → Prop} (h : ∀ H, Im (F H) (G H)) : Im (fun K => sb r fun H => F H K) fun K => sb r fun H => G H K := by
  rcases r with _ | H
  · exact fun _ _ _ h => h.elim
  · exact h H
theorem Im.cb {R R' : AVal → AHeap → Prop} {F G : AVal → AHeap → (α → Prop) → Prop} (hr : ∀ v H, R v H → R' v H) (h : ∀ v H, Im (F v H) (G v H)) : Im (fun K => cb R fun v H => F v H K) fun K => cb R' fun v H => G v H K :=
  fun K K' hk ⟨v, H, r, g⟩ => ⟨v, H, hr v H r, h v H K K' hk g⟩
theorem Im.isB {x : AVal} {F G : Bool → (α → Prop) → Prop} (h : ∀ b, Im (F b) (G b)) : Im (fun K => isB x fun b => F b K) fun K => isB x fun b => G b K := by
  cases x <;> first | exact h _ | exact fun _ _ _ h => h.elim
theorem Im.cond {b : Bool} {A B A' B' : (α → Prop) → Prop} (h : Im A A') (k : Im B B') : Im (fun K => cond b (A K) (B K)) fun K => cond b (A' K) (B' K) := by
  cases b
  · exact k
  · exact h
theorem Im.onE {e x : AExit} {A B A' B' : (α → Prop) → Prop} (h : Im A A') (k : Im B B') : Im (fun K => onE e x (A K) (B K)) fun K => onE e x (A' K) (B' K) := by
  by_cases q : e = x
  · subst q; simp only [onE_same]; exact h
  · have : ∀ X Y, Go.Abs.onE e x X Y = Y := fun X Y => if_neg q
    simp only [this]; exact k
theorem Im.fin {e : AExit} {rs : List Rv} {H : AHeap} : Im (fun K : AVal × AHeap → Prop => fin e rs H fun r H => K (r, H)) fun K => fin e rs H fun r H => K (r, H) := by
  intro K K' hk h
  refine ⟨h.1, ?_⟩
  have := h.2
  cases hr : rvs H rs with
  | none => rw [hr] at this; exact this.elim
  | some vs => rw [hr] at this; exact hk _ this
theorem Im.join {A A' : (AExit → List AVal → AHeap → Prop) → Prop} {T T' : AExit → List AVal → AHeap → (α → Prop) → Prop}
    (h : Im (fun Q : AExit × List AVal × AHeap → Prop => A fun e vs H => Q (e, vs, H)) fun Q => A' fun e vs H => Q (e, vs, H)) (t : ∀ e vs H, Im (T e vs H) (T' e vs H)) :
    Im (fun K => JoinP A fun e vs H => T e vs H K) fun K => JoinP A' fun e vs H => T' e vs H K :=
  fun K K' hk ⟨Q, a, q⟩ => ⟨Q, h (fun p => Q p.1 p.2.1 p.2.2) (fun p => Q p.1 p.2.1 p.2.2) (fun _ x => x) a, fun e vs H x => t e vs H K K' hk (q e vs H x)⟩
theorem Im.loop {B B' : Body} {vs : List AVal} {H : AHeap} {T T' : AExit → List AVal → AHeap → (α → Prop) → Prop}
    (h : ∀ vs H, Im (fun K : (List AVal × AHeap) ⊕ (AExit × List AVal × AHeap) → Prop => B vs H (fun vs H => K (.inl (vs, H))) (fun e vs H => K (.inr (e, vs, H)))) fun K => B' vs H (fun vs H => K (.inl (vs, H))) (fun e vs H => K (.inr (e, vs, H))))
    (t : ∀ e vs H, Im (T e vs H) (T' e vs H)) : Im (fun K => LoopP B vs H fun e vs H => T e vs H K) fun K => LoopP B' vs H fun e vs H => T' e vs H K := by
  rintro K K' hk ⟨n, x⟩
  refine ⟨n, ?_⟩
  induction n generalizing vs H with
  | zero => exact x.elim
  | succ n ih =>
    exact h vs H (fun s => match s with | .inl p => LoopN B (fun e vs H => T e vs H K) n p.1 p.2 | .inr p => T p.1 p.2.1 p.2.2 K) (fun s => match s with | .inl p => LoopN B' (fun e vs H => T' e vs H K') n p.1 p.2 | .inr p => T' p.1 p.2.1 p.2.2 K')
      (by rintro (⟨_, _⟩ | ⟨_, _, _⟩) y
          · exact ih y
          · exact t _ _ _ K K' hk y) x
end
/-- The same, of a function. -/
theorem Im.fn {F G : (AVal → AHeap → Prop) → Prop} (h : Im (fun K : AVal × AHeap → Prop => F fun r H => K (r, H)) fun K => G fun r H => K (r, H)) {K : AVal → AHeap → Prop} (k : F K) : G K :=
  h (fun p => K p.1 p.2) (fun p => K p.1 p.2) (fun _ x => x) k
end Go.Abs

/- Functions of five and more parameters. -/
namespace Go.Abs
open Go
theorem fn_ok5E {P : Program} {sp : Specs} (hsp : SpecsOk P sp) (hm : P.follows .mixedOrders = true) {T : Cuts} {f : FuncId} {fn : Func} {g : Abs.Spec} {w : AVal → AVal → AVal → AVal → AVal → AHeap → (AVal → AHeap → Prop) → Prop} (hf : P.funcs[f]? = some fn)
    (he : ∀ (args : Array Value) (w : World), (callFunc f args).run P w = .ok (.enter f args) w)
    (hok : ∀ args H r H', g args H r H' → ∃ x0 x1 x2 x3 x4, args = [x0, x1, x2, x3, x4] ∧ w x0 x1 x2 x3 x4 H fun r1 H1 => r1 = r ∧ H1 = H')
    (heq : ∀ (x0 x1 x2 x3 x4 : AVal) (H : AHeap) (K : AVal → AHeap → Prop), evFn P sp T fn [x0, x1, x2, x3, x4] H K = w x0 x1 x2 x3 x4 H K) : FnOk P f g := by
  refine fn_okE hsp hm (T := T) hf he ?_
  intro args H r H' h
  obtain ⟨x0, x1, x2, x3, x4, rfl, hw⟩ := hok args H r H' h
  rw [heq]
  exact hw
end Go.Abs
