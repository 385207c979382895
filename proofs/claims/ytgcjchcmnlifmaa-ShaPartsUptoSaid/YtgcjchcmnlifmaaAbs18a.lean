/- What an operation's kind says of it. -/
import Derived.Test.YtgcjchcmnlifmaaAbs17
namespace Go.Abs
open Go

section
variable {P : Program} {sp : Specs}

theorem map_congr' {ρ ρ' : Operand → AVal} {l : List Operand} (h : ∀ x ∈ l, ρ x = ρ' x) : l.map ρ = l.map ρ' := List.map_congr_left h

theorem aop_congr {ρ ρ' : Operand → AVal} (op : Op) (h : ∀ x ∈ op.operands.toList, ρ x = ρ' x) (H : AHeap) : aop P op ρ H = aop P op ρ' H := by
  have pairs : ∀ ps : Array (Nat × Operand), (∀ x ∈ ps.toList.map (·.2), ρ x = ρ' x) → (ps.toList.map fun p => (p.1, ρ p.2)) = (ps.toList.map fun p => (p.1, ρ' p.2)) := fun ps hp =>
    List.map_congr_left fun p hm => by rw [hp p.2 (List.mem_map.2 ⟨p, hm, rfl⟩)]
  have opt : ∀ o : Option Operand, (∀ x ∈ o.toList, ρ x = ρ' x) → o.map ρ = o.map ρ' := fun o ho => by
    cases o with
    | none => rfl
    | some x => simp [ho x (by simp)]
  cases op <;> simp only [Op.operands] at h <;> simp only [aop]
  case build t ps => rw [pairs ps fun x hx => h x (by simpa using hx)]
  case buildSlice t n ps => rw [pairs ps fun x hx => h x (by simpa using hx)]
  case makeFunc fn first captured =>
    rw [map_congr' (l := first.toList) fun x hx => h x (by simp at hx ⊢; exact .inl hx), map_congr' (l := captured.toList) fun x hx => h x (by simp at hx ⊢; exact .inr hx)]
  case call c =>
    obtain ⟨callee, args, ts⟩ := c
    have ha : args.toList.map ρ = args.toList.map ρ' := map_congr' fun x hx => h x (by simp only [Call.operands]; cases callee <;> simp at hx ⊢ <;> first | exact hx | exact .inr hx)
    cases callee with
    | value f => rfl
    | invoke r m => rfl
    | builtin b => simp only [ha]
  case slice t x lo hi mx =>
    rw [h x (by simp), opt lo fun y hy => h y (by simp at hy ⊢; simp [hy]), opt hi fun y hy => h y (by simp at hy ⊢; simp [hy]), opt mx fun y hy => h y (by simp at hy ⊢; simp [hy])]
  all_goals (first | rfl | (simp at h; simp only [h]; done) | (simp at h; simp only [h.1, h.2]; done) | (simp at h; simp only [h.1, h.2.1, h.2.2]; done))

def Res.quietForm (r : Res) : Prop := (∃ v, r = .now v) ∨ (∃ q, r = .val q) ∨ r = .eff none

theorem quiet_cond (b : Bool) (q : Option AVal) : (cond b (Res.eff none) (Res.val q)).quietForm := by
  cases b
  · exact .inr (.inl ⟨_, rfl⟩)
  · exact .inr (.inr rfl)

theorem kind0 {op : Op} (hk : heapKind P sp op = 0) (ρ : Operand → AVal) (H H2 : AHeap) : aopR P op ρ H = aopR P op ρ H2 ∧ (aopR P op ρ H).quietForm := by
  cases op <;> simp only [heapKind] at hk
  all_goals try (exact absurd hk (by decide))
  case binOp b t x y t2 =>
    cases hs : scalarT P t with
    | true => simp only [aopR, hs, cond_true]; exact ⟨trivial, .inr (.inl ⟨_, rfl⟩)⟩
    | false => rw [hs] at hk; cases hk
  case call c =>
    obtain ⟨callee, args, ts⟩ := c
    exfalso
    cases callee with
    | value f =>
      cases f with
      | func k => simp only at hk; split at hk <;> cases hk
      | _ => cases hk
    | invoke r m => cases hk
    | builtin b => cases b <;> cases hk
  all_goals simp only [aopR]
  all_goals refine ⟨by first | rfl | trivial, ?_⟩
  all_goals (repeat' split)
  all_goals first
    | exact .inl ⟨_, rfl⟩
    | exact .inr (.inl ⟨_, rfl⟩)
    | exact .inr (.inr rfl)
    | exact quiet_cond _ _

theorem kind0_any {op : Op} (hk : heapKind P sp op = 0) {ρ : Operand → AVal} {H H' : AHeap} {v : AVal} (h : aop P op ρ H = some (v, H')) (H2 : AHeap) : H' = H ∧ aop P op ρ H2 = some (v, H2) := by
  rw [← aopR_ok] at h ⊢
  obtain ⟨k1, k2⟩ := kind0 (P := P) (sp := sp) hk ρ H H2
  rw [← k1]
  rcases k2 with ⟨x, hx⟩ | ⟨r, hx⟩ | hx <;> rw [hx] at h ⊢
  · simp only [Res.toOpt, Option.some.injEq, Prod.mk.injEq] at h ⊢; exact ⟨h.2.symm, h.1, trivial⟩
  · obtain ⟨e1, e2⟩ := keep_some h
    exact ⟨e2, by rw [e1]; rfl⟩
  · cases h

theorem keep_pre {H H' : AHeap} {r : Option AVal} {v : AVal} (h : keep H r = some (v, H')) : H <+: H' := by rw [(keep_some h).2]; exact List.prefix_refl _

theorem cond_some {α : Type} {b : Bool} {x : Option α} {y : α} (h : (cond b x none) = some y) : x = some y := by
  cases b
  · cases h
  · exact h

theorem aBuildSlice_pre {H H' : AHeap} {es n : Nat} {z : List AVal} {ps : List (Nat × AVal)} {v : AVal} (h : aBuildSlice H es z n ps = some (v, H')) : H <+: H' := by
  unfold aBuildSlice at h
  split at h
  · simp only [Option.some.injEq, Prod.mk.injEq] at h; rw [← h.2]; exact ⟨_, rfl⟩
  · cases h
theorem aMakeSlice_pre {H H' : AHeap} {b : Nat} {z : List AVal} {x y v : AVal} (h : aMakeSlice H b z x y = some (v, H')) : H <+: H' := by
  unfold aMakeSlice at h
  split at h
  · split at h
    · simp only [Option.some.injEq, Prod.mk.injEq] at h; rw [← h.2]; exact ⟨_, rfl⟩
    · cases h
  · cases h

theorem kind1_aop {op : Op} (hk : heapKind P sp op = 1) {ρ : Operand → AVal} {H H' : AHeap} {v : AVal} (h : aop P op ρ H = some (v, H')) : H <+: H' := by
  have pre : ∀ K : AHeap, H <+: H ++ K := fun K => ⟨K, rfl⟩
  cases op <;> simp only [heapKind] at hk
  all_goals try (exact absurd hk (by decide))
  all_goals simp only [aop] at h
  case binOp b t x y t2 =>
    cases hs : scalarT P t with
    | true => rw [hs] at hk; cases hk
    | false =>
      rw [hs] at h; simp only [cond_false] at h
      (repeat' split at h) <;> first | exact keep_pre h | cases h
  case alloc t =>
    split at h
    · simp only [aAlloc, Option.some.injEq, Prod.mk.injEq] at h; rw [← h.2]; exact pre _
    · cases h
  case box t x =>
    unfold aBox at h
    split at h
    · simp only [Option.some.injEq, Prod.mk.injEq] at h; rw [← h.2]; exact pre _
    · cases h
  case load t x => (repeat' split at h) <;> first | exact keep_pre h | cases h
  case convert s d x =>
    (repeat' split at h) <;> first | exact keep_pre h | cases h | skip
    unfold aStr2Bytes at h
    (repeat' split at h) <;> first | cases h | skip
    exact pre _
  case slice t x lo hi mx =>
    cases hc : (mx.isSome && !hi.isSome) with
    | true => rw [hc] at h; cases h
    | false =>
      rw [hc] at h; simp only [cond_false] at h
      split at h
      · cases mx <;> simp only [Option.isSome_none, Option.isSome_some, cond_false, cond_true] at h <;> first | exact keep_pre h | cases h
      all_goals (repeat' split at h) <;> first | exact keep_pre h | cases h
  case buildSlice t n ps =>
    split at h
    · split at h
      · exact aBuildSlice_pre (cond_some h)
      · cases h
    · cases h
  case makeSlice t l c =>
    split at h
    · split at h
      · exact aMakeSlice_pre (cond_some h)
      · cases h
    · cases h
  case call c =>
    obtain ⟨callee, args, ts⟩ := c
    cases callee with
    | invoke r m => cases hk
    | builtin b =>
      simp only at h
      generalize args.toList.map ρ = l at h
      unfold aBuiltin at h
      split at h
      · (repeat' split at h) <;> first | exact keep_pre h | cases h
      · cases hk
      · cases hk
      · exact keep_pre h
      · exact keep_pre h
      · cases h
    | value f => cases h

theorem not_call {op : Op} {ρ : Operand → AVal} {H H' : AHeap} {v : AVal} (h : ∀ f args ts, op ≠ .call ⟨.value f, args, ts⟩) : aopP P sp op ρ H v H' = (aop P op ρ H = some (v, H')) := by
  unfold aopP
  split
  · rename_i f args ts; exact absurd rfl (h f args ts)
  · rfl

theorem aopP_congr {ρ ρ' : Operand → AVal} (op : Op) (h : ∀ x ∈ op.operands.toList, ρ x = ρ' x) (H : AHeap) (v : AVal) (H' : AHeap) : aopP P sp op ρ H v H' = aopP P sp op ρ' H v H' := by
  unfold aopP
  split
  · rename_i f args ts
    simp only [Op.operands, Call.operands] at h
    rw [h f (by simp), map_congr' (l := args.toList) (ρ := ρ) (ρ' := ρ') fun x hx => h x (by simp at hx ⊢; exact .inr hx)]
  · rw [aop_congr op h H]

theorem kind0_P {op : Op} (hk : heapKind P sp op = 0) {ρ : Operand → AVal} {H H' : AHeap} {v : AVal} (h : aopP P sp op ρ H v H') (H2 : AHeap) : H' = H ∧ aopP P sp op ρ H2 v H2 := by
  have hn : ∀ f args ts, op ≠ .call ⟨.value f, args, ts⟩ := by
    rintro f args ts rfl
    simp only [heapKind] at hk
    cases f with
    | func k => simp only at hk; split at hk <;> cases hk
    | _ => cases hk
  rw [not_call hn] at h
  rw [not_call hn]
  exact kind0_any hk h H2

theorem kind1 (hq : ∀ f g, sp f = some (true, g) → ∀ args H r H', g args H r H' → H <+: H') {op : Op} (hk : heapKind P sp op = 1) {ρ : Operand → AVal} (hρ : ∀ k, ρ (.func k) = .func (.func k) [] []) {H H' : AHeap} {v : AVal} (h : aopP P sp op ρ H v H') : H <+: H' := by
  by_cases hc : ∃ f args ts, op = .call ⟨.value f, args, ts⟩
  · obtain ⟨f, args, ts, rfl⟩ := hc
    simp only [heapKind] at hk
    simp only [aopP] at h
    cases f with
    | func k =>
      simp only at hk
      split at hk
      · rename_i g hg
        rw [hρ] at h
        simp only [callP, hg] at h
        exact hq k g hg _ _ _ _ h
      · cases hk
    | _ => cases hk
  · rw [not_call fun f args ts e => hc ⟨f, args, ts, e⟩] at h
    exact kind1_aop hk h
end
end Go.Abs
