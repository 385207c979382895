/- One text of these: Abs36, Abs37, Abs38, Abs39, Abs40. -/
import Derived.Below
import Derived.Lib.Join
import Derived.Test.YtchfbhiaboggmaaAbsE

/- What is reckoned comes to one end: a function's own text is what is told of it. -/
namespace Go.Abs
open Go

/-- It comes to one end, whatever is asked of that end. -/
structure Ex {α : Type} (F : (α → Prop) → Prop) : Prop where
  mono : ∀ K K' : α → Prop, (∀ a, K a → K' a) → F K → F K'
  one : ∀ K, F K → ∃ a, K a ∧ F fun x => x = a

section
variable {α : Type}
theorem Ex.pt (a : α) : Ex fun K : α → Prop => K a := ⟨fun _ _ h k => h _ k, fun _ k => ⟨a, k, rfl⟩⟩
theorem Ex.no : Ex fun _ : α → Prop => False := ⟨fun _ _ _ h => h, fun _ h => h.elim⟩
theorem Ex.vb {r : Option AVal} {G : AVal → (α → Prop) → Prop} (h : ∀ v, Ex (G v)) : Ex fun K => vb r fun v => G v K := by
  cases r with
  | none => exact Ex.no
  | some v => exact h v
theorem Ex.hb {r : Option (AVal × AHeap)} {G : AVal → AHeap → (α → Prop) → Prop} (h : ∀ v H, Ex (G v H)) : Ex fun K => hb r fun v H => G v H K := by
  rcases r with _ | ⟨v, H⟩
  · exact Ex.no
  · exact h v H
theorem Ex.sb {r : Option AHeap} {G : AHeap → (α → Prop) → Prop} (h : ∀ H, Ex (G H)) : Ex fun K => sb r fun H => G H K := by
  rcases r with _ | H
  · exact Ex.no
  · exact h H
theorem Ex.cb {R : AVal → AHeap → Prop} {G : AVal → AHeap → (α → Prop) → Prop} (h : ∀ v H, Ex (G v H)) : Ex fun K => cb R fun v H => G v H K where
  mono K K' hk := fun ⟨v, H, r, g⟩ => ⟨v, H, r, (h v H).mono K K' hk g⟩
  one K := fun ⟨v, H, r, g⟩ => by
    obtain ⟨a, k, g'⟩ := (h v H).one K g
    exact ⟨a, k, v, H, r, g'⟩
theorem Ex.isB {x : AVal} {G : Bool → (α → Prop) → Prop} (h : ∀ b, Ex (G b)) : Ex fun K => isB x fun b => G b K := by
  cases x <;> first | exact h _ | exact Ex.no
theorem Ex.cond {b : Bool} {A B : (α → Prop) → Prop} (h : Ex A) (k : Ex B) : Ex fun K => cond b (A K) (B K) := by
  cases b
  · exact k
  · exact h
theorem Ex.onE {e x : AExit} {A B : (α → Prop) → Prop} (h : Ex A) (k : Ex B) : Ex fun K => onE e x (A K) (B K) := by
  by_cases q : e = x
  · subst q; simp only [onE_same]; exact h
  · have : ∀ X Y, Go.Abs.onE e x X Y = Y := fun X Y => if_neg q
    simp only [this]; exact k
theorem Ex.fin {e : AExit} {rs : List Rv} {H : AHeap} : Ex fun K : AVal × AHeap → Prop => fin e rs H fun r H => K (r, H) := by
  unfold Go.Abs.fin
  by_cases q : e = .normal ∨ e = .ret
  · simp only [q, true_and]
    cases rvs H rs with
    | none => exact Ex.no
    | some vs => exact Ex.pt (tup1 vs, H)
  · simp only [q, false_and]; exact Ex.no
theorem Ex.join {A : (AExit → List AVal → AHeap → Prop) → Prop} {T : AExit → List AVal → AHeap → (α → Prop) → Prop}
    (h : Ex fun Q : AExit × List AVal × AHeap → Prop => A fun e vs H => Q (e, vs, H)) (t : ∀ e vs H, Ex (T e vs H)) : Ex fun K => JoinP A fun e vs H => T e vs H K where
  mono K K' hk := fun ⟨Q, a, q⟩ => ⟨Q, a, fun e vs H x => (t e vs H).mono K K' hk (q e vs H x)⟩
  one K := fun ⟨Q, a, q⟩ => by
    obtain ⟨⟨e, vs, H⟩, h1, h2⟩ := h.one (fun p => Q p.1 p.2.1 p.2.2) a
    obtain ⟨b, k, tb⟩ := (t e vs H).one K (q e vs H h1)
    refine ⟨b, k, fun e1 vs1 H1 => (e1, vs1, H1) = (e, vs, H), h2, fun e1 vs1 H1 x => ?_⟩
    cases x
    exact tb
/-- One round of a loop. -/
def roundOf (B : Body) (vs : List AVal) (H : AHeap) (K : (List AVal × AHeap) ⊕ (AExit × List AVal × AHeap) → Prop) : Prop :=
  B vs H (fun vs H => K (.inl (vs, H))) (fun e vs H => K (.inr (e, vs, H)))
theorem LoopN.one {B : Body} (h : ∀ vs H, Ex (roundOf B vs H)) {K : AExit → List AVal → AHeap → Prop} : ∀ (n : Nat) (vs : List AVal) (H : AHeap), LoopN B K n vs H →
    ∃ e vs' H', K e vs' H' ∧ LoopN B (fun e1 vs1 H1 => (e1, vs1, H1) = (e, vs', H')) n vs H
  | 0, _, _, x => x.elim
  | n + 1, vs, H, x => by
    obtain ⟨a, h1, h2⟩ := (h vs H).one (fun s => match s with | .inl p => LoopN B K n p.1 p.2 | .inr p => K p.1 p.2.1 p.2.2) x
    rcases a with ⟨vs1, H1⟩ | ⟨e, vs1, H1⟩
    · obtain ⟨e, vs2, H2, k, l⟩ := LoopN.one h n vs1 H1 h1
      refine ⟨e, vs2, H2, k, ?_⟩
      exact (h vs H).mono _ (fun s => match s with | .inl p => LoopN B (fun e1 vs1 H1 => (e1, vs1, H1) = (e, vs2, H2)) n p.1 p.2 | .inr p => (p.1, p.2.1, p.2.2) = (e, vs2, H2)) (by rintro _ rfl; exact l) h2
    · refine ⟨e, vs1, H1, h1, ?_⟩
      exact (h vs H).mono _ (fun s => match s with | .inl p => LoopN B (fun e1 vs2 H2 => (e1, vs2, H2) = (e, vs1, H1)) n p.1 p.2 | .inr p => (p.1, p.2.1, p.2.2) = (e, vs1, H1)) (by rintro _ rfl; rfl) h2
theorem LoopN.mono {B : Body} (h : ∀ vs H, Ex (roundOf B vs H)) {K K' : AExit → List AVal → AHeap → Prop} (hk : ∀ e vs H, K e vs H → K' e vs H) : ∀ (n : Nat) (vs : List AVal) (H : AHeap), LoopN B K n vs H → LoopN B K' n vs H
  | 0, _, _, x => x.elim
  | n + 1, vs, H, x =>
    (h vs H).mono (fun s => match s with | .inl p => LoopN B K n p.1 p.2 | .inr p => K p.1 p.2.1 p.2.2) (fun s => match s with | .inl p => LoopN B K' n p.1 p.2 | .inr p => K' p.1 p.2.1 p.2.2)
      (by rintro (⟨_, _⟩ | ⟨_, _, _⟩) y
          · exact LoopN.mono h hk n _ _ y
          · exact hk _ _ _ y) x
theorem Ex.loop {B : Body} {vs : List AVal} {H : AHeap} {T : AExit → List AVal → AHeap → (α → Prop) → Prop}
    (h : ∀ vs H, Ex fun K : (List AVal × AHeap) ⊕ (AExit × List AVal × AHeap) → Prop => B vs H (fun vs H => K (.inl (vs, H))) (fun e vs H => K (.inr (e, vs, H))))
    (t : ∀ e vs H, Ex (T e vs H)) : Ex fun K => LoopP B vs H fun e vs H => T e vs H K where
  mono K K' hk := fun ⟨n, x⟩ => ⟨n, LoopN.mono h (fun e vs H y => (t e vs H).mono K K' hk y) n vs H x⟩
  one K := fun ⟨n, x⟩ => by
    obtain ⟨e, vs1, H1, k, l⟩ := LoopN.one h n vs H x
    obtain ⟨b, kb, tb⟩ := (t e vs1 H1).one K k
    exact ⟨b, kb, n, LoopN.mono h (fun e2 vs2 H2 y => by cases y; exact tb) n vs H l⟩
end
/-- What is asked of the end holds of some end, and that is the one. -/
theorem Ex.out {F : (AVal → AHeap → Prop) → Prop} (h : Ex fun K : AVal × AHeap → Prop => F fun r H => K (r, H)) {Q : AVal → AHeap → Prop} (k : F Q) :
    ∃ r H', (F fun r1 H1 => r1 = r ∧ H1 = H') ∧ Q r H' := by
  obtain ⟨⟨r, H'⟩, h1, h2⟩ := h.one (fun p => Q p.1 p.2) k
  exact ⟨r, H', h.mono (fun x => x = (r, H')) (fun p => p.1 = r ∧ p.2 = H') (fun _ hp => by subst hp; exact ⟨rfl, rfl⟩) h2, h1⟩
end Go.Abs

/- Heaps in parts: what is known of some blocks, each apart from the others, and that all else is as it was. -/
namespace Go.Abs
open Go

/-- What is known of some blocks. -/
structure Part where
  ids : List Nat
  ok : AHeap → Prop
  loc : ∀ B C : AHeap, (∀ i ∈ ids, C[i]? = B[i]?) → ok B → ok C
  live : ∀ B : AHeap, ok B → ∀ i ∈ ids, i < B.length

def Part.obj (i : Nat) (o : AObj) : Part where
  ids := [i]
  ok B := B[i]? = some o
  loc B C h k := by rw [h i (by simp)]; exact k
  live B h j hj := by simp at hj; subst hj; exact lt_of_some h
def Part.and (a b : Part) : Part where
  ids := a.ids ++ b.ids
  ok B := a.ok B ∧ b.ok B ∧ ∀ i ∈ a.ids, i ∉ b.ids
  loc B C h k := ⟨a.loc B C (fun i hi => h i (List.mem_append_left _ hi)) k.1, b.loc B C (fun i hi => h i (List.mem_append_right _ hi)) k.2.1, k.2.2⟩
  live B h i hi := by
    rcases List.mem_append.1 hi with hi | hi
    · exact a.live B h.1 i hi
    · exact b.live B h.2.1 i hi
theorem Own.loc {B C : AHeap} {sv : AVal} {es n : Nat} {cs : List AVal} (h : ∀ i ∈ (slId sv).toList, C[i]? = B[i]?) (k : Own B sv es n cs) : Own C sv es n cs := by
  obtain ⟨h1, h2⟩ := k
  refine ⟨h1, ?_⟩
  rcases h2 with h2 | ⟨i, v, rfl, h3⟩ | ⟨i, v, rfl, h3⟩
  · exact .inl h2
  · exact .inr (.inl ⟨i, v, rfl, by rw [h i (by simp [slId])]; exact h3⟩)
  · exact .inr (.inr ⟨i, v, rfl, by rw [h i (by simp [slId])]; exact h3⟩)
/-- A slice that nobody else has. -/
def Part.sl (sv : AVal) (es n : Nat) (cs : List AVal) : Part where
  ids := (slId sv).toList
  ok B := Own B sv es n cs
  loc _ _ h k := Own.loc h k
  live _ h i hi := Own.lt h (by simpa using hi)
/-- In some of these. -/
def inn (rs : List Part) (i : Nat) : Prop := ∃ r ∈ rs, i ∈ r.ids

structure Sep (H0 : AHeap) (own : Nat → Prop) (B : AHeap) (rs : List Part) : Prop where
  len : H0.length ≤ B.length
  frame : ∀ k, k < H0.length → ¬ own k → B[k]? = H0[k]?
  ok : ∀ r ∈ rs, r.ok B
  mine : ∀ r ∈ rs, ∀ i ∈ r.ids, H0.length ≤ i ∨ own i
  apart : rs.Pairwise fun a b => ∀ i ∈ a.ids, i ∉ b.ids

section
variable {H0 B C : AHeap} {own own' : Nat → Prop} {R R' R1 R2 : List Part} {a b c d e f g q : Part}
theorem Sep.start (H : AHeap) : Sep H own H [] := ⟨Nat.le_refl _, fun _ _ _ => rfl, fun _ h => (by cases h), fun _ h => (by cases h), List.Pairwise.nil⟩
theorem apart_symm {x y : Part} (h : ∀ i ∈ x.ids, i ∉ y.ids) : ∀ i ∈ y.ids, i ∉ x.ids := fun i hi hx => h i hx hi
theorem Sep.perm (h : Sep H0 own B R) (p : R.Perm R') : Sep H0 own B R' :=
  ⟨h.len, h.frame, fun r hr => h.ok r (p.mem_iff.2 hr), fun r hr => h.mine r (p.mem_iff.2 hr), (p.pairwise_iff (fun {_ _} => apart_symm)).1 h.apart⟩
theorem Sep.f1 (h : Sep H0 own B (a :: b :: R)) : Sep H0 own B (b :: a :: R) := h.perm (List.Perm.swap _ _ _)
theorem Sep.f2 (h : Sep H0 own B (a :: b :: c :: R)) : Sep H0 own B (c :: a :: b :: R) := h.perm (by
  have := (List.perm_middle (a := c) (l₁ := [a, b]) (l₂ := R)); simpa using this)
theorem Sep.f3 (h : Sep H0 own B (a :: b :: c :: d :: R)) : Sep H0 own B (d :: a :: b :: c :: R) := h.perm (by
  have := (List.perm_middle (a := d) (l₁ := [a, b, c]) (l₂ := R)); simpa using this)
theorem Sep.f4 (h : Sep H0 own B (a :: b :: c :: d :: e :: R)) : Sep H0 own B (e :: a :: b :: c :: d :: R) := h.perm (by
  have := (List.perm_middle (a := e) (l₁ := [a, b, c, d]) (l₂ := R)); simpa using this)
theorem Sep.f5 (h : Sep H0 own B (a :: b :: c :: d :: e :: f :: R)) : Sep H0 own B (f :: a :: b :: c :: d :: e :: R) := h.perm (by
  have := (List.perm_middle (a := f) (l₁ := [a, b, c, d, e]) (l₂ := R)); simpa using this)
theorem Sep.f6 (h : Sep H0 own B (a :: b :: c :: d :: e :: f :: g :: R)) : Sep H0 own B (g :: a :: b :: c :: d :: e :: f :: R) := h.perm (by
  have := (List.perm_middle (a := g) (l₁ := [a, b, c, d, e, f]) (l₂ := R)); simpa using this)
theorem Sep.f7 (h : Sep H0 own B (a :: b :: c :: d :: e :: f :: g :: q :: R)) : Sep H0 own B (q :: a :: b :: c :: d :: e :: f :: g :: R) := h.perm (by
  have := (List.perm_middle (a := q) (l₁ := [a, b, c, d, e, f, g]) (l₂ := R)); simpa using this)
theorem Sep.tail (h : Sep H0 own B (a :: R)) : Sep H0 own B R :=
  ⟨h.len, h.frame, fun r hr => h.ok r (List.mem_cons_of_mem _ hr), fun r hr => h.mine r (List.mem_cons_of_mem _ hr), (List.pairwise_cons.1 h.apart).2⟩
theorem Sep.drop (h : Sep H0 own B (R1 ++ R)) : Sep H0 own B R1 :=
  ⟨h.len, h.frame, fun r hr => h.ok r (List.mem_append_left _ hr), fun r hr => h.mine r (List.mem_append_left _ hr), (List.pairwise_append.1 h.apart).1⟩
theorem Sep.head (h : Sep H0 own B (a :: R)) : a.ok B := h.ok a List.mem_cons_self
theorem Sep.sub (h : Sep H0 own B (R1 ++ R)) : Sep B (inn R1) B R1 :=
  ⟨Nat.le_refl _, fun _ _ _ => rfl, h.drop.ok, fun r hr _ hi => .inr ⟨r, hr, hi⟩, h.drop.apart⟩
/-- What a call makes of some parts. -/
theorem Sep.call (h : Sep H0 own B (R1 ++ R)) (k : Sep B (inn R1) C R2) : Sep H0 own C (R2 ++ R) := by
  obtain ⟨p1, p2, p3⟩ := List.pairwise_append.1 h.apart
  have hR : ∀ s ∈ R, ∀ i ∈ s.ids, i < B.length ∧ ¬ inn R1 i := fun s hs i hi => by
    refine ⟨s.live B (h.ok s (List.mem_append_right _ hs)) i hi, ?_⟩
    rintro ⟨r, hr, hri⟩
    exact p3 r hr s hs i hri hi
  refine ⟨Nat.le_trans h.len k.len, fun j hj hn => ?_, fun s hs => ?_, fun s hs i hi => ?_, List.pairwise_append.2 ⟨k.apart, p2, fun r hr s hs i hi hsi => ?_⟩⟩
  · rw [k.frame j (Nat.lt_of_lt_of_le hj h.len) ?_]
    · exact h.frame j hj hn
    · rintro ⟨r, hr, hri⟩
      rcases h.mine r (List.mem_append_left _ hr) j hri with hm | hm
      · omega
      · exact hn hm
  · rcases List.mem_append.1 hs with hs | hs
    · exact k.ok s hs
    · exact s.loc B C (fun i hi => k.frame i (hR s hs i hi).1 (hR s hs i hi).2) (h.ok s (List.mem_append_right _ hs))
  · rcases List.mem_append.1 hs with hs | hs
    · rcases k.mine s hs i hi with hm | ⟨r, hr, hri⟩
      · exact .inl (Nat.le_trans h.len hm)
      · exact h.mine r (List.mem_append_left _ hr) i hri
    · exact h.mine s (List.mem_append_right _ hs) i hi
  · obtain ⟨q1, q2⟩ := hR s hs i hsi
    rcases k.mine r hr i hi with hm | hm
    · omega
    · exact q2 hm
theorem Sep.call0 (h : Sep H0 own B R) (k : Sep B (inn []) C R2) : Sep H0 own C (R2 ++ R) := Sep.call (R1 := []) h k
theorem Sep.call01 (h : Sep H0 own B R) (k : Sep B (inn []) C [a]) : Sep H0 own C (a :: R) := Sep.call (R1 := []) h k
theorem Sep.quiet (h : Sep H0 own B R) (k : B <+: C) : Sep H0 own C R :=
  Sep.call (R1 := []) (R2 := []) h ⟨k.length_le, fun j hj _ => pre_get k hj, fun _ h => (by cases h), fun _ h => (by cases h), List.Pairwise.nil⟩
theorem Sep.add (h : Sep H0 own B R) {i : Nat} {o : AObj} (hi : B.length ≤ i) (k : B <+: C) (hc : C[i]? = some o) : Sep H0 own C (.obj i o :: R) :=
  Sep.call (R1 := []) (R2 := [.obj i o]) h ⟨k.length_le, fun j hj _ => pre_get k hj, fun r hr => (by simp at hr; subst hr; exact hc), fun r hr j hj => (by simp at hr; subst hr; simp [Part.obj] at hj; exact .inl (by omega)), List.pairwise_singleton _ _⟩
theorem Sep.new (h : Sep H0 own B R) (o : AObj) : Sep H0 own (B ++ [o]) (.obj B.length o :: R) := h.add (Nat.le_refl _) (pre_app _ _) (by rw [app_get0]; rfl)
/-- One part is another one now, of the same blocks. -/
theorem Sep.put (h : Sep H0 own B (a :: R)) (hl : B.length ≤ C.length) (hi : ∀ i ∈ b.ids, i ∈ a.ids ∨ B.length ≤ i) (hf : ∀ k, k < B.length → k ∉ a.ids → C[k]? = B[k]?) (hc : b.ok C) : Sep H0 own C (b :: R) :=
  Sep.call (R1 := [a]) (R2 := [b]) h ⟨hl, fun j hj hn => hf j hj fun hja => hn ⟨a, by simp, hja⟩, fun r hr => (by simp at hr; subst hr; exact hc),
    fun r hr j hj => (by simp at hr; subst hr; exact (hi j hj).elim (fun x => .inr ⟨a, by simp, x⟩) .inl), List.pairwise_singleton _ _⟩
theorem Sep.set {i : Nat} {o : AObj} (h : Sep H0 own B (.obj i o :: R)) (o' : AObj) : Sep H0 own (B.set i o') (.obj i o' :: R) :=
  h.put (by simp) (fun j hj => .inl hj) (fun k _ hk => List.getElem?_set_ne (by simp [Part.obj] at hk; omega)) (by
    have := lt_of_some h.head
    show (B.set i o')[i]? = some o'
    rw [List.getElem?_set_self this])
/-- The same, told otherwise. -/
theorem Sep.as (h : Sep H0 own B (a :: R)) (hi : b.ids = a.ids) (hc : a.ok B → b.ok B) : Sep H0 own B (b :: R) :=
  h.put (Nat.le_refl _) (fun j hj => .inl (by rw [← hi]; exact hj)) (fun _ _ _ => rfl) (hc h.head)
theorem Sep.split (h : Sep H0 own B (a.and b :: R)) : Sep H0 own B (a :: b :: R) := by
  obtain ⟨p1, p2⟩ := List.pairwise_cons.1 h.apart
  obtain ⟨o1, o2, o3⟩ := h.head
  refine ⟨h.len, h.frame, fun r hr => ?_, fun r hr i hi => ?_, List.pairwise_cons.2 ⟨fun s hs i hi => ?_, List.pairwise_cons.2 ⟨fun s hs i hi => ?_, p2⟩⟩⟩
  · rcases List.mem_cons.1 hr with rfl | hr
    · exact o1
    · rcases List.mem_cons.1 hr with rfl | hr
      · exact o2
      · exact h.ok r (List.mem_cons_of_mem _ hr)
  · rcases List.mem_cons.1 hr with rfl | hr
    · exact h.mine _ List.mem_cons_self i (List.mem_append_left _ hi)
    · rcases List.mem_cons.1 hr with rfl | hr
      · exact h.mine _ List.mem_cons_self i (List.mem_append_right _ hi)
      · exact h.mine r (List.mem_cons_of_mem _ hr) i hi
  · rcases List.mem_cons.1 hs with rfl | hs
    · exact o3 i hi
    · exact p1 s hs i (List.mem_append_left _ hi)
  · exact p1 s hs i (List.mem_append_right _ hi)
theorem Sep.join (h : Sep H0 own B (a :: b :: R)) : Sep H0 own B (a.and b :: R) := by
  obtain ⟨p1, p2⟩ := List.pairwise_cons.1 h.apart
  obtain ⟨p3, p4⟩ := List.pairwise_cons.1 p2
  refine ⟨h.len, h.frame, fun r hr => ?_, fun r hr i hi => ?_, List.pairwise_cons.2 ⟨fun s hs i hi => ?_, p4⟩⟩
  · rcases List.mem_cons.1 hr with rfl | hr
    · exact ⟨h.head, h.tail.head, p1 b List.mem_cons_self⟩
    · exact h.ok r (List.mem_cons_of_mem _ (List.mem_cons_of_mem _ hr))
  · rcases List.mem_cons.1 hr with rfl | hr
    · rcases List.mem_append.1 hi with hi | hi
      · exact h.mine a List.mem_cons_self i hi
      · exact h.mine b (List.mem_cons_of_mem _ List.mem_cons_self) i hi
    · exact h.mine r (List.mem_cons_of_mem _ (List.mem_cons_of_mem _ hr)) i hi
  · rcases List.mem_append.1 hi with hi | hi
    · exact p1 s (List.mem_cons_of_mem _ hs) i hi
    · exact p3 s hs i hi
theorem Sep.own_of (h : Sep H0 own B R) (hw : ∀ i, own i → own' i) : Sep H0 own' B R :=
  ⟨h.len, fun k hk hn => h.frame k hk fun x => hn (hw k x), h.ok, fun r hr i hi => (h.mine r hr i hi).imp id (hw i), h.apart⟩
/-- Nothing old has changed. -/
theorem Sep.pre (h : Sep H0 own B R) (hn : ∀ i, ¬ own i) : H0 <+: B := pre_of_get h.len fun k hk => h.frame k hk (hn k)
theorem Sep.view {x : AVal} {es n : Nat} {cs : List AVal} (h : Sep H0 own B R) (hv : View H0 x es n cs) (hn : ∀ i, slId x = some i → ¬ own i) : View B x es n cs := by
  obtain ⟨h1, h2⟩ := hv
  refine ⟨h1, ?_⟩
  rcases h2 with h2 | ⟨i, v, off, cp, kd, cs', rfl, h3, h4⟩
  · exact .inl h2
  · exact .inr ⟨i, v, off, cp, kd, cs', rfl, (h.frame i (lt_of_some h3) (hn i rfl)).trans h3, h4⟩
theorem Sep.g0 {i : Nat} {o : AObj} (h : Sep H0 own B (.obj i o :: R)) : B[i]? = some o := h.head
theorem Sep.g1 {i : Nat} {o : AObj} (h : Sep H0 own B (a :: .obj i o :: R)) : B[i]? = some o := h.tail.head
theorem Sep.g2 {i : Nat} {o : AObj} (h : Sep H0 own B (a :: b :: .obj i o :: R)) : B[i]? = some o := h.tail.tail.head
theorem Sep.g3 {i : Nat} {o : AObj} (h : Sep H0 own B (a :: b :: c :: .obj i o :: R)) : B[i]? = some o := h.tail.tail.tail.head
theorem Sep.g4 {i : Nat} {o : AObj} (h : Sep H0 own B (a :: b :: c :: d :: .obj i o :: R)) : B[i]? = some o := h.tail.tail.tail.tail.head
theorem Sep.o0 {sv : AVal} {es n : Nat} {cs : List AVal} (h : Sep H0 own B (.sl sv es n cs :: R)) : Own B sv es n cs := h.head
theorem Sep.o1 {sv : AVal} {es n : Nat} {cs : List AVal} (h : Sep H0 own B (a :: .sl sv es n cs :: R)) : Own B sv es n cs := h.tail.head
theorem Sep.o2 {sv : AVal} {es n : Nat} {cs : List AVal} (h : Sep H0 own B (a :: b :: .sl sv es n cs :: R)) : Own B sv es n cs := h.tail.tail.head
end

/-! ### Steps -/
section
variable {H0 B : AHeap} {own : Nat → Prop} {R : List Part} {K : AVal → AHeap → Prop} {K3 : AHeap → Prop}
theorem s_alloc (h : Sep H0 own B R) {z : List AVal} (k : ∀ i C, B <+: C → Sep H0 own C (.obj i (.cells 0 .exact z) :: R) → K (.ptr ⟨i, 0, 0⟩) C) : hb (aAlloc B z) K :=
  k _ _ (pre_app _ _) (h.new _)
theorem s_box (h : Sep H0 own B R) {x : AVal} (hx : x.defd = true) (k : ∀ i C, B <+: C → Sep H0 own C (.obj i (.cells 0 .exact x.cells) :: R) → K (.ptr ⟨i, 0, 0⟩) C) : hb (aBox B x) K := by
  rw [e_box hx]; exact k _ _ (pre_app _ _) (h.new _)
theorem s_store1 {i v off : Nat} {kd : Kd} {cs : List AVal} {x : AVal} (h : Sep H0 own B (.obj i (.cells v kd cs) :: R)) (hk : kd.rw = true) (hx : x.sc = true) (hl : off < cs.length)
    (k : ∀ C, Sep H0 own C (.obj i (.cells v kd (cs.set off x)) :: R) → K3 C) : sb (aStore B 1 (.ptr ⟨i, v, off⟩) x) K3 := by
  rw [x_store1 hx, h.g0, x_st1 hk hl]; exact k _ (h.set _)
theorem s_storeN {i v off n : Nat} {kd : Kd} {cs xs : List AVal} (h : Sep H0 own B (.obj i (.cells v kd cs) :: R)) (hk : kd.rw = true) (hx : xs.length = n) (hl : off + n ≤ cs.length) (hc : xs.all AVal.isCell = true)
    (k : ∀ C, Sep H0 own C (.obj i (.cells v kd (splice cs off xs)) :: R) → K3 C) : sb (aStore B n (.ptr ⟨i, v, off⟩) (.agg xs)) K3 := by
  rw [x_storeN hx, h.g0, x_stN hk (by omega) hc]; exact k _ (h.set _)
theorem s_storeA {i v n : Nat} {kd : Kd} {cs xs : List AVal} (h : Sep H0 own B (.obj i (.cells v kd cs) :: R)) (hk : kd.rw = true) (hx : xs.length = n) (hl : cs.length = n) (hc : xs.all AVal.isCell = true)
    (k : ∀ C, Sep H0 own C (.obj i (.cells v kd xs) :: R) → K3 C) : sb (aStore B n (.ptr ⟨i, v, 0⟩) (.agg xs)) K3 := by
  rw [e_storeAll h.g0 (Kd.rw_ne hk) hx hl hc]; exact k _ (h.set _)
theorem fill_len (n : Nat) (z : List AVal) : (fillCells n z).length = n * z.length := by
  unfold fillCells
  induction n with
  | zero => simp
  | succ n ih => rw [List.replicate_succ, List.flatten_cons, List.length_append, ih, Nat.succ_mul]; omega
/-- A new slice of zeros. -/
theorem s_make (h : Sep H0 own B R) {bytes n : Nat} {z : List AVal} {kd kd' : IntKind} {a c : Int} (ha : a = n) (hc : c = n) (hby : bytes * n ≤ 140737488355328) (hn : n ≤ 4611686018427387904)
    (k : ∀ sv C, B <+: C → slId sv = some B.length → Sep H0 own C (.sl sv z.length n (fillCells n z) :: R) → K sv C) : hb (aMakeSlice B bytes z (.int kd a) (.int kd' c)) K := by
  subst ha hc
  simp only [aMakeSlice, Int.toNat_natCast]
  rw [if_pos ⟨by omega, by omega, by rw [← Int.natCast_mul]; exact Int.ofNat_le.2 hby, Int.ofNat_le.2 hn⟩]
  have hl : (fillCells n z).length = n * z.length := by
    exact fill_len n z
  refine k _ _ (pre_app _ _) rfl ?_
  exact Sep.as (h.new _) rfl fun ho => ⟨hl, .inr (.inl ⟨_, 0, rfl, ho⟩)⟩
/-- A new row. -/
theorem s_row (h : Sep H0 own B R) {es n : Nat} {z cs : List AVal} {parts : List (Nat × AVal)} (hf : fillA (fun i => some (i * es, es)) (fillCells n z) parts = some cs)
    (k : ∀ i C, B <+: C → Sep H0 own C (.obj i (.cells 0 .exact cs) :: R) → K (.slice ⟨i, 0, 0⟩ n (.ex n)) C) : hb (aBuildSlice B es z n parts) K := by
  rw [x_buildSlice, hf]; exact k _ _ (pre_app _ _) (h.new _)
theorem s_nils (h : Sep H0 own B R) (es : Nat) : Sep H0 own B (.sl .nils es 0 [] :: R) :=
  ⟨h.len, h.frame, fun r hr => (List.mem_cons.1 hr).elim (fun e => e ▸ Own.nils B es) (h.ok r), fun r hr i hi => (by
    rcases List.mem_cons.1 hr with rfl | hr
    · cases hi
    · exact h.mine r hr i hi), List.pairwise_cons.2 ⟨fun _ _ i hi => (by cases hi), h.apart⟩⟩
theorem s_to {sv : AVal} {es bytes n m : Nat} {cs xs : List AVal} (h : Sep H0 own B (.sl sv es n cs :: R)) (he : 0 < es) (hx : xs.length = m * es) (hc : xs.all AVal.isCell = true) (h1 : (n + m) * bytes ≤ room) (h2 : n + m ≤ room)
    {o : Option (AVal × AHeap)} (ho : o = aAppendTo B es bytes sv m xs) (k : ∀ sv' C, Sep H0 own C (.sl sv' es (n + m) (cs ++ xs) :: R) → K sv' C) : hb o K := by
  obtain ⟨sv', B', e, o', kp, hid⟩ := append_to (bytes := bytes) h.o0 he hx hc h1 h2
  rw [ho, e]
  refine k sv' B' (h.put kp.len (fun i hi => ?_) (fun j hj hn => kp.get j hj ?_) o')
  · have hi' : slId sv' = some i := by simpa [Part.sl] using hi
    rcases hid with x | x
    · exact .inl (by simp only [Part.sl]; rw [← x, hi']; simp)
    · rw [x] at hi'; cases hi'; exact .inr (Nat.le_refl _)
  · intro x; apply hn; simp only [Part.sl]; rw [x]; simp
/-- append(s, x..), x.. in view -/
theorem s_appv {sv x : AVal} {es bytes n m : Nat} {cs xs : List AVal} (h : Sep H0 own B (.sl sv es n cs :: R)) (he : 0 < es) (hx : View B x es m xs) (hc : xs.all AVal.isCell = true) (h1 : (n + m) * bytes ≤ room) (h2 : n + m ≤ room)
    (k : ∀ sv' C, Sep H0 own C (.sl sv' es (n + m) (cs ++ xs) :: R) → K sv' C) : hb (aAppendS B es bytes sv x) K := by
  obtain ⟨e1, e2, e3⟩ := src_view hx
  refine s_to h he hx.1 hc h1 h2 ?_ k
  rw [aAppendS_eq e3]; simp only [aAppend, e1, e2]
/-- append(s, x) -/
theorem s_push {sv : AVal} {es bytes n m : Nat} {z cs xs : List AVal} {parts : List (Nat × AVal)} (h : Sep H0 own B (.sl sv es n cs :: R)) (hf : fillA (fun i => some (i * es, es)) (fillCells m z) parts = some xs) (he : 0 < es)
    (hx : xs.length = m * es) (hc : xs.all AVal.isCell = true) (h1 : (n + m) * bytes ≤ room) (h2 : n + m ≤ room)
    (k : ∀ sv' C, Sep H0 own C (.sl sv' es (n + m) (cs ++ xs) :: R) → K sv' C) : hb (aBuildSlice B es z m parts) fun t B1 => hb (aAppendS B1 es bytes sv t) K := by
  refine s_row h hf fun i C _ hs => ?_
  have hv : View C (.slice ⟨i, 0, 0⟩ m (.ex m)) es m xs := ⟨hx, .inr ⟨i, 0, 0, _, .exact, xs, rfl, hs.g0, fun _ => by omega, by rw [List.drop_zero, List.take_of_length_le (by omega)], Nat.le_refl _⟩⟩
  exact s_appv hs.tail he hv hc h1 h2 k
/-- The place of an element of a slice of one's own. -/
theorem s_place {sv : AVal} {es n : Nat} {cs : List AVal} (h : Sep H0 own B (.sl sv es n cs :: R)) {kd : IntKind} {j : Int} (h0 : 0 ≤ j) (h1 : j < n) :
    ∃ i v kk, aIndexAddr es sv (.int kd j) = some (.ptr ⟨i, v, j.toNat * es⟩) ∧ kk.rw = true ∧ B[i]? = some (.cells v kk cs) ∧ ∀ C cs', C = B.set i (.cells v kk cs') → cs'.length = cs.length → Sep H0 own C (.sl sv es n cs' :: R) := by
  obtain ⟨hl, ho⟩ := h.o0
  have key : ∀ i v kk, slId sv = some i → B[i]? = some (.cells v kk cs) → (∀ C cs', C[i]? = some (.cells v kk cs') → cs'.length = cs.length → Own C sv es n cs') →
      ∀ C cs', C = B.set i (.cells v kk cs') → cs'.length = cs.length → Sep H0 own C (.sl sv es n cs' :: R) := by
    intro i v kk hid hg ho C cs' hC hl'
    subst hC
    refine h.put (by simp) (fun j hj => .inl hj) (fun q _ hq => List.getElem?_set_ne fun hq' => hq ?_) (ho _ _ (List.getElem?_set_self (lt_of_some hg)) hl')
    simp only [Part.sl, hid, ← hq']; simp
  rcases ho with ⟨rfl, rfl⟩ | ⟨i, v, rfl, hg⟩ | ⟨i, v, rfl, hg⟩
  · omega
  · exact ⟨i, v, .exact, by rw [e_idxAddr h0 h1, Nat.zero_add], rfl, hg, key i v .exact rfl hg fun C cs' hc hl' => ⟨by omega, .inr (.inl ⟨i, v, rfl, hc⟩)⟩⟩
  · exact ⟨i, v, .opn, by rw [e_idxAddr h0 h1, Nat.zero_add], rfl, hg, key i v .opn rfl hg fun C cs' hc hl' => ⟨by omega, .inr (.inr ⟨i, v, rfl, hc⟩)⟩⟩
end
end Go.Abs

/- Rows of records: elements of slices, read and written. -/
namespace Go.Abs
open Go

theorem lt_some {α : Type} {l : List α} {k : Nat} {x : α} (h : l[k]? = some x) : k < l.length := (List.getElem?_eq_some_iff.1 h).1
/-- The cells of a row of records. -/
def flat {β : Type} (f : β → List AVal) (l : List β) : List AVal := (l.map f).flatten
section
variable {β : Type} {f : β → List AVal} {es : Nat}
theorem flat_one (b : β) : flat f [b] = f b := by simp [flat]
theorem flat_app (l k : List β) : flat f (l ++ k) = flat f l ++ flat f k := by simp [flat]
theorem flat_len (hf : ∀ b, (f b).length = es) (l : List β) : (flat f l).length = l.length * es := by
  unfold flat
  induction l with
  | nil => simp
  | cons b l ih => simp only [List.map_cons, List.flatten_cons, List.length_append, ih, hf, List.length_cons]; rw [Nat.succ_mul]; omega
theorem flat_cell (hc : ∀ b, (f b).all AVal.isCell = true) (l : List β) : (flat f l).all AVal.isCell = true := by
  unfold flat
  induction l with
  | nil => rfl
  | cons b l ih => simp only [List.map_cons, List.flatten_cons, List.all_append, hc, ih, Bool.and_self]
theorem set_mid {α : Type} (A B C : List α) {o : Nat} (h : o < B.length) (x : α) : (A ++ (B ++ C)).set (A.length + o) x = A ++ (B.set o x ++ C) := by
  rw [List.set_append_right _ _ (by omega), show A.length + o - A.length = o by omega, List.set_append_left _ _ h]
theorem flat_set (hf : ∀ b, (f b).length = es) {l : List β} {k o : Nat} {b b' : β} {x : AVal} (hb : l[k]? = some b) (h : f b' = (f b).set o x) (ho : o < es) : (flat f l).set (k * es + o) x = flat f (l.set k b') := by
  obtain ⟨hk, e⟩ := List.getElem?_eq_some_iff.1 hb
  have e1 : l = l.take k ++ (b :: l.drop (k + 1)) := by rw [← e, ← List.drop_eq_getElem_cons hk, List.take_append_drop]
  have e2 : l.set k b' = l.take k ++ (b' :: l.drop (k + 1)) := by rw [List.set_eq_take_append_cons_drop, if_pos hk]
  have c : ∀ (x : β) (l : List β), flat f (x :: l) = f x ++ flat f l := fun _ _ => rfl
  have hl : (flat f (l.take k)).length = k * es := by rw [flat_len hf, List.length_take, Nat.min_eq_left (Nat.le_of_lt hk)]
  rw [e2, flat_app, c, ← hl]
  conv => lhs; arg 1; rw [e1, flat_app, c]
  rw [set_mid _ _ _ (by rw [hf]; exact ho), h]
theorem flat_get (hf : ∀ b, (f b).length = es) {l : List β} {k o : Nat} {b : β} {x : AVal} (h : l[k]? = some b) (ho : (f b)[o]? = some x) : (flat f l)[k * es + o]? = some x := by
  obtain ⟨L, R, h1, h2⟩ := flat_at hf h
  have := lt_some ho
  unfold flat
  rw [h1, List.getElem?_append_left (by simp; omega), List.getElem?_append_right (by omega), h2, show k * es + o - k * es = o by omega, ho]
end

section
variable {H0 B : AHeap} {own : Nat → Prop} {R : List Part} {a b c d e f g h : Part}
theorem Sep.b2 (h : Sep H0 own B (a :: b :: c :: R)) : Sep H0 own B (b :: c :: a :: R) := h.perm (by have := (List.perm_middle (a := a) (l₁ := [b, c]) (l₂ := R)).symm; simpa using this)
theorem Sep.b3 (h : Sep H0 own B (a :: b :: c :: d :: R)) : Sep H0 own B (b :: c :: d :: a :: R) := h.perm (by have := (List.perm_middle (a := a) (l₁ := [b, c, d]) (l₂ := R)).symm; simpa using this)
theorem Sep.b4 (h : Sep H0 own B (a :: b :: c :: d :: e :: R)) : Sep H0 own B (b :: c :: d :: e :: a :: R) := h.perm (by have := (List.perm_middle (a := a) (l₁ := [b, c, d, e]) (l₂ := R)).symm; simpa using this)
theorem Sep.b6 (h : Sep H0 own B (a :: b :: c :: d :: e :: f :: g :: R)) : Sep H0 own B (b :: c :: d :: e :: f :: g :: a :: R) := h.perm (by have := (List.perm_middle (a := a) (l₁ := [b, c, d, e, f, g]) (l₂ := R)).symm; simpa using this)
theorem Sep.g5 {i : Nat} {o : AObj} (h : Sep H0 own B (a :: b :: c :: d :: e :: .obj i o :: R)) : B[i]? = some o := h.tail.tail.tail.tail.tail.head
theorem Sep.g6 {i : Nat} {o : AObj} (h : Sep H0 own B (a :: b :: c :: d :: e :: f :: .obj i o :: R)) : B[i]? = some o := h.tail.tail.tail.tail.tail.tail.head
end
/-- The place of an element. -/
def elP (sv : AVal) (es k : Nat) : Ref :=
  match sv with
  | .slice r _ _ => ⟨r.id, r.ver, r.off + k * es⟩
  | _ => ⟨0, 0, 0⟩
section
variable {B H0 : AHeap} {own : Nat → Prop} {R : List Part} {sv : AVal} {es n k : Nat} {cs : List AVal} {K3 : AHeap → Prop}
theorem el_addr (h : View B sv es n cs) {kd : IntKind} {j : Int} (h0 : 0 ≤ j) (h1 : j < n) : aIndexAddr es sv (.int kd j) = some (.ptr (elP sv es j.toNat)) := by
  obtain ⟨_, h⟩ := h
  rcases h with ⟨rfl, rfl⟩ | ⟨i, v, off, cp, kd', cs', rfl, _⟩
  · omega
  · exact e_idxAddr h0 h1
theorem el_addrN (h : View B sv es n cs) {kd : IntKind} {j : Nat} (h1 : j < n) : aIndexAddr es sv (.int kd (j : Int)) = some (.ptr (elP sv es j)) := by
  have := el_addr h (kd := kd) (j := (j : Int)) (by omega) (by omega)
  rwa [Int.toNat_natCast] at this
theorem el_cell (h : View B sv es n cs) (hk : k < n) : ∃ i v kd cs' off, elP sv es k = ⟨i, v, off + k * es⟩ ∧ B[i]? = some (.cells v kd cs') ∧ off + n * es ≤ cs'.length ∧ cs = (cs'.drop off).take (n * es) := by
  obtain ⟨_, h⟩ := h
  rcases h with ⟨rfl, rfl⟩ | ⟨i, v, off, cp, kd', cs', rfl, h1, h2, h3, _⟩
  · omega
  · exact ⟨i, v, kd', cs', off, rfl, h1, h2 (by omega), h3⟩
theorem el_ldc (h : View B sv es n cs) (hk : k < n) {o m : Nat} {x : AVal} (ho : o < es) (hx : cs[k * es + o]? = some x) : aLoad B false m (.ptr ⟨(elP sv es k).id, (elP sv es k).ver, (elP sv es k).off + o⟩) = some x := by
  obtain ⟨i, v, kd, cs', off, e, h1, h2, h3⟩ := el_cell h hk
  rw [e]
  have hb : k * es + es ≤ n * es := by rw [← Nat.succ_mul]; exact Nat.mul_le_mul_right _ (by omega)
  rw [e_load1 h1 (by simp only; omega)]
  rw [h3, List.getElem?_take_of_lt (by omega), List.getElem?_drop] at hx
  simp only
  rw [List.getD_eq_getElem?_getD, Nat.add_assoc, hx]; rfl
theorem el_ld0 (h : View B sv 1 n cs) {m : Nat} {x : AVal} (hx : cs[k]? = some x) : aLoad B false m (.ptr (elP sv 1 k)) = some x := by
  have hk : k < n := by have := lt_some hx; rw [h.1] at this; omega
  exact el_ldc h hk (o := 0) (by decide) (by simpa using hx)
section
variable {β : Type} {f : β → List AVal} {l : List β} {b : β}
theorem el_ld1 (hf : ∀ b, (f b).length = es) (h : View B sv es l.length (flat f l)) (hb : l[k]? = some b) {o m : Nat} {x : AVal} (hx : (f b)[o]? = some x) :
    aLoad B false m (.ptr ⟨(elP sv es k).id, (elP sv es k).ver, (elP sv es k).off + o⟩) = some x :=
  el_ldc h (lt_some hb) (by have := lt_some hx; rw [hf] at this; exact this) (flat_get hf hb hx)
theorem el_ldN (hf : ∀ b, (f b).length = es) (h : View B sv es l.length (flat f l)) (hb : l[k]? = some b) : aLoad B true es (.ptr (elP sv es k)) = some (.agg (f b)) := by
  obtain ⟨i, v, kd, cs', off, e, h1, h2, h3⟩ := el_cell h (lt_some hb)
  have hk := lt_some hb
  have hbb : k * es + es ≤ l.length * es := by rw [← Nat.succ_mul]; exact Nat.mul_le_mul_right _ (by omega)
  rw [e, e_loadAgg h1 (by omega)]
  have := flat_drop (o := 0) (n := es) hf hb (by omega)
  simp only [Nat.add_zero, List.drop_zero] at this
  rw [show (List.map f l).flatten = flat f l from rfl, h3, List.drop_take, List.take_take, List.drop_drop] at this
  rw [Nat.min_eq_left (by omega)] at this
  rw [this, List.take_of_length_le (by rw [hf]; exact Nat.le_refl _)]
/-- A field of an element is written. -/
theorem s_el1 (h : Sep H0 own B (.sl sv es l.length (flat f l) :: R)) (hf : ∀ b, (f b).length = es) (hb : l[k]? = some b) {o : Nat} {x : AVal} (b' : β) (hx : x.sc = true) (ho : o < es) (e : f b' = (f b).set o x)
    (kk : ∀ C, Sep H0 own C (.sl sv es (l.set k b').length (flat f (l.set k b')) :: R) → K3 C) : sb (aStore B 1 (.ptr ⟨(elP sv es k).id, (elP sv es k).ver, (elP sv es k).off + o⟩) x) K3 := by
  have hk := lt_some hb
  obtain ⟨i, v, kd, ha, hr, hg, hput⟩ := s_place h (kd := .i64) (j := k) (by omega) (by omega)
  have e1 := el_addr h.o0.view (kd := .i64) (j := k) (by omega) (by omega)
  rw [ha] at e1
  simp only [Int.toNat_natCast, Option.some.injEq, AVal.ptr.injEq] at e1
  rw [← e1]
  simp only
  have hbb : k * es + es ≤ l.length * es := by rw [← Nat.succ_mul]; exact Nat.mul_le_mul_right _ (by omega)
  have hfl := flat_len hf l
  rw [x_store1 hx, hg, x_st1 hr (by omega), flat_set hf hb e ho]
  exact kk _ (by rw [List.length_set]; exact hput _ _ rfl (by rw [flat_len hf, flat_len hf, List.length_set]))
end
theorem ld {H : AHeap} {i v off m : Nat} {kd : Kd} {cs : List AVal} {x : AVal} (h : H[i]? = some (.cells v kd cs)) (hx : cs[off]? = some x) : aLoad H false m (.ptr ⟨i, v, off⟩) = some x := by
  rw [e_load1 h (lt_some hx), List.getD_eq_getElem?_getD, hx]; rfl
theorem ldp {H : AHeap} {i v off m : Nat} {kd : Kd} {cs xs : List AVal} (h : H[i]? = some (.cells v kd cs)) (hl : off + m ≤ cs.length) (hx : (cs.drop off).take m = xs) : aLoad H true m (.ptr ⟨i, v, off⟩) = some (.agg xs) := by
  rw [e_loadAgg h hl, hx]
section
variable {K : AVal → Prop}
theorem vb_ld {H : AHeap} {i v off m : Nat} {kd : Kd} {cs : List AVal} {x : AVal} (h : H[i]? = some (.cells v kd cs)) (hx : cs[off]? = some x) (k : K x) : vb (aLoad H false m (.ptr ⟨i, v, off⟩)) K := vb_i (ld h hx) k
theorem vb_ldA {H : AHeap} {i v m : Nat} {kd : Kd} {cs : List AVal} (h : H[i]? = some (.cells v kd cs)) (hx : cs.length = m) (k : K (.agg cs)) : vb (aLoad H true m (.ptr ⟨i, v, 0⟩)) K := vb_i (e_loadAll h hx) k
theorem vb_ldP {H : AHeap} {i v off m : Nat} {kd : Kd} {cs xs : List AVal} (h : H[i]? = some (.cells v kd cs)) (hl : Nat.ble (off + m) cs.length = true) (hx : (cs.drop off).take m = xs) (k : K (.agg xs)) : vb (aLoad H true m (.ptr ⟨i, v, off⟩)) K := vb_i (ldp h (Nat.le_of_ble_eq_true hl) hx) k
theorem vb_addrN {n : Nat} {cs : List AVal} (h : View B sv es n cs) {kd : IntKind} {j : Nat} (h1 : j < n) (k : K (.ptr (elP sv es j))) : vb (aIndexAddr es sv (.int kd (j : Int))) K := vb_i (el_addrN h h1) k
theorem vb_el1 {β : Type} {f : β → List AVal} {l : List β} {b : β} {j : Nat} (h : View B sv es l.length (flat f l)) (hf : ∀ b, (f b).length = es) (hb : l[j]? = some b) {o m : Nat} {x : AVal} (hx : (f b)[o]? = some x) (k : K x) :
    vb (aLoad B false m (.ptr ⟨(elP sv es j).id, (elP sv es j).ver, (elP sv es j).off + o⟩)) K := vb_i (el_ld1 hf h hb hx) k
theorem vb_elN {β : Type} {f : β → List AVal} {l : List β} {b : β} {j : Nat} (h : View B sv es l.length (flat f l)) (hf : ∀ b, (f b).length = es) (hb : l[j]? = some b) (k : K (.agg (f b))) :
    vb (aLoad B true es (.ptr (elP sv es j))) K := vb_i (el_ldN hf h hb) k
theorem vb_el0 {n j : Nat} {cs : List AVal} (h : View B sv 1 n cs) {m : Nat} {x : AVal} (hx : cs[j]? = some x) (k : K x) : vb (aLoad B false m (.ptr (elP sv 1 j))) K := vb_i (el_ld0 h hx) k
theorem vb_len {n : Nat} {cs : List AVal} (h : View B sv es n cs) (k : K (.int .i64 n)) : vb (lenSl sv) K := vb_i (lenSl_view h) k
theorem vb_bld {zero cs : List AVal} {place : Nat → Option (Nat × Nat)} {parts : List (Nat × AVal)} (h : fillA place zero parts = some cs) (k : K (.agg cs)) : vb (aBuild zero place parts) K := vb_i (by rw [x_build, h]; rfl) k
end
theorem Sep.rd {C : AHeap} {i : Nat} {o : AObj} (h : Sep B (fun _ => False) C R) (g : B[i]? = some o) : C[i]? = some o := by
  rw [pre_get (h.pre fun _ x => x) (lt_of_some g)]; exact g
theorem Sep.rv {C : AHeap} {x : AVal} (h : Sep B (fun _ => False) C R) (g : View B x es n cs) : View C x es n cs := g.pre (h.pre fun _ x => x)
theorem Own.sc (h : Own B sv es n cs) : sv.sc = true := by
  obtain ⟨_, h⟩ := h
  rcases h with ⟨rfl, _⟩ | ⟨_, _, rfl, _⟩ | ⟨_, _, rfl, _⟩ <;> rfl
/-- One cell of one's own, told as a row of one. -/
def one (x : AVal) : List AVal := [x]
end
end Go.Abs

/- Arguments, cell by cell. -/
namespace Go.Abs
open Go

inductive Fk where
  | int (k : IntKind) | str | bool | sl (t : TypeId)
def flatKs (F : TypeId → Option (List Fk)) (c : TypeId → Nat) : Nat → List Field → Option (List Fk)
  | _, [] => some []
  | off, f :: fs =>
    bif Nat.beq f.offset off then
      (match F f.type with
       | some l => bif Nat.beq l.length (c f.type) then (match flatKs F c (off + l.length) fs with | some r => some (l ++ r) | none => none) else none
       | none => none)
    else none
def flatK (P : Program) : Nat → TypeId → Option (List Fk)
  | 0, _ => none
  | n + 1, t =>
    match P.underlying t with
    | some (.int k) => some [.int k]
    | some .string => some [.str]
    | some .bool => some [.bool]
    | some (.slice _) => some [.sl t]
    | some (.array m e) =>
      (match flatK P n e with
       | some l => bif Nat.beq l.length (P.cellsOf e) && Nat.beq (m * l.length) (P.cellsOf t) then some (List.replicate m l).flatten else none
       | none => none)
    | some (.struct fs) =>
      (match flatKs (flatK P n) P.cellsOf 0 fs.toList with
       | some l => bif Nat.beq l.length (P.cellsOf t) then some l else none
       | none => none)
    | _ => none
section
variable {H : Type} {P : Program} {B : AHeap} {top : Bool}
def FOk (H : Type) (P : Program) (B : AHeap) (top : Bool) : Fk → AVal → Prop
  | .int k, v => ∃ n, v = .int k n ∧ k.min ≤ n ∧ n ≤ k.max
  | .str, v => ∃ s, v = .str s ∧ s.length ≤ maxLen
  | .bool, v => ∃ b, v = .bool b
  | .sl t, v => ∃ d : DataW H, Arg P B top t [v] d
def Fit (H : Type) (P : Program) (B : AHeap) (top : Bool) : List Fk → List AVal → Prop
  | [], cs => cs = []
  | k :: ks, cs => ∃ v cs', cs = v :: cs' ∧ FOk H P B top k v ∧ Fit H P B top ks cs'
theorem Fit.app : ∀ {a b : List Fk} {cs ds : List AVal}, Fit H P B top a cs → Fit H P B top b ds → Fit H P B top (a ++ b) (cs ++ ds)
  | [], _, cs, ds, h, k => by simp only [Fit] at h; subst h; exact k
  | x :: a, _, cs, ds, h, k => by
    obtain ⟨v, cs', rfl, h1, h2⟩ := h
    exact ⟨v, cs' ++ ds, rfl, h1, Fit.app h2 k⟩
theorem fit_fields {n : Nat} (ih : ∀ t ks, flatK P n t = some ks → ∀ cs (d : DataW H), Arg P B top t cs d → Fit H P B top ks cs) {cs : List AVal} :
    ∀ (fs : List Field) (off : Nat) (l : List Fk), flatKs (flatK P n) P.cellsOf off fs = some l → (∀ (i : Nat) f, fs[i]? = some f → ∃ d : DataW H, Arg P B top f.type ((cs.drop f.offset).take (P.cellsOf f.type)) d) →
      Fit H P B top l ((cs.drop off).take l.length)
  | [], off, l, h, _ => by simp only [flatKs, Option.some.injEq] at h; subst h; simp [Fit]
  | f :: fs, off, l, h, ha => by
    unfold flatKs at h
    cases ho : Nat.beq f.offset off with
    | false => rw [ho] at h; cases h
    | true =>
      rw [ho, cond_true] at h
      have ho := Nat.eq_of_beq_eq_true ho
      cases hF : flatK P n f.type with
      | none => rw [hF] at h; cases h
      | some k =>
        rw [hF] at h
        simp only at h
        cases hl : Nat.beq k.length (P.cellsOf f.type) with
        | false => rw [hl] at h; cases h
        | true =>
          rw [hl, cond_true] at h
          have hl := Nat.eq_of_beq_eq_true hl
          cases hr : flatKs (flatK P n) P.cellsOf (off + k.length) fs with
          | none => rw [hr] at h; cases h
          | some r =>
            rw [hr] at h
            cases h
            obtain ⟨d, hd⟩ := ha 0 f rfl
            have f1 := ih _ _ hF _ _ hd
            have f2 := fit_fields ih fs (off + k.length) r hr (fun i g hg => ha (i + 1) g hg)
            have := f1.app f2
            rw [ho, ← hl] at this
            rw [List.length_append, List.take_add, List.drop_drop]
            exact this
theorem fit_items {n : Nat} {e : TypeId} {l : List Fk} (hl : l.length = P.cellsOf e) (ih : ∀ cs (d : DataW H), Arg P B top e cs d → Fit H P B top l cs) {cs : List AVal} {ds : List (DataW H)}
    (ha : ∀ (i : Nat) d, ds[i]? = some d → Arg P B top e ((cs.drop (i * P.cellsOf e)).take (P.cellsOf e)) d) : ∀ m, m ≤ ds.length → Fit H P B top (List.replicate m l).flatten (cs.take (m * l.length))
  | 0, _ => by simp [Fit]
  | m + 1, h => by
    have f1 := fit_items (n := n) hl ih ha m (by omega)
    have f2 := ih _ _ (ha m _ (List.getElem?_eq_getElem (by omega)))
    have := f1.app f2
    rw [← hl] at this
    rw [List.replicate_succ', List.flatten_append, Nat.succ_mul, List.take_add]
    simpa using this
theorem Arg.fit : ∀ (n : Nat) (t : TypeId) (ks : List Fk), flatK P n t = some ks → ∀ cs (d : DataW H), Arg P B top t cs d → Fit H P B top ks cs
  | 0, _, _, h, _, _, _ => by cases h
  | n + 1, t, ks, h, cs, d, ha => by
    unfold flatK at h
    split at h
    · rename_i k hk
      cases h
      obtain ⟨m, rfl, rfl, h1, h2⟩ := ha.int_inv hk
      exact ⟨_, [], rfl, ⟨m, rfl, h1, h2⟩, rfl⟩
    · rename_i hk
      cases h
      obtain ⟨s, rfl, rfl, h1⟩ := ha.str_inv hk
      exact ⟨_, [], rfl, ⟨s, rfl, h1⟩, rfl⟩
    · rename_i hk
      cases h
      obtain ⟨s, rfl, rfl⟩ := ha.bool_inv hk
      exact ⟨_, [], rfl, ⟨s, rfl⟩, rfl⟩
    · rename_i e hk
      cases h
      have : ∃ v, cs = [v] := by
        rcases Arg.slice_inv hk ha with ⟨h1, _⟩ | ⟨_, i, h1, _⟩ | ⟨_, _, _, _, _, _, _, h1, _⟩ <;> exact ⟨_, h1⟩
      obtain ⟨v, rfl⟩ := this
      exact ⟨v, [], rfl, ⟨d, ha⟩, rfl⟩
    · rename_i m e hk
      split at h
      · rename_i l hl
        cases hb : (Nat.beq l.length (P.cellsOf e) && Nat.beq (m * l.length) (P.cellsOf t)) with
        | false => rw [hb] at h; cases h
        | true =>
          rw [hb, cond_true] at h
          cases h
          simp only [Bool.and_eq_true] at hb
          have b1 := Nat.eq_of_beq_eq_true hb.1
          have b2 := Nat.eq_of_beq_eq_true hb.2
          obtain ⟨ds, rfl, h1, h2, h3⟩ := ha.array_inv hk
          have := fit_items (n := n) b1 (fun cs d => Arg.fit n e l hl cs d) h3 m (by omega)
          rw [b2, ← h2, List.take_length] at this
          exact this
      · cases h
    · rename_i fs hk
      split at h
      · rename_i l hl
        cases hb : Nat.beq l.length (P.cellsOf t) with
        | false => rw [hb] at h; cases h
        | true =>
          rw [hb, cond_true] at h
          cases h
          have b1 := Nat.eq_of_beq_eq_true hb
          obtain ⟨ds, rfl, h1, h2, h3⟩ := ha.struct_inv hk
          have := fit_fields (cs := cs) (fun t ks h cs d => Arg.fit n t ks h cs d) fs.toList 0 ks hl (fun i f hf => by
            have hf : fs[i]? = some f := by simpa using hf
            have hi : i < ds.length := by rw [h1]; exact (Array.getElem?_eq_some_iff.1 hf).1
            exact ⟨_, h3 i f _ hf (List.getElem?_eq_getElem hi)⟩)
          rw [List.drop_zero, b1, ← h2, List.take_length] at this
          exact this
      · cases h
    · cases h
def sliceT (P : Program) (t : TypeId) : Bool := match P.underlying t with | some (.slice _) => true | _ => false
/-- What comes in and is no struct. -/
theorem ArgV.one {t : TypeId} {a : AVal} {d : DataW H} (ht : sliceT P t = true) (h : ArgV P B t a d) : Arg P B true t [a] d := by
  unfold sliceT at ht
  split at ht
  · rename_i e he
    exact h.plain (by rw [he]; nofun) (by rw [he]; nofun)
  · cases ht
/-- A slice of plain records that comes in. -/
theorem Arg.rows {β : Type} {t e : TypeId} {a : AVal} {d : DataW H} {n : Nat} {ks : List Fk} (f : β → List AVal) (hf : ∀ b, (f b).length = P.cellsOf e) (ht : P.underlying t = some (.slice e)) (hk : flatK P n e = some ks) (h : Arg P B true t [a] d)
    (each : ∀ cs, Fit H P B false ks cs → ∃ b, cs = f b) : ∃ l : List β, View B a (P.cellsOf e) l.length (flat f l) ∧ l.length ≤ maxLen := by
  obtain ⟨l, h1, _, _, h4⟩ := h.view f hf ht (fun cs d hd => each cs (Arg.fit n e ks hk cs d hd))
  exact ⟨l, h1, h4⟩
end

end Go.Abs

/- Proved contracts of Go's library, as what is told of a function. -/
namespace Go.Abs
open Go Go.RowKit
section
variable {P : Program} {E : Env} {w w' : World}
theorem relObj_sub (hk : ∀ (k : Nat) (x : Obj), w.heap[k]? = some x → w'.heap[k]? = some x) {i : Nat} {o : AObj} (h : RelObj E w i o) : RelObj E w' i o := by
  cases o with
  | cells v kd cs =>
    obtain ⟨c, e, fz, h1, h2⟩ := h
    exact ⟨c, e, fz, hk _ _ h1, h2⟩
  | map v es =>
    obtain ⟨c, e, h1, h2⟩ := h
    exact ⟨c, e, hk _ _ h1, h2⟩
  | strIter s p => exact hk _ _ h
  | mapIter mp left cur =>
    cases mp with
    | none =>
      obtain ⟨h0, s, n, t, h1⟩ := h
      exact ⟨h0, s, n, t, hk _ _ h1⟩
    | some p =>
      obtain ⟨h1, h2, h3, h4, s, n, h5, h6⟩ := h
      refine ⟨h1, h2, h3, h4, s, n, hk _ _ h5, fun hv => ?_⟩
      obtain ⟨en, g1, g2⟩ := h6 hv
      exact ⟨en, hk _ _ g1, g2⟩
theorem below_sub (b : Below w.heap.size w w') (k : Nat) (x : Obj) (h : w.heap[k]? = some x) : w'.heap[k]? = some x := by
  rw [b.block k (Array.getElem?_eq_some_iff.1 h).1, h]
/-- What is done above the heap's end leaves all as it was. -/
theorem below_ok (h : RelW E w) (b : Below w.heap.size w w') : RelW E w' ∧ Ext E w E w' := by
  refine ⟨⟨fun i o hs hi => relObj_sub (below_sub b) (h.obj i o hs hi), h.inj⟩, ?_⟩
  refine ⟨⟨⟨Nat.le_refl _, fun _ _ _ => Nat.le_refl _, fun i hi hs hm => ⟨hm, rfl, fun _ => ?_⟩, fun _ _ _ _ => ⟨rfl, rfl, id⟩, fun _ _ h => h⟩, fun _ _ _ => rfl,
    fun _ h h' => .inl ⟨h, h', rfl⟩, b.tape, b.os, b.output, b.size, fun k hk _ => b.block k hk⟩, fun _ h h' => .inl ⟨h', h⟩, fun _ h h' => by omega⟩
  unfold isMapAt at hm
  split at hm
  · rename_i v es ho
    obtain ⟨c, e, h1, _⟩ := h.obj i _ hs ho
    rw [h1]; exact below_sub b _ _ h1
  · cases hm
end

/-- strings.Join. -/
def S_strings_Join : Spec := fun args H r H' => H' = H ∧ ∃ (x : AVal) (sep : List UInt8) (xs : List (List UInt8)), args = [x, .str sep] ∧ View H x 1 xs.length (xs.map AVal.str) ∧
  xs.length ≤ 140737488355328 ∧ (Lib.join xs sep).length ≤ 140737488355328 ∧ r = .str (Lib.join xs sep)
end Go.Abs
