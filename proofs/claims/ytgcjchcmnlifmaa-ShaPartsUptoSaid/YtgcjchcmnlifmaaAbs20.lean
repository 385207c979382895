/- What a function leaves, told with its rubbish left out. -/
import Derived.Test.YtgcjchcmnlifmaaAbs19
namespace Go.Abs
open Go

mutual
/-- The one value is the other one, its places renamed. -/
def Ren (ρ σ : Nat → Nat) (n : Nat) : AVal → AVal → Prop
  | .ptr r, y => r.id < n ∧ y = .ptr ⟨ρ r.id, r.ver + σ r.id, r.off⟩
  | .slice r k c, y => r.id < n ∧ y = .slice ⟨ρ r.id, r.ver + σ r.id, r.off⟩ k c
  | .map i, y => i < n ∧ y = .map (ρ i)
  | .func fn f c, y => ∃ f' c', y = .func fn f' c' ∧ RenL ρ σ n f f' ∧ RenL ρ σ n c c'
  | .iface t x, y => ∃ x', y = .iface t x' ∧ Ren ρ σ n x x'
  | .agg cs, y => ∃ cs', y = .agg cs' ∧ RenL ρ σ n cs cs'
  | .tup cs, y => ∃ cs', y = .tup cs' ∧ RenL ρ σ n cs cs'
  | .undef, _ => True
  | .bool b, y => y = .bool b
  | .int k i, y => y = .int k i
  | .float k i, y => y = .float k i
  | .cplx k a b, y => y = .cplx k a b
  | .str s, y => y = .str s
  | .nilp, y => y = .nilp
  | .nils, y => y = .nils
  | .nilm, y => y = .nilm
  | .nilf, y => y = .nilf
  | .nili, y => y = .nili
def RenL (ρ σ : Nat → Nat) (n : Nat) : List AVal → List AVal → Prop
  | [], l => l = []
  | x :: xs, l => ∃ y ys, l = y :: ys ∧ Ren ρ σ n x y ∧ RenL ρ σ n xs ys
end

section
variable {RP RP' : Ref → Addr → Prop} {RS RS' : Ref → Nat → Cap → Addr → Nat → Prop} {RM RM' : Nat → Nat → Prop} {ρ σ : Nat → Nat} {n : Nat}
mutual
theorem Ren.rel (hp : ∀ r a, r.id < n → RP ⟨ρ r.id, r.ver + σ r.id, r.off⟩ a → RP' r a) (hs : ∀ r k c a m, r.id < n → RS ⟨ρ r.id, r.ver + σ r.id, r.off⟩ k c a m → RS' r k c a m) (hm : ∀ i b, i < n → RM (ρ i) b → RM' i b) :
    ∀ (x y : AVal) (v : Value), Ren ρ σ n x y → RelG RP RS RM y v → RelG RP' RS' RM' x v
  | .ptr r, _, _, h, h' => by
    simp only [Ren] at h; obtain ⟨h1, rfl⟩ := h
    simp only [RelG] at h' ⊢; obtain ⟨a, h2, h3⟩ := h'; exact ⟨a, h2, hp _ _ h1 h3⟩
  | .slice r k c, _, _, h, h' => by
    simp only [Ren] at h; obtain ⟨h1, rfl⟩ := h
    simp only [RelG] at h' ⊢; obtain ⟨a, m, h2, h3⟩ := h'; exact ⟨a, m, h2, hs _ _ _ _ _ h1 h3⟩
  | .map i, _, _, h, h' => by
    simp only [Ren] at h; obtain ⟨h1, rfl⟩ := h
    simp only [RelG] at h' ⊢; obtain ⟨a, h2, h3⟩ := h'; exact ⟨a, h2, hm _ _ h1 h3⟩
  | .func fn f c, _, _, h, h' => by
    simp only [Ren] at h; obtain ⟨f', c', rfl, h1, h2⟩ := h
    simp only [RelG] at h' ⊢; obtain ⟨f2, c2, h3, h4, h5⟩ := h'
    exact ⟨f2, c2, h3, RenL.rel hp hs hm f f' f2 h1 h4, RenL.rel hp hs hm c c' c2 h2 h5⟩
  | .iface t x, _, _, h, h' => by
    simp only [Ren] at h; obtain ⟨x', rfl, h1⟩ := h
    simp only [RelG] at h' ⊢; obtain ⟨y, h2, h3⟩ := h'; exact ⟨y, h2, Ren.rel hp hs hm x x' y h1 h3⟩
  | .agg cs, _, _, h, h' => by
    simp only [Ren] at h; obtain ⟨cs', rfl, h1⟩ := h
    simp only [RelG] at h' ⊢; obtain ⟨l, h2, h3⟩ := h'; exact ⟨l, h2, RenL.rel hp hs hm cs cs' l h1 h3⟩
  | .tup cs, _, _, h, h' => by
    simp only [Ren] at h; obtain ⟨cs', rfl, h1⟩ := h
    simp only [RelG] at h' ⊢; obtain ⟨l, h2, h3⟩ := h'; exact ⟨l, h2, RenL.rel hp hs hm cs cs' l h1 h3⟩
  | .undef, _, _, _, _ => by simp only [RelG]
  | .bool b, _, _, h, h' => by simp only [Ren] at h; subst h; simpa only [RelG] using h'
  | .int k i, _, _, h, h' => by simp only [Ren] at h; subst h; simpa only [RelG] using h'
  | .float k i, _, _, h, h' => by simp only [Ren] at h; subst h; simpa only [RelG] using h'
  | .cplx k a b, _, _, h, h' => by simp only [Ren] at h; subst h; simpa only [RelG] using h'
  | .str s, _, _, h, h' => by simp only [Ren] at h; subst h; simpa only [RelG] using h'
  | .nilp, _, _, h, h' => by simp only [Ren] at h; subst h; simpa only [RelG] using h'
  | .nils, _, _, h, h' => by simp only [Ren] at h; subst h; simpa only [RelG] using h'
  | .nilm, _, _, h, h' => by simp only [Ren] at h; subst h; simpa only [RelG] using h'
  | .nilf, _, _, h, h' => by simp only [Ren] at h; subst h; simpa only [RelG] using h'
  | .nili, _, _, h, h' => by simp only [Ren] at h; subst h; simpa only [RelG] using h'
theorem RenL.rel (hp : ∀ r a, r.id < n → RP ⟨ρ r.id, r.ver + σ r.id, r.off⟩ a → RP' r a) (hs : ∀ r k c a m, r.id < n → RS ⟨ρ r.id, r.ver + σ r.id, r.off⟩ k c a m → RS' r k c a m) (hm : ∀ i b, i < n → RM (ρ i) b → RM' i b) :
    ∀ (xs ys : List AVal) (l : List Value), RenL ρ σ n xs ys → RelGL RP RS RM ys l → RelGL RP' RS' RM' xs l
  | [], _, _, h, h' => by simp only [RenL] at h; subst h; simpa only [RelGL] using h'
  | x :: xs, _, _, h, h' => by
    simp only [RenL] at h; obtain ⟨y, ys, rfl, h1, h2⟩ := h
    simp only [RelGL] at h' ⊢; obtain ⟨v, vs, h3, h4, h5⟩ := h'
    exact ⟨v, vs, h3, Ren.rel hp hs hm x y v h1 h4, RenL.rel hp hs hm xs ys vs h2 h5⟩
end

theorem RenL.len : ∀ {xs ys : List AVal}, RenL ρ σ n xs ys → xs.length = ys.length
  | [], _, h => by simp only [RenL] at h; subst h; rfl
  | x :: xs, _, h => by
    simp only [RenL] at h; obtain ⟨y, ys, rfl, _, h2⟩ := h
    simp [RenL.len h2]
end

/-- No place in it. -/
def AVal.plain : AVal → Bool
  | .undef | .bool _ | .int _ _ | .float _ _ | .cplx _ _ _ | .str _ | .nilp | .nils | .nilm | .nilf | .nili => true
  | _ => false

theorem Ren.plain {ρ σ : Nat → Nat} {n : Nat} {x : AVal} (h : x.plain = true) : Ren ρ σ n x x := by
  cases x <;> simp only [AVal.plain] at h <;> first | (cases h; done) | simp only [Ren]

theorem RenL.plain {ρ σ : Nat → Nat} {n : Nat} : ∀ {l : List AVal}, (∀ x ∈ l, x.plain = true) → RenL ρ σ n l l
  | [], _ => by simp only [RenL]
  | x :: xs, h => by
    simp only [RenL]
    exact ⟨x, xs, rfl, Ren.plain (h x (List.mem_cons_self ..)), RenL.plain fun y hy => h y (List.mem_cons_of_mem _ hy)⟩

def RenObj (ρ σ : Nat → Nat) (n s : Nat) : AObj → AObj → Prop
  | .cells v kd cs, o => ∃ cs', o = .cells (v + s) kd cs' ∧ RenL ρ σ n cs cs'
  | .map v es, o => ∃ es', o = .map (v + s) es' ∧ RenL ρ σ n (es.map (·.1)) (es'.map (·.1)) ∧ RenL ρ σ n (es.map (·.2)) (es'.map (·.2))
  | _, _ => False

structure Ways (H : AHeap) (r1 : AVal) (H1 : AHeap) (r : AVal) (H' : AHeap) (ρ σ : Nat → Nat) : Prop where
  low : ∀ i, i < H.length → ρ i = i ∧ σ i = 0
  len : H.length ≤ H'.length
  high : ∀ i, H.length ≤ i → i < H'.length → H.length ≤ ρ i
  inj : ∀ i j, i < H'.length → j < H'.length → ρ i = ρ j → i = j
  obj : ∀ i, i < H'.length → (i < H.length ∧ H1[i]? = H[i]? ∧ H'[i]? = H[i]?) ∨ ∃ o o1, H'[i]? = some o ∧ H1[ρ i]? = some o1 ∧ RenObj ρ σ H'.length (σ i) o o1
  val : Ren ρ σ H'.length r r1

def Weak (H : AHeap) (r1 : AVal) (H1 : AHeap) (r : AVal) (H' : AHeap) : Prop := ∃ ρ σ, Ways H r1 H1 r H' ρ σ

section
variable {E E' : Env} {w w' : World}

/-- What an old object's places come to. -/
theorem RelObj.both {E F E2 : Env} {w wF : World} (c : ∀ i, i < F.H.length → E.S i → E2.m i = E.m i ∧ E2.sz i = E.sz i ∧ E2.S i ∧ i < E2.H.length ∧ verOf E2.H i = verOf E.H i ∧ opnAt E2.H i = opnAt E.H i ∧ isMapAt E2.H i = isMapAt E.H i ∧ verOf F.H i ≤ verOf E.H i)
    (l : F.H.length ≤ E.H.length) {i : Nat} {o : AObj} (hi : i < F.H.length) (hS : E.S i) (h : RelObj E w i o) (h' : RelObj F wF i o) : RelObj E2 w i o := by
  have cref : ∀ r a a', RelRef E r a → RelRef F r a' → RelRef E2 r a := by
    intro r a a' ⟨h1, h2, h3, h4⟩ ⟨_, k2, _, _⟩
    obtain ⟨c1, c2, c3, c4, c5, c6, c7, c8⟩ := c r.id k2 h1
    exact ⟨c3, c4, by rw [c5]; exact h3, fun e => by rw [c1]; exact h4 (by rw [← c5]; exact e)⟩
  have csl : ∀ r n cp a k a' k', RelSl E r n cp a k → RelSl F r n cp a' k' → RelSl E2 r n cp a k := by
    intro r n cp a k a' k' ⟨h1, h2, h3, h4⟩ ⟨_, k2, _, _⟩
    obtain ⟨c1, c2, c3, c4, c5, c6, c7, c8⟩ := c r.id k2 h1
    refine ⟨c3, c4, by rw [c5]; exact h3, fun e => ?_⟩
    have h5 := h4 (by rw [← c5]; exact e)
    cases cp with
    | ex q => simp only [c1] at h5 ⊢; exact h5
    | op es => simp only [c1, c2, c6] at h5 ⊢; exact h5
  have cmp : ∀ i b b', RelMp E i b → RelMp F i b' → RelMp E2 i b := by
    intro i b b' ⟨h1, h2, h3, h4⟩ ⟨_, k2, _, _⟩
    obtain ⟨c1, c2, c3, c4, c5, c6, c7, c8⟩ := c i k2 h1
    exact ⟨c3, c4, by rw [c7]; exact h3, by rw [c1]; exact h4⟩
  have cl : ∀ {xs : List AVal} {v v' : List Value}, RelL E xs v → RelL F xs v' → RelL E2 xs v := fun {xs v v'} h h' => RelGL.both cref csl cmp xs v v' h h'
  obtain ⟨m1, m2, _⟩ := c i hi hS
  cases o with
  | cells v kd cs =>
    obtain ⟨c, e, fz, h1, h2, h3, h4, h5, h6⟩ := h
    obtain ⟨c', e', fz', _, _, k3, _⟩ := h'
    exact ⟨c, e, fz, by rw [m1]; exact h1, by rw [m2]; exact h2, cl h3 k3, h4, h5, h6⟩
  | map v es =>
    obtain ⟨ents, clock, h1, h2, h3, h4⟩ := h
    obtain ⟨ents', clock', _, _, k3, k4⟩ := h'
    exact ⟨ents, clock, by rw [m1]; exact h1, h2, cl h3 k3, cl h4 k4⟩
  | strIter s pos => show _ = _; rw [m1]; exact h
  | mapIter mp left =>
    cases mp with
    | none =>
      obtain ⟨h0, a, b, d, h1⟩ := h
      exact ⟨h0, a, b, d, by rw [m1]; exact h1⟩
    | some jv =>
      obtain ⟨j, v⟩ := jv
      obtain ⟨h1, h2, h3, h4, since, seen, h5, h6⟩ := h
      obtain ⟨_, k2, _, k4, _, _, _, k6⟩ := h'
      obtain ⟨c1, c2, c3, c4, c5, c6, c7, c8⟩ := c j k2 h1
      refine ⟨c3, c4, by rw [c7]; exact h3, by rw [c5]; exact h4, since, seen, by rw [m1, c1]; exact h5, fun e => ?_⟩
      rw [c5] at e
      obtain ⟨ents, g1, g2, g3, g4⟩ := h6 e
      obtain ⟨ents', _, _, f3, f4⟩ := k6 (by omega)
      exact ⟨ents, by rw [c1]; exact g1, g2, cl g3 f3, cl g4 f4⟩

theorem weak_ok {H' : AHeap} {r r1 : AVal} {u : Value} (hw : RelW E w) (hw' : RelW E' w') (x : Ext E w E' w') (k : Weak E.H r1 E'.H r H') (hv : RelV E' r1 u) :
    ∃ E2, RelV E2 r u ∧ RelW E2 w' ∧ E2.H = H' ∧ Ext E w E2 w' := by
  obtain ⟨ρ, σ, k⟩ := k
  let E2 : Env := ⟨fun i => E'.m (ρ i), fun i => E'.sz (ρ i), fun i => E'.S (ρ i) ∧ i < H'.length, H'⟩
  -- an object and what it was
  have ob : ∀ i, i < H'.length → ρ i < E'.H.length ∧ verOf E'.H (ρ i) = verOf H' i + σ i ∧ opnAt E'.H (ρ i) = opnAt H' i ∧ isMapAt E'.H (ρ i) = isMapAt H' i ∧ ownAt E'.H (ρ i) = ownAt H' i := by
    intro i hi
    rcases k.obj i hi with ⟨h1, h2, h3⟩ | ⟨o, o1, h1, h2, h3⟩
    · obtain ⟨e1, e2⟩ := k.low i h1
      rw [e1, e2]
      have e : E'.H[i]? = H'[i]? := h2.trans h3.symm
      refine ⟨lt_of_some (h2.trans (List.getElem?_eq_getElem h1)), ?_, ?_, ?_, ?_⟩
      · simp only [verOf, e, Nat.add_zero]
      · simp only [opnAt, e]
      · unfold isMapAt; rw [e]
      · simp only [ownAt, e]
    · refine ⟨lt_of_some h2, ?_⟩
      rw [verOf_some h1, verOf_some h2, opnAt_some h1, opnAt_some h2, isMapAt_some h1, isMapAt_some h2, ownAt_some h1, ownAt_some h2]
      cases o with
      | cells v kd cs =>
        obtain ⟨cs', rfl, _⟩ := h3
        cases kd <;> exact ⟨rfl, rfl, rfl, rfl⟩
      | map v es => obtain ⟨es', rfl, _⟩ := h3; exact ⟨rfl, rfl, rfl, rfl⟩
      | strIter s p => exact h3.elim
      | mapIter mp l => exact h3.elim
  have low : ∀ i, i < E.H.length → ρ i = i ∧ verOf E'.H i = verOf H' i ∧ opnAt E'.H i = opnAt H' i ∧ isMapAt E'.H i = isMapAt H' i ∧ ownAt E'.H i = ownAt H' i := by
    intro i hi
    obtain ⟨e1, e2⟩ := k.low i hi
    obtain ⟨_, o2, o3, o4, o5⟩ := ob i (Nat.lt_of_lt_of_le hi k.len)
    rw [e1] at o2 o3 o4 o5
    rw [e2] at o2
    exact ⟨e1, o2, o3, o4, o5⟩
  have hp : ∀ r a, r.id < H'.length → RelRef E' ⟨ρ r.id, r.ver + σ r.id, r.off⟩ a → RelRef E2 r a := by
    intro r a hi ⟨h1, h2, h3, h4⟩
    obtain ⟨_, o2, _⟩ := ob r.id hi
    simp only at h1 h2 h3 h4
    rw [o2] at h3 h4
    exact ⟨⟨h1, hi⟩, hi, Nat.le_of_add_le_add_right h3, fun e => h4 (by have e : r.ver = verOf H' r.id := e
                                                                        rw [e])⟩
  have hs : ∀ r n c a m, r.id < H'.length → RelSl E' ⟨ρ r.id, r.ver + σ r.id, r.off⟩ n c a m → RelSl E2 r n c a m := by
    intro r n c a m hi ⟨h1, h2, h3, h4⟩
    obtain ⟨_, o2, o3, _⟩ := ob r.id hi
    simp only at h1 h2 h3 h4
    rw [o2] at h3 h4
    rw [o3] at h4
    exact ⟨⟨h1, hi⟩, hi, Nat.le_of_add_le_add_right h3, fun e => h4 (by have e : r.ver = verOf H' r.id := e
                                                                        rw [e])⟩
  have hm : ∀ i b, i < H'.length → RelMp E' (ρ i) b → RelMp E2 i b := by
    intro i b hi ⟨h1, h2, h3, h4⟩
    obtain ⟨_, _, _, o4, _⟩ := ob i hi
    exact ⟨⟨h1, hi⟩, hi, by rw [o4] at h3; exact h3, h4⟩
  have rl : ∀ {xs ys : List AVal} {l : List Value}, RenL ρ σ H'.length xs ys → RelL E' ys l → RelL E2 xs l := fun {xs ys l} h h' => RenL.rel hp hs hm xs ys l h h'
  refine ⟨E2, Ren.rel hp hs hm r r1 u k.val hv, ⟨fun i o hi ho => ?_, fun i j hi hj hil hjl how hne => ?_⟩, rfl, ⟨⟨⟨k.len, fun i hi hS => ?_, fun i hi hS hmp => ?_, fun i hi hS hvv => ?_, fun i hi hS => ?_⟩,
    fun i hi hS => ?_, fun i hi hS => ?_, x.tape, x.os, x.output, x.size, x.frame⟩, fun i hS hi => ?_, fun i h1 h2 => ?_⟩⟩
  · have ho : H'[i]? = some o := ho
    rcases k.obj i hi.2 with ⟨h1, h2, h3⟩ | ⟨o', o1, h1, h2, h3⟩
    · obtain ⟨e1, _⟩ := k.low i h1
      have hSi : E'.S i := by have := hi.1; rw [e1] at this; exact this
      have hSE : E.S i := by
        rcases x.news i hSi (Nat.lt_of_lt_of_le h1 x.len) with ⟨_, q⟩ | q
        · exact q
        · omega
      have g1 := hw'.obj i o hSi (by rw [h2, ← h3]; exact ho)
      have g2 := hw.obj i o hSE (by rw [← h3]; exact ho)
      refine RelObj.both (E := E') (F := E) (E2 := E2) (fun q hq hSq => ?_) x.len h1 hSi g1 g2
      obtain ⟨l1, l2, l3, l4, l5⟩ := low q hq
      have hSEq : E.S q := by
        rcases x.news q hSq (Nat.lt_of_lt_of_le hq x.len) with ⟨_, q⟩ | q
        · exact q
        · omega
      refine ⟨by show E'.m (ρ q) = _; rw [l1], by show E'.sz (ρ q) = _; rw [l1], ⟨by rw [l1]; exact hSq, Nat.lt_of_lt_of_le hq k.len⟩, Nat.lt_of_lt_of_le hq k.len, l2.symm, l3.symm, l4.symm, x.ver q hq hSEq⟩
    · rw [ho] at h1; cases h1
      have g1 := hw'.obj (ρ i) o1 hi.1 h2
      cases o with
      | cells v kd cs =>
        obtain ⟨cs', rfl, hr⟩ := h3
        obtain ⟨c, e, fz, q1, q2, q3, q4, q5, q6⟩ := g1
        rw [← RenL.len hr] at q3 q4 q5
        exact ⟨c, e, fz, q1, q2, rl hr q3, q4, q5, q6⟩
      | map v es =>
        obtain ⟨es', rfl, hr1, hr2⟩ := h3
        obtain ⟨ents, clock, q1, q2, q3, q4⟩ := g1
        exact ⟨ents, clock, q1, q2, rl hr1 q3, rl hr2 q4⟩
      | strIter s p => exact h3.elim
      | mapIter mp l => exact h3.elim
  · obtain ⟨o1, _, _, _, o5⟩ := ob i hi.2
    obtain ⟨p1, _⟩ := ob j hj.2
    exact hw'.inj (ρ i) (ρ j) hi.1 hj.1 o1 p1 (by rw [o5]; exact how) fun e => hne (k.inj i j hi.2 hj.2 e)
  · obtain ⟨_, l2, _⟩ := low i hi
    show verOf E.H i ≤ verOf H' i
    rw [← l2]; exact x.ver i hi hS
  · obtain ⟨l1, l2, _, l4, _⟩ := low i hi
    obtain ⟨q1, q2, q3⟩ := x.mp i hi hS hmp
    exact ⟨by show isMapAt H' i = true; rw [← l4]; exact q1, by show E'.m (ρ i) = _; rw [l1]; exact q2, fun e => q3 (by rw [l2]; exact e)⟩
  · obtain ⟨l1, l2, l3, _⟩ := low i hi
    obtain ⟨q1, q2, q3⟩ := x.same i hi hS (by rw [l2]; exact hvv)
    exact ⟨by show E'.m (ρ i) = _; rw [l1]; exact q1, by show E'.sz (ρ i) = _; rw [l1]; exact q2, fun e => q3 (by rw [l3]; exact e)⟩
  · exact ⟨by rw [(low i hi).1]; exact x.S i hi hS, Nat.lt_of_lt_of_le hi k.len⟩
  · obtain ⟨_, _, _, _, l5⟩ := low i hi
    show ownAt H' i = _
    rw [← l5]; exact x.own i hi hS
  · obtain ⟨o1, _⟩ := ob i hi
    rcases x.fresh (ρ i) o1 hS.1 with ⟨q1, q2, q3⟩ | q
    · by_cases hlo : i < E.H.length
      · have l1 := (low i hlo).1
        rw [l1] at q1 q2 q3
        exact .inl ⟨q1, q2, by show E'.m (ρ i) = _; rw [l1]; exact q3⟩
      · have := k.high i (by omega) hi
        omega
    · exact .inr q
  · by_cases hlo : i < E.H.length
    · left
      refine ⟨hlo, ?_⟩
      have h1 := hS.1
      rw [(low i hlo).1] at h1
      rcases x.news i h1 (Nat.lt_of_lt_of_le hlo x.len) with ⟨_, q⟩ | q
      · exact q
      · omega
    · right; omega
  · exact ⟨x.full (ρ i) (k.high i h1 h2) (ob i h2).1, h2⟩

/-- A function whose code comes to what is told. -/
theorem fn_ok {P : Program} {sp : Specs} (hsp : SpecsOk P sp) (hm : P.follows .mixedOrders = true) {T : Cuts} {f : FuncId} {fn : Func} {g : Spec} (hf : P.funcs[f]? = some fn)
    (he : ∀ (args : Array Value) (w : World), (callFunc f args).run P w = .ok (.enter f args) w)
    (h : ∀ args H r H', g args H r H' → evFn P sp T fn args H fun r1 H1 => Weak H r1 H1 r H') : FnOk P f g where
  enters := he
  does args H r H' hg E w vs hH hw ha := by
    refine Calls.mono (fn_calls hsp (draw_sound hsp hm) hf (h args H r H' hg) hH hw ha) ?_
    rintro e w' ⟨v, r1, E', rfl, hk, hv, hw', hx⟩
    subst hH
    obtain ⟨E2, k1, k2, k3, k4⟩ := weak_ok hw hw' hx hk hv
    exact ⟨v, E2, rfl, k1, k2, k3, k4⟩
end
end Go.Abs
