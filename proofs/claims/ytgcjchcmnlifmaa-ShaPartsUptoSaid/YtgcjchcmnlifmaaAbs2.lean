/- How an abstract heap stands for a world; steps from one such pair to the next. -/
import Derived.Test.YtgcjchcmnlifmaaAbs1
namespace Go.Abs
open Go


def RelCells (E : Env) (w : World) (i : Nat) (kd : Kd) (cs : List AVal) : Prop :=
  ∃ (c : Array Value) (e : TypeId) (fz : Nat × Nat), w.heap[E.m i]? = some (.cells c e fz) ∧ c.size = E.sz i ∧
    RelL E cs (c.toList.take cs.length) ∧ cs.length ≤ c.size ∧ (kd = .exact → cs.length = c.size) ∧ (kd ≠ .ro → fz.2 ≤ fz.1 ∨ c.size ≤ fz.1)

def StampsOk (ents : Array MapEntry) (clock : Nat) : Prop :=
  (ents.toList.map (·.born)).Pairwise (· < ·) ∧ ∀ e ∈ ents.toList, e.born < clock

def RelMapObj (E : Env) (w : World) (i : Nat) (es : List (AVal × AVal)) : Prop :=
  ∃ (ents : Array MapEntry) (clock : Nat), w.heap[E.m i]? = some (.map ents clock) ∧ StampsOk ents clock ∧
    RelL E (es.map (·.1)) (ents.toList.map (·.key)) ∧ RelL E (es.map (·.2)) (ents.toList.map (·.val))

def RelIter (E : Env) (w : World) (i : Nat) (mp : Option (Nat × Nat)) (left : List (AVal × AVal)) : Prop :=
  match mp with
  | none => left = [] ∧ ∃ since seen stepped, w.heap[E.m i]? = some (.mapIter none since seen stepped)
  | some (j, v) => E.S j ∧ j < E.H.length ∧ isMapAt E.H j = true ∧ v ≤ verOf E.H j ∧
    ∃ (since : Nat) (seen : Array Nat), w.heap[E.m i]? = some (.mapIter (some (E.m j)) since seen since) ∧
      (v = verOf E.H j → ∃ ents : Array MapEntry, w.heap[E.m j]? = some (.map ents since) ∧ StampsOk ents since ∧
        RelL E (left.map (·.1)) ((ents.toList.filter fun e => !seen.contains e.born).map (·.key)) ∧
        RelL E (left.map (·.2)) ((ents.toList.filter fun e => !seen.contains e.born).map (·.val)))

def RelObj (E : Env) (w : World) (i : Nat) : AObj → Prop
  | .cells _ kd cs => RelCells E w i kd cs
  | .map _ es => RelMapObj E w i es
  | .strIter s pos => w.heap[E.m i]? = some (.stringIter ⟨s.toArray⟩ pos)
  | .mapIter mp left => RelIter E w i mp left

structure RelW (E : Env) (w : World) : Prop where
  obj : ∀ i o, E.S i → E.H[i]? = some o → RelObj E w i o
  inj : ∀ i j, E.S i → E.S j → i < E.H.length → j < E.H.length → ownAt E.H i = true → i ≠ j → E.m i ≠ E.m j

structure Sub (E : Env) (w : World) (E' : Env) (w' : World) : Prop where
  len : E.H.length ≤ E'.H.length
  ver : ∀ i, i < E.H.length → E.S i → verOf E.H i ≤ verOf E'.H i
  mp : ∀ i, i < E.H.length → E.S i → isMapAt E.H i = true → isMapAt E'.H i = true ∧ E'.m i = E.m i ∧ (verOf E.H i = verOf E'.H i → w'.heap[E.m i]? = w.heap[E.m i]?)
  same : ∀ i, i < E.H.length → E.S i → verOf E.H i = verOf E'.H i → E'.m i = E.m i ∧ E'.sz i = E.sz i ∧ (opnAt E'.H i = true → opnAt E.H i = true)
  S : ∀ i, i < E.H.length → E.S i → E'.S i

structure Ext0 (E : Env) (w : World) (E' : Env) (w' : World) : Prop extends Sub E w E' w' where
  own : ∀ i, i < E.H.length → E.S i → ownAt E'.H i = ownAt E.H i
  fresh : ∀ i, i < E'.H.length → E'.S i → (i < E.H.length ∧ E.S i ∧ E'.m i = E.m i) ∨ w.heap.size ≤ E'.m i
  tape : w'.tape = w.tape
  os : w'.os = w.os
  output : w'.output = w.output
  size : w.heap.size ≤ w'.heap.size
  frame : ∀ k, k < w.heap.size → (∀ i, i < E.H.length → E.S i → ownAt E.H i = true → E.m i ≠ k) → w'.heap[k]? = w.heap[k]?

/-- .. and nothing else is new, and all that is new counts. -/
structure Ext (E : Env) (w : World) (E' : Env) (w' : World) : Prop extends Ext0 E w E' w' where
  news : ∀ i, E'.S i → i < E'.H.length → (i < E.H.length ∧ E.S i) ∨ E.H.length ≤ i
  full : ∀ i, E.H.length ≤ i → i < E'.H.length → E'.S i

theorem Ext0.refl (E : Env) (w : World) : Ext0 E w E w :=
  ⟨⟨Nat.le_refl _, fun _ _ _ => Nat.le_refl _, fun _ _ _ h => ⟨h, rfl, fun _ => rfl⟩, fun _ _ _ _ => ⟨rfl, rfl, id⟩, fun _ _ h => h⟩, fun _ _ _ => rfl,
   fun _ h h' => .inl ⟨h, h', rfl⟩, rfl, rfl, rfl, Nat.le_refl _, fun _ _ _ => rfl⟩
theorem Ext.refl (E : Env) (w : World) : Ext E w E w := ⟨Ext0.refl E w, fun _ h h' => .inl ⟨h', h⟩, fun _ h h' => by omega⟩

theorem Ext0.trans {E E1 E2 : Env} {w w1 w2 : World} (h : Ext0 E w E1 w1) (k : Ext0 E1 w1 E2 w2) : Ext0 E w E2 w2 where
  len := Nat.le_trans h.len k.len
  ver i hi hs := Nat.le_trans (h.ver i hi hs) (k.ver i (Nat.lt_of_lt_of_le hi h.len) (h.S i hi hs))
  own i hi hs := (k.own i (Nat.lt_of_lt_of_le hi h.len) (h.S i hi hs)).trans (h.own i hi hs)
  mp i hi hs hm := by
    obtain ⟨a, b, e⟩ := h.mp i hi hs hm
    obtain ⟨c, d, f⟩ := k.mp i (Nat.lt_of_lt_of_le hi h.len) (h.S i hi hs) a
    have h1 := h.ver i hi hs
    have h2 := k.ver i (Nat.lt_of_lt_of_le hi h.len) (h.S i hi hs)
    exact ⟨c, d.trans b, fun hv => by rw [← e (by omega), ← b]; exact f (by omega)⟩
  same i hi hs hv := by
    have h1 := h.ver i hi hs
    have h2 := k.ver i (Nat.lt_of_lt_of_le hi h.len) (h.S i hi hs)
    obtain ⟨a, b, c⟩ := h.same i hi hs (by omega)
    obtain ⟨a', b', c'⟩ := k.same i (Nat.lt_of_lt_of_le hi h.len) (h.S i hi hs) (by omega)
    exact ⟨a'.trans a, b'.trans b, fun x => c (c' x)⟩
  S i hi hs := k.S i (Nat.lt_of_lt_of_le hi h.len) (h.S i hi hs)
  fresh i hi hs := by
    rcases k.fresh i hi hs with ⟨a, b, c⟩ | c
    · rcases h.fresh i a b with ⟨a', b', c'⟩ | c'
      · exact .inl ⟨a', b', c.trans c'⟩
      · exact .inr (by rw [c]; exact c')
    · exact .inr (Nat.le_trans h.size c)
  tape := k.tape.trans h.tape
  os := k.os.trans h.os
  output := k.output.trans h.output
  size := Nat.le_trans h.size k.size
  frame r hr hne := by
    rw [k.frame r (Nat.lt_of_lt_of_le hr h.size) ?_, h.frame r hr hne]
    intro i hi hs ho
    rcases h.fresh i hi hs with ⟨a, b, c⟩ | c
    · rw [c]; exact hne i a b (by rw [← h.own i a b]; exact ho)
    · omega

theorem Ext.trans {E E1 E2 : Env} {w w1 w2 : World} (h : Ext E w E1 w1) (k : Ext E1 w1 E2 w2) : Ext E w E2 w2 where
  toExt0 := h.toExt0.trans k.toExt0
  news i hs hi := by
    rcases k.news i hs hi with ⟨a, b⟩ | a
    · exact h.news i b a
    · exact .inr (Nat.le_trans h.len a)
  full i h1 h2 := by
    by_cases hi : i < E1.H.length
    · exact k.S i hi (h.full i h1 hi)
    · exact k.full i (by omega) h2

section ext
variable {E E' : Env} {w w' : World}
theorem RelRef.ext0 (x : Sub E w E' w') {r : Ref} {a : Addr} (h : RelRef E r a) : RelRef E' r a := by
  obtain ⟨h1, h2, h3, h4⟩ := h
  refine ⟨x.S _ h2 h1, Nat.lt_of_lt_of_le h2 x.len, Nat.le_trans h3 (x.ver _ h2 h1), fun hv => ?_⟩
  have := x.ver _ h2 h1
  have e : r.ver = verOf E.H r.id := by omega
  rw [h4 e, (x.same _ h2 h1 (by omega)).1]
theorem RelSl.ext0 (x : Sub E w E' w') {r : Ref} {n : Nat} {cp : Cap} {a : Addr} {c : Nat}
    (h : RelSl E r n cp a c) : RelSl E' r n cp a c := by
  obtain ⟨h1, h2, h3, h4⟩ := h
  refine ⟨x.S _ h2 h1, Nat.lt_of_lt_of_le h2 x.len, Nat.le_trans h3 (x.ver _ h2 h1), fun hv => ?_⟩
  have := x.ver _ h2 h1
  have e : r.ver = verOf E.H r.id := by omega
  obtain ⟨s1, s2, s3⟩ := x.same _ h2 h1 (by omega)
  have h4 := h4 e
  cases cp with
  | ex k => simp only [s1] at h4 ⊢; exact h4
  | op es =>
    simp only [s1, s2] at h4 ⊢
    obtain ⟨a1, a2, a3, a4⟩ := h4
    exact ⟨a1, a2, a3, a4.imp (fun ⟨y, z⟩ => ⟨y, fun ho => z (s3 ho)⟩) (fun ⟨y, y', z⟩ => ⟨y, y', fun ho => z (s3 ho)⟩)⟩
theorem RelMp.ext0 (x : Sub E w E' w') {i b : Nat} (h : RelMp E i b) : RelMp E' i b := by
  obtain ⟨h1, h2, h3, h4⟩ := h
  obtain ⟨a, c, _⟩ := x.mp i h2 h1 h3
  exact ⟨x.S _ h2 h1, Nat.lt_of_lt_of_le h2 x.len, a, by rw [c]; exact h4⟩
theorem RelV.ext0 (x : Sub E w E' w') {v : AVal} {u : Value} (h : RelV E v u) : RelV E' v u :=
  RelG.mono (fun _ _ => RelRef.ext0 x) (fun _ _ _ _ _ => RelSl.ext0 x) (fun _ _ => RelMp.ext0 x) v u h
theorem RelL.ext0 (x : Sub E w E' w') {v : List AVal} {u : List Value} (h : RelL E v u) : RelL E' v u :=
  RelGL.mono (fun _ _ => RelRef.ext0 x) (fun _ _ _ _ _ => RelSl.ext0 x) (fun _ _ => RelMp.ext0 x) v u h

theorem RelObj.ext0 (x : Sub E w E' w') {i : Nat} {o : AObj} (hm : E'.m i = E.m i) (hs : E'.sz i = E.sz i)
    (hb : w'.heap[E.m i]? = w.heap[E.m i]?) (h : RelObj E w i o) : RelObj E' w' i o := by
  cases o with
  | cells v kd cs =>
    obtain ⟨c, e, fz, h1, h2, h3, h4, h5, h6⟩ := h
    exact ⟨c, e, fz, by rw [hm, hb]; exact h1, by rw [hs]; exact h2, RelL.ext0 x h3, h4, h5, h6⟩
  | map v es =>
    obtain ⟨ents, clock, h1, h2, h3, h4⟩ := h
    exact ⟨ents, clock, by rw [hm, hb]; exact h1, h2, RelL.ext0 x h3, RelL.ext0 x h4⟩
  | strIter s pos => show _ = _; rw [hm, hb]; exact h
  | mapIter mp left =>
    cases mp with
    | none =>
      obtain ⟨h0, a, b, c, h1⟩ := h
      exact ⟨h0, a, b, c, by rw [hm, hb]; exact h1⟩
    | some jv =>
      obtain ⟨j, v⟩ := jv
      obtain ⟨h1, h2, h3, h4, since, seen, h5, h6⟩ := h
      obtain ⟨a, c, d⟩ := x.mp j h2 h1 h3
      have hv := x.ver j h2 h1
      refine ⟨x.S _ h2 h1, Nat.lt_of_lt_of_le h2 x.len, a, Nat.le_trans h4 hv, since, seen, by rw [hm, hb, c]; exact h5, fun e => ?_⟩
      obtain ⟨ents, g1, g2, g3, g4⟩ := h6 (by omega)
      exact ⟨ents, by rw [c, d (by omega)]; exact g1, g2, RelL.ext0 x g3, RelL.ext0 x g4⟩
theorem RelRef.ext (x : Ext E w E' w') {r : Ref} {a : Addr} (h : RelRef E r a) : RelRef E' r a := RelRef.ext0 x.toExt0.toSub h
theorem RelSl.ext (x : Ext E w E' w') {r : Ref} {n : Nat} {cp : Cap} {a : Addr} {c : Nat} (h : RelSl E r n cp a c) : RelSl E' r n cp a c := RelSl.ext0 x.toExt0.toSub h
theorem RelV.ext (x : Ext E w E' w') {v : AVal} {u : Value} (h : RelV E v u) : RelV E' v u := RelV.ext0 x.toExt0.toSub h
theorem RelL.ext (x : Ext E w E' w') {v : List AVal} {u : List Value} (h : RelL E v u) : RelL E' v u := RelL.ext0 x.toExt0.toSub h
theorem RelObj.ext (x : Ext E w E' w') {i : Nat} {o : AObj} (hm : E'.m i = E.m i) (hs : E'.sz i = E.sz i)
    (hb : w'.heap[E.m i]? = w.heap[E.m i]?) (h : RelObj E w i o) : RelObj E' w' i o := RelObj.ext0 x.toExt0.toSub hm hs hb h
end ext

theorem RelObj.lt {E : Env} {w : World} {i : Nat} {o : AObj} (h : RelObj E w i o) : E.m i < w.heap.size := by
  have key : ∀ {b : Obj}, w.heap[E.m i]? = some b → E.m i < w.heap.size := fun hb => (Array.getElem?_eq_some_iff.1 hb).1
  cases o with
  | cells v kd cs => obtain ⟨c, e, fz, h1, _⟩ := h; exact key h1
  | map v es => obtain ⟨ents, clock, h1, _⟩ := h; exact key h1
  | strIter s pos => exact key h
  | mapIter mp left =>
    cases mp with
    | none => obtain ⟨_, a, b, c, h1⟩ := h; exact key h1
    | some jv => obtain ⟨_, _, _, _, since, seen, h5, _⟩ := h; exact key h5
theorem RelW.lt {E : Env} {w : World} (h : RelW E w) {i : Nat} (hs : E.S i) (hi : i < E.H.length) : E.m i < w.heap.size :=
  (h.obj i E.H[i] hs (List.getElem?_eq_getElem hi)).lt

/-- A new object. -/
def Env.push (E : Env) (o : AObj) (b n : Nat) : Env where
  m := fun i => if i = E.H.length then b else E.m i
  sz := fun i => if i = E.H.length then n else E.sz i
  S := fun i => (E.S i ∧ i < E.H.length) ∨ i = E.H.length
  H := E.H ++ [o]

theorem verOf_append {H K : AHeap} {i : Nat} (h : i < H.length) : verOf (H ++ K) i = verOf H i := by
  simp [verOf, List.getElem?_append_left h]
theorem ownAt_append {H K : AHeap} {i : Nat} (h : i < H.length) : ownAt (H ++ K) i = ownAt H i := by
  simp [ownAt, List.getElem?_append_left h]
theorem opnAt_append {H K : AHeap} {i : Nat} (h : i < H.length) : opnAt (H ++ K) i = opnAt H i := by
  simp [opnAt, List.getElem?_append_left h]
theorem isMapAt_append {H K : AHeap} {i : Nat} (h : i < H.length) : isMapAt (H ++ K) i = isMapAt H i := by
  simp [isMapAt, List.getElem?_append_left h]

theorem ext_new {E : Env} {w w' : World} {ob : Obj} (h : RelW E w) (o : AObj) (n : Nat) (hh : w'.heap = w.heap.push ob)
    (ht : w'.tape = w.tape) (ho : w'.os = w.os) (hp : w'.output = w.output) : Ext E w (E.push o w.heap.size n) w' := by
  have old : ∀ k, k < w.heap.size → w'.heap[k]? = w.heap[k]? := fun k hk => by rw [hh, Array.getElem?_push, if_neg (by omega)]
  refine ⟨⟨⟨by simp [Env.push], fun i hi _ => ?_, fun i hi hs hmp => ?_, fun i hi _ _ => ?_, fun i hi hs => .inl ⟨hs, hi⟩⟩, fun i hi _ => ?_, fun i hi hs => ?_, ht, ho, hp, by simp [hh], fun k hk _ => old k hk⟩, fun i hs hi => ?_, fun i h1 h2 => .inr (by simp [Env.push] at h2; omega)⟩
  · simp only [Env.push, verOf_append hi]; exact Nat.le_refl _
  · refine ⟨by simpa only [Env.push, isMapAt_append hi] using hmp, by simp only [Env.push]; rw [if_neg (by omega)], fun _ => old _ (h.lt hs hi)⟩
  · simp only [Env.push, opnAt_append hi]
    rw [if_neg (by omega), if_neg (by omega)]; exact ⟨rfl, rfl, id⟩
  · simp only [Env.push, ownAt_append hi]
  · rcases hs with ⟨a, b⟩ | a
    · exact .inl ⟨b, a, by simp only [Env.push]; rw [if_neg (by omega)]⟩
    · right; simp only [Env.push]; rw [if_pos a]; exact Nat.le_refl _
  · rcases hs with ⟨a, b⟩ | a
    · exact .inl ⟨b, a⟩
    · right; omega

theorem rel_new {E : Env} {w w' : World} {ob : Obj} (h : RelW E w) (o : AObj) (n : Nat) (hh : w'.heap = w.heap.push ob)
    (ht : w'.tape = w.tape) (ho : w'.os = w.os) (hp : w'.output = w.output)
    (hobj : RelObj (E.push o w.heap.size n) w' E.H.length o) : RelW (E.push o w.heap.size n) w' := by
  have x := ext_new (E := E) h o n hh ht ho hp
  have old : ∀ k, k < w.heap.size → w'.heap[k]? = w.heap[k]? := fun k hk => by rw [hh, Array.getElem?_push, if_neg (by omega)]
  have mold : ∀ i, i < E.H.length → (E.push o w.heap.size n).m i = E.m i := fun i hi => by simp only [Env.push]; rw [if_neg (by omega)]
  have mnew : (E.push o w.heap.size n).m E.H.length = w.heap.size := by simp [Env.push]
  have len : (E.push o w.heap.size n).H.length = E.H.length + 1 := by simp [Env.push]
  refine ⟨fun i o' hs ho' => ?_, fun i j hsi hsj hi hj how hne => ?_⟩
  · rcases hs with ⟨a, b⟩ | a
    · have ho' : (E.H ++ [o])[i]? = some o' := ho'
      rw [List.getElem?_append_left b] at ho'
      exact (h.obj i o' a ho').ext x (mold i b) (by simp only [Env.push]; rw [if_neg (by omega)]) (old _ (h.lt a b))
    · subst a
      have ho' : (E.H ++ [o])[E.H.length]? = some o' := ho'
      simp at ho'; subst ho'; exact hobj
  · rcases hsi with ⟨a, b⟩ | a <;> rcases hsj with ⟨a', b'⟩ | a'
    · rw [mold i b, mold j b']
      exact h.inj i j a a' b b' (by simpa only [Env.push, ownAt_append b] using how) hne
    · subst a'; rw [mold i b, mnew]; have := h.lt a b; omega
    · subst a; rw [mold j b', mnew]; have := h.lt a' b'; omega
    · omega

/-- An object of one's own is written. -/
def Env.put (E : Env) (i : Nat) (o : AObj) : Env := { E with H := E.H.set i o }

theorem verOf_set_ne {H : AHeap} {i j : Nat} {o : AObj} (h : i ≠ j) : verOf (H.set i o) j = verOf H j := by
  simp [verOf, List.getElem?_set_ne h]
theorem ownAt_set_ne {H : AHeap} {i j : Nat} {o : AObj} (h : i ≠ j) : ownAt (H.set i o) j = ownAt H j := by
  simp [ownAt, List.getElem?_set_ne h]
theorem opnAt_set_ne {H : AHeap} {i j : Nat} {o : AObj} (h : i ≠ j) : opnAt (H.set i o) j = opnAt H j := by
  simp [opnAt, List.getElem?_set_ne h]
theorem isMapAt_set_ne {H : AHeap} {i j : Nat} {o : AObj} (h : i ≠ j) : isMapAt (H.set i o) j = isMapAt H j := by
  simp [isMapAt, List.getElem?_set_ne h]
theorem verOf_some {H : AHeap} {i : Nat} {o : AObj} (h : H[i]? = some o) : verOf H i = o.ver := by simp [verOf, h]
theorem ownAt_some {H : AHeap} {i : Nat} {o : AObj} (h : H[i]? = some o) : ownAt H i = o.own := by simp [ownAt, h]
theorem opnAt_some {H : AHeap} {i : Nat} {o : AObj} (h : H[i]? = some o) : opnAt H i = o.opn := by simp [opnAt, h]
def AObj.isMap : AObj → Bool | .map _ _ => true | _ => false
theorem isMapAt_some {H : AHeap} {i : Nat} {o : AObj} (h : H[i]? = some o) : isMapAt H i = o.isMap := by
  unfold isMapAt; rw [h]; cases o <;> rfl
theorem lt_of_some {H : AHeap} {i : Nat} {o : AObj} (h : H[i]? = some o) : i < H.length := (List.getElem?_eq_some_iff.1 h).1
theorem set_get {H : AHeap} {i : Nat} {o o0 : AObj} (h : H[i]? = some o0) : (H.set i o)[i]? = some o := by
  rw [List.getElem?_set_self (lt_of_some h)]

/-- What may take an object's place. -/
structure Follows (o0 o : AObj) : Prop where
  own0 : o0.own = true
  own : o.own = true
  ver : o0.ver ≤ o.ver
  opn : o0.ver = o.ver → o.opn = true → o0.opn = true
  map : o0.isMap = true → o.isMap = true ∧ o0.ver < o.ver

theorem ext_put {E : Env} {w w' : World} {i : Nat} {o0 o : AObj} (hs : E.S i) (h0 : E.H[i]? = some o0) (f : Follows o0 o)
    (hsz : w'.heap.size = w.heap.size) (hk : ∀ k, k ≠ E.m i → w'.heap[k]? = w.heap[k]?)
    (hinj : ∀ j, E.S j → j < E.H.length → i ≠ j → E.m i ≠ E.m j)
    (ht : w'.tape = w.tape) (ho : w'.os = w.os) (hp : w'.output = w.output) : Ext E w (E.put i o) w' := by
  have h1 : (E.put i o).H[i]? = some o := set_get h0
  refine ⟨⟨⟨by simp [Env.put], fun j hj hsj => ?_, fun j hj hsj hmp => ?_, fun j hj hsj hv => ⟨rfl, rfl, fun hop => ?_⟩, fun _ _ h => h⟩, fun j hj hsj => ?_,
    fun j hj hsj => .inl ⟨by simpa [Env.put] using hj, hsj, rfl⟩, ht, ho, hp, by omega, fun k hkl hne => ?_⟩, fun j hsj hj => .inl ⟨by simpa [Env.put] using hj, hsj⟩, fun j h1 h2 => by simp [Env.put] at h2; omega⟩
  · by_cases e : i = j
    · subst e; rw [verOf_some h0, verOf_some h1]; exact f.ver
    · simp only [Env.put, verOf_set_ne e]; exact Nat.le_refl _
  · by_cases e : i = j
    · subst e
      rw [isMapAt_some h0] at hmp
      obtain ⟨a, b⟩ := f.map hmp
      refine ⟨by rw [isMapAt_some h1]; exact a, rfl, fun hv => ?_⟩
      rw [verOf_some h0, verOf_some h1] at hv; omega
    · refine ⟨by simpa only [Env.put, isMapAt_set_ne e] using hmp, rfl, fun _ => hk _ ?_⟩
      exact fun e' => hinj j hsj hj e e'.symm
  · by_cases e : i = j
    · subst e
      rw [verOf_some h0, verOf_some h1] at hv
      rw [opnAt_some h1] at hop
      rw [opnAt_some h0]; exact f.opn hv hop
    · simpa only [Env.put, opnAt_set_ne e] using hop
  · by_cases e : i = j
    · subst e; rw [ownAt_some h0, ownAt_some h1, f.own, f.own0]
    · simp only [Env.put, ownAt_set_ne e]
  · refine hk k fun e => ?_
    exact hne i (lt_of_some h0) hs (by rw [ownAt_some h0]; exact f.own0) e.symm

theorem rel_put {E : Env} {w w' : World} {i : Nat} {o0 o : AObj} (h : RelW E w) (hs : E.S i) (h0 : E.H[i]? = some o0) (f : Follows o0 o)
    (hsz : w'.heap.size = w.heap.size) (hk : ∀ k, k ≠ E.m i → w'.heap[k]? = w.heap[k]?)
    (ht : w'.tape = w.tape) (ho : w'.os = w.os) (hp : w'.output = w.output)
    (hobj : Ext E w (E.put i o) w' → RelObj (E.put i o) w' i o) : RelW (E.put i o) w' ∧ Ext E w (E.put i o) w' := by
  have hi := lt_of_some h0
  have own0 : ownAt E.H i = true := by rw [ownAt_some h0]; exact f.own0
  have hinj : ∀ j, E.S j → j < E.H.length → i ≠ j → E.m i ≠ E.m j := fun j hsj hj hne => h.inj i j hs hsj hi hj own0 hne
  have x := ext_put hs h0 f hsz hk hinj ht ho hp
  refine ⟨⟨fun j o' hsj ho' => ?_, fun j l hsj hsl hj hl how hne => ?_⟩, x⟩
  · by_cases e : i = j
    · subst e
      rw [show (E.put i o).H[i]? = some o from set_get h0] at ho'; cases ho'; exact hobj x
    · have ho' : (E.H.set i o)[j]? = some o' := ho'
      rw [List.getElem?_set_ne e] at ho'
      exact (h.obj j o' hsj ho').ext x rfl rfl (hk _ fun e' => hinj j hsj (lt_of_some ho') e e'.symm)
  · have hj' : j < E.H.length := by simpa [Env.put] using hj
    have hl' : l < E.H.length := by simpa [Env.put] using hl
    refine h.inj j l hsj hsl hj' hl' ?_ hne
    rw [← x.own j hj' hsj]; exact how

/-- An object of one's own gets a new block (an append that did not fit). -/
def Env.swap (E : Env) (i : Nat) (o : AObj) (b n : Nat) : Env where
  m := fun j => if j = i then b else E.m j
  sz := fun j => if j = i then n else E.sz j
  S := E.S
  H := E.H.set i o

theorem rel_swap {E : Env} {w w' : World} {i : Nat} {o0 o : AObj} {ob : Obj} (n : Nat) (h : RelW E w) (hs : E.S i) (h0 : E.H[i]? = some o0) (f : Follows o0 o)
    (hver : o0.ver < o.ver) (hnm : o0.isMap = false) (hh : w'.heap = w.heap.push ob)
    (ht : w'.tape = w.tape) (ho : w'.os = w.os) (hp : w'.output = w.output)
    (hobj : Ext E w (E.swap i o w.heap.size n) w' → RelObj (E.swap i o w.heap.size n) w' i o) :
    RelW (E.swap i o w.heap.size n) w' ∧ Ext E w (E.swap i o w.heap.size n) w' := by
  have hi := lt_of_some h0
  have old : ∀ k, k < w.heap.size → w'.heap[k]? = w.heap[k]? := fun k hk => by rw [hh, Array.getElem?_push, if_neg (by omega)]
  have h1 : (E.swap i o w.heap.size n).H[i]? = some o := set_get h0
  have mne : ∀ j, j ≠ i → (E.swap i o w.heap.size n).m j = E.m j := fun j hj => by simp only [Env.swap]; rw [if_neg hj]
  have sne : ∀ j, j ≠ i → (E.swap i o w.heap.size n).sz j = E.sz j := fun j hj => by simp only [Env.swap]; rw [if_neg hj]
  have meq : (E.swap i o w.heap.size n).m i = w.heap.size := by simp [Env.swap]
  have hl : (E.swap i o w.heap.size n).H.length = E.H.length := by simp [Env.swap]
  have x : Ext E w (E.swap i o w.heap.size n) w' := by
    refine ⟨⟨⟨by simp [Env.swap], fun j hj hsj => ?_, fun j hj hsj hmp => ?_, fun j hj hsj hv => ?_, fun _ _ h => h⟩, fun j hj hsj => ?_,
      fun j hj hsj => ?_, ht, ho, hp, by simp [hh], fun k hkl hne => old k hkl⟩, fun j hsj hj => .inl ⟨by simpa [Env.swap] using hj, hsj⟩, fun j h1 h2 => by simp [Env.swap] at h2; omega⟩
    · by_cases e : i = j
      · subst e; rw [verOf_some h0, verOf_some h1]; exact f.ver
      · simp only [Env.swap, verOf_set_ne e]; exact Nat.le_refl _
    · by_cases e : i = j
      · subst e; rw [isMapAt_some h0, hnm] at hmp; cases hmp
      · exact ⟨by simpa only [Env.swap, isMapAt_set_ne e] using hmp, mne j (Ne.symm e), fun _ => old _ (h.lt hsj hj)⟩
    · by_cases e : i = j
      · subst e; rw [verOf_some h0, verOf_some h1] at hv; omega
      · refine ⟨mne j (Ne.symm e), sne j (Ne.symm e), fun hop => ?_⟩
        simpa only [Env.swap, opnAt_set_ne e] using hop
    · by_cases e : i = j
      · subst e; rw [ownAt_some h0, ownAt_some h1, f.own, f.own0]
      · simp only [Env.swap, ownAt_set_ne e]
    · by_cases e : j = i
      · right; rw [e, meq]; exact Nat.le_refl _
      · exact .inl ⟨by omega, hsj, mne j e⟩
  refine ⟨⟨fun j o' hsj ho' => ?_, fun j l hsj hsl hj hll how hne => ?_⟩, x⟩
  · by_cases e : j = i
    · subst e
      rw [h1] at ho'; cases ho'; exact hobj x
    · have ho' : (E.H.set i o)[j]? = some o' := ho'
      rw [List.getElem?_set_ne (Ne.symm e)] at ho'
      exact (h.obj j o' hsj ho').ext x (mne j e) (sne j e) (old _ (h.lt hsj (lt_of_some ho')))
  · have hj' : j < E.H.length := by omega
    have hl' : l < E.H.length := by omega
    by_cases e : j = i <;> by_cases e' : l = i
    · omega
    · subst e; rw [meq, mne l e']; have := h.lt hsl hl'; omega
    · subst e'; rw [meq, mne j e]; have := h.lt hsj hj'; omega
    · rw [mne j e, mne l e']
      refine h.inj j l hsj hsl hj' hl' ?_ hne
      rw [← x.own j hj' hsj]; exact how

end Go.Abs
