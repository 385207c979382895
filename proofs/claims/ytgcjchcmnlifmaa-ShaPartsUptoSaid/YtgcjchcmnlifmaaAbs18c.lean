/- Environments cut back, led on, joined. -/
import Derived.Test.YtgcjchcmnlifmaaAbs18b
namespace Go.Abs
open Go

section both
variable {RP RP' RP2 : Ref → Addr → Prop} {RS RS' RS2 : Ref → Nat → Cap → Addr → Nat → Prop} {RM RM' RM2 : Nat → Nat → Prop}
mutual
theorem RelG.both (hp : ∀ r a a', RP r a → RP' r a' → RP2 r a) (hs : ∀ r n c a k a' k', RS r n c a k → RS' r n c a' k' → RS2 r n c a k) (hm : ∀ i b b', RM i b → RM' i b' → RM2 i b) :
    ∀ (x : AVal) (v v' : Value), RelG RP RS RM x v → RelG RP' RS' RM' x v' → RelG RP2 RS2 RM2 x v
  | .undef, _, _, _, _ => by simp only [RelG]
  | .bool _, _, _, h, _ => by simpa only [RelG] using h
  | .int _ _, _, _, h, _ => by simpa only [RelG] using h
  | .float _ _, _, _, h, _ => by simpa only [RelG] using h
  | .cplx _ _ _, _, _, h, _ => by simpa only [RelG] using h
  | .str _, _, _, h, _ => by simpa only [RelG] using h
  | .nilp, _, _, h, _ => by simpa only [RelG] using h
  | .ptr r, _, _, h, h' => by simp only [RelG] at h h' ⊢; obtain ⟨a, h1, h2⟩ := h; obtain ⟨a', _, h2'⟩ := h'; exact ⟨a, h1, hp _ _ _ h2 h2'⟩
  | .nils, _, _, h, _ => by simpa only [RelG] using h
  | .slice r n c, _, _, h, h' => by simp only [RelG] at h h' ⊢; obtain ⟨a, k, h1, h2⟩ := h; obtain ⟨a', k', _, h2'⟩ := h'; exact ⟨a, k, h1, hs _ _ _ _ _ _ _ h2 h2'⟩
  | .nilm, _, _, h, _ => by simpa only [RelG] using h
  | .map i, _, _, h, h' => by simp only [RelG] at h h' ⊢; obtain ⟨a, h1, h2⟩ := h; obtain ⟨a', _, h2'⟩ := h'; exact ⟨a, h1, hm _ _ _ h2 h2'⟩
  | .func _ f c, _, _, h, h' => by
    simp only [RelG] at h h' ⊢; obtain ⟨f', c', h1, h2, h3⟩ := h; obtain ⟨f2, c2, _, k2, k3⟩ := h'
    exact ⟨f', c', h1, RelGL.both hp hs hm f f' f2 h2 k2, RelGL.both hp hs hm c c' c2 h3 k3⟩
  | .nilf, _, _, h, _ => by simpa only [RelG] using h
  | .iface _ x, _, _, h, h' => by simp only [RelG] at h h' ⊢; obtain ⟨y, h1, h2⟩ := h; obtain ⟨y', _, h2'⟩ := h'; exact ⟨y, h1, RelG.both hp hs hm x y y' h2 h2'⟩
  | .nili, _, _, h, _ => by simpa only [RelG] using h
  | .agg cs, _, _, h, h' => by simp only [RelG] at h h' ⊢; obtain ⟨l, h1, h2⟩ := h; obtain ⟨l', _, h2'⟩ := h'; exact ⟨l, h1, RelGL.both hp hs hm cs l l' h2 h2'⟩
  | .tup cs, _, _, h, h' => by simp only [RelG] at h h' ⊢; obtain ⟨l, h1, h2⟩ := h; obtain ⟨l', _, h2'⟩ := h'; exact ⟨l, h1, RelGL.both hp hs hm cs l l' h2 h2'⟩
theorem RelGL.both (hp : ∀ r a a', RP r a → RP' r a' → RP2 r a) (hs : ∀ r n c a k a' k', RS r n c a k → RS' r n c a' k' → RS2 r n c a k) (hm : ∀ i b b', RM i b → RM' i b' → RM2 i b) :
    ∀ (xs : List AVal) (l l' : List Value), RelGL RP RS RM xs l → RelGL RP' RS' RM' xs l' → RelGL RP2 RS2 RM2 xs l
  | [], _, _, h, _ => by simpa only [RelGL] using h
  | x :: xs, _, _, h, h' => by
    simp only [RelGL] at h h' ⊢; obtain ⟨y, ys, h1, h2, h3⟩ := h; obtain ⟨y', ys', _, k2, k3⟩ := h'
    exact ⟨y, ys, h1, RelG.both hp hs hm x y y' h2 k2, RelGL.both hp hs hm xs ys ys' h3 k3⟩
end
end both

/-- A longer heap of which nothing new counts. -/
def Env.adv (E : Env) (H : AHeap) : Env := { E with H := H, S := fun x => E.S x ∧ x < E.H.length }

section
variable {E F : Env} {w w' wF : World}

theorem adv_ext {H : AHeap} (hp : E.H <+: H) : Ext0 E w (E.adv H) w := by
  obtain ⟨K, rfl⟩ := hp
  refine ⟨⟨by simp [Env.adv], fun i hi _ => ?_, fun i hi hs hm => ⟨?_, rfl, fun _ => rfl⟩, fun i hi hs hv => ⟨rfl, rfl, ?_⟩, fun i hi hs => ⟨hs, hi⟩⟩,
    fun i hi _ => ?_, fun i hi hs => .inl ⟨hs.2, hs.1, rfl⟩, rfl, rfl, rfl, Nat.le_refl _, fun _ _ _ => rfl⟩
  · simp only [Env.adv, verOf_append hi]; exact Nat.le_refl _
  · simpa only [Env.adv, isMapAt_append hi] using hm
  · simp only [Env.adv, opnAt_append hi]; exact id
  · simp only [Env.adv, ownAt_append hi]

theorem adv_rel {H : AHeap} (h : RelW E w) (hp : E.H <+: H) : RelW (E.adv H) w := by
  have x := adv_ext (w := w) hp
  obtain ⟨K, rfl⟩ := hp
  refine ⟨fun i o hs ho => ?_, fun i j hi hj _ _ how hne => ?_⟩
  · have ho' : (E.H ++ K)[i]? = some o := ho
    rw [List.getElem?_append_left hs.2] at ho'
    exact RelObj.ext0 x.toSub rfl rfl rfl (h.obj i o hs.1 ho')
  · refine h.inj i j hi.1 hj.1 hi.2 hj.2 ?_ hne
    simpa only [Env.adv, ownAt_append hi.2] using how

/-- The heap as it was. -/
def Env.cut (E : Env) (H : AHeap) : Env := { E with H := H, S := fun x => E.S x ∧ x < H.length }

theorem pre_ver {H K : AHeap} (hp : H <+: K) {i : Nat} (hi : i < H.length) : verOf K i = verOf H i := by obtain ⟨L, rfl⟩ := hp; exact verOf_append hi
theorem pre_own {H K : AHeap} (hp : H <+: K) {i : Nat} (hi : i < H.length) : ownAt K i = ownAt H i := by obtain ⟨L, rfl⟩ := hp; exact ownAt_append hi
theorem pre_opn {H K : AHeap} (hp : H <+: K) {i : Nat} (hi : i < H.length) : opnAt K i = opnAt H i := by obtain ⟨L, rfl⟩ := hp; exact opnAt_append hi
theorem pre_map {H K : AHeap} (hp : H <+: K) {i : Nat} (hi : i < H.length) : isMapAt K i = isMapAt H i := by obtain ⟨L, rfl⟩ := hp; exact isMapAt_append hi
theorem pre_get {H K : AHeap} (hp : H <+: K) {i : Nat} (hi : i < H.length) : K[i]? = H[i]? := by obtain ⟨L, rfl⟩ := hp; exact List.getElem?_append_left hi

theorem RelRef.cut (hp : F.H <+: E.H) {r : Ref} {a a' : Addr} (h : RelRef E r a) (h' : RelRef F r a') : RelRef (E.cut F.H) r a := by
  obtain ⟨h1, h2, h3, h4⟩ := h
  have hl := h'.2.1
  have hv := pre_ver hp hl
  exact ⟨⟨h1, hl⟩, hl, by rw [hv] at h3; exact h3, fun e => h4 (by rw [hv]; exact e)⟩

theorem RelSl.cut (hp : F.H <+: E.H) {r : Ref} {n : Nat} {cp : Cap} {a a' : Addr} {c c' : Nat} (h : RelSl E r n cp a c) (h' : RelSl F r n cp a' c') : RelSl (E.cut F.H) r n cp a c := by
  obtain ⟨h1, h2, h3, h4⟩ := h
  have hl := h'.2.1
  have hv := pre_ver hp hl
  refine ⟨⟨h1, hl⟩, hl, by rw [hv] at h3; exact h3, fun e => ?_⟩
  have h5 := h4 (by rw [hv]; exact e)
  rw [pre_opn hp hl] at h5
  exact h5

theorem RelMp.cut (hp : F.H <+: E.H) {i b b' : Nat} (h : RelMp E i b) (h' : RelMp F i b') : RelMp (E.cut F.H) i b := by
  obtain ⟨h1, h2, h3, h4⟩ := h
  have hl := h'.2.1
  exact ⟨⟨h1, hl⟩, hl, by rw [pre_map hp hl] at h3; exact h3, h4⟩

theorem RelV.cut (hp : F.H <+: E.H) {x : AVal} {v v' : Value} (h : RelV E x v) (h' : RelV F x v') : RelV (E.cut F.H) x v :=
  RelG.both (RP2 := RelRef (E.cut F.H)) (RS2 := RelSl (E.cut F.H)) (RM2 := RelMp (E.cut F.H)) (fun _ _ _ => RelRef.cut hp) (fun _ _ _ _ _ _ _ => RelSl.cut hp) (fun _ _ _ => RelMp.cut hp) x v v' h h'
theorem RelL.cut (hp : F.H <+: E.H) {x : List AVal} {v v' : List Value} (h : RelL E x v) (h' : RelL F x v') : RelL (E.cut F.H) x v :=
  RelGL.both (RP2 := RelRef (E.cut F.H)) (RS2 := RelSl (E.cut F.H)) (RM2 := RelMp (E.cut F.H)) (fun _ _ _ => RelRef.cut hp) (fun _ _ _ _ _ _ _ => RelSl.cut hp) (fun _ _ _ => RelMp.cut hp) x v v' h h'

theorem RelObj.cut (hp : F.H <+: E.H) {i : Nat} {o : AObj} (h : RelObj E w i o) (h' : RelObj F wF i o) : RelObj (E.cut F.H) w i o := by
  cases o with
  | cells v kd cs =>
    obtain ⟨c, e, fz, h1, h2, h3, h4, h5, h6⟩ := h
    obtain ⟨c', e', fz', _, _, k3, _⟩ := h'
    exact ⟨c, e, fz, h1, h2, RelL.cut hp h3 k3, h4, h5, h6⟩
  | map v es =>
    obtain ⟨ents, clock, h1, h2, h3, h4⟩ := h
    obtain ⟨ents', clock', _, _, k3, k4⟩ := h'
    exact ⟨ents, clock, h1, h2, RelL.cut hp h3 k3, RelL.cut hp h4 k4⟩
  | strIter s pos => exact h
  | mapIter mp left =>
    cases mp with
    | none => exact h
    | some jv =>
      obtain ⟨j, v⟩ := jv
      obtain ⟨h1, h2, h3, h4, since, seen, h5, h6⟩ := h
      obtain ⟨_, k2, _, _, _, _, _, k6⟩ := h'
      have hv := pre_ver hp k2
      refine ⟨⟨h1, k2⟩, k2, by rw [pre_map hp k2] at h3; exact h3, by rw [hv] at h4; exact h4, since, seen, h5, fun e => ?_⟩
      have e : v = verOf F.H j := e
      obtain ⟨ents, g1, g2, g3, g4⟩ := h6 (by rw [hv]; exact e)
      obtain ⟨ents', _, _, f3, f4⟩ := k6 e
      exact ⟨ents, g1, g2, RelL.cut hp g3 f3, RelL.cut hp g4 f4⟩

theorem cut_rel (h : RelW E w) (hF : RelW F wF) (hp : F.H <+: E.H) (hS : ∀ x, x < F.H.length → E.S x → F.S x) : RelW (E.cut F.H) w := by
  refine ⟨fun i o hs ho => ?_, fun i j hi hj hil hjl how hne => ?_⟩
  · have ho : F.H[i]? = some o := ho
    exact RelObj.cut hp (h.obj i o hs.1 (by rw [pre_get hp hs.2]; exact ho)) (hF.obj i o (hS i hs.2 hs.1) ho)
  · have hle : F.H.length ≤ E.H.length := hp.length_le
    have hil : i < F.H.length := hil
    have hjl : j < F.H.length := hjl
    exact h.inj i j hi.1 hj.1 (by omega) (by omega) (by rw [pre_own hp hil]; exact how) hne

/-- What a cut one brought, put in. -/
def Env.join (E E' : Env) (lo hi : Nat) : Env where
  m x := if lo ≤ x ∧ x < hi then E'.m x else E.m x
  sz x := if lo ≤ x ∧ x < hi then E'.sz x else E.sz x
  S x := (E.S x ∧ x < E.H.length) ∨ (lo ≤ x ∧ x < hi)
  H := E.H

theorem join_all {E' : Env} {H1 : AHeap} (h : RelW E w) (hw' : RelW E' w') (x : Ext (E.cut H1) w E' w') (p1 : H1 <+: E'.H) (p2 : E'.H <+: E.H)
    (hn : ∀ i, H1.length ≤ i → i < E'.H.length → ¬ E.S i) :
    Ext0 E w (E.join E' H1.length E'.H.length) w' ∧ RelW (E.join E' H1.length E'.H.length) w' ∧ Sub E' w' (E.join E' H1.length E'.H.length) w' := by
  have p : H1 <+: E.H := p1.trans p2
  have l1 := p1.length_le
  have l2 := p2.length_le
  have mold : ∀ i, E.S i → i < E.H.length → (E.join E' H1.length E'.H.length).m i = E.m i := fun i hs hi => if_neg fun hh => hn i hh.1 hh.2 hs
  have szold : ∀ i, E.S i → i < E.H.length → (E.join E' H1.length E'.H.length).sz i = E.sz i := fun i hs hi => if_neg fun hh => hn i hh.1 hh.2 hs
  have mnew : ∀ i, E'.S i → i < E'.H.length → (E.join E' H1.length E'.H.length).m i = E'.m i ∧ (E.join E' H1.length E'.H.length).sz i = E'.sz i ∧ (E.join E' H1.length E'.H.length).S i := by
    intro i hs hi
    by_cases hlo : H1.length ≤ i
    · exact ⟨if_pos ⟨hlo, hi⟩, if_pos ⟨hlo, hi⟩, .inr ⟨hlo, hi⟩⟩
    · rcases x.news i hs hi with ⟨a, b⟩ | a
      · have a' : i < H1.length := a
        have hv : verOf (E.cut H1).H i = verOf E'.H i := (pre_ver p1 a').symm
        obtain ⟨s1, s2, _⟩ := x.same i a b hv
        exact ⟨(if_neg (by omega)).trans s1.symm, (if_neg (by omega)).trans s2.symm, .inl ⟨b.1, by omega⟩⟩
      · exact absurd a hlo
  have old : ∀ i, E.S i → i < E.H.length → ¬ i < H1.length → w'.heap[E.m i]? = w.heap[E.m i]? := by
    intro i hs hi hlo
    refine x.frame _ (h.lt hs hi) fun k hk hks hko => ?_
    have hk : k < H1.length := hk
    exact h.inj k i hks.1 hs (by omega) hi (by rw [pre_own p hk]; exact hko) (by omega)
  have s1 : Sub E w (E.join E' H1.length E'.H.length) w' := by
    refine ⟨Nat.le_refl _, fun i _ _ => Nat.le_refl _, fun i hi hs hm => ⟨hm, mold i hs hi, fun _ => ?_⟩, fun i hi hs _ => ⟨mold i hs hi, szold i hs hi, id⟩, fun i hi hs => .inl ⟨hs, hi⟩⟩
    by_cases hlo : i < H1.length
    · obtain ⟨_, _, c⟩ := x.mp i hlo ⟨hs, hlo⟩ (by rw [pre_map p hlo] at hm; exact hm)
      exact c (pre_ver p1 hlo).symm
    · exact old i hs hi hlo
  have s2 : Sub E' w' (E.join E' H1.length E'.H.length) w' :=
    ⟨l2, fun i hi hs => by rw [show (E.join E' H1.length E'.H.length).H = E.H from rfl, pre_ver p2 hi]; exact Nat.le_refl _,
     fun i hi hs hm => ⟨by rw [show (E.join E' H1.length E'.H.length).H = E.H from rfl, pre_map p2 hi]; exact hm, (mnew i hs hi).1, fun _ => rfl⟩,
     fun i hi hs _ => ⟨(mnew i hs hi).1, (mnew i hs hi).2.1, fun ho => by rw [show (E.join E' H1.length E'.H.length).H = E.H from rfl, pre_opn p2 hi] at ho; exact ho⟩,
     fun i hi hs => (mnew i hs hi).2.2⟩
  have memE' : ∀ i, (E.join E' H1.length E'.H.length).S i → i < E'.H.length → E'.S i := by
    intro i hs hi
    rcases hs with ⟨a, b⟩ | ⟨a, b⟩
    · by_cases hlo : i < H1.length
      · exact x.S i hlo ⟨a, hlo⟩
      · exact absurd a (hn i (by omega) hi)
    · exact x.full i a b
  refine ⟨⟨s1, fun i hi _ => rfl, fun i hi hs => ?_, x.tape, x.os, x.output, x.size, fun k hk hne => ?_⟩, ⟨fun i o hs ho => ?_, fun i j hs hsj hi hj how hne => ?_⟩, s2⟩
  · rcases hs with ⟨a, b⟩ | ⟨a, b⟩
    · exact .inl ⟨b, a, mold i a b⟩
    · right
      have e' : E'.S i := x.full i a b
      rw [(mnew i e' b).1]
      rcases x.fresh i b e' with ⟨c, _, _⟩ | c
      · have c : i < H1.length := c
        omega
      · exact c
  · refine x.frame k hk fun i hi hs hown => ?_
    have hi : i < H1.length := hi
    exact hne i (by omega) hs.1 (by rw [pre_own p hi]; exact hown)
  · have ho : E.H[i]? = some o := ho
    by_cases hi : i < E'.H.length
    · have e' := memE' i hs hi
      obtain ⟨m1, m2, _⟩ := mnew i e' hi
      exact RelObj.ext0 s2 m1 m2 rfl (hw'.obj i o e' (by rw [← pre_get p2 hi]; exact ho))
    · have hs' : E.S i := by
        rcases hs with ⟨a, _⟩ | ⟨_, b⟩
        · exact a
        · exact absurd b hi
      have hil := lt_of_some ho
      exact RelObj.ext0 s1 (mold i hs' hil) (szold i hs' hil) (old i hs' hil (by omega)) (h.obj i o hs' ho)
  · have hi : i < E.H.length := hi
    have hj : j < E.H.length := hj
    by_cases hi' : i < E'.H.length <;> by_cases hj' : j < E'.H.length
    · have ei := memE' i hs hi'
      have ej := memE' j hsj hj'
      rw [(mnew i ei hi').1, (mnew j ej hj').1]
      exact hw'.inj i j ei ej hi' hj' (by rw [← pre_own p2 hi']; exact how) hne
    · have ei := memE' i hs hi'
      have ej : E.S j := by
        rcases hsj with ⟨a, _⟩ | ⟨_, b⟩
        · exact a
        · exact absurd b hj'
      rw [(mnew i ei hi').1, mold j ej hj]
      rcases x.fresh i hi' ei with ⟨c, d, e⟩ | c
      · rw [e]
        exact h.inj i j d.1 ej hi hj how hne
      · have := h.lt ej hj
        omega
    · have ej := memE' j hsj hj'
      have ei : E.S i := by
        rcases hs with ⟨a, _⟩ | ⟨_, b⟩
        · exact a
        · exact absurd b hi'
      rw [(mnew j ej hj').1, mold i ei hi]
      rcases x.fresh j hj' ej with ⟨c, d, e⟩ | c
      · rw [e]
        exact h.inj i j ei d.1 hi hj how hne
      · have := h.lt ei hi
        omega
    · have ei : E.S i := by
        rcases hs with ⟨a, _⟩ | ⟨_, b⟩
        · exact a
        · exact absurd b hi'
      have ej : E.S j := by
        rcases hsj with ⟨a, _⟩ | ⟨_, b⟩
        · exact a
        · exact absurd b hj'
      rw [mold i ei hi, mold j ej hj]
      exact h.inj i j ei ej hi hj how hne

end
end Go.Abs
