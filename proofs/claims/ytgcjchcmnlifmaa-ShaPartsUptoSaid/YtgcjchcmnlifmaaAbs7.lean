/- The operations one by one, on: slicing, making, appending, copying, texts and bytes. -/
import Derived.Test.YtgcjchcmnlifmaaAbs6
namespace Go.Abs
open Go

section
variable {P : Program} {E : Env} {w : World}

/-- A bound that is written stands for one that is written. -/
def RelO (E : Env) : Option AVal → Option Value → Prop
  | none, none => True
  | some x, some v => RelV E x v
  | _, _ => False

theorem bnd_run {x : AVal} {a : Value} (hx : RelV E x a) {d k y : Nat} (h : bnd d (some x) = some k) (hk : k ≤ y) (c : BoundsCode) :
    (Instr.sliceBound a y c).run P w = .ok k w := by
  unfold bnd at h
  split at h
  · rename_i heq; cases heq
  · rename_i heq
    simp only [Option.some.injEq] at heq; subst heq
    simp only [RelG] at hx; subst hx
    split at h
    · rename_i n h0
      simp only [Option.some.injEq] at h; subst h
      have : 0 ≤ n ∧ n ≤ (y : Int) := ⟨h0, by omega⟩
      simp [Instr.sliceBound, asIntOf, this]
    · cases h
  · cases h

theorem bnd_some {d d' : Nat} {x : AVal} : bnd d (some x) = bnd d' (some x) := by cases x <;> rfl

theorem bounds_run {isS : Bool} {len cap : Nat} {lo hi mx : Option AVal} {lo' hi' mx' : Option Value} (hl : RelO E lo lo') (hh : RelO E hi hi') (hm : RelO E mx mx')
    {l h m : Nat} (el : bnd 0 lo = some l) (eh : bnd len hi = some h) (em : bnd cap mx = some m) (c1 : l ≤ h) (c2 : h ≤ m) (c3 : m ≤ cap) (c4 : mx.isSome = true → hi.isSome = true) :
    (Instr.sliceBounds isS len cap lo' hi' mx').run P w = .ok (l, h, m) w := by
  have key : ∀ {d k y : Nat} {o : Option AVal} {o' : Option Value}, RelO E o o' → bnd d o = some k → k ≤ y →
      (o' = none → k = d) ∧ (∀ v, o' = some v → ∀ c, (Instr.sliceBound v y c).run P w = .ok k w) ∧ (o.isSome = o'.isSome) := by
    intro d k y o o' hr hb hk
    cases o with
    | none => cases o' with
      | none => simp [bnd] at hb; exact ⟨fun _ => hb.symm, fun v e => by simp at e, rfl⟩
      | some _ => exact hr.elim
    | some x => cases o' with
      | none => exact hr.elim
      | some v => exact ⟨fun e => by simp at e, fun u e c => by cases e; exact bnd_run hr hb hk c, rfl⟩
  obtain ⟨m1, m2, m3⟩ := key hm em c3
  obtain ⟨h1, h2, h3⟩ := key hh eh c2
  obtain ⟨l1, l2, l3⟩ := key hl el c1
  rw [m3, h3] at c4
  cases mx' with
  | none =>
    have e := m1 rfl; subst e
    cases hi' with
    | none =>
      have e := h1 rfl; subst e
      cases lo' with
      | none => have e := l1 rfl; subst e; simp [Instr.sliceBounds]
      | some v => simp [Instr.sliceBounds, l2 v rfl]
    | some u =>
      cases lo' with
      | none => have e := l1 rfl; subst e; simp [Instr.sliceBounds, h2 u rfl]
      | some v => simp [Instr.sliceBounds, l2 v rfl, h2 u rfl]
  | some t =>
    cases hi' with
    | none => simp at c4
    | some u =>
      cases lo' with
      | none => have e := l1 rfl; subst e; simp [Instr.sliceBounds, h2 u rfl, m2 t rfl]
      | some v => simp [Instr.sliceBounds, l2 v rfl, h2 u rfl, m2 t rfl]

theorem aSliceStr_sound {x : AVal} {a : Value} (hx : RelV E x a) {t : TypeId} (hd : P.underlying t = some .string) {lo hi : Option AVal} {lo' hi' : Option Value}
    (hl : RelO E lo lo') (hh : RelO E hi hi') {v : AVal} (h : aSliceStr x lo hi = some v) :
    ∃ u, (Instr.sliceAt t a lo' hi' none).run P w = .ok u w ∧ RelV E v u := by
  unfold aSliceStr at h
  split at h
  · rename_i s
    simp only [RelG] at hx; subst hx
    split at h
    · rename_i l k el eh
      split at h
      · rename_i hc
        simp only [Option.some.injEq] at h; subst h
        have hb := bounds_run (P := P) (E := E) (w := w) (isS := false) (len := s.length) (cap := s.length) (mx := none) (mx' := none) hl hh trivial el eh rfl hc.1 hc.2 (Nat.le_refl _) (by simp)
        refine ⟨.string ⟨((s.take k).drop l).toArray⟩, ?_, rel_str⟩
        simp [Instr.sliceAt, run_under hd, Instr.slice, bytes_size, hb, bytes_extract]
      · cases h
    · cases h
  · cases h

theorem RelSl.partEx {r : Ref} {n c' l h m : Nat} {c : Cap} {p : Addr} {es : Nat} (hx : RelSl E r n c p c')
    (hc : match c with | .ex _ => True | .op _ => 0 < n) :
    RelSl E { r with off := if m = l then r.off else r.off + l * es } (h - l) (.ex (m - l)) (if m = l then p else p.add (l * es)) (m - l) := by
  obtain ⟨h1, h2, h3, h4⟩ := hx
  refine ⟨h1, h2, h3, fun hver => ?_⟩
  have h4 := h4 hver
  have hp : p = ⟨E.m r.id, r.off, none⟩ := by
    cases c with
    | ex c => exact h4.1
    | op es' =>
      obtain ⟨g1, g2, g3, g4⟩ := h4
      simp only at hc
      rcases g4 with ⟨g4, _⟩ | ⟨g4, _⟩
      · obtain ⟨pb, po, ps⟩ := p; simp only at g1 g2 g4; subst g1; subst g2; subst g4; rfl
      · omega
  subst hp
  refine ⟨?_, rfl⟩
  by_cases e : m = l <;> simp [e, add_none]
theorem RelSl.partOp {r : Ref} {n c' l h : Nat} {p : Addr} {es : Nat} (hx : RelSl E r n (.op es) p c') (hlh : l ≤ h) (hn : h ≤ n) :
    RelSl E { r with off := r.off + l * es } (h - l) (.op es) (if c' = l then p else p.add (l * es)) (c' - l) := by
  obtain ⟨h1, h2, h3, h4⟩ := hx
  refine ⟨h1, h2, h3, fun hver => ?_⟩
  obtain ⟨g1, g2, g3, g4⟩ := h4 hver
  obtain ⟨pb, po, ps⟩ := p
  simp only at g1 g2 g4; subst g1; subst g2
  by_cases hml : c' = l
  · subst hml
    simp only [if_true]
    refine ⟨by first | rfl | trivial, by first | rfl | trivial, by omega, .inr ⟨by omega, by omega, fun ho => ?_⟩⟩
    rcases g4 with ⟨g4, g5⟩ | ⟨g4, g5, g6⟩
    · exact (g5 ho).symm
    · subst g5; simp only [Nat.zero_mul, Nat.add_zero]; exact g6 ho
  · rw [if_neg hml, add_none]
    refine ⟨by first | rfl | trivial, by first | rfl | trivial, by omega, .inl ⟨?_, fun ho => ?_⟩⟩
    · rcases g4 with ⟨g4, g5⟩ | ⟨g4, g5, g6⟩
      · simp only; rw [g4]
      · omega
    · rcases g4 with ⟨g4, g5⟩ | ⟨g4, g5, g6⟩
      · rw [← g5 ho, Nat.sub_mul, Nat.add_assoc]
        have : l * es ≤ c' * es := Nat.mul_le_mul_right _ (by omega)
        omega
      · omega

theorem aSlice_sound {x : AVal} {a : Value} (hx : RelV E x a) {t et : TypeId} (hd : P.underlying t = some (.slice et)) {i : TypeInfo} (hi : P.info? et = some i)
    {lo hi' mx : Option AVal} {lo0 hi0 mx0 : Option Value} (hl : RelO E lo lo0) (hh : RelO E hi' hi0) (hm : RelO E mx mx0) {v : AVal}
    (h : aSlice E.H i.size x lo hi' mx = some v) (hmx : mx.isSome = true → hi'.isSome = true) :
    ∃ u, (Instr.sliceAt t a lo0 hi0 mx0).run P w = .ok u w ∧ RelV E v u := by
  unfold aSlice at h
  split at h
  · simp only [RelG] at hx; subst hx
    split at h
    · rename_i e1 e2 e3
      simp only [Option.some.injEq] at h; subst h
      have hb := bounds_run (P := P) (E := E) (w := w) (isS := true) (len := 0) (cap := 0) hl hh hm e1 e2 e3 (Nat.le_refl _) (Nat.le_refl _) (Nat.le_refl _) hmx
      exact ⟨.slice none 0 0, by simp [Instr.sliceAt, run_under hd, Instr.slice, hb, run_size hi], by simp only [RelG]⟩
    · cases h
  · rename_i r n c
    simp only [RelG] at hx
    obtain ⟨p, k, rfl, hs⟩ := hx
    split at h
    · rename_i l hh0 m e1 e2 e3
      split at h
      · rename_i hc
        obtain ⟨hv, hc⟩ := hc
        have hs' := hs
        obtain ⟨h1, h2, h3, h4⟩ := hs
        obtain ⟨hp, rfl⟩ := h4 hv
        simp only [Option.some.injEq] at h; subst h
        have hb := bounds_run (P := P) (E := E) (w := w) (isS := true) (len := n) (cap := k) hl hh hm e1 e2 e3 hc.1 hc.2.1 hc.2.2 hmx
        refine ⟨.slice (some (if m = l then p else p.add (l * i.size))) (hh0 - l) (m - l), ?_, ?_⟩
        · simp only [Instr.sliceAt, run_under hd, Instr.slice, hb, run_size hi, Sem.run_bind, Result.andThen, Sem.run_pure]
          by_cases e : m = l <;> simp [e]
        · simp only [RelG]
          exact ⟨_, _, rfl, RelSl.partEx (c := .ex k) hs' trivial⟩
      · cases h
    · cases h
  · rename_i r n es'
    simp only [RelG] at hx
    obtain ⟨p, k, rfl, hs⟩ := hx
    split at h
    · split at h
      · rename_i l hh0 e1 e2
        split at h
        · rename_i hc
          obtain ⟨hv, hc⟩ := hc
          have hs' := hs
          obtain ⟨h1, h2, h3, h4⟩ := hs
          have h4 := h4 hv
          simp only at h4
          simp only [Option.some.injEq] at h; subst h
          have hmx0 : mx0 = none := by cases mx0 with | none => rfl | some _ => exact hm.elim
          subst hmx0
          have hb := bounds_run (P := P) (E := E) (w := w) (isS := true) (len := n) (cap := k) (mx := none) (mx' := none) hl hh trivial e1 e2 rfl hc.2.1 (by omega) (Nat.le_refl _) (by simp)
          refine ⟨.slice (some (if k = l then p else p.add (l * i.size))) (hh0 - l) (k - l), ?_, ?_⟩
          · simp only [Instr.sliceAt, run_under hd, Instr.slice, hb, run_size hi, Sem.run_bind, Result.andThen, Sem.run_pure]
            by_cases e : k = l <;> simp [e]
          · simp only [RelG]
            obtain ⟨rfl, hc1, hc2⟩ := hc
            exact ⟨_, _, rfl, RelSl.partOp hs' hc1 hc2⟩
        · cases h
      · cases h
    · split at h
      · rename_i l hh0 m e1 e2 e3
        split at h
        · rename_i hc
          obtain ⟨hv, hc⟩ := hc
          have hs' := hs
          obtain ⟨h1, h2, h3, h4⟩ := hs
          have h4 := h4 hv
          simp only at h4
          simp only [Option.some.injEq] at h; subst h
          have e3' : bnd k (some _) = some m := bnd_some.trans e3
          have hb := bounds_run (P := P) (E := E) (w := w) (isS := true) (len := n) (cap := k) hl hh hm e1 e2 e3' hc.1 hc.2.1 (by omega) hmx
          refine ⟨.slice (some (if m = l then p else p.add (l * i.size))) (hh0 - l) (m - l), ?_, ?_⟩
          · simp only [Instr.sliceAt, run_under hd, Instr.slice, hb, run_size hi, Sem.run_bind, Result.andThen, Sem.run_pure]
            by_cases e : m = l <;> simp [e]
          · simp only [RelG]
            exact ⟨_, _, rfl, RelSl.partEx hs' hc.2.2.2⟩
        · cases h
      · cases h
  · cases h

theorem aSliceArr_sound {x : AVal} {a : Value} (hx : RelV E x a) {t et : TypeId} {n : Nat} (hd : P.underlying t = some (.array n et)) {i : TypeInfo} (hi : P.info? et = some i)
    {lo hi' mx : Option AVal} {lo0 hi0 mx0 : Option Value} (hl : RelO E lo lo0) (hh : RelO E hi' hi0) (hm : RelO E mx mx0) {v : AVal}
    (h : aSliceArr n i.size x lo hi' mx = some v) (hmx : mx.isSome = true → hi'.isSome = true) :
    ∃ u, (Instr.sliceAt t a lo0 hi0 mx0).run P w = .ok u w ∧ RelV E v u := by
  unfold aSliceArr at h
  split at h
  · rename_i r
    simp only [RelG] at hx
    obtain ⟨p, rfl, hs⟩ := hx
    split at h
    · rename_i l hh0 m e1 e2 e3
      split at h
      · rename_i hc
        simp only [Option.some.injEq] at h; subst h
        have hb := bounds_run (P := P) (E := E) (w := w) (isS := false) (len := n) (cap := n) hl hh hm e1 e2 e3 hc.1 hc.2.1 hc.2.2 hmx
        refine ⟨.slice (some (if m = l then p else p.add (l * i.size))) (hh0 - l) (m - l), ?_, ?_⟩
        · simp [Instr.sliceAt, run_under hd, Instr.sureAddr, hb, run_size hi]
        · simp only [RelG]
          refine ⟨_, _, rfl, ?_⟩
          obtain ⟨h1, h2, h3, h4⟩ := hs
          exact RelSl.partEx (c := .ex n) (c' := n) (n := n) ⟨h1, h2, h3, fun hv => ⟨h4 hv, rfl⟩⟩ trivial
      · cases h
    · cases h
  · cases h
end
end Go.Abs
