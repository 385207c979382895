/- '==' and '!='; maps. -/
import Derived.Test.YtgcjchcmnlifmaaAbs12
namespace Go.Abs
open Go

def ekOf (P : Program) (t : TypeId) : Option Ek :=
  match P.underlying t with
  | some .bool => some .bool
  | some (.pointer e) => if P.cellsOf e = 0 then none else some .ptr
  | some (.slice _) => some .slice
  | some (.map _ _) => some .map
  | some (.func _ _ _) => some .func
  | some (.array _ _) | some (.struct _) =>
    if P.eqGuardType P.depth t = true then none else
    match flatT P 1000 t with
    | some l => some (.agg l)
    | none => none
  | _ => none

section
variable {P : Program} {E : Env} {w : World}

theorem part_whole {t : TypeId} {d : TypeDesc} {i : TypeInfo} (hd : P.underlying t = some d) (ha : aggB d = true) (hi : P.info? t = some i) {X : List Value} (hl : X.length = i.size) :
    (part t X.toArray 0).run P w = .ok (.agg X.toArray) w := by
  simp [part, run_agg hd, ha, run_size hi, ← hl]

theorem addr_beq (b o o' : Nat) : ((⟨b, o, none⟩ : Addr) == ⟨b, o', none⟩) = (o == o') := by
  rw [Bool.eq_iff_iff]; simp

theorem flatT_len {t : TypeId} {l : List Ck} {d : Nat} (hl : flatT P d t = some l) (ha : (∃ n e, P.underlying t = some (.array n e)) ∨ ∃ fs, P.underlying t = some (.struct fs)) :
    l.length = P.cellsOf t := by
  cases d with
  | zero => simp [flatT] at hl
  | succ d =>
    unfold flatT at hl
    rcases ha with ⟨n, e, hu⟩ | ⟨fs, hu⟩
    · simp only [hu] at hl
      split at hl
      · split at hl
        · rename_i hc
          simp only [Option.some.injEq] at hl; subst hl
          simp; exact hc.2
        · cases hl
      · cases hl
    · simp only [hu] at hl
      split at hl
      · cases hl
      · split at hl
        · split at hl
          · rename_i hc
            simp only [Option.some.injEq] at hl; subst hl; exact hc
          · cases hl
        · cases hl

theorem agg_sound (k d : Nat) {t : TypeId} {l : List Ck} (hl : flatT P d t = some l) (ha : (∃ n e, P.underlying t = some (.array n e)) ∨ ∃ fs, P.underlying t = some (.struct fs))
    {xs ys : List AVal} {X Y : List Value} (hX : RelL E xs X) (hY : RelL E ys Y) {b : Bool} (h : eqCells l xs ys = some b) :
    (Op.equalIn (k + d) t (.agg X.toArray) (.agg Y.toArray)).run P w = .ok b w := by
  obtain ⟨l1, l2⟩ := eqCells_len h
  have hlen := flatT_len hl ha
  obtain ⟨dd, hd, hag⟩ : ∃ dd, P.underlying t = some dd ∧ aggB dd = true := by
    rcases ha with ⟨n, e, hu⟩ | ⟨fs, hu⟩
    · exact ⟨_, hu, rfl⟩
    · exact ⟨_, hu, rfl⟩
  obtain ⟨i, hi⟩ := info_under hd
  have hci : P.cellsOf t = i.size := by simp [Program.cellsOf, hi]
  obtain ⟨u, v, p1, p2, p3⟩ := flat_ok (P := P) (E := E) (w := w) k d t l hl _ _ X Y 0 b hX hY (by simpa [List.take_of_length_le (Nat.le_of_eq l1), List.take_of_length_le (Nat.le_of_eq l2)] using h)
  rw [part_whole hd hag hi (by rw [← hX.length, l1, hlen, hci])] at p1
  rw [part_whole hd hag hi (by rw [← hY.length, l2, hlen, hci])] at p2
  cases p1; cases p2
  exact p3

theorem simple_sound (d : Nat) {t : TypeId} {ek : Ek} (hk : ekOf P t = some ek) (hn : ∀ l, ek ≠ .agg l) {x y : AVal} {a c : Value} (hx : RelV E x a) (hy : RelV E y c) {b : Bool} (h : aEq ek E.H x y = some b) :
    (Op.equalIn (d + 1) t a c).run P w = .ok b w := by
  unfold ekOf at hk
  split at hk
  · rename_i hu
    simp only [Option.some.injEq] at hk; subst hk
    cases x <;> cases y <;> simp only [aEq] at h <;> try (cases h; done)
    simp only [Option.some.injEq] at h; subst h
    simp only [RelG] at hx hy; subst hx; subst hy
    exact run_equalIn_bool w d t _ _ hu
  · rename_i e hu
    split at hk
    · cases hk
    · rename_i hce
      simp only [Option.some.injEq] at hk; subst hk
      have hsz : ∀ i, P.info? e = some i → i.size ≠ 0 := fun i hi => by simpa [Program.cellsOf, hi] using hce
      have hie : ∃ i, P.info? e = some i := by
        cases hi : P.info? e with
        | some i => exact ⟨i, rfl⟩
        | none => simp [Program.cellsOf, hi] at hce
      obtain ⟨i, hi⟩ := hie
      cases x <;> cases y <;> simp only [aEq] at h <;> try (cases h; done)
      · simp only [Option.some.injEq] at h; subst h
        simp only [RelG] at hx hy; subst hx; subst hy
        simp [Op.equalIn, run_under hu]
      · simp only [Option.some.injEq] at h; subst h
        simp only [RelG] at hx hy; subst hx; obtain ⟨q, rfl, _⟩ := hy
        simp [Op.equalIn, run_under hu]
      · simp only [Option.some.injEq] at h; subst h
        simp only [RelG] at hx hy; subst hy; obtain ⟨q, rfl, _⟩ := hx
        simp [Op.equalIn, run_under hu]
      · split at h
        · rename_i r r' hc
          simp only [Option.some.injEq] at h; subst h
          simp only [RelG] at hx hy
          obtain ⟨q, rfl, h1, h2, h3, h4⟩ := hx
          obtain ⟨q', rfl, g1, g2, g3, g4⟩ := hy
          have e1 := h4 hc.2.1
          have e2 := g4 (by rw [← hc.1]; exact hc.2.2)
          subst e1; subst e2
          simp only [Op.equalIn, run_under hu, Sem.run_bind, Result.andThen, run_size hi]
          rw [if_pos (hsz i hi)]
          simp only [sameAddr, hc.1]
          simp [addr_beq]
        · cases h
  · rename_i e hu
    simp only [Option.some.injEq] at hk; subst hk
    cases x <;> cases y <;> simp only [aEq] at h <;> try (cases h; done)
    · simp only [Option.some.injEq] at h; subst h
      simp only [RelG] at hx hy; subst hx; subst hy
      simp [Op.equalIn, run_under hu]
    · simp only [Option.some.injEq] at h; subst h
      simp only [RelG] at hx hy; subst hx; obtain ⟨q, q', rfl, _⟩ := hy
      simp [Op.equalIn, run_under hu]
    · simp only [Option.some.injEq] at h; subst h
      simp only [RelG] at hx hy; subst hy; obtain ⟨q, q', rfl, _⟩ := hx
      simp [Op.equalIn, run_under hu]
  · rename_i e e' hu
    simp only [Option.some.injEq] at hk; subst hk
    cases x <;> cases y <;> simp only [aEq] at h <;> try (cases h; done)
    · simp only [Option.some.injEq] at h; subst h
      simp only [RelG] at hx hy; subst hx; subst hy
      simp [Op.equalIn, run_under hu]
    · simp only [Option.some.injEq] at h; subst h
      simp only [RelG] at hx hy; subst hx; obtain ⟨q, rfl, _⟩ := hy
      simp [Op.equalIn, run_under hu]
    · simp only [Option.some.injEq] at h; subst h
      simp only [RelG] at hx hy; subst hy; obtain ⟨q, rfl, _⟩ := hx
      simp [Op.equalIn, run_under hu]
  · rename_i hu
    simp only [Option.some.injEq] at hk; subst hk
    cases x <;> cases y <;> simp only [aEq] at h <;> try (cases h; done)
    · simp only [Option.some.injEq] at h; subst h
      simp only [RelG] at hx hy; obtain ⟨p, q, rfl, _⟩ := hx; subst hy
      simp [Op.equalIn, run_under hu]
    · simp only [Option.some.injEq] at h; subst h
      simp only [RelG] at hx hy; subst hx; obtain ⟨q, q', rfl, _⟩ := hy
      simp [Op.equalIn, run_under hu]
    · simp only [Option.some.injEq] at h; subst h
      simp only [RelG] at hx hy; subst hy; subst hx
      simp [Op.equalIn, run_under hu]
  · split at hk
    · cases hk
    · split at hk
      · simp only [Option.some.injEq] at hk; exact absurd hk.symm (hn _)
      · cases hk
  · split at hk
    · cases hk
    · split at hk
      · simp only [Option.some.injEq] at hk; exact absurd hk.symm (hn _)
      · cases hk
  · cases hk

theorem equal_sound {t : TypeId} {ek : Ek} (hk : ekOf P t = some ek) {x y : AVal} {a c : Value} (hx : RelV E x a) (hy : RelV E y c) {b : Bool} (h : aEq ek E.H x y = some b) :
    (Op.equal t a c).run P w = .ok b w := by
  by_cases hn : ∀ l, ek ≠ .agg l
  · exact simple_sound 9999 hk hn hx hy h
  · have : ∃ l, ek = .agg l := by
      cases ek <;> first | exact ⟨_, rfl⟩ | (exfalso; apply hn; intro l e; cases e)
    obtain ⟨l, rfl⟩ := this
    cases x <;> cases y <;> simp only [aEq] at h <;> try (cases h; done)
    simp only [RelG] at hx hy
    obtain ⟨X, rfl, hX⟩ := hx
    obtain ⟨Y, rfl, hY⟩ := hy
    unfold ekOf at hk
    split at hk <;> try (cases hk; done)
    · split at hk <;> simp at hk
    · rename_i n e hu
      split at hk
      · cases hk
      · split at hk
        · rename_i l' hl
          simp only [Option.some.injEq, Ek.agg.injEq] at hk; subst hk
          exact agg_sound 9000 1000 hl (.inl ⟨_, _, hu⟩) hX hY h
        · cases hk
    · rename_i fs hu
      split at hk
      · cases hk
      · split at hk
        · rename_i l' hl
          simp only [Option.some.injEq, Ek.agg.injEq] at hk; subst hk
          exact agg_sound 9000 1000 hl (.inr ⟨_, hu⟩) hX hY h
        · cases hk

theorem aEql_sound {neq : Bool} {t : TypeId} {ek : Ek} (hk : ekOf P t = some ek) {x y : AVal} {a c : Value} (hx : RelV E x a) (hy : RelV E y c) {v : AVal} (h : aEql neq ek E.H x y = some v) (ox oy : Operand) :
    ∃ u, (do eqGuard (if neq then .neq else .eql) t ox oy a c; binOp (if neq then .neq else .eql) t a c : Sem Value).run P w = .ok u w ∧ RelV E v u := by
  unfold aEql at h
  split at h
  · rename_i b hb
    simp only [Option.some.injEq] at h; subst h
    have he := equal_sound (P := P) (w := w) hk hx hy hb
    refine ⟨.bool (b != neq), ?_, rel_bool⟩
    have hg : ∀ l, ek = .agg l → P.eqGuardType P.depth t = false := by
      rintro l rfl
      unfold ekOf at hk
      split at hk <;> try (cases hk; done)
      · split at hk <;> simp at hk
      all_goals
        split at hk
        · cases hk
        · rename_i hh; simpa using hh
    have key : (eqGuard (if neq then .neq else .eql) t ox oy a c).run P w = .ok () w ∧
        (binOp (if neq then .neq else .eql) t a c).run P w = .ok (.bool (b != neq)) w := by
      unfold aEq at hb
      split at hb
      all_goals try (cases hb; done)
      all_goals simp only [RelG] at hx hy
      · subst hx; subst hy
        cases neq <;> exact ⟨by simp [eqGuard], by simp [binOp, he]⟩
      · subst hx; subst hy
        cases neq <;> exact ⟨by simp [eqGuard], by simp [binOp, he]⟩
      · subst hx; obtain ⟨q, rfl, _⟩ := hy
        cases neq <;> exact ⟨by simp [eqGuard], by simp [binOp, he]⟩
      · subst hy; obtain ⟨q, rfl, _⟩ := hx
        cases neq <;> exact ⟨by simp [eqGuard], by simp [binOp, he]⟩
      · obtain ⟨q', rfl, _⟩ := hy; obtain ⟨q, rfl, _⟩ := hx
        cases neq <;> exact ⟨by simp [eqGuard], by simp [binOp, he]⟩
      · subst hx; subst hy
        cases neq <;> exact ⟨by simp [eqGuard], by simp [binOp, he]⟩
      · subst hx; obtain ⟨q, q', rfl, _⟩ := hy
        cases neq <;> exact ⟨by simp [eqGuard], by simp [binOp, he]⟩
      · subst hy; obtain ⟨q, q', rfl, _⟩ := hx
        cases neq <;> exact ⟨by simp [eqGuard], by simp [binOp, he]⟩
      · subst hx; subst hy
        cases neq <;> exact ⟨by simp [eqGuard], by simp [binOp, he]⟩
      · subst hx; obtain ⟨q, rfl, _⟩ := hy
        cases neq <;> exact ⟨by simp [eqGuard], by simp [binOp, he]⟩
      · subst hy; obtain ⟨q, rfl, _⟩ := hx
        cases neq <;> exact ⟨by simp [eqGuard], by simp [binOp, he]⟩
      · subst hx; subst hy
        cases neq <;> exact ⟨by simp [eqGuard], by simp [binOp, he]⟩
      · subst hx; obtain ⟨q, q', rfl, _⟩ := hy
        cases neq <;> exact ⟨by simp [eqGuard], by simp [binOp, he]⟩
      · subst hy; obtain ⟨q, q', rfl, _⟩ := hx
        cases neq <;> exact ⟨by simp [eqGuard], by simp [binOp, he]⟩
      · obtain ⟨q', rfl, _⟩ := hy; obtain ⟨q, rfl, _⟩ := hx
        have := hg _ rfl
        cases neq <;> exact ⟨by simp [eqGuard, this], by simp [binOp, he]⟩
    obtain ⟨hguard, hbin⟩ := key
    simp only [Sem.run_bind, hguard, Result.andThen, hbin]
  · cases h
end
end Go.Abs
