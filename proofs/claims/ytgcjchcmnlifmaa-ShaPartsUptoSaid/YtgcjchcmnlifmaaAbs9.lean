/- The operations one by one, on: make, append, copy, texts and bytes, lengths. -/
import Derived.Test.YtgcjchcmnlifmaaAbs8
namespace Go.Abs
open Go

section
variable {P : Program} {E : Env} {w : World}

theorem aMakeSlice_sound (h : RelW E w) {t et : TypeId} (hd : P.underlying t = some (.slice et)) {i : TypeInfo} {z : Value} (hi : P.info? et = some i) (hz : i.zero = some z)
    (hsz : z.cells.size = i.size) {x y : AVal} {a b : Value} (hx : RelV E x a) (hy : RelV E y b) {v : AVal} {H' : AHeap}
    (ha : aMakeSlice E.H i.bytes (z.cells.toList.map toA) x y = some (v, H')) : Runs P E w (Instr.makeSlice t a b) v H' := by
  unfold aMakeSlice at ha
  split at ha
  · rename_i k1 n k2 c
    simp only [RelG] at hx hy; subst hx; subst hy
    split at ha
    · rename_i hc
      obtain ⟨c1, c2, c3, c4⟩ := hc
      simp only [Option.some.injEq, Prod.mk.injEq] at ha
      obtain ⟨rfl, rfl⟩ := ha
      have hr := zeros_rel (E := E) z.cells c.toNat
      have hl := hr.length
      obtain ⟨E', h1, h2, h3, h4, h5, h6⟩ := new_cells h (w' := w.alloc (.cells ((Array.range (c.toNat * z.cells.size)).map (z.cells[· % z.cells.size]!)) et)) .exact
        (cs := fillCells c.toNat (z.cells.toList.map toA)) (c := (Array.range (c.toNat * z.cells.size)).map (z.cells[· % z.cells.size]!)) (t := et) (fz := (0, 0))
        (by rw [List.take_of_length_le (by omega)]; exact hr) (by simp only [Array.length_toList] at hl; omega) (fun _ => by simpa only [Array.length_toList] using hl) (fun _ => .inl (Nat.le_refl _)) rfl rfl rfl rfl
      have wn : IntKind.i64.wrap n = n := by simp only [IntKind.wrap, IntKind.bits, IntKind.signed]; simp; omega
      have wc : IntKind.i64.wrap c = c := by simp only [IntKind.wrap, IntKind.bits, IntKind.signed]; simp; omega
      refine ⟨.slice (some ⟨w.heap.size, 0, none⟩) n.toNat c.toNat, _, E', ?_, ?_, h1, h3, h2⟩
      · have hnot : ¬ ((decide (c < 0) || decide ((i.bytes : Int) * c > 2 ^ 48)) = true ∨ n < 0 ∨ n > c) := by
          simp; omega
        simp only [Instr.makeSlice, run_under hd, asInt, asIntOf, Sem.run_bind, Result.andThen, Sem.run_pure, run_info hi, wn, wc]
        have hcond : (((decide (c < 0) || decide ((i.bytes : Int) * c > 2 ^ 48)) || decide (n < 0)) || decide (n > c)) = false := by
          simp; omega
        simp only [hcond, Bool.false_eq_true, if_false, run_askRoom, run_size hi]
        by_cases hz0 : c.toNat * i.size = 0
        · have hr0 : Array.range 0 = #[] := rfl
          simp [run_size hi, hz0, hsz, hr0, newRow]
        · simp [run_size hi, hz0, hsz, run_zero hi hz, newRow]
      · simp only [RelG]
        exact ⟨_, _, rfl, h6, by simp [h3], Nat.zero_le _, fun _ => ⟨by simp [h4], rfl⟩⟩
    · cases ha
  · cases ha

def lenFits : TypeDesc → AVal → Prop
  | .string, .str _ => True
  | .slice _, .nils => True
  | .slice _, .slice _ _ _ => True
  | .map _ _, .nilm => True
  | .map _ _, .map _ => True
  | _, _ => False

theorem aLen_sound (h : RelW E w) {x : AVal} {a : Value} (hx : RelV E x a) {t : TypeId} {d : TypeDesc} (hd : P.underlying t = some d)
    (hk : lenFits d x)
    {v : AVal} (ha : aLen E.H x = some v) (ty : TypeId) : ∃ u, (Builtin.len_ #[t] ty #[a]).run P w = .ok u w ∧ RelV E v u := by
  unfold aLen at ha
  split at ha
  · simp only [RelG] at hx; subst hx
    simp only [Option.some.injEq] at ha; subst ha
    cases d <;> simp only [lenFits] at hk
    exact ⟨.int .i64 _, by simp [Builtin.len_, run_under hd, bytes_size, goInt], rel_int⟩
  · simp only [RelG] at hx; subst hx
    simp only [Option.some.injEq] at ha; subst ha
    cases d <;> simp only [lenFits] at hk
    exact ⟨.int .i64 _, by simp [Builtin.len_, run_under hd, goInt], rel_int⟩
  · simp only [RelG] at hx; obtain ⟨p, c, rfl, _⟩ := hx
    simp only [Option.some.injEq] at ha; subst ha
    cases d <;> simp only [lenFits] at hk
    exact ⟨.int .i64 _, by simp [Builtin.len_, run_under hd, goInt], rel_int⟩
  · simp only [RelG] at hx; subst hx
    simp only [Option.some.injEq] at ha; subst ha
    cases d <;> simp only [lenFits] at hk
    exact ⟨.int .i64 _, by simp [Builtin.len_, run_under hd, goInt], rel_int⟩
  · rename_i j
    simp only [RelG] at hx; obtain ⟨b, rfl, h1, h2, h3, h4⟩ := hx
    split at ha
    · rename_i vv es ho
      simp only [Option.some.injEq] at ha; subst ha
      obtain ⟨ents, clock, g1, g2, g3, g4⟩ := h.obj _ _ h1 ho
      have hl := g3.length
      cases d <;> simp only [lenFits] at hk
      refine ⟨.int .i64 ents.size, ?_, ?_⟩
      · subst h4
        simp [Builtin.len_, run_under hd, goInt, getObj, Sem.run, g1]
      · simp at hl; simp only [RelG, hl]
    · cases ha
  · cases ha

/-- The cells that an append or a copy takes. -/
theorem src_sound (h : RelW E w) {x : AVal} {a : Value} (hx : RelV E x a) {es n k : Nat} (hl : srcLen x = some k) (hn : n ≤ k) {xs : List AVal} (hc : srcCells E.H es n x = some xs)
    (hes : (∃ s, x = .str s) → es = 1) :
    (∀ w' : World, (Builtin.lenOf a).run P w' = .ok k w') ∧ ∃ vs : List Value, (∀ w' : World, w'.heap = w.heap → (Builtin.firstCells es n a).run P w' = .ok vs.toArray w') ∧ RelL E xs vs ∧ vs.length = n * es := by
  unfold srcLen at hl
  unfold srcCells at hc
  split at hl
  · simp only [RelG] at hx; subst hx
    simp only [Option.some.injEq] at hl hc; subst hl; subst hc
    have : n = 0 := by omega
    subst this
    exact ⟨fun _ => by simp [Builtin.lenOf], [], fun _ _ => by simp [Builtin.firstCells], RelGL.nil, by simp⟩
  · rename_i s
    simp only [RelG] at hx; subst hx
    simp only [Option.some.injEq] at hl hc; subst hl; subst hc
    have he := hes ⟨s, rfl⟩
    subst he
    refine ⟨fun _ => by simp [Builtin.lenOf, bytes_size], ((s.take n).map fun b => Value.int .u8 b.toNat), fun w' _ => ?_, ?_, by simp; omega⟩
    · have : ((⟨s.toArray⟩ : ByteArray).extract 0 n) = ⟨(s.take n).toArray⟩ := by rw [bytes_extract]; simp
      simp [Builtin.firstCells, this]
    · induction (s.take n) with
      | nil => exact RelGL.nil
      | cons b l ih => exact RelGL.cons rel_int ih
  · rename_i r m c
    simp only [RelG] at hx; obtain ⟨p, c', rfl, hs⟩ := hx
    simp only [Option.some.injEq] at hl; subst hl
    simp only at hc
    have hr := rd_sound h hc hs.1
    obtain ⟨g1, g2, vs, g3, g4, g5, cc, ee, ff, g6, g7, g8⟩ := hr
    refine ⟨fun _ => by simp [Builtin.lenOf], vs, fun w' hh => ?_, g3, g4⟩
    obtain ⟨h1, h2, h3, h4⟩ := hs
    have h4 := h4 g2
    by_cases hv : n * es = 0
    · have : vs = [] := by cases vs with | nil => rfl | cons _ _ => simp at g4; omega
      subst this
      simp [Builtin.firstCells, hv, loadCells, loadCellsFrom]
    · have hp : p = ⟨E.m r.id, r.off, none⟩ := by
        cases c with
        | ex c => exact h4.1
        | op es' =>
          obtain ⟨q1, q2, q3, q4⟩ := h4
          rcases q4 with ⟨q4, _⟩ | ⟨q4, _⟩
          · obtain ⟨pb, po, ps⟩ := p; simp only at q1 q2 q4; subst q1; subst q2; subst q4; rfl
          · subst q4; have : n = 0 := by omega
            subst this; simp at hv
      have := run_loadCells_of (P := P) (w := w') p _ _ hp vs (fun j v hj => by rw [World.cell?, hh]; exact g5 j v hj)
      rw [g4] at this
      simp [Builtin.firstCells, this]
  · cases hl

theorem src_zero {x : AVal} {a : Value} (hx : RelV E x a) {k : Nat} (hl : srcLen x = some k) (es : Nat) :
    (Builtin.lenOf a).run P w = .ok k w ∧ (Builtin.firstCells es 0 a).run P w = .ok #[] w := by
  unfold srcLen at hl
  split at hl
  · simp only [RelG] at hx; subst hx
    simp only [Option.some.injEq] at hl; subst hl
    exact ⟨by simp [Builtin.lenOf], by simp [Builtin.firstCells]⟩
  · rename_i s
    simp only [RelG] at hx; subst hx
    simp only [Option.some.injEq] at hl; subst hl
    exact ⟨by simp [Builtin.lenOf, bytes_size], by rw [Builtin.firstCells, bytes_extract]; simp⟩
  · simp only [RelG] at hx; obtain ⟨p, c', rfl, hs⟩ := hx
    simp only [Option.some.injEq] at hl; subst hl
    exact ⟨by simp [Builtin.lenOf], by simp [Builtin.firstCells, loadCells, loadCellsFrom]⟩
  · cases hl

theorem aCopy_sound (h : RelW E w) {t et : TypeId} (hd : P.underlying t = some (.slice et)) {i : TypeInfo} (hi : P.info? et = some i)
    {d x : AVal} {a b : Value} (hdd : RelV E d a) (hx : RelV E x b) (hes : (∃ s, x = .str s) → i.size = 1) {v : AVal} {H' : AHeap}
    (ha : aCopy E.H i.size d x = some (v, H')) (ts : Array TypeId) (hts : ts[0]? = some t) (ty : TypeId) : Runs P E w (Builtin.copy_ ts ty #[a, b]) v H' := by
  unfold aCopy at ha
  split at ha
  · rename_i n r k c hl
    simp only [RelG] at hdd; obtain ⟨p, c', rfl, hs⟩ := hdd
    split at ha
    · rename_i xs hc
      split at ha
      · rename_i H1 hw
        simp only [Option.some.injEq, Prod.mk.injEq] at ha
        obtain ⟨rfl, rfl⟩ := ha
        obtain ⟨s1, vs, s2, s3, s4⟩ := src_sound (P := P) h hx hl (Nat.min_le_left n k) hc hes
        obtain ⟨w', E', g1, g2, g3, g4⟩ := wr_sound (P := P) h hw hs.1 s3
        have hver : r.ver = verOf E.H r.id := by
          unfold wrCells at hw
          split at hw
          · rename_i vv kd cs h0
            split at hw
            · rename_i hc; rw [verOf_some h0]; exact hc.1.symm
            · cases hw
          · cases hw
        obtain ⟨h1, h2, h3, h4⟩ := hs
        have h4 := h4 hver
        have hst : (storeCells p vs).run P w = .ok () w' := by
          cases vs with
          | nil => simp only [storeCells] at g1 ⊢; exact g1
          | cons y ys =>
            have hp : p = ⟨E.m r.id, r.off, none⟩ := by
              cases c with
              | ex c => exact h4.1
              | op es' =>
                obtain ⟨q1, q2, q3, q4⟩ := h4
                rcases q4 with ⟨q4, _⟩ | ⟨q4, _⟩
                · obtain ⟨pb, po, ps⟩ := p; simp only at q1 q2 q4; subst q1; subst q2; subst q4; rfl
                · subst q4; simp at s4
            rw [hp]; exact g1
        refine ⟨.int .i64 (min n k : Nat), w', E', ?_, rel_int, g3, g2, g4⟩
        have hmin : n.min k = min n k := rfl
        simp [Builtin.copy_, hts, run_under hd, s1, run_size hi, hmin, s2 w rfl, hst, goInt]
      · cases ha
    · cases ha
  · rename_i hl
    simp only [RelG] at hdd; subst hdd
    simp only [Option.some.injEq, Prod.mk.injEq] at ha
    obtain ⟨rfl, rfl⟩ := ha
    have hz := src_zero (P := P) (w := w) hx hl i.size
    refine Runs.pure h (u := .int .i64 0) ?_ rel_int
    have hmin : ∀ n : Nat, n.min 0 = 0 := fun n => Nat.min_zero n
    simp [Builtin.copy_, hts, run_under hd, hz.1, run_size hi, hmin, hz.2, goInt]
  · cases ha
end
end Go.Abs
