/- Texts and bytes; equality. -/
import Derived.Test.YtgcjchcmnlifmaaAbs10
import Derived.Lib.ConvBytes
import Derived.Laws.BytesArg
namespace Go.Abs
open Go

section
variable {P : Program} {E : Env} {w : World}

theorem bytesOf_rel : ∀ {cs : List AVal} {vs : List Value} {s : List UInt8}, bytesOf cs = some s → RelL E cs vs →
    ∃ ns : List Int, vs = ns.map (Value.int .u8) ∧ s = ns.map (fun n => UInt8.ofNat n.toNat)
  | [], vs, s, h, hr => by
    simp only [bytesOf, Option.some.injEq] at h; subst h
    simp only [RelGL] at hr; subst hr
    exact ⟨[], rfl, rfl⟩
  | x :: xs, vs, s, h, hr => by
    simp only [bytesOf] at h
    split at h
    · rename_i a b h1 h2
      simp only [Option.some.injEq] at h; subst h
      simp only [RelGL] at hr
      obtain ⟨y, ys, rfl, g1, g2⟩ := hr
      obtain ⟨ns, rfl, rfl⟩ := bytesOf_rel h2 g2
      unfold byteOf at h1
      split at h1
      · rename_i n
        simp only [Option.some.injEq] at h1; subst h1
        simp only [RelG] at g1; subst g1
        exact ⟨n :: ns, rfl, rfl⟩
      · cases h1
    · cases h

theorem aBytes2Str_sound (h : RelW E w) {x : AVal} {a : Value} (hx : RelV E x a) {src dst e : TypeId} (hs : P.underlying src = some (.slice e)) (he : P.underlying e = some (.int .u8))
    (hd : P.underlying dst = some .string) {v : AVal} (ha : aBytes2Str E.H x = some v) : ∃ u, (convert src dst a).run P w = .ok u w ∧ RelV E v u := by
  unfold aBytes2Str at ha
  split at ha
  · simp only [RelG] at hx; subst hx
    simp only [Option.some.injEq] at ha; subst ha
    refine ⟨_, by rw [run_convert_bytes_string w src dst e _ _ _ hs he hd]; simp [Conv.bytesToString]; rfl, ?_⟩
    simp only [RelG]; rfl
  · rename_i r n c
    simp only [RelG] at hx; obtain ⟨p, c', rfl, h1, h2, h3, h4⟩ := hx
    split at ha
    · rename_i cs hrd
      split at ha
      · rename_i s hb
        simp only [Option.some.injEq] at ha; subst ha
        obtain ⟨g1, g2, vs, g3, g4, g5, _⟩ := rd_sound h hrd h1
        have h4 := h4 g2
        obtain ⟨ns, rfl, rfl⟩ := bytesOf_rel hb g3
        have hld : (loadCells p n).run P w = .ok (ns.map (Value.int .u8)).toArray w := by
          by_cases hn : n = 0
          · subst hn
            have : ns = [] := by simpa using g4
            subst this; rfl
          · have hp : p = ⟨E.m r.id, r.off, none⟩ := by
              cases c with
              | ex c => exact h4.1
              | op es' =>
                obtain ⟨q1, q2, q3, q4⟩ := h4
                rcases q4 with ⟨q4, _⟩ | ⟨q4, _⟩
                · obtain ⟨pb, po, ps⟩ := p; simp only at q1 q2 q4; subst q1; subst q2; subst q4; rfl
                · omega
            have := run_loadCells_of (P := P) (w := w) p _ _ hp _ g5
            rwa [g4] at this
        refine ⟨_, by rw [run_convert_bytes_string w src dst e _ _ _ hs he hd, run_bytesToString w _ n c' ns hld, foldl_push_bytes], ?_⟩
        simp only [RelG]
        congr 1
        apply ByteArray.ext
        simp [ByteArray.empty, ByteArray.emptyWithCapacity]
        rfl
      · cases ha
    · cases ha
  · cases ha

theorem aStr2Bytes_sound (h : RelW E w) {x : AVal} {a : Value} (hx : RelV E x a) {src dst e : TypeId} {u0 : TypeDesc} (hs : P.underlying src = some u0) (hd : P.underlying dst = some (.slice e))
    (he : P.underlying e = some (.int .u8)) {v : AVal} {H' : AHeap} (ha : aStr2Bytes E.H x = some (v, H')) : Runs P E w (convert src dst a) v H' := by
  unfold aStr2Bytes at ha
  split at ha
  · rename_i s
    split at ha
    · rename_i hl
      simp only [RelG] at hx; subst hx
      simp only [Option.some.injEq, Prod.mk.injEq] at ha
      obtain ⟨rfl, rfl⟩ := ha
      have hrun := Lib.run_convert_string_bytes w src dst e ⟨s.toArray⟩ hs hd he
      have hcap : s.length ≤ grownCap w (ByteArray.size ⟨s.toArray⟩) 0 e := by
        rw [bytes_size]; simp only [grownCap, Question.cut]; omega
      have hcells : Lib.bytesCells w e ⟨s.toArray⟩ = ((s.map fun b : UInt8 => Value.int .u8 (b.toNat : Int)) ++ List.replicate (grownCap w (ByteArray.size ⟨s.toArray⟩) 0 e - s.length) (Value.int .u8 0)).toArray := by
        simp [Lib.bytesCells, bytes_size]
      have hsize : (Lib.bytesCells w e ⟨s.toArray⟩).size = grownCap w (ByteArray.size ⟨s.toArray⟩) 0 e := by rw [hcells]; simp; omega
      have hheap : (Lib.bytesWorld w e ⟨s.toArray⟩).heap = w.heap.push (.cells (Lib.bytesCells w e ⟨s.toArray⟩) e ((Lib.bytesCells w e ⟨s.toArray⟩).size, (Lib.bytesCells w e ⟨s.toArray⟩).size + 1)) := by
        apply Array.ext_getElem?
        intro j
        rw [Array.getElem?_push]
        by_cases hj : j < w.heap.size
        · rw [if_neg (by omega), Lib.bytesWorld_at_old w e _ j hj]
        · by_cases hj' : j = w.heap.size
          · subst hj'; rw [if_pos rfl, Lib.bytesWorld_at_new]
          · rw [if_neg hj', Array.getElem?_eq_none (by rw [Lib.bytesWorld_size]; omega), Array.getElem?_eq_none (by omega)]
      have hrel : RelL E (s.map ofByte) (s.map fun b : UInt8 => Value.int .u8 (b.toNat : Int)) := by
        clear hrun hcap hcells hsize hheap hl
        induction s with
        | nil => exact RelGL.nil
        | cons b l ih => exact RelGL.cons rel_int ih
      obtain ⟨E', h1, h2, h3, h4, h5, h6⟩ := new_cells h (w' := Lib.bytesWorld w e ⟨s.toArray⟩) .opn (cs := s.map ofByte) (c := Lib.bytesCells w e ⟨s.toArray⟩) (t := e)
        (fz := ((Lib.bytesCells w e ⟨s.toArray⟩).size, (Lib.bytesCells w e ⟨s.toArray⟩).size + 1))
        (by rw [hcells]; simp only [List.length_map]; rw [List.take_append_of_le_length (by simp), List.take_of_length_le (by simp)]; exact hrel)
        (by rw [hsize]; simpa using hcap) (fun e => by cases e) (fun _ => .inr (Nat.le_refl _)) hheap
        (by simp [Lib.bytesWorld, World.freeze]) (by simp [Lib.bytesWorld, World.freeze]; rfl) (by simp [Lib.bytesWorld, World.freeze]; rfl)
      refine ⟨_, _, E', hrun, ?_, h1, h3, h2⟩
      simp only [RelG]
      refine ⟨_, _, rfl, h6, by simp [h3], Nat.zero_le _, fun _ => ⟨h4.symm, rfl, ?_, .inl ⟨rfl, fun _ => ?_⟩⟩⟩
      · rw [bytes_size] at hcap; exact hcap
      · rw [h5, hsize, bytes_size, Nat.mul_one, Nat.zero_add]
    · cases ha
  · cases ha

theorem aInt2_sound {x : AVal} {a : Value} (hx : RelV E x a) {src dst : TypeId} {u0 : TypeDesc} {k : IntKind} (hs : P.underlying src = some u0) (hd : P.underlying dst = some (.int k))
    {v : AVal} (ha : aInt2 k x = some v) : ∃ u, (convert src dst a).run P w = .ok u w ∧ RelV E v u := by
  unfold aInt2 at ha
  split at ha
  · simp only [RelG] at hx; subst hx
    simp only [Option.some.injEq] at ha; subst ha
    exact ⟨_, by simp [convert, run_under hs, run_under hd, Conv.intToInt], rel_int⟩
  · cases ha

theorem aStr2_sound {x : AVal} {a : Value} (hx : RelV E x a) {src dst : TypeId} {u0 : TypeDesc} (hs : P.underlying src = some u0) (hd : P.underlying dst = some .string)
    {v : AVal} (ha : aStr2 x = some v) : ∃ u, (convert src dst a).run P w = .ok u w ∧ RelV E v u := by
  unfold aStr2 at ha
  split at ha
  · simp only [RelG] at hx; subst hx
    simp only [Option.some.injEq] at ha; subst ha
    exact ⟨_, by simp [convert, run_under hs, run_under hd], rel_str⟩
  · cases ha

theorem aPick_sound {c x y : AVal} {a b d : Value} (hc : RelV E c a) (hx : RelV E x b) (hy : RelV E y d) {v : AVal} (ha : aPick c x y = some v) :
    ∃ t, a = .bool t ∧ RelV E v (if t then b else d) := by
  unfold aPick at ha
  split at ha
  · rename_i t
    simp only [RelG] at hc; subst hc
    simp only [Option.some.injEq] at ha; subst ha
    refine ⟨t, rfl, ?_⟩
    cases t
    · exact hy
    · exact hx
  · cases ha

theorem fold2_sound {f : AVal → AVal → Option AVal} {g : Value → Value → Sem Value} (hf : ∀ x y v a b, f x y = some v → RelV E x a → RelV E y b → ∃ u, (g a b).run P w = .ok u w ∧ RelV E v u) :
    ∀ (l : List AVal) (x : AVal) (a : Value) (m : List Value) {v : AVal}, RelV E x a → RelL E l m → aFold f x l = some v → ∃ u, (m.foldlM g a).run P w = .ok u w ∧ RelV E v u
  | [], x, a, m, v, hx, hl, h => by
    simp only [RelGL] at hl; subst hl
    simp only [aFold, Option.some.injEq] at h; subst h
    exact ⟨a, by simp, hx⟩
  | y :: l, x, a, m, v, hx, hl, h => by
    simp only [RelGL] at hl; obtain ⟨b, m', rfl, hb, hl⟩ := hl
    simp only [aFold] at h
    split at h
    · rename_i z hz
      obtain ⟨u, h1, h2⟩ := hf _ _ _ _ _ hz hx hb
      obtain ⟨u', h3, h4⟩ := fold2_sound hf l z u m' h2 hl h
      exact ⟨u', by simp [List.foldlM_cons, h1, h3], h4⟩
    · cases h

theorem aMin2_sound (x y v : AVal) (a b : Value) (h : aMin2 x y = some v) (hx : RelV E x a) (hy : RelV E y b) : ∃ u, (Builtin.min2 a b).run P w = .ok u w ∧ RelV E v u := by
  unfold aMin2 at h
  split at h
  · simp only [RelG] at hx hy; subst hx; subst hy
    simp only [Option.some.injEq] at h; subst h
    exact ⟨_, by simp [Builtin.min2], rel_int⟩
  · cases h
theorem aMax2_sound (x y v : AVal) (a b : Value) (h : aMax2 x y = some v) (hx : RelV E x a) (hy : RelV E y b) : ∃ u, (Builtin.max2 a b).run P w = .ok u w ∧ RelV E v u := by
  unfold aMax2 at h
  split at h
  · simp only [RelG] at hx hy; subst hx; subst hy
    simp only [Option.some.injEq] at h; subst h
    exact ⟨_, by simp [Builtin.max2], rel_int⟩
  · cases h
end
end Go.Abs
