/- Slices of one's own that grow; slices that are looked at. -/
import Derived.Test.YtgcjchcmnlifmaaAbs24
namespace Go.Abs
open Go

def slId : AVal → Option Nat
  | .slice r _ _ => some r.id
  | _ => none

/-- A slice that nobody else changes, whole: so many elements of so many cells each. -/
def Own (B : AHeap) (sv : AVal) (es n : Nat) (cs : List AVal) : Prop :=
  cs.length = n * es ∧ ((sv = .nils ∧ n = 0) ∨ (∃ i v, sv = .slice ⟨i, v, 0⟩ n (.ex n) ∧ B[i]? = some (.cells v .exact cs)) ∨ (∃ i v, sv = .slice ⟨i, v, 0⟩ n (.op es) ∧ B[i]? = some (.cells v .opn cs)))

/-- Room enough. -/
def capOk (es n : Nat) : Cap → Prop
  | .ex k => n ≤ k
  | .op e => e = es

/-- A slice that is read. -/
def View (B : AHeap) (sv : AVal) (es n : Nat) (cs : List AVal) : Prop :=
  cs.length = n * es ∧ ((sv = .nils ∧ n = 0) ∨ (∃ i v off c kd cs', sv = .slice ⟨i, v, off⟩ n c ∧ B[i]? = some (.cells v kd cs') ∧ (0 < n → off + n * es ≤ cs'.length) ∧ cs = (cs'.drop off).take (n * es) ∧ capOk es n c))

theorem pos_mul {n es : Nat} {p : Prop} (h : 0 < n → p) : 0 < n * es → p := fun hp => h (Nat.pos_of_mul_pos_right hp)

theorem Own.view {B : AHeap} {sv : AVal} {es n : Nat} {cs : List AVal} (h : Own B sv es n cs) : View B sv es n cs := by
  obtain ⟨hl, h⟩ := h
  refine ⟨hl, ?_⟩
  rcases h with h | ⟨i, v, h1, h2⟩ | ⟨i, v, h1, h2⟩
  · exact .inl h
  · exact .inr ⟨i, v, 0, _, _, cs, h1, h2, by omega, by simp [← hl], Nat.le_refl _⟩
  · exact .inr ⟨i, v, 0, _, _, cs, h1, h2, by omega, by simp [← hl], rfl⟩

/-- What a change to one slice leaves. -/
structure Keeps (B : AHeap) (sv : AVal) (B' : AHeap) : Prop where
  len : B.length ≤ B'.length
  get : ∀ k, k < B.length → slId sv ≠ some k → B'[k]? = B[k]?

theorem Keeps.refl (B : AHeap) (sv : AVal) : Keeps B sv B := ⟨Nat.le_refl _, fun _ _ _ => rfl⟩
theorem pre_of_get {H B : AHeap} (hl : H.length ≤ B.length) (h : ∀ k, k < H.length → B[k]? = H[k]?) : H <+: B := by
  refine ⟨B.drop H.length, ?_⟩
  refine List.ext_getElem? fun i => ?_
  by_cases hi : i < H.length
  · rw [List.getElem?_append_left hi, h i hi]
  · rw [List.getElem?_append_right (by omega), List.getElem?_drop]
    congr 1; omega
theorem Keeps.pre {H B B' : AHeap} {sv : AVal} (k : Keeps B sv B') (h : H <+: B) (hs : ∀ i, slId sv = some i → H.length ≤ i) : H <+: B' := by
  have hl := h.length_le
  refine pre_of_get (Nat.le_trans hl k.len) fun i hi => ?_
  rw [k.get i (by omega) (fun e => by have := hs i e; omega), pre_get h hi]

theorem Own.lt {B : AHeap} {sv : AVal} {es n : Nat} {cs : List AVal} (h : Own B sv es n cs) {i : Nat} (hi : slId sv = some i) : i < B.length := by
  rcases h.2 with ⟨rfl, _⟩ | ⟨j, v, rfl, h2⟩ | ⟨j, v, rfl, h2⟩
  · cases hi
  · cases hi; exact lt_of_some h2
  · cases hi; exact lt_of_some h2
theorem Own.keep {B B' : AHeap} {sv t : AVal} {es n : Nat} {cs : List AVal} (h : Own B sv es n cs) (k : Keeps B t B') (hne : ∀ i, slId sv = some i → slId t ≠ some i) : Own B' sv es n cs := by
  refine ⟨h.1, ?_⟩
  rcases h.2 with h1 | ⟨j, v, rfl, h2⟩ | ⟨j, v, rfl, h2⟩
  · exact .inl h1
  · exact .inr (.inl ⟨j, v, rfl, by rw [k.get j (lt_of_some h2) (hne j rfl)]; exact h2⟩)
  · exact .inr (.inr ⟨j, v, rfl, by rw [k.get j (lt_of_some h2) (hne j rfl)]; exact h2⟩)
theorem Own.pre {B B' : AHeap} {sv : AVal} {es n : Nat} {cs : List AVal} (h : Own B sv es n cs) (k : B <+: B') : Own B' sv es n cs := by
  refine ⟨h.1, ?_⟩
  rcases h.2 with h1 | ⟨j, v, rfl, h2⟩ | ⟨j, v, rfl, h2⟩
  · exact .inl h1
  · exact .inr (.inl ⟨j, v, rfl, by rw [pre_get k (lt_of_some h2)]; exact h2⟩)
  · exact .inr (.inr ⟨j, v, rfl, by rw [pre_get k (lt_of_some h2)]; exact h2⟩)
theorem View.pre {B B' : AHeap} {sv : AVal} {es n : Nat} {cs : List AVal} (h : View B sv es n cs) (k : B <+: B') : View B' sv es n cs := by
  refine ⟨h.1, ?_⟩
  rcases h.2 with h1 | ⟨i, v, off, c, kd, cs', h1, h2, h3⟩
  · exact .inl h1
  · exact .inr ⟨i, v, off, c, kd, cs', h1, by rw [pre_get k (lt_of_some h2)]; exact h2, h3⟩
theorem View.keep {B B' : AHeap} {sv t : AVal} {es n : Nat} {cs : List AVal} (h : View B sv es n cs) (k : Keeps B t B') (hne : ∀ i, slId sv = some i → slId t ≠ some i) : View B' sv es n cs := by
  refine ⟨h.1, ?_⟩
  rcases h.2 with h1 | ⟨i, v, off, c, kd, cs', rfl, h2, h3⟩
  · exact .inl h1
  · exact .inr ⟨i, v, off, c, kd, cs', rfl, by rw [k.get i (lt_of_some h2) (hne i rfl)]; exact h2, h3⟩
theorem Own.nils (B : AHeap) (es : Nat) : Own B .nils es 0 [] := ⟨by simp, .inl ⟨rfl, rfl⟩⟩

theorem append_to {B : AHeap} {sv : AVal} {es bytes n m : Nat} {cs xs : List AVal} (h : Own B sv es n cs) (he : 0 < es) (hx : xs.length = m * es) (hc : xs.all AVal.isCell = true) (h1 : (n + m) * bytes ≤ room) (h2 : n + m ≤ room) :
    ∃ sv' B', aAppendTo B es bytes sv m xs = some (sv', B') ∧ Own B' sv' es (n + m) (cs ++ xs) ∧ Keeps B sv B' ∧ (slId sv' = slId sv ∨ slId sv' = some B.length) := by
  obtain ⟨hl, h⟩ := h
  by_cases hm : m = 0
  · subst hm
    have : xs = [] := List.eq_nil_of_length_eq_zero (by simpa using hx)
    subst this
    refine ⟨sv, B, ?_, ⟨by simpa using hl, by simpa using h⟩, Keeps.refl _ _, .inl rfl⟩
    rcases h with ⟨rfl, _⟩ | ⟨i, v, rfl, h2⟩ | ⟨i, v, rfl, h2⟩
    · simp [aAppendTo]
    · simp [aAppendTo, verOf_some h2, AObj.ver]
    · simp [aAppendTo, verOf_some h2, AObj.ver]
  · have hl2 : (cs ++ xs).length = (n + m) * es := by rw [List.length_append, hl, hx, Nat.add_mul]
    rcases h with ⟨rfl, rfl⟩ | ⟨i, v, rfl, h3⟩ | ⟨i, v, rfl, h3⟩
    · refine ⟨.slice ⟨B.length, 0, 0⟩ m (.op es), B ++ [.cells 0 .opn xs], ?_, ⟨hl2, .inr (.inr ⟨B.length, 0, by simp, ?_⟩)⟩, ⟨by simp, fun k hk _ => List.getElem?_append_left hk⟩, .inr rfl⟩
      · simp only [aAppendTo]
        rw [if_neg hm, if_pos ⟨by simpa using h1, by simpa using h2⟩]
      · have : cs = [] := List.eq_nil_of_length_eq_zero (by simpa using hl)
        subst this
        simp
    · refine ⟨.slice ⟨B.length, 0, 0⟩ (n + m) (.op es), B ++ [.cells 0 .opn (cs ++ xs)], ?_, ⟨hl2, .inr (.inr ⟨B.length, 0, rfl, by simp⟩)⟩, ⟨by simp, fun k hk _ => List.getElem?_append_left hk⟩, .inr rfl⟩
      simp only [aAppendTo]
      rw [if_neg hm, if_neg (by omega), if_pos ⟨h1, h2⟩, rd_of (r := ⟨i, v, 0⟩) h3 rfl (by simp [hl])]
      simp [← hl]
    · refine ⟨.slice ⟨i, v + 1, 0⟩ (n + m) (.op es), B.set i (.cells (v + 1) .opn (cs ++ xs)), ?_, ⟨hl2, .inr (.inr ⟨i, v + 1, rfl, set_get h3⟩)⟩, ⟨by simp, fun k hk hne => ?_⟩, .inl rfl⟩
      · simp only [aAppendTo]
        rw [if_neg hm, if_pos ⟨trivial, he, h1, h2⟩]
        simp only [h3]
        rw [if_pos ⟨trivial, hc⟩, if_pos ⟨trivial, hl⟩]
      · have : i ≠ k := fun e => hne (by rw [← e]; rfl)
        rw [List.getElem?_set_ne this]

theorem src_view {B : AHeap} {x : AVal} {es m : Nat} {xs : List AVal} (h : View B x es m xs) : srcLen x = some m ∧ srcCells B es m x = some xs ∧ (∀ s, x ≠ .str s) := by
  obtain ⟨hl, h⟩ := h
  rcases h with ⟨rfl, rfl⟩ | ⟨i, v, off, c, kd, cs', rfl, h2, h3, h4, _⟩
  · have : xs = [] := List.eq_nil_of_length_eq_zero (by simpa using hl)
    subst this
    exact ⟨rfl, rfl, fun s e => by cases e⟩
  · exact ⟨rfl, by simp only [srcCells]; rw [rd_of (r := ⟨i, v, off⟩) h2 rfl (pos_mul h3), h4], fun s e => by cases e⟩

theorem aAppendS_eq {H : AHeap} {es bytes : Nat} {s x : AVal} (h : ∀ t, x ≠ .str t) : aAppendS H es bytes s x = aAppend H es bytes s x := by
  unfold aAppendS
  split
  · rename_i t; exact absurd rfl (h t)
  · rfl

/-- append(s, t...) -/
theorem append_view {B : AHeap} {sv x : AVal} {es bytes n m : Nat} {cs xs : List AVal} (h : Own B sv es n cs) (he : 0 < es) (hx : View B x es m xs) (hc : xs.all AVal.isCell = true) (h1 : (n + m) * bytes ≤ room) (h2 : n + m ≤ room)
    {K : AVal → AHeap → Prop} (k : ∀ sv' B', Own B' sv' es (n + m) (cs ++ xs) → Keeps B sv B' → (slId sv' = slId sv ∨ slId sv' = some B.length) → K sv' B') : hb (aAppendS B es bytes sv x) K := by
  obtain ⟨s1, s2, s3⟩ := src_view hx
  obtain ⟨sv', B', a1, a2, a3, a4⟩ := append_to h he hx.1 hc h1 h2
  rw [aAppendS_eq s3, aAppend, s1]
  simp only [s2, a1]
  exact k sv' B' a2 a3 a4

/-- append(b, s...) of a text -/
theorem append_str {B : AHeap} {sv : AVal} {bytes n : Nat} {cs : List AVal} {s : List UInt8} (h : Own B sv 1 n cs) (h1 : (n + s.length) * bytes ≤ room) (h2 : n + s.length ≤ room)
    {K : AVal → AHeap → Prop} (k : ∀ sv' B', Own B' sv' 1 (n + s.length) (cs ++ s.map ofByte) → Keeps B sv B' → (slId sv' = slId sv ∨ slId sv' = some B.length) → K sv' B') : hb (aAppend B 1 bytes sv (.str s)) K := by
  obtain ⟨sv', B', a1, a2, a3, a4⟩ := append_to (xs := s.map ofByte) (m := s.length) h (by decide) (by simp) (cells_byte s) h1 h2
  rw [aAppend]
  simp only [srcLen, srcCells, List.take_length, a1]
  exact k sv' B' a2 a3 a4

/-- append(s, x), x of one cell -/
theorem push1 {B : AHeap} {sv x z : AVal} {bytes n : Nat} {cs : List AVal} (h : Own B sv 1 n cs) (hx : x.sc = true) (h1 : (n + 1) * bytes ≤ room) (h2 : n + 1 ≤ room)
    {K : AVal → AHeap → Prop} (k : ∀ sv' B', Own B' sv' 1 (n + 1) (cs ++ [x]) → Keeps B sv B' → (slId sv' = slId sv ∨ ∃ i, slId sv' = some i ∧ B.length ≤ i) → K sv' B') :
    hb (aBuildSlice B 1 [z] 1 [(0, x)]) fun t B1 => hb (aAppendS B1 1 bytes sv t) K := by
  refine hb_i (v := .slice ⟨B.length, 0, 0⟩ 1 (.ex 1)) (H := B ++ [.cells 0 .exact [x]]) ?_ ?_
  · simp only [aBuildSlice, fillA, fillCells, List.replicate, List.flatten, sc_cells hx]
    rw [if_pos ⟨by cases x <;> simp_all [AVal.sc, AVal.defd], rfl, by simp⟩]
    rfl
  · have hp : B <+: B ++ [.cells 0 .exact [x]] := ⟨_, rfl⟩
    refine append_view (h.pre hp) (by decide) (m := 1) (xs := [x]) ⟨rfl, .inr ⟨B.length, 0, 0, _, .exact, [x], rfl, by simp, by simp, rfl, Nat.le_refl _⟩⟩ (by simp [sc_cell hx]) h1 h2 fun sv' B' o kk hi => ?_
    refine k sv' B' o ⟨by have := kk.len; simp at this; omega, fun q hq hne => by rw [kk.get q (by simp; omega) hne, pre_get hp hq]⟩ ?_
    rcases hi with hi | hi
    · exact .inl hi
    · exact .inr ⟨_, hi, by simp⟩

/-- The text of bytes. -/
theorem bytes_str {B : AHeap} {sv : AVal} {n : Nat} {l : List UInt8} (h : View B sv 1 n (l.map ofByte)) : aBytes2Str B sv = some (.str l) := by
  obtain ⟨hl, h⟩ := h
  simp only [List.length_map, Nat.mul_one] at hl
  rcases h with ⟨rfl, rfl⟩ | ⟨i, v, off, c, kd, cs', rfl, h2, h3, h4, _⟩
  · have : l = [] := List.eq_nil_of_length_eq_zero hl
    subst this; rfl
  · simp only [aBytes2Str]
    rw [rd_of (r := ⟨i, v, off⟩) h2 rfl (by simpa using h3)]
    simp only [Nat.mul_one] at h4
    simp only [← h4, bytesOf_map]

theorem lenSl_view {B : AHeap} {sv : AVal} {es n : Nat} {cs : List AVal} (h : View B sv es n cs) : lenSl sv = some (.int .i64 n) := by
  rcases h.2 with ⟨rfl, rfl⟩ | ⟨i, v, off, c, kd, cs', rfl, _⟩ <;> rfl
end Go.Abs
