/- One text of these: Chain0, ChainW1, ChainP1, ChainP2, ChainP3, ChainP4, ChainP5, ChainP6, ChainP7, ChainQ, ChainQ2. -/
import Derived.Test.YtchfbhiaboggmaaPair

/- Anchors in a chain. -/
namespace Go.Sh
open Go Go.Abs

def nextT (a : List UInt8) (l : List (List UInt8)) : List UInt8 := [110, 101, 120, 116] ++ a ++ l.flatten
def good (l : List (List UInt8)) : Prop := l.length ≠ 0 ∧ l.length ≤ 80 ∧ ∀ s ∈ l, s.length = 64
/-- A row that is read; an empty one may have no block. -/
def VwN (B : AHeap) (sv : AVal) (n : Nat) (cs : List AVal) : Prop := View B sv 1 n cs ∨ (n = 0 ∧ cs = [] ∧ ∃ (r : Ref) (c : Cap), sv = .slice r 0 c)
structure NArgs (H : AHeap) (x : AVal) (l : List (List UInt8)) : Prop where
  v : VwN H x l.length (strs l)
  hl : l.length ≤ 9223372036854775807
  hs : ∀ s ∈ l, s.length ≤ 1099511627776
def S_chain_Next : Abs.Spec := fun args H r H' => ∃ (o x : AVal) (a : List UInt8) (l : List (List UInt8)), args = [o, .agg (a.map ofByte), x] ∧ a.length = 32 ∧ NArgs H x l ∧
  ((¬ good l ∧ r = .tup [zero32, .int .i64 6] ∧ H' = H) ∨ (good l ∧ r = .tup [.agg ((sum (nextT a l)).map ofByte), .int .i64 0] ∧ Osums H o [nextT a l] H'))

instance goodDec (l : List (List UInt8)) : Decidable (good l) := by unfold good; infer_instance
end Go.Sh

/- What Go functions come to over abstract values, printed by a program (wtext.py). -/
namespace Go.Sh
open Go Go.Abs


end Go.Sh

/- Anchors: the functions come to what is told. -/
namespace Go.Sh
open Go Go.Abs


end Go.Sh

/- The next anchor. -/
namespace Go.Sh
open Go Go.Abs

theorem flat_len {l : List (List UInt8)} (h : ∀ s ∈ l, s.length = 64) : l.flatten.length = 64 * l.length := by
  induction l with
  | nil => rfl
  | cons x l ih =>
    simp only [List.flatten_cons, List.length_append, List.length_cons]
    rw [ih fun s hs => h s (List.mem_cons_of_mem _ hs), h x List.mem_cons_self]; omega
end Go.Sh

/- Along rows. -/
namespace Go.Sh
open Go Go.Abs

/-- A function that lets an oracle sum, on its way: 'done' has been summed; the places 'own' are its own. -/
def Run (H : AHeap) (o : AVal) (ss : List (List UInt8)) (H' : AHeap) (C : AHeap) (own : Nat → Prop) (done : List (List UInt8)) : Prop :=
  (∀ k, own k → H.length ≤ k ∧ k < C.length) ∧
  ((o = .nilp ∧ H' = H ∧ H <+: C) ∨ ∃ i v m mv lv T mv' lv', o = .ptr ⟨i, v, 0⟩ ∧ T.length + ss.length ≤ 1073741824 ∧ H' = oset H i v m mv lv T (keepTs T ss) ∧ OInv H i v m mv lv T C mv' lv' (keepTs T done) ∧ (∀ k, own k → slId lv' ≠ some k))

section
variable {H : AHeap} {o : AVal} {ss : List (List UInt8)} {H' C : AHeap} {own : Nat → Prop} {done : List (List UInt8)}

theorem Run.start (h : Osums H o ss H') : Run H o ss H' H (fun _ => False) [] := by
  refine ⟨fun k h => h.elim, ?_⟩
  rcases h with ⟨h1, h2⟩ | ⟨i, v, m, mv, lv, T, h1, h2, h3, h4⟩
  · exact .inl ⟨h1, h2, List.prefix_refl _⟩
  · exact .inr ⟨i, v, m, mv, lv, T, mv, lv, h1, h3, h4, OInv.refl h2, fun k h => h.elim⟩
theorem Run.len (h : Run H o ss H' C own done) : H.length ≤ C.length := by
  rcases h.2 with ⟨_, _, p⟩ | ⟨_, _, _, _, _, _, _, _, _, _, _, h, _⟩
  · exact p.length_le
  · exact h.len
theorem Run.push (h : Run H o ss H' C own done) (L : AHeap) : Run H o ss H' (C ++ L) (fun k => own k ∨ (C.length ≤ k ∧ k < C.length + L.length)) done := by
  have hl := h.len
  refine ⟨fun k hk => ?_, ?_⟩
  · rcases hk with hk | hk
    · have := h.1 k hk; simp; omega
    · simp; omega
  · rcases h.2 with ⟨h1, h2, p⟩ | ⟨i, v, m, mv, lv, T, mv', lv', h1, h2, h3, h4, h5⟩
    · exact .inl ⟨h1, h2, p.trans (pre_app _ _)⟩
    · refine .inr ⟨i, v, m, mv, lv, T, mv', lv', h1, h2, h3, h4.pre (pre_app _ _), fun k hk e => ?_⟩
      rcases hk with hk | hk
      · exact h5 k hk e
      · have := h4.rep.slt e; omega
theorem Run.set (h : Run H o ss H' C own done) {a : Nat} (ha : own a) (ob : AObj) : Run H o ss H' (C.set a ob) own done := by
  have h1a := h.1 a ha
  refine ⟨fun k hk => by rw [List.length_set]; exact h.1 k hk, ?_⟩
  rcases h.2 with ⟨h1, h2, p⟩ | ⟨i, v, m, mv, lv, T, mv', lv', h1, h2, h3, h4, h5⟩
  · exact .inl ⟨h1, h2, pre_set p h1a.1 _⟩
  · exact .inr ⟨i, v, m, mv, lv, T, mv', lv', h1, h2, h3, h4.set h1a.1 (h5 a ha) ob, h5⟩
theorem Run.weaken {own' : Nat → Prop} (h : Run H o ss H' C own done) (hw : ∀ k, own' k → own k) : Run H o ss H' C own' done := by
  refine ⟨fun k hk => h.1 k (hw k hk), ?_⟩
  rcases h.2 with h1 | ⟨i, v, m, mv, lv, T, mv', lv', h1, h2, h3, h4, h5⟩
  · exact .inl h1
  · exact .inr ⟨i, v, m, mv, lv, T, mv', lv', h1, h2, h3, h4, fun k hk => h5 k (hw k hk)⟩
theorem Run.call (h : Run H o ss H' C own done) {ts : List (List UInt8)} (hl : done.length + ts.length ≤ ss.length) (hs : ∀ s ∈ ts, s.length ≤ 1099511627776) :
    ∃ C2, Osums C o ts C2 ∧ Run H o ss H' C2 own (done ++ ts) ∧ C.length ≤ C2.length ∧ ∀ k, own k → C2[k]? = C[k]? := by
  rcases h.2 with ⟨h1, h2, p⟩ | ⟨i, v, m, mv, lv, T, mv', lv', rfl, h2, h3, h4, h5⟩
  · exact ⟨C, .inl ⟨h1, rfl⟩, ⟨h.1, .inl ⟨h1, h2, p⟩⟩, Nat.le_refl _, fun _ _ => rfl⟩
  · have hk := keepTs_len done T
    obtain ⟨C2, mv2, lv2, hO, hI, hl2, hf⟩ := h4.sums (ss := ts) (by omega) hs
    refine ⟨C2, hO, ⟨fun k hk => ⟨(h.1 k hk).1, Nat.lt_of_lt_of_le (h.1 k hk).2 hl2⟩, .inr ⟨i, v, m, mv, lv, T, mv2, lv2, rfl, h2, h3, ?_, fun k hk => (hf k (h.1 k hk).2 (h.1 k hk).1 (h5 k hk)).2⟩⟩, hl2, fun k hk => (hf k (h.1 k hk).2 (h.1 k hk).1 (h5 k hk)).1⟩
    rw [keepTs_app]; exact hI
theorem Run.fin (h : Run H o ss H' C own ss) {r r1 : AVal} (hr : ∀ ρ σ n, Ren ρ σ n r r1) : Weak H r1 C r H' := by
  rcases h.2 with ⟨h1, rfl, p⟩ | ⟨i, v, m, mv, lv, T, mv', lv', rfl, h2, rfl, h4, h5⟩
  · exact Weak.cells (hr _ _ _) p
  · exact h4.weak fun ρ σ n _ _ => hr ρ σ n
end

end Go.Sh

/- The laws of chains. -/
namespace Go.Sh
open Go Go.Abs

section
variable {A C : AHeap} {own : Nat → Prop} {T : List (List UInt8)}
end


end Go.Sh

/- The laws of chains, 2. -/
namespace Go.Sh
open Go Go.Abs

end Go.Sh

/- The laws of chains, 3. -/
namespace Go.Sh
open Go Go.Abs

def right (d a : Int) : Prop := (d = 0 ∨ d = 1) ∧ (a = 0 ∨ a = 1)
instance (d a : Int) : Decidable (right d a) := by unfold right; infer_instance
end Go.Sh

/- The laws of chains, 4. -/
namespace Go.Sh
open Go Go.Abs

end Go.Sh

/- Functions that leave what was there as it was. -/
namespace Go.Sh
open Go Go.Abs

end Go.Sh

/- Functions that leave what was there as it was, 2. -/
namespace Go.Sh
open Go Go.Abs

end Go.Sh
