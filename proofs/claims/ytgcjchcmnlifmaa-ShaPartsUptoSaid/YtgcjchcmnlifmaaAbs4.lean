/- Memory: what the model's loads and stores do to what stands for an abstract heap. -/
import Derived.Test.YtgcjchcmnlifmaaAbs3
import Derived.Laws.Cells
namespace Go.Abs
open Go

theorem add_none (b o n : Nat) : (⟨b, o, none⟩ : Addr).add n = ⟨b, o + n, none⟩ := by
  unfold Addr.add; by_cases h : n = 0 <;> simp [h]

theorem cell_of {w : World} {b j : Nat} {c : Array Value} {e : TypeId} {fz : Nat × Nat} (h : w.heap[b]? = some (.cells c e fz)) :
    w.cell? ⟨b, j, none⟩ = c[j]? := by simp [World.cell?, h]
theorem frozen_of {w : World} {b j : Nat} {c : Array Value} {e : TypeId} {fz : Nat × Nat} (h : w.heap[b]? = some (.cells c e fz)) (hf : fz.2 ≤ fz.1 ∨ c.size ≤ fz.1) (hj : j < c.size) :
    w.frozen? ⟨b, j, none⟩ = false := by
  obtain ⟨lo, hi⟩ := fz
  simp only [World.frozen?, h]
  simp only at hf
  by_cases h1 : lo ≤ j <;> by_cases h2 : j < hi <;> simp [h1, h2] <;> omega

section
variable {P : Program} {E : Env} {w : World}

/-- The cells behind a reference. -/
theorem rd_sound (h : RelW E w) {r : Ref} {n : Nat} {cs : List AVal} (hr : rdCells E.H r n = some cs) (hS : E.S r.id) :
    r.id < E.H.length ∧ r.ver = verOf E.H r.id ∧
    ∃ vs : List Value, RelL E cs vs ∧ vs.length = n ∧ (∀ j v, vs[j]? = some v → w.cell? ⟨E.m r.id, r.off + j, none⟩ = some v) ∧
      ∃ c e fz, w.heap[E.m r.id]? = some (.cells c e fz) ∧ c.size = E.sz r.id ∧ (0 < n → r.off + n ≤ c.size) := by
  unfold rdCells at hr
  split at hr
  · rename_i v kd cs0 h0
    split at hr
    · rename_i hc
      obtain ⟨hv, hl⟩ := hc
      simp only [Option.some.injEq] at hr
      subst hr
      obtain ⟨c, e, fz, h1, h2, h3, h4, _, _⟩ := h.obj r.id _ hS h0
      refine ⟨lt_of_some h0, by rw [verOf_some h0]; exact hv.symm, ((c.toList.take cs0.length).drop r.off).take n, (h3.drop _).take _, ?_, ?_, c, e, fz, h1, h2, by omega⟩
      · simp; omega
      · intro j u hj
        rw [cell_of h1]
        have hjn : j < n := by
          have := (List.getElem?_eq_some_iff.1 hj).1
          simp at this; omega
        rw [List.getElem?_take_of_lt hjn, List.getElem?_drop, List.getElem?_take_of_lt (by omega)] at hj
        simpa using hj
    · cases hr
  · cases hr

theorem run_loadCells_of (a : Addr) (b o : Nat) (ha : a = ⟨b, o, none⟩) (vs : List Value) (h : ∀ j v, vs[j]? = some v → w.cell? ⟨b, o + j, none⟩ = some v) :
    (loadCells a vs.length).run P w = .ok vs.toArray w := by
  subst ha
  exact run_loadCells_list w _ vs fun j v hj => by rw [add_none]; exact h j v hj

theorem splice_get {α : Type} {l : List α} {off : Nat} {vs : List α} (h : off + vs.length ≤ l.length) (j : Nat) :
    (splice l off vs)[j]? = if j < off then l[j]? else if j < off + vs.length then vs[j - off]? else l[j]? := by
  unfold splice
  have ht : (l.take off).length = off := by simp; omega
  by_cases h1 : j < off
  · rw [if_pos h1, List.append_assoc, List.getElem?_append_left (by omega), List.getElem?_take_of_lt h1]
  · rw [if_neg h1]
    by_cases h2 : j < off + vs.length
    · rw [if_pos h2, List.append_assoc, List.getElem?_append_right (by omega), ht, List.getElem?_append_left (by omega)]
    · rw [if_neg h2, List.append_assoc, List.getElem?_append_right (by omega), ht, List.getElem?_append_right (by omega), List.getElem?_drop]
      congr 1; omega
theorem splice_length {α : Type} {l : List α} {off : Nat} {vs : List α} (h : off + vs.length ≤ l.length) : (splice l off vs).length = l.length := by
  simp [splice]; omega
theorem splice_take {α : Type} {l : List α} {off n : Nat} {vs : List α} (h : off + vs.length ≤ n) (hn : n ≤ l.length) :
    (splice l off vs).take n = splice (l.take n) off vs := by
  apply List.ext_getElem?
  intro j
  rw [splice_get (by simp; omega)]
  by_cases hj : j < n
  · rw [List.getElem?_take_of_lt hj, splice_get (by omega), List.getElem?_take_of_lt hj]
  · rw [List.getElem?_eq_none (by simp; omega), if_neg (by omega), if_neg (by omega), List.getElem?_eq_none (by simp; omega)]
theorem splice_step {α : Type} {l : List α} {off : Nat} {v : α} {vs : List α} (h : off + 1 + vs.length ≤ l.length) :
    splice (l.set off v) (off + 1) vs = splice l off (v :: vs) := by
  apply List.ext_getElem?
  intro j
  rw [splice_get (by simp; omega), splice_get (by simp; omega)]
  simp only [List.length_cons]
  by_cases h0 : j < off
  · rw [if_pos (show j < off + 1 by omega), if_pos h0, List.getElem?_set_ne (by omega)]
  · rw [if_neg h0]
    by_cases h1 : j = off
    · subst h1
      rw [if_pos (show j < j + 1 by omega), if_pos (show j < j + (vs.length + 1) by omega), List.getElem?_set_self (by omega)]; simp
    · rw [if_neg (show ¬ j < off + 1 by omega)]
      by_cases h2 : j < off + 1 + vs.length
      · rw [if_pos h2, if_pos (show j < off + (vs.length + 1) by omega)]
        obtain ⟨k, rfl⟩ : ∃ k, j = off + 1 + k := ⟨j - off - 1, by omega⟩
        rw [show off + 1 + k - (off + 1) = k by omega, show off + 1 + k - off = k + 1 by omega, List.getElem?_cons_succ]
      · rw [if_neg h2, if_neg (show ¬ j < off + (vs.length + 1) by omega), List.getElem?_set_ne (by omega)]

theorem RelL.splice {xs cs : List AVal} {vs ls : List Value} (h : RelL E cs ls) (h' : RelL E xs vs) (off : Nat) :
    RelL E (splice cs off xs) (Abs.splice ls off vs) := by
  unfold Abs.splice
  rw [h'.length]
  exact ((h.take _).append h').append (h.drop _)

theorem run_storeCells_own (b : Nat) (e : TypeId) (fz : Nat × Nat) (o : Nat) :
    ∀ (vs : List Value) (i : Nat) (w : World) (c : Array Value), w.heap[b]? = some (.cells c e fz) → (fz.2 ≤ fz.1 ∨ c.size ≤ fz.1) →
      o + i + vs.length ≤ c.size → (∀ v ∈ vs, v.oneCell' = true) →
      ∃ w', (storeCells ⟨b, o, none⟩ vs i).run P w = .ok () w' ∧ w'.heap[b]? = some (.cells (splice c.toList (o + i) vs).toArray e fz) ∧
        w'.heap.size = w.heap.size ∧ (∀ k, k ≠ b → w'.heap[k]? = w.heap[k]?) ∧ w'.tape = w.tape ∧ w'.os = w.os ∧ w'.output = w.output
  | [], i, w, c, hb, _, hl, _ => by
    refine ⟨w, rfl, ?_, rfl, fun _ _ => rfl, rfl, rfl, rfl⟩
    rw [hb]; simp [splice]
  | v :: vs, i, w, c, hb, hf, hl, hv => by
    simp only [List.length_cons] at hl
    have hc : w.cell? ⟨b, o + i, none⟩ = some c[o + i] := by rw [cell_of hb]; exact Array.getElem?_eq_getElem (by omega)
    have hst : (store (⟨b, o + i, none⟩ : Addr) v).run P w = .ok () (w.setCell ⟨b, o + i, none⟩ v) := by
      rw [run_store P w _ v _ (hv v (by simp)), hc]
      simp [frozen_of hb hf (show o + i < c.size by omega)]
    have hb' : (w.setCell ⟨b, o + i, none⟩ v).heap[b]? = some (.cells (c.setIfInBounds (o + i) v) e fz) := by
      simp [World.setCell, Array.getElem?_modify, hb]
    obtain ⟨w', h1, h2, h3, h4, h5, h6, h7⟩ := run_storeCells_own b e fz o vs (i + 1) _ _ hb' (by simpa using hf) (by simp; omega) (fun u hu => hv u (by simp [hu]))
    refine ⟨w', ?_, ?_, by rw [h3]; simp, fun k hk => ?_, h5, h6, h7⟩
    · simp only [storeCells, Sem.run_bind, add_none, hst, Result.andThen, h1]
    · rw [h2]
      congr 2
      rw [Array.toList_setIfInBounds, ← splice_step (by simp; omega)]
      congr 1
    · rw [h4 k hk]; simp [World.setCell, Array.getElem?_modify, Ne.symm hk]

theorem oneCell_of {x : AVal} {v : Value} (hx : x.isCell = true) (h : RelV E x v) : v.oneCell' = true := by
  cases x <;> simp only [AVal.isCell] at hx <;> simp only [RelG] at h <;> first
    | (cases hx; done)
    | (subst h; rfl)
    | (obtain ⟨a, rfl, _⟩ := h; rfl)
    | (obtain ⟨a, c, rfl, _⟩ := h; rfl)

theorem oneCells_of {xs : List AVal} {vs : List Value} (hx : xs.all AVal.isCell = true) (h : RelL E xs vs) : ∀ v ∈ vs, v.oneCell' = true := by
  intro v hv
  obtain ⟨i, hi⟩ := List.mem_iff_getElem?.1 hv
  have hlen := h.length
  have hlt : i < xs.length := by rw [hlen]; exact (List.getElem?_eq_some_iff.1 hi).1
  obtain ⟨y, hy, hr⟩ := h.get (List.getElem?_eq_getElem hlt)
  rw [hi] at hy; cases hy
  exact oneCell_of (List.all_eq_true.1 hx _ (List.getElem_mem hlt)) hr

theorem wr_sound (h : RelW E w) {r : Ref} {xs : List AVal} {H' : AHeap} (hw : wrCells E.H r xs = some H') (hS : E.S r.id) {vs : List Value} (hx : RelL E xs vs) :
    ∃ w' E', (storeCells ⟨E.m r.id, r.off, none⟩ vs).run P w = .ok () w' ∧ E'.H = H' ∧ RelW E' w' ∧ Ext E w E' w' := by
  unfold wrCells at hw
  split at hw
  · rename_i v kd cs0 h0
    split at hw
    · rename_i hc
      obtain ⟨hv, hkd, hl, hall⟩ := hc
      simp only [Option.some.injEq] at hw
      subst hw
      obtain ⟨c, e, fz, h1, h2, h3, h4, h5, h6⟩ := h.obj r.id _ hS h0
      have hlen := hx.length
      obtain ⟨w', g1, g2, g3, g4, g5, g6, g7⟩ := run_storeCells_own (P := P) (E.m r.id) e fz r.off vs 0 w c h1 (h6 hkd) (by omega) (oneCells_of hall hx)
      have hown : (AObj.cells v kd cs0).own = true := by cases kd <;> first | rfl | exact absurd rfl hkd
      have f : Follows (AObj.cells v kd cs0) (.cells v kd (splice cs0 r.off xs)) :=
        ⟨hown, by cases kd <;> first | rfl | exact absurd rfl hkd, Nat.le_refl _, fun _ h => by cases kd <;> first | exact h | rfl, fun e => by cases e⟩
      have := rel_put h hS h0 f g3 g4 g5 g6 g7 (fun x => ?_)
      · exact ⟨w', _, g1, rfl, this.1, this.2⟩
      · refine ⟨_, e, fz, g2, ?_, ?_, ?_, ?_, ?_⟩
        · simp only [List.size_toArray, Nat.add_zero]; rw [splice_length (by simp; omega)]; exact h2
        · rw [splice_length (by omega)]
          have := (RelL.splice h3 hx r.off).ext x
          simp only [Nat.add_zero]
          rw [splice_take (by omega) (by simpa using h4)]
          exact this
        · rw [splice_length (by omega)]; simp only [List.size_toArray, Nat.add_zero]; rw [splice_length (by simp; omega)]; simpa using h4
        · intro hk; rw [splice_length (by omega)]; simp only [List.size_toArray, Nat.add_zero]; rw [splice_length (by simp; omega)]; simpa using h5 hk
        · intro _; simp only [List.size_toArray, Nat.add_zero]; rw [splice_length (by simp; omega)]; simpa using h6 hkd
    · cases hw
  · cases hw
end
end Go.Abs
