/- The operations one by one, on: building, making, appending, copying, texts and bytes. -/
import Derived.Test.YtgcjchcmnlifmaaAbs7
namespace Go.Abs
open Go

theorem foldl_splice {α : Type} (off : Nat) : ∀ (vs : List α) (k : Nat) (cells : Array α), off + k + vs.length ≤ cells.size →
    ((vs.zipIdx k).foldl (fun cs p => cs.setIfInBounds (off + p.2) p.1) cells).toList = splice cells.toList (off + k) vs
  | [], k, cells, _ => by simp [splice]
  | v :: vs, k, cells, h => by
    simp only [List.length_cons] at h
    rw [List.zipIdx_cons, List.foldl_cons, foldl_splice off vs (k + 1) _ (by simp; omega), Array.toList_setIfInBounds]
    exact splice_step (by simp; omega)

section
variable {P : Program} {E : Env} {w : World}

def RelParts (E : Env) : List (Nat × AVal) → List (Nat × Value) → Prop
  | [], l => l = []
  | (i, x) :: r, l => ∃ v l', l = (i, v) :: l' ∧ RelV E x v ∧ RelParts E r l'

theorem fill_sound (place : Nat → Option (Nat × Nat)) : ∀ (parts : List (Nat × AVal)) (parts' : List (Nat × Value)) (cells : List AVal) (cells' : Array Value) {out : List AVal},
    RelParts E parts parts' → RelL E cells cells'.toList → fillA place cells parts = some out →
    ∃ out' : Array Value, Instr.fill place cells' parts' = some out' ∧ RelL E out out'.toList
  | [], parts', cells, cells', out, hp, hc, h => by
    simp only [RelParts] at hp; subst hp
    simp only [fillA, Option.some.injEq] at h; subst h
    exact ⟨cells', rfl, hc⟩
  | (i, x) :: r, parts', cells, cells', out, hp, hc, h => by
    simp only [RelParts] at hp
    obtain ⟨v, l', rfl, hv, hr⟩ := hp
    simp only [fillA] at h
    cases hpl : place i with
    | none => rw [hpl] at h; cases h
    | some os =>
      obtain ⟨off, size⟩ := os
      rw [hpl] at h
      simp only at h
      split at h
      · rename_i hh
        obtain ⟨h1, h2, h3⟩ := hh
        have hvc := RelV.cells hv (defd_ne h1)
        have hl := hvc.length
        have hcl := hc.length
        simp only [Array.length_toList] at hl hcl
        have hfold : (v.cells.zipIdx.foldl (fun cs (c, j) => cs.setIfInBounds (off + j) c) cells').toList = splice cells'.toList off v.cells.toList := by
          rw [← Array.foldl_toList, Array.toList_zipIdx]
          have := foldl_splice off v.cells.toList 0 cells' (by simp; omega)
          simpa using this
        obtain ⟨out', g1, g2⟩ := fill_sound place r l' _ (v.cells.zipIdx.foldl (fun cs (c, j) => cs.setIfInBounds (off + j) c) cells') hr
          (by rw [hfold]; exact RelL.splice hc hvc off) h
        refine ⟨out', ?_, g2⟩
        simp only [Instr.fill, hpl]
        rw [if_neg (by simp; omega)]
        exact g1
      · cases h

theorem aBuildArr_sound {t et : TypeId} {n : Nat} (hd : P.underlying t = some (.array n et)) {i it : TypeInfo} {z : Value} (hit : P.info? t = some it) (hz : it.zero = some z)
    (hi : P.info? et = some i) {parts : List (Nat × AVal)} {parts' : Array (Nat × Value)} (hp : RelParts E parts parts'.toList) {v : AVal}
    (h : aBuild (z.cells.toList.map toA) (fun k => some (k * i.size, i.size)) parts = some v) :
    ∃ u, (Instr.build t parts').run P w = .ok u w ∧ RelV E v u := by
  unfold aBuild at h
  split at h
  · rename_i cs hf
    simp only [Option.some.injEq] at h; subst h
    obtain ⟨out', g1, g2⟩ := fill_sound (E := E) _ parts parts'.toList _ z.cells hp (toA_relL _) hf
    refine ⟨.agg out', ?_, by simp only [RelG]; exact ⟨out'.toList, rfl, g2⟩⟩
    simp [Instr.build, run_zero hit hz, run_under hd, run_size hi, g1]
  · cases h

theorem run_places (fs : List Field) : ∀ {pl : List (Nat × Nat)}, fs.mapM (fun f => (P.info? f.type).map fun i => (f.offset, i.size)) = some pl →
    (fs.mapM (fun f => do pure (f.offset, ← sizeOf f.type) : Field → Sem (Nat × Nat))).run P w = .ok pl w := by
  induction fs with
  | nil => intro pl h; simp at h; subst h; simp
  | cons f fs ih =>
    intro pl h
    simp only [List.mapM_cons, Option.bind_eq_bind, Option.bind_eq_some_iff, Option.map_eq_some_iff] at h
    obtain ⟨p, ⟨i, hi, rfl⟩, pl', hpl, he⟩ := h
    simp at he
    subst he
    simp only [List.mapM_cons, Sem.run_bind, run_size hi, Result.andThen_ok, Sem.run_pure, ih hpl]

theorem aBuildStr_sound {t : TypeId} {fs : Array Field} (hd : P.underlying t = some (.struct fs)) {it : TypeInfo} {z : Value} (hit : P.info? t = some it) (hz : it.zero = some z)
    {pl : List (Nat × Nat)} (hpl : fs.toList.mapM (fun f => (P.info? f.type).map fun i => (f.offset, i.size)) = some pl)
    {parts : List (Nat × AVal)} {parts' : Array (Nat × Value)} (hp : RelParts E parts parts'.toList) {v : AVal}
    (h : aBuild (z.cells.toList.map toA) (fun k => pl[k]?) parts = some v) :
    ∃ u, (Instr.build t parts').run P w = .ok u w ∧ RelV E v u := by
  unfold aBuild at h
  split at h
  · rename_i cs hf
    simp only [Option.some.injEq] at h; subst h
    obtain ⟨out', g1, g2⟩ := fill_sound (E := E) _ parts parts'.toList _ z.cells hp (toA_relL _) hf
    refine ⟨.agg out', ?_, by simp only [RelG]; exact ⟨out'.toList, rfl, g2⟩⟩
    have hm : (fs.mapM (fun f => do pure (f.offset, ← sizeOf f.type) : Field → Sem (Nat × Nat))).run P w = .ok pl.toArray w := by
      rw [Array.mapM_eq_mapM_toList]
      simp only [Sem.run_map, run_places fs.toList hpl, Result.andThen_ok]
    simp only [Instr.build, run_zero hit hz, run_under hd, Sem.run_bind, Result.andThen, hm]
    have : (fun x : Nat => pl.toArray[x]?) = fun k => pl[k]? := by funext k; simp
    rw [this, g1]; rfl
  · cases h

theorem range_mod {α : Type} (f : Nat → α) (s : Nat) : ∀ c : Nat, (List.range (c * s)).map (fun j => f (j % s)) = (List.replicate c ((List.range s).map f)).flatten
  | 0 => by simp
  | c + 1 => by
    rw [Nat.add_mul, Nat.one_mul, Nat.add_comm, List.range_add, List.map_append, List.replicate_succ, List.flatten_cons, ← range_mod f s c, List.map_map]
    congr 1
    · apply List.map_congr_left
      intro j hj
      rw [Nat.mod_eq_of_lt (List.mem_range.1 hj)]
    · apply List.map_congr_left
      intro j _
      simp

theorem zeros_rel (z : Array Value) (c : Nat) : RelL E (fillCells c (z.toList.map toA)) ((Array.range (c * z.size)).map (z[· % z.size]!)).toList := by
  have h : ((Array.range (c * z.size)).map (z[· % z.size]!)).toList = (List.replicate c z.toList).flatten := by
    rw [Array.toList_map, Array.toList_range, range_mod (fun j => z[j]!) z.size c]
    congr 2
    apply List.ext_getElem?
    intro j
    by_cases hj : j < z.size
    · simp [hj]
    · simp [hj, List.getElem?_eq_none (show z.toList.length ≤ j by simp; omega)]
  rw [h]
  clear h
  unfold fillCells
  induction c with
  | zero => exact RelGL.nil
  | succ c ih => simp only [List.replicate_succ, List.flatten_cons]; exact (toA_relL _).append ih

theorem newSlice_rel {E' : Env} {kd : Kd} {cs : List AVal} (hH : E'.H = E.H ++ [.cells 0 kd cs]) (hS : E'.S E.H.length) {b n : Nat} (hm : E'.m E.H.length = b) :
    RelV E' (.slice ⟨E.H.length, 0, 0⟩ n (.ex n)) (.slice (some ⟨b, 0, none⟩) n n) := by
  simp only [RelG]
  exact ⟨_, _, rfl, hS, by simp [hH], Nat.zero_le _, fun _ => ⟨by simp [hm], rfl⟩⟩

theorem aBuildSlice_sound (h : RelW E w) {t et : TypeId} (hd : P.underlying t = some (.slice et)) {i : TypeInfo} {z : Value} (hi : P.info? et = some i) (hz : i.zero = some z)
    (hsz : z.cells.size = i.size) {n : Nat} (hn : n * i.size ≤ 2 ^ 24)
    {parts : List (Nat × AVal)} {parts' : Array (Nat × Value)} (hp : RelParts E parts parts'.toList) {v : AVal} {H' : AHeap}
    (ha : aBuildSlice E.H i.size (z.cells.toList.map toA) n parts = some (v, H')) : Runs P E w (Instr.buildSlice t n parts') v H' := by
  unfold aBuildSlice at ha
  split at ha
  · rename_i cs hf
    simp only [Option.some.injEq, Prod.mk.injEq] at ha
    obtain ⟨rfl, rfl⟩ := ha
    obtain ⟨out', g1, g2⟩ := fill_sound (E := E) _ parts parts'.toList _ ((Array.range (n * z.cells.size)).map (z.cells[· % z.cells.size]!)) hp (zeros_rel _ _) hf
    have hl := g2.length
    obtain ⟨E', h1, h2, h3, h4, h5, h6⟩ := new_cells h (w' := w.alloc (.cells out' et)) .exact (cs := cs) (c := out') (t := et) (fz := (0, 0))
      (by rw [List.take_of_length_le (by simp at hl ⊢; omega)]; exact g2) (by simp at hl; omega) (fun _ => by simpa using hl) (fun _ => .inl (Nat.le_refl _)) rfl rfl rfl rfl
    refine ⟨.slice (some ⟨w.heap.size, 0, none⟩) n n, _, E', ?_, newSlice_rel h3 h6 h4, h1, h3, h2⟩
    rw [hsz] at g1
    have hnot : ¬ (n * i.size > 2 ^ 24) := by omega
    by_cases hz0 : n * i.size = 0
    · rw [hz0] at g1
      simp only [Instr.buildSlice, run_under hd, run_size hi, Sem.run_bind, Result.andThen, hz0, if_true, Sem.run_pure]
      have hr0 : Array.range 0 = #[] := rfl
      rw [hr0, Array.map_empty] at g1
      rw [if_neg (by omega)]
      simp [hr0, g1, newRow]
    · simp only [Instr.buildSlice, run_under hd, run_size hi, Sem.run_bind, Result.andThen]
      rw [if_neg hnot]
      simp [hz0, run_zero hi hz, hsz, g1, newRow]
  · cases ha
end
end Go.Abs
