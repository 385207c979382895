/- A text of this proof. -/
import Derived.Shelf.GgSortFunc.InsertionK
import Derived.Test.YtchfbhiaboggmaaAbsF

/- slices.SortFunc at rows of (number, text), sorted by the number, as what is told of a function. -/
namespace Go.Abs
open Go Go.RowKit Go.Sort
/-- A block at a place. -/
abbrev PutV := Int × List UInt8
def putC (p : PutV) : List AVal := [.int .i64 p.1, .str p.2]
def encP (p : PutV) : List Value := [.int .i64 p.1, .string ⟨p.2.toArray⟩]
def rising (a b : PutV) : Prop := a.1 < b.1
theorem perm_rising : ∀ {b a : List PutV}, a.Perm b → a.Pairwise (fun x y => x.1 ≤ y.1) → b.Pairwise rising → a = b
  | [], a, h, _, _ => h.eq_nil
  | y :: bs, a, h, ha, hb => by
    cases a with
    | nil => exact absurd h.symm.eq_nil (by simp)
    | cons x xs =>
      have hy : y ∈ x :: xs := h.mem_iff.2 List.mem_cons_self
      have hx : x ∈ y :: bs := h.mem_iff.1 List.mem_cons_self
      have e : x = y := by
        rcases List.mem_cons.1 hx with e | hx
        · exact e
        · have h1 : y.1 < x.1 := (List.pairwise_cons.1 hb).1 x hx
          rcases List.mem_cons.1 hy with e | hy
          · exact e.symm
          · have h2 : x.1 ≤ y.1 := (List.pairwise_cons.1 ha).1 y hy
            omega
      subst e
      rw [perm_rising (List.Perm.cons_inv h) (List.pairwise_cons.1 ha).2 (List.pairwise_cons.1 hb).2]
/-- Sorted by the number: the slice's own row. -/
def S_sortPuts (g : Nat) : Spec := fun args H r H' => ∃ l l' : List PutV, l'.Perm l ∧ l'.Pairwise rising ∧ l.length < 4611686018427387904 ∧ r = .tup [] ∧
  ((∃ i v, args = [.slice ⟨i, v, 0⟩ l.length (.op 2), .func (.func g) [] []] ∧ H[i]? = some (.cells v .opn (flat putC l)) ∧ H' = H.set i (.cells v .opn (flat putC l'))) ∨
    (args = [.nils, .func (.func g) [] []] ∧ l = [] ∧ H' = H))
theorem flatK_enc {α : Type} [Inhabited α] (enc : α → List Value) (k : Nat) (hk : ∀ x, (enc x).length = k) (d : Array α) : (Go.Sort.flatK enc k d).toList = (d.toList.map enc).flatten := by
  apply List.ext_getElem?
  intro t
  have hfl : ((d.toList.map enc).flatten).length = d.size * k := by
    have : ∀ l : List α, ((l.map enc).flatten).length = l.length * k := by
      intro l
      induction l with
      | nil => simp
      | cons b l ih => simp only [List.map_cons, List.flatten_cons, List.length_append, ih, hk, List.length_cons]; rw [Nat.succ_mul]; omega
    rw [this]; simp
  by_cases ht : t < d.size * k
  · have h1 : (Go.Sort.flatK enc k d).toList[t]? = some ((enc d[t / k]!)[t % k]!) := by
      rw [Array.getElem?_toList, Array.getElem?_eq_getElem (by simpa using ht), ← getElem!_pos (Go.Sort.flatK enc k d) t (by simpa using ht), get_flatK _ _ _ _ ht]
    have k0 : 0 < k := by rcases Nat.eq_zero_or_pos k with h | h; · subst h; simp at ht
                          · exact h
    have key : ∀ (l : List α) (t : Nat), t < l.length * k → ((l.map enc).flatten)[t]? = (l[t / k]?).bind fun x => (enc x)[t % k]? := by
      intro l
      induction l with
      | nil => intro t ht; simp at ht
      | cons b l ih =>
        intro t ht
        simp only [List.map_cons, List.flatten_cons]
        by_cases hb : t < k
        · rw [List.getElem?_append_left (by rw [hk]; exact hb), Nat.div_eq_of_lt hb, Nat.mod_eq_of_lt hb]; rfl
        · rw [List.getElem?_append_right (by rw [hk]; omega), hk, ih (t - k) (by simp only [List.length_cons, Nat.succ_mul] at ht; omega)]
          have e : t = t - k + k := by omega
          conv => rhs; rw [e]
          rw [Nat.add_div_right _ k0, Nat.add_mod_right, List.getElem?_cons_succ]
    have hq : t / k < d.size := Nat.div_lt_of_lt_mul (by rw [Nat.mul_comm]; exact ht)
    have e : d[t / k]! = d[t / k] := getElem!_pos d (t / k) hq
    have hr : t % k < (enc d[t / k]).length := by rw [hk]; exact Nat.mod_lt _ k0
    have e2 : (enc d[t / k])[t % k]! = (enc d[t / k])[t % k] := getElem!_pos (enc d[t / k]) (t % k) hr
    rw [h1, key _ _ (by simpa using ht), Array.getElem?_toList, Array.getElem?_eq_getElem hq, e, e2]
    exact (List.getElem?_eq_getElem hr).symm
  · rw [List.getElem?_eq_none (by simp; omega), List.getElem?_eq_none (by omega)]
theorem putCells_zero (F c : Array Value) (h : F.size ≤ c.size) : (putCells id 0 F c).toList = F.toList ++ c.toList.drop F.size := by
  apply List.ext_getElem?
  intro t
  rw [Array.getElem?_toList]
  unfold putCells
  rw [Array.getElem?_mapIdx]
  by_cases ht : t < F.size
  · rw [List.getElem?_append_left (by simpa using ht), Array.getElem?_toList, Array.getElem?_eq_getElem (by omega : t < c.size), Array.getElem?_eq_getElem ht]
    simp only [Option.map_some]
    rw [if_pos (by omega), Nat.sub_zero, getElem!_pos F t ht]; rfl
  · rw [List.getElem?_append_right (by simpa using Nat.le_of_not_lt ht), List.getElem?_drop, Array.getElem?_toList]
    simp only [Array.length_toList]
    rw [show F.size + (t - F.size) = t by omega]
    cases c[t]? with
    | none => rfl
    | some x => simp only [Option.map_some]; rw [if_neg (by omega)]
theorem rel_puts {E : Env} : ∀ l : List PutV, RelL E (flat putC l) ((l.map encP).flatten)
  | [] => by simp only [flat, List.map_nil, List.flatten_nil]; exact RelGL.nil
  | x :: l => by
    have := rel_puts (E := E) l
    simp only [flat, List.map_cons, List.flatten_cons, putC, encP, List.cons_append, List.nil_append] at this ⊢
    exact RelGL.cons (by simp only [RelG]) (RelGL.cons (by simp only [RelG]) this)
theorem puts_back {E : Env} : ∀ {l : List PutV} {vs : List Value}, RelL E (flat putC l) vs → vs = (l.map encP).flatten
  | [], vs, h => by simpa only [flat, List.map_nil, List.flatten_nil, RelGL] using h
  | x :: l, vs, h => by
    simp only [flat, List.map_cons, List.flatten_cons, putC, List.cons_append, List.nil_append, RelGL] at h
    obtain ⟨y, ys, rfl, h1, z, zs, rfl, h2, h3⟩ := h
    simp only [RelG] at h1 h2
    subst h1; subst h2
    have h3 := puts_back (l := l) h3
    subst h3
    simp [encP]

theorem sorted_list {d d' : Array PutV} {l' : List PutV} (hl : l'.Perm d.toList) (hr : l'.Pairwise rising) (hp : PermIn 0 d.size d d')
    (hs : SortedIn (fun x y : PutV => decide (x.1 < y.1)) 0 d.size d') : d'.toList = l' := by
  obtain ⟨h1, _, h3⟩ := hp
  have h3 : d'.toList.Perm d.toList := by
    have e1 : d'.extract 0 d.size = d' := by rw [← h1]; exact Array.extract_size
    have e2 : d.extract 0 d.size = d := Array.extract_size
    rwa [e1, e2] at h3
  refine perm_rising (h3.trans hl.symm) ?_ hr
  rw [List.pairwise_iff_getElem]
  intro i j hi hj hij
  have hi' : i < d'.size := by simpa using hi
  have hj' : j < d'.size := by simpa using hj
  have := hs i j (Nat.zero_le _) hij (by omega)
  rw [getElem!_pos d' i hi', getElem!_pos d' j hj'] at this
  simp only [decide_eq_false_iff_not] at this
  simp only [Array.getElem_toList]
  omega
/-- Of the contract of slices.SortFunc at this closure. -/
theorem sort_fn {P : Program} {k g : FuncId} (hen : ∀ (args : Array Value) (w : World), (callFunc k args).run P w = .ok (.enter k args) w)
    (h0 : ∀ (p : Option Addr) (cap : Nat) (fv : Value) (w : World), Calls P k #[.slice p 0 cap, fv] w fun e w' => e = .returned (.tuple #[]) ∧ w' = w)
    (hj : ∀ (blk off cap : Nat) (d : Array PutV) (w : World), HoldsK encP 2 w blk off d → blk < w.heap.size → d.size < 4611686018427387904 →
      Calls P k #[.slice (some ⟨blk, off, none⟩) d.size cap, .func (.func g) #[] #[]] w fun e w' => e = .returned (.tuple #[]) ∧
        ∃ d' n os, PermIn 0 d.size d d' ∧ SortedIn (fun x y : PutV => decide (x.1 < y.1)) 0 d.size d' ∧ w' = Go.Proofs.sortWorldK encP 2 w blk off n d' os) :
    FnOk P k (S_sortPuts g) := by
  refine ⟨hen, ?_⟩
  rintro args H r H' ⟨l, l', hp, hr, hn, rfl, hx⟩ E w vs hH hw hvs
  subst hH
  have none_case : ∀ (a : Option Addr) (c : Nat) (f : Value), Calls P k #[.slice a 0 c, f] w fun e w' => ∃ v E', e = .returned v ∧ RelV E' (.tup []) v ∧ RelW E' w' ∧ E'.H = E.H ∧ Ext E w E' w' := by
    intro a c f
    refine (h0 a c f w).mono fun e w' he => ?_
    obtain ⟨rfl, rfl⟩ := he
    exact ⟨_, E, rfl, by simp only [RelG]; exact ⟨[], rfl, by simp only [RelGL]⟩, hw, rfl, Ext.refl _ _⟩
  rcases hx with ⟨i, v, rfl, hi, rfl⟩ | ⟨rfl, rfl, rfl⟩
  · obtain ⟨y, ys, rfl, hx, ⟨z, zs, rfl, hf, rfl⟩⟩ := hvs
    simp only [RelG] at hx hf
    obtain ⟨f1, f2, rfl, hf1, hf2⟩ := hf
    simp only [RelGL] at hf1 hf2
    subst hf1; subst hf2
    obtain ⟨a, c', rfl, hS, hlt, hle, hr'⟩ := hx
    rcases Nat.eq_zero_or_pos l.length with hz | hpos
    · have hl : l = [] := List.eq_nil_of_length_eq_zero hz
      subst hl
      have hl' : l' = [] := hp.eq_nil
      subst hl'
      have e : E.H.set i (.cells v .opn (flat putC [])) = E.H := by
        have := (List.getElem?_eq_some_iff.1 hi)
        obtain ⟨h1, h2⟩ := this
        rw [← h2, List.set_getElem_self]
      rw [e]
      exact none_case _ _ _
    have hver : v = verOf E.H i := by rw [verOf_some hi]; rfl
    obtain ⟨h1, h2, h3, h4⟩ := hr' hver
    have ha : a = ⟨E.m i, 0, none⟩ := by
      rcases h4 with h4 | h4
      · obtain ⟨b1, o1, s1⟩ := a
        obtain ⟨h4, _⟩ := h4
        simp only at h1 h2 h4
        rw [h1, h2, h4]
      · omega
    subst ha
    obtain ⟨c, e0, fz, hb, hsz, hrel, hlen, _, hfz⟩ := hw.obj i _ hS hi
    have hfz := hfz (by nofun)
    have hcs := puts_back hrel
    have hfl : (flat putC l).length = l.length * 2 := flat_len (f := putC) (fun _ => rfl) l
    have hfl' : (flat putC l').length = l.length * 2 := by rw [flat_len (f := putC) (es := 2) (fun _ => rfl) l', hp.length_eq]
    have hblk : E.m i < w.heap.size := (Array.getElem?_eq_some_iff.1 hb).1
    have hH : HoldsK encP 2 w (E.m i) 0 l.toArray := by
      intro j hj
      have hj : j < (Go.Sort.flatK encP 2 l.toArray).size := hj
      rw [size_flatK, List.size_toArray] at hj
      refine ⟨?_, frozen_of hb hfz (by omega)⟩
      rw [cell_of hb, Nat.zero_add]
      have h5 : (c.toList.take (flat putC l).length)[j]? = some ((Go.Sort.flatK encP 2 l.toArray)[j]!) := by
        rw [hcs, ← flatK_enc encP 2 (fun _ => rfl) l.toArray, Array.getElem?_toList, Array.getElem?_eq_getElem (by simpa using hj)]
        rw [getElem!_pos (Go.Sort.flatK encP 2 l.toArray) j (by simpa using hj)]
      rw [List.getElem?_take_of_lt (by omega), Array.getElem?_toList] at h5
      exact h5
    have hcall := hj (E.m i) 0 c' l.toArray w hH hblk (by simpa using hn)
    rw [List.size_toArray] at hcall
    refine hcall.mono fun e w' he => ?_
    obtain ⟨rfl, d', n, os, hp', hs', rfl⟩ := he
    have hd' : d'.toList = l' := sorted_list (d := l.toArray) (by simpa using hp) hr (by simpa using hp') (by simpa using hs')
    have hF : (Go.Sort.flatK encP 2 d').toList = (l'.map encP).flatten := by rw [flatK_enc encP 2 (fun _ => rfl), hd']
    have hFs : (Go.Sort.flatK encP 2 d').size = l.length * 2 := by
      rw [size_flatK, ← Array.length_toList, hd', hp.length_eq]
    have f : Follows (AObj.cells v .opn (flat putC l)) (.cells v .opn (flat putC l')) := ⟨rfl, rfl, Nat.le_refl _, fun _ h => h, fun e => by cases e⟩
    have hput : (putRowK encP 2 (Sort.ahead w n) (E.m i) 0 d').heap[E.m i]? = some (.cells (putCells id 0 (Go.Sort.flatK encP 2 d') c) e0 fz) := by
      show ((Sort.ahead w n).heap.modify (E.m i) _)[E.m i]? = _
      rw [Array.getElem?_modify, if_pos rfl]
      show Option.map _ w.heap[E.m i]? = _
      rw [hb]; rfl
    have hcl : (putCells id 0 (Go.Sort.flatK encP 2 d') c).size = c.size := by simp [putCells]
    have hs2 : (Go.Sort.flatK encP 2 d').size ≤ c.size := by rw [hFs]; omega
    obtain ⟨g1, g2⟩ := rel_put (w' := putRowK encP 2 (Sort.ahead w n) (E.m i) 0 d') hw hS hi f (by show ((Sort.ahead w n).heap.modify _ _).size = _; rw [Array.size_modify]; rfl)
      (fun k hk => by show ((Sort.ahead w n).heap.modify _ _)[k]? = _; rw [Array.getElem?_modify, if_neg (Ne.symm hk)]; rfl) rfl rfl rfl (fun x => by
        refine ⟨_, e0, fz, hput, by rw [hcl]; exact hsz, ?_, by rw [hcl, hfl']; omega, (by nofun), fun _ => by rw [hcl]; exact hfz⟩
        rw [putCells_zero _ _ hs2, hfl', ← hFs, ← Array.length_toList, List.take_left, hF]
        exact rel_puts l')
    have hb : RowKit.Below (putRowK encP 2 (Sort.ahead w n) (E.m i) 0 d').heap.size (putRowK encP 2 (Sort.ahead w n) (E.m i) 0 d') (Go.Proofs.sortWorldK encP 2 w (E.m i) 0 n d' os) :=
      ⟨rfl, rfl, rfl, by unfold Go.Proofs.sortWorldK; rw [size_grow]; omega, fun k hk => by
        unfold Go.Proofs.sortWorldK grow
        show (_ ++ os)[k]? = _
        rw [Array.getElem?_append_left hk]⟩
    obtain ⟨g3, g4⟩ := below_ok g1 hb
    exact ⟨_, _, rfl, by simp only [RelG]; exact ⟨[], rfl, by simp only [RelGL]⟩, g3, rfl, g2.trans g4⟩
  · obtain ⟨y, ys, rfl, hx, ⟨z, zs, rfl, hf, rfl⟩⟩ := hvs
    simp only [RelG] at hx
    subst hx
    exact none_case _ _ _
end Go.Abs
