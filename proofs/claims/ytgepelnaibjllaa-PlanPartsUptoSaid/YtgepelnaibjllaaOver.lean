/- One text of these: Over0, OverW1, OverP1, OverP2, OverP3, OverP4, OverP5, OverP6, OverP7. -/
import Derived.Test.YtgepelnaibjllaaAbsG
import Derived.Test.YtgepelnaibjllaaAbsE

/- Sheets: blocks by places. -/
namespace Go.Sh
open Go Go.Abs

abbrev S_slices_SortFunc_api_Put_api_Put : Abs.Spec := S_sortPuts 23
theorem putC_len (p : PutV) : (putC p).length = 2 := rfl
theorem putC_cell (p : PutV) : (putC p).all AVal.isCell = true := rfl
def dropL (l : List PutV) (a : Int) : List PutV := l.filter fun p => decide (p.1 ≠ a)
def insL (l : List PutV) (p : PutV) : List PutV := l.takeWhile (fun q => decide (q.1 < p.1)) ++ p :: l.dropWhile (fun q => decide (q.1 < p.1))
def setL (l : List PutV) (p : PutV) : List PutV := insL (dropL l p.1) p
def getL (l : List PutV) (a : Int) : Option (List UInt8) := (l.find? fun p => decide (p.1 = a)).map (·.2)
def apartP (a b : PutV) : Prop := a.1 ≠ b.1
abbrev Rising (l : List PutV) : Prop := l.Pairwise rising
theorem Rising.apart {l : List PutV} (h : Rising l) : l.Pairwise apartP := h.imp fun {a b} (h : a.1 < b.1) => (by unfold apartP; omega)
theorem apart_perm {l k : List PutV} (p : l.Perm k) (h : l.Pairwise apartP) : k.Pairwise apartP := (p.pairwise_iff (R := apartP) (fun {_ _} h => Ne.symm h)).1 h
theorem rise_drop {l : List PutV} (h : Rising l) (a : Int) : Rising (dropL l a) := h.filter _
theorem rise_ins : ∀ {l : List PutV} {p : PutV}, Rising l → (∀ q ∈ l, q.1 ≠ p.1) → Rising (insL l p)
  | [], p, _, _ => by simp [insL]
  | q :: l, p, h, hn => by
    obtain ⟨h1, h2⟩ := List.pairwise_cons.1 h
    unfold insL
    by_cases hq : q.1 < p.1
    · rw [List.takeWhile_cons_of_pos (by simpa using hq), List.dropWhile_cons_of_pos (by simpa using hq)]
      have ih := rise_ins (p := p) h2 fun x hx => hn x (List.mem_cons_of_mem _ hx)
      unfold insL at ih
      refine List.pairwise_cons.2 ⟨fun x hx => ?_, ih⟩
      rcases List.mem_append.1 hx with hx | hx
      · exact h1 x ((List.takeWhile_sublist _).mem hx)
      · rcases List.mem_cons.1 hx with rfl | hx
        · exact hq
        · exact h1 x ((List.dropWhile_sublist _).mem hx)
    · rw [List.takeWhile_cons_of_neg (by simpa using hq), List.dropWhile_cons_of_neg (by simpa using hq)]
      have hpq : p.1 < q.1 := by have := hn q List.mem_cons_self; omega
      refine List.pairwise_cons.2 ⟨fun x hx => ?_, h⟩
      rcases List.mem_cons.1 hx with rfl | hx
      · exact hpq
      · have : q.1 < x.1 := h1 x hx
        show p.1 < x.1
        omega
theorem drop_no (l : List PutV) (a : Int) : ∀ q ∈ dropL l a, q.1 ≠ a := fun q hq => by
  have := (List.mem_filter.1 hq).2
  simpa using this
theorem rise_set {l : List PutV} (h : Rising l) (p : PutV) : Rising (setL l p) := rise_ins (rise_drop h p.1) (drop_no l p.1)
theorem ins_perm (l : List PutV) (p : PutV) : (insL l p).Perm (p :: l) := by
  unfold insL
  refine List.perm_middle.trans ?_
  rw [List.takeWhile_append_dropWhile]
theorem set_perm (l : List PutV) (p : PutV) : (setL l p).Perm (p :: dropL l p.1) := ins_perm _ _
theorem drop_perm {l k : List PutV} (h : l.Perm k) (a : Int) : (dropL l a).Perm (dropL k a) := h.filter _
theorem drop_none {l : List PutV} {a : Int} (h : ∀ p ∈ l, p.1 ≠ a) : dropL l a = l := List.filter_eq_self.2 fun p hp => by simpa using h p hp
theorem drop_at : ∀ {l : List PutV} {j : Nat} {p : PutV}, l.Pairwise apartP → l[j]? = some p → dropL l p.1 = l.eraseIdx j
  | [], _, _, _, h => by simp at h
  | q :: l, 0, p, h, hj => by
    simp at hj; subst hj
    obtain ⟨h1, _⟩ := List.pairwise_cons.1 h
    rw [List.eraseIdx_cons_zero]
    unfold dropL
    rw [List.filter_cons_of_neg (by simp)]
    exact drop_none fun x hx => Ne.symm (h1 x hx)
  | q :: l, j + 1, p, h, hj => by
    simp at hj
    obtain ⟨h1, h2⟩ := List.pairwise_cons.1 h
    have hne : q.1 ≠ p.1 := h1 p (List.mem_of_getElem? hj)
    rw [List.eraseIdx_cons_succ, ← drop_at h2 hj]
    unfold dropL
    rw [List.filter_cons_of_pos (by simpa using hne)]
theorem set_erase {l : List PutV} {j : Nat} (h : j < l.length) (p : PutV) : (l.set j p).Perm (p :: l.eraseIdx j) := by
  induction l generalizing j with
  | nil => simp at h
  | cons q l ih =>
    cases j with
    | zero => simp
    | succ j =>
      simp only [List.set_cons_succ, List.eraseIdx_cons_succ]
      exact ((ih (by simpa using h)).cons q).trans (List.Perm.swap _ _ _)
theorem getL_none {l : List PutV} {a : Int} (h : ∀ p ∈ l, p.1 ≠ a) : getL l a = none := by
  unfold getL
  rw [List.find?_eq_none.2 (fun p hp => by simpa using h p hp)]
  rfl
theorem getL_some {l : List PutV} {p : PutV} (h : l.Pairwise apartP) (hp : p ∈ l) : getL l p.1 = some p.2 := by
  unfold getL
  induction l with
  | nil => cases hp
  | cons q l ih =>
    obtain ⟨h1, h2⟩ := List.pairwise_cons.1 h
    rcases List.mem_cons.1 hp with rfl | hp
    · rw [List.find?_cons_of_pos (by simp)]; rfl
    · rw [List.find?_cons_of_neg (by have := h1 p hp; unfold apartP at this; simpa using this)]
      exact ih h2 hp
/-- A map's entries. -/
def ments (l : List PutV) : List (AVal × AVal) := l.map fun p => (.int .i64 p.1, .str p.2)
theorem ments_len (l : List PutV) : (ments l).length = l.length := by simp [ments]
theorem erase_map {α β : Type} (f : α → β) : ∀ (l : List α) (j : Nat), (l.map f).eraseIdx j = (l.eraseIdx j).map f
  | [], _ => rfl
  | _ :: _, 0 => rfl
  | x :: l, j + 1 => by simp only [List.map_cons, List.eraseIdx_cons_succ, erase_map f l j]
theorem find_at (a : Int) : ∀ (es : List PutV) (i : Nat), (∃ j p, es[j]? = some p ∧ p.1 = a ∧ findKey (.int .i64) (.int .i64 a) (ments es) i = some (some (i + j, .str p.2))) ∨
    ((∀ p ∈ es, p.1 ≠ a) ∧ findKey (.int .i64) (.int .i64 a) (ments es) i = some none)
  | [], i => .inr ⟨fun _ h => (by cases h), rfl⟩
  | q :: es, i => by
    have hk : keyEq (.int .i64) (.int .i64 a) (.int .i64 q.1) = some (a == q.1) := rfl
    by_cases h : q.1 = a
    · left
      refine ⟨0, q, rfl, h, ?_⟩
      have : (a == q.1) = true := by simp [h]
      simp only [ments, List.map_cons, findKey, hk, this, Nat.add_zero]
    · have : (a == q.1) = false := by simp; omega
      rcases find_at a es (i + 1) with ⟨j, p, h1, h2, h3⟩ | ⟨h1, h2⟩
      · left
        refine ⟨j + 1, p, by simpa using h1, h2, ?_⟩
        simp only [ments, List.map_cons, findKey, hk, this] at h3 ⊢
        rw [h3, show i + 1 + j = i + (j + 1) by omega]
      · right
        refine ⟨fun p hp => ?_, ?_⟩
        · rcases List.mem_cons.1 hp with rfl | hp
          · exact h
          · exact h1 p hp
        · simp only [ments, List.map_cons, findKey, hk, this] at h2 ⊢
          exact h2
section
variable {H : AHeap} {m w : Nat} {es l : List PutV} {a : Int}
theorem map_look (hm : H[m]? = some (.map w (ments es))) (hr : Rising l) (hp : l.Perm es) :
    aLookup H (.int .i64) (.str []) true (.map m) (.int .i64 a) = some (.tup [.str ((getL l a).getD []), .bool (getL l a).isSome]) := by
  have hk : keyOk (.int .i64) (.int .i64 a) = true := rfl
  simp only [aLookup, hk, cond_true, hm]
  rcases find_at a es 0 with ⟨j, p, h1, h2, h3⟩ | ⟨h1, h2⟩
  · rw [h3]
    subst h2
    rw [getL_some hr.apart (hp.mem_iff.2 (List.mem_of_getElem? h1))]
    rfl
  · rw [h2, getL_none fun p h => h1 p (hp.mem_iff.1 h)]
    rfl
theorem map_put (hm : H[m]? = some (.map w (ments es))) (hr : Rising l) (hp : l.Perm es) (s : List UInt8) :
    ∃ es', aMapUpdate H (.int .i64) (.map m) (.int .i64 a) (.str s) = some (H.set m (.map (w + 1) (ments es'))) ∧ (setL l (a, s)).Perm es' := by
  have hk : keyOk (.int .i64) (.int .i64 a) = true := rfl
  simp only [aMapUpdate, hk, cond_true, hm]
  have h0 : (setL l (a, s)).Perm ((a, s) :: dropL es a) := (set_perm l (a, s)).trans ((drop_perm hp a).cons _)
  rcases find_at a es 0 with ⟨j, p, h1, h2, h3⟩ | ⟨h1, h2⟩
  · rw [h3]
    subst h2
    refine ⟨es.set j (p.1, s), ?_, ?_⟩
    · simp only [Nat.zero_add]
      rw [show (ments es).set j (.int .i64 p.1, .str s) = ments (es.set j (p.1, s)) by simp [ments, List.map_set]]
    · rw [drop_at (apart_perm hp hr.apart) h1] at h0
      exact h0.trans (set_erase (List.getElem?_eq_some_iff.1 h1).1 _).symm
  · rw [h2]
    refine ⟨es ++ [(a, s)], by simp [ments], ?_⟩
    rw [drop_none h1] at h0
    refine h0.trans ?_
    have := (List.perm_middle (a := ((a, s) : PutV)) (l₁ := es) (l₂ := [])).symm
    simpa using this
theorem map_del (hm : H[m]? = some (.map w (ments es))) (hr : Rising l) (hp : l.Perm es) :
    ∃ es', aDelete H (.int .i64) (.map m) (.int .i64 a) = some (.tup [], H.set m (.map (w + 1) (ments es'))) ∧ (dropL l a).Perm es' := by
  have hk : keyOk (.int .i64) (.int .i64 a) = true := rfl
  simp only [aDelete, hk, cond_true, hm]
  have h0 : (dropL l a).Perm (dropL es a) := drop_perm hp a
  rcases find_at a es 0 with ⟨j, p, h1, h2, h3⟩ | ⟨h1, h2⟩
  · rw [h3]
    subst h2
    refine ⟨es.eraseIdx j, ?_, ?_⟩
    · simp only [Nat.zero_add]
      rw [show (ments es).eraseIdx j = ments (es.eraseIdx j) from erase_map _ _ _]
    · rwa [drop_at (apart_perm hp hr.apart) h1] at h0
  · rw [h2]
    exact ⟨es, rfl, by rwa [drop_none h1] at h0⟩
end
/-- A sheet of these blocks. -/
def shOk (i m : Nat) (l : List PutV) (B : AHeap) : Prop := i ≠ m ∧ Rising l ∧ B[i]? = some (.cells 0 .exact [.map m]) ∧ ∃ w es, B[m]? = some (.map w (ments es)) ∧ l.Perm es
def sheetP (i m : Nat) (l : List PutV) : Part where
  ids := [i, m]
  ok := shOk i m l
  loc B C h k := by
    obtain ⟨h1, h2, h3, w, es, h4, h5⟩ := k
    exact ⟨h1, h2, by rw [h i (by simp)]; exact h3, w, es, by rw [h m (by simp)]; exact h4, h5⟩
  live B h j hj := by
    obtain ⟨h1, h2, h3, w, es, h4, h5⟩ := h
    simp at hj
    rcases hj with rfl | rfl
    · exact lt_of_some h3
    · exact lt_of_some h4
/-- What is read alone: lists of blocks. -/
def vwsP (vs : List (AVal × List PutV)) : Part where
  ids := vs.flatMap fun p => (slId p.1).toList
  ok B := ∀ p ∈ vs, View B p.1 2 p.2.length (flat putC p.2)
  loc B C h k p hp := by
    obtain ⟨h1, h2⟩ := k p hp
    refine ⟨h1, ?_⟩
    rcases h2 with h2 | ⟨i, v, off, cp, kd, cs', e, h3, h4⟩
    · exact .inl h2
    · refine .inr ⟨i, v, off, cp, kd, cs', e, ?_, h4⟩
      rw [h i (List.mem_flatMap.2 ⟨p, hp, by rw [e]; simp [slId]⟩)]; exact h3
  live B h i hi := by
    obtain ⟨p, hp, hi⟩ := List.mem_flatMap.1 hi
    obtain ⟨h1, h2⟩ := h p hp
    rcases h2 with ⟨e, _⟩ | ⟨i', v, off, cp, kd, cs', e, h3, h4⟩
    · rw [e] at hi; simp [slId] at hi
    · rw [e] at hi; simp [slId] at hi; subst hi; exact lt_of_some h3
def S_over_Sheet_Puts : Abs.Spec := fun args H r H' => (args = [.nilp] ∧ r = .nils ∧ H' = H) ∨ ∃ i m l, args = [.ptr ⟨i, 0, 0⟩] ∧ shOk i m l H ∧ l.length * 24 ≤ room ∧
  ((l = [] ∧ r = .nils ∧ H' = H) ∨ (l ≠ [] ∧ r = .slice ⟨H.length, 0, 0⟩ l.length (.op 2) ∧ H' = H ++ [.cells 0 .opn (flat putC l)]))
theorem over_Sheet_Puts.quiet {args : List AVal} {H : AHeap} {r : AVal} {H' : AHeap} (h : S_over_Sheet_Puts args H r H') : H <+: H' := by
  rcases h with ⟨_, _, rfl⟩ | ⟨i, m, l, _, _, _, ⟨_, _, rfl⟩ | ⟨_, _, rfl⟩⟩
  · exact List.prefix_refl _
  · exact List.prefix_refl _
  · exact pre_app _ _
end Go.Sh

/- What Go functions come to over abstract values, printed by a program (wx.py); of each function its own text is what is told of it. -/
namespace Go.Sh
open Go Go.Abs

def over_Sheet_Puts.L5.b (v6 : AVal) (x3_5 : AVal) (H8 : AHeap) (Kn9 : List AVal → AHeap → Prop) (Ke10 : AExit → List AVal → AHeap → Prop) : Prop :=
  nxP v6 H8 fun v11 b12 H13 =>
  isB (.bool b12) fun b14 => cond b14
    (vb (aEntry H13 v6) fun v15 =>
    vb (aExtract v15 0) fun v16 =>
    vb (aExtract v15 1) fun v17 =>
    vb (aBuild [.int .i64 0, .str []] (fun k => ([(0, 1), (1, 1)] : List (Nat × Nat))[k]?) [(0, v16), (1, v17)]) fun v18 =>
    hb (aBuildSlice H13 2 [.int .i64 0, .str []] 1 [(0, v18)]) fun v19 H20 =>
    hb (aAppendS H20 2 24 x3_5 v19) fun v21 H22 =>
    Kn9 [v21] H22)
    (Ke10 (.exit 0) [x3_5] H13)

def over_Sheet_Puts.L5 (v6 : AVal) : Body := fun vs H Kn Ke => over_Sheet_Puts.L5.b v6 (vs.getD 0 .undef) H Kn Ke

def over_Sheet_Puts.w (x0 : AVal) (H : AHeap) (K : AVal → AHeap → Prop) : Prop :=
  vb (aEql false .ptr H x0 .nilp) fun v1 =>
  isB v1 fun b2 => cond b2
    (fin .ret [.v (.nils)] H K)
    (vb (aNilCheck x0) fun v3 =>
    vb (aFieldAddr 0 v3) fun v4 =>
    vb (aLoad H false 1 v4) fun v5 =>
    hb (aRangeMap H v5) fun v6 H7 =>
    LoopP (over_Sheet_Puts.L5 v6) [.nils] H7 fun e23 vs24 H25 =>
      onE e23 (.exit 0)
        (cb (S_slices_SortFunc_api_Put_api_Put [vs24.getD 0 .undef, .func (.func 23) [] []] H25) fun v26 H27 =>
        fin .ret [.v (vs24.getD 0 .undef)] H27 K)
      (False))

def over_New.w (H : AHeap) (K : AVal → AHeap → Prop) : Prop :=
  hb (aMakeMap H) fun v1 H2 =>
  vb (aBuild [.nilm] (fun k => ([(0, 1)] : List (Nat × Nat))[k]?) [(0, v1)]) fun v3 =>
  hb (aBox H2 v3) fun v4 H5 =>
  fin .ret [.v (v4)] H5 K

def S_over_New : Abs.Spec := fun args H r H' => args = [] ∧ (over_New.w H fun r1 H1 => r1 = r ∧ H1 = H') ∧ H <+: H'
theorem over_New.ok (args : List AVal) (H : AHeap) (r : AVal) (H' : AHeap) (h : S_over_New args H r H') : args = [] ∧ over_New.w H fun r1 H1 => r1 = r ∧ H1 = H' := by
  obtain ⟨h1, h2, _⟩ := h
  exact ⟨h1, h2⟩
theorem over_New.quiet {args : List AVal} {H : AHeap} {r : AVal} {H' : AHeap} (h : S_over_New args H r H') : H <+: H' := by
  obtain ⟨_, _, h⟩ := h
  exact h
set_option maxRecDepth 100000 in
theorem over_New.ex (H : AHeap) : Ex fun K : AVal × AHeap → Prop => over_New.w H fun r H => K (r, H) := by
  unfold over_New.w
  repeat with_reducible first
    | exact Ex.pt _
    | exact Ex.fin
    | exact Ex.no
    | refine Ex.vb fun _ => ?_
    | refine Ex.hb fun _ _ => ?_
    | refine Ex.sb fun _ => ?_
    | refine Ex.cb fun _ _ => ?_
    | refine Ex.isB fun _ => ?_
    | refine Ex.cond ?_ ?_
    | refine Ex.onE ?_ ?_
    | refine Ex.join ?_ fun _ _ _ => ?_
    | refine Ex.loop (fun _ _ => ?_) fun _ _ _ => ?_

theorem over_New.out {H : AHeap} {Q : AVal → AHeap → Prop} (h : over_New.w H fun r H' => H <+: H' ∧ Q r H') : ∃ r H', S_over_New [] H r H' ∧ Q r H' := by
  obtain ⟨r, H', h1, h2⟩ := (over_New.ex H).out h
  exact ⟨r, H', ⟨rfl, h1, h2.1⟩, h2.2⟩

def over_Sheet_Set.w (x0 : AVal) (x1 : AVal) (x2 : AVal) (H : AHeap) (K : AVal → AHeap → Prop) : Prop :=
  vb (aEql false .ptr H x0 .nilp) fun v1 =>
  isB v1 fun b2 => cond b2
    (fin .ret [.v (.bool false)] H K)
    (JoinP (fun Kj3 => vb (aNilCheck x0) fun v4 =>
      vb (aFieldAddr 0 v4) fun v5 =>
      vb (aLoad H false 1 v5) fun v6 =>
      vb (aEql false .map H v6 .nilm) fun v7 =>
      isB v7 fun b8 => cond b8
        (hb (aMakeMap H) fun v9 H10 =>
        vb (aNilCheck x0) fun v11 =>
        vb (aFieldAddr 0 v11) fun v12 =>
        sb (aStore H10 1 v12 v9) fun H13 =>
        Kj3 .normal [] H13)
        (Kj3 .normal [] H))
    (fun e14 vs15 H16 =>
      onE e14 .normal
        (vb (aNilCheck x0) fun v17 =>
        vb (aFieldAddr 0 v17) fun v18 =>
        vb (aLoad H16 false 1 v18) fun v19 =>
        sb (aMapUpdate H16 (.int .i64) v19 x1 x2) fun H20 =>
        fin .ret [.v (.bool true)] H20 K)
      (False)))

def S_over_Sheet_Set : Abs.Spec := fun args H r H' => ∃ x0 x1 x2 : AVal, args = [x0, x1, x2] ∧ (over_Sheet_Set.w x0 x1 x2 H fun r1 H1 => r1 = r ∧ H1 = H')
theorem over_Sheet_Set.ok (args : List AVal) (H : AHeap) (r : AVal) (H' : AHeap) (h : S_over_Sheet_Set args H r H') : ∃ x0 x1 x2 : AVal, args = [x0, x1, x2] ∧ over_Sheet_Set.w x0 x1 x2 H fun r1 H1 => r1 = r ∧ H1 = H' := by
  obtain ⟨x0, x1, x2, h1, h2⟩ := h
  exact ⟨x0, x1, x2, h1, h2⟩
set_option maxRecDepth 100000 in
theorem over_Sheet_Set.ex (x0 x1 x2 : AVal) (H : AHeap) : Ex fun K : AVal × AHeap → Prop => over_Sheet_Set.w x0 x1 x2 H fun r H => K (r, H) := by
  unfold over_Sheet_Set.w
  repeat with_reducible first
    | exact Ex.pt _
    | exact Ex.fin
    | exact Ex.no
    | refine Ex.vb fun _ => ?_
    | refine Ex.hb fun _ _ => ?_
    | refine Ex.sb fun _ => ?_
    | refine Ex.cb fun _ _ => ?_
    | refine Ex.isB fun _ => ?_
    | refine Ex.cond ?_ ?_
    | refine Ex.onE ?_ ?_
    | refine Ex.join ?_ fun _ _ _ => ?_
    | refine Ex.loop (fun _ _ => ?_) fun _ _ _ => ?_

theorem over_Sheet_Set.out {x0 x1 x2 : AVal} {H : AHeap} {Q : AVal → AHeap → Prop} (h : over_Sheet_Set.w x0 x1 x2 H fun r H' => Q r H') : ∃ r H', S_over_Sheet_Set [x0, x1, x2] H r H' ∧ Q r H' := by
  obtain ⟨r, H', h1, h2⟩ := (over_Sheet_Set.ex x0 x1 x2 H).out h
  exact ⟨r, H', ⟨_, _, _, rfl, h1⟩, h2⟩

def over_Sheet_Get.w (x0 : AVal) (x1 : AVal) (H : AHeap) (K : AVal → AHeap → Prop) : Prop :=
  vb (aEql false .ptr H x0 .nilp) fun v1 =>
  isB v1 fun b2 => cond b2
    (fin .ret [.v (.str []), .v (.bool false)] H K)
    (vb (aNilCheck x0) fun v3 =>
    vb (aFieldAddr 0 v3) fun v4 =>
    vb (aLoad H false 1 v4) fun v5 =>
    vb (aLookup H (.int .i64) (.str []) true v5 x1) fun v6 =>
    vb (aExtract v6 0) fun v7 =>
    vb (aExtract v6 1) fun v8 =>
    fin .ret [.v (v7), .v (v8)] H K)

def S_over_Sheet_Get : Abs.Spec := fun args H r H' => ∃ x0 x1 : AVal, args = [x0, x1] ∧ (over_Sheet_Get.w x0 x1 H fun r1 H1 => r1 = r ∧ H1 = H') ∧ H <+: H'
theorem over_Sheet_Get.ok (args : List AVal) (H : AHeap) (r : AVal) (H' : AHeap) (h : S_over_Sheet_Get args H r H') : ∃ x0 x1 : AVal, args = [x0, x1] ∧ over_Sheet_Get.w x0 x1 H fun r1 H1 => r1 = r ∧ H1 = H' := by
  obtain ⟨x0, x1, h1, h2, _⟩ := h
  exact ⟨x0, x1, h1, h2⟩
theorem over_Sheet_Get.quiet {args : List AVal} {H : AHeap} {r : AVal} {H' : AHeap} (h : S_over_Sheet_Get args H r H') : H <+: H' := by
  obtain ⟨_, _, _, _, h⟩ := h
  exact h
set_option maxRecDepth 100000 in
theorem over_Sheet_Get.ex (x0 x1 : AVal) (H : AHeap) : Ex fun K : AVal × AHeap → Prop => over_Sheet_Get.w x0 x1 H fun r H => K (r, H) := by
  unfold over_Sheet_Get.w
  repeat with_reducible first
    | exact Ex.pt _
    | exact Ex.fin
    | exact Ex.no
    | refine Ex.vb fun _ => ?_
    | refine Ex.hb fun _ _ => ?_
    | refine Ex.sb fun _ => ?_
    | refine Ex.cb fun _ _ => ?_
    | refine Ex.isB fun _ => ?_
    | refine Ex.cond ?_ ?_
    | refine Ex.onE ?_ ?_
    | refine Ex.join ?_ fun _ _ _ => ?_
    | refine Ex.loop (fun _ _ => ?_) fun _ _ _ => ?_

theorem over_Sheet_Get.out {x0 x1 : AVal} {H : AHeap} {Q : AVal → AHeap → Prop} (h : over_Sheet_Get.w x0 x1 H fun r H' => H <+: H' ∧ Q r H') : ∃ r H', S_over_Sheet_Get [x0, x1] H r H' ∧ Q r H' := by
  obtain ⟨r, H', h1, h2⟩ := (over_Sheet_Get.ex x0 x1 H).out h
  exact ⟨r, H', ⟨_, _, rfl, h1, h2.1⟩, h2.2⟩

def over_Sheet_Drop.w (x0 : AVal) (x1 : AVal) (H : AHeap) (K : AVal → AHeap → Prop) : Prop :=
  cb (S_over_Sheet_Get [x0, x1] H) fun v1 H2 =>
  vb (aExtract v1 0) fun v3 =>
  vb (aExtract v1 1) fun v4 =>
  JoinP (fun Kj5 => isB v4 fun b6 => cond b6
      (vb (aNilCheck x0) fun v7 =>
      vb (aFieldAddr 0 v7) fun v8 =>
      vb (aLoad H2 false 1 v8) fun v9 =>
      hb (aDelete H2 (.int .i64) v9 x1) fun v10 H11 =>
      Kj5 .normal [] H11)
      (Kj5 .normal [] H2))
  (fun e12 vs13 H14 =>
    onE e12 .normal
      (fin .ret [.v (v4)] H14 K)
    (False))

def S_over_Sheet_Drop : Abs.Spec := fun args H r H' => ∃ x0 x1 : AVal, args = [x0, x1] ∧ (over_Sheet_Drop.w x0 x1 H fun r1 H1 => r1 = r ∧ H1 = H')
theorem over_Sheet_Drop.ok (args : List AVal) (H : AHeap) (r : AVal) (H' : AHeap) (h : S_over_Sheet_Drop args H r H') : ∃ x0 x1 : AVal, args = [x0, x1] ∧ over_Sheet_Drop.w x0 x1 H fun r1 H1 => r1 = r ∧ H1 = H' := by
  obtain ⟨x0, x1, h1, h2⟩ := h
  exact ⟨x0, x1, h1, h2⟩
set_option maxRecDepth 100000 in
theorem over_Sheet_Drop.ex (x0 x1 : AVal) (H : AHeap) : Ex fun K : AVal × AHeap → Prop => over_Sheet_Drop.w x0 x1 H fun r H => K (r, H) := by
  unfold over_Sheet_Drop.w
  repeat with_reducible first
    | exact Ex.pt _
    | exact Ex.fin
    | exact Ex.no
    | refine Ex.vb fun _ => ?_
    | refine Ex.hb fun _ _ => ?_
    | refine Ex.sb fun _ => ?_
    | refine Ex.cb fun _ _ => ?_
    | refine Ex.isB fun _ => ?_
    | refine Ex.cond ?_ ?_
    | refine Ex.onE ?_ ?_
    | refine Ex.join ?_ fun _ _ _ => ?_
    | refine Ex.loop (fun _ _ => ?_) fun _ _ _ => ?_

theorem over_Sheet_Drop.out {x0 x1 : AVal} {H : AHeap} {Q : AVal → AHeap → Prop} (h : over_Sheet_Drop.w x0 x1 H fun r H' => Q r H') : ∃ r H', S_over_Sheet_Drop [x0, x1] H r H' ∧ Q r H' := by
  obtain ⟨r, H', h1, h2⟩ := (over_Sheet_Drop.ex x0 x1 H).out h
  exact ⟨r, H', ⟨_, _, rfl, h1⟩, h2⟩

def over_Sheet_Len.w (x0 : AVal) (H : AHeap) (K : AVal → AHeap → Prop) : Prop :=
  vb (aEql false .ptr H x0 .nilp) fun v1 =>
  isB v1 fun b2 => cond b2
    (fin .ret [.v (.int .i64 0)] H K)
    (vb (aNilCheck x0) fun v3 =>
    vb (aFieldAddr 0 v3) fun v4 =>
    vb (aLoad H false 1 v4) fun v5 =>
    vb (lenMp H v5) fun v6 =>
    fin .ret [.v (v6)] H K)

def S_over_Sheet_Len : Abs.Spec := fun args H r H' => ∃ x0 : AVal, args = [x0] ∧ (over_Sheet_Len.w x0 H fun r1 H1 => r1 = r ∧ H1 = H') ∧ H <+: H'
theorem over_Sheet_Len.ok (args : List AVal) (H : AHeap) (r : AVal) (H' : AHeap) (h : S_over_Sheet_Len args H r H') : ∃ x0 : AVal, args = [x0] ∧ over_Sheet_Len.w x0 H fun r1 H1 => r1 = r ∧ H1 = H' := by
  obtain ⟨x0, h1, h2, _⟩ := h
  exact ⟨x0, h1, h2⟩
theorem over_Sheet_Len.quiet {args : List AVal} {H : AHeap} {r : AVal} {H' : AHeap} (h : S_over_Sheet_Len args H r H') : H <+: H' := by
  obtain ⟨_, _, _, h⟩ := h
  exact h
set_option maxRecDepth 100000 in
theorem over_Sheet_Len.ex (x0 : AVal) (H : AHeap) : Ex fun K : AVal × AHeap → Prop => over_Sheet_Len.w x0 H fun r H => K (r, H) := by
  unfold over_Sheet_Len.w
  repeat with_reducible first
    | exact Ex.pt _
    | exact Ex.fin
    | exact Ex.no
    | refine Ex.vb fun _ => ?_
    | refine Ex.hb fun _ _ => ?_
    | refine Ex.sb fun _ => ?_
    | refine Ex.cb fun _ _ => ?_
    | refine Ex.isB fun _ => ?_
    | refine Ex.cond ?_ ?_
    | refine Ex.onE ?_ ?_
    | refine Ex.join ?_ fun _ _ _ => ?_
    | refine Ex.loop (fun _ _ => ?_) fun _ _ _ => ?_

theorem over_Sheet_Len.out {x0 : AVal} {H : AHeap} {Q : AVal → AHeap → Prop} (h : over_Sheet_Len.w x0 H fun r H' => H <+: H' ∧ Q r H') : ∃ r H', S_over_Sheet_Len [x0] H r H' ∧ Q r H' := by
  obtain ⟨r, H', h1, h2⟩ := (over_Sheet_Len.ex x0 H).out h
  exact ⟨r, H', ⟨_, rfl, h1, h2.1⟩, h2.2⟩

def over_Sheet_Clear.w (x0 : AVal) (H : AHeap) (K : AVal → AHeap → Prop) : Prop :=
  vb (aEql true .ptr H x0 .nilp) fun v1 =>
  isB v1 fun b2 => cond b2
    (hb (aMakeMap H) fun v3 H4 =>
    vb (aNilCheck x0) fun v5 =>
    vb (aFieldAddr 0 v5) fun v6 =>
    sb (aStore H4 1 v6 v3) fun H7 =>
    fin .normal [] H7 K)
    (fin .normal [] H K)

def S_over_Sheet_Clear : Abs.Spec := fun args H r H' => ∃ x0 : AVal, args = [x0] ∧ (over_Sheet_Clear.w x0 H fun r1 H1 => r1 = r ∧ H1 = H')
theorem over_Sheet_Clear.ok (args : List AVal) (H : AHeap) (r : AVal) (H' : AHeap) (h : S_over_Sheet_Clear args H r H') : ∃ x0 : AVal, args = [x0] ∧ over_Sheet_Clear.w x0 H fun r1 H1 => r1 = r ∧ H1 = H' := by
  obtain ⟨x0, h1, h2⟩ := h
  exact ⟨x0, h1, h2⟩
set_option maxRecDepth 100000 in
theorem over_Sheet_Clear.ex (x0 : AVal) (H : AHeap) : Ex fun K : AVal × AHeap → Prop => over_Sheet_Clear.w x0 H fun r H => K (r, H) := by
  unfold over_Sheet_Clear.w
  repeat with_reducible first
    | exact Ex.pt _
    | exact Ex.fin
    | exact Ex.no
    | refine Ex.vb fun _ => ?_
    | refine Ex.hb fun _ _ => ?_
    | refine Ex.sb fun _ => ?_
    | refine Ex.cb fun _ _ => ?_
    | refine Ex.isB fun _ => ?_
    | refine Ex.cond ?_ ?_
    | refine Ex.onE ?_ ?_
    | refine Ex.join ?_ fun _ _ _ => ?_
    | refine Ex.loop (fun _ _ => ?_) fun _ _ _ => ?_

theorem over_Sheet_Clear.out {x0 : AVal} {H : AHeap} {Q : AVal → AHeap → Prop} (h : over_Sheet_Clear.w x0 H fun r H' => Q r H') : ∃ r H', S_over_Sheet_Clear [x0] H r H' ∧ Q r H' := by
  obtain ⟨r, H', h1, h2⟩ := (over_Sheet_Clear.ex x0 H).out h
  exact ⟨r, H', ⟨_, rfl, h1⟩, h2⟩

def over_Sheet_Copy.L3.b (v5 : AVal) (v3 : AVal) (v1 : AVal) (x10_3 : AVal) (H6 : AHeap) (Kn7 : List AVal → AHeap → Prop) (Ke8 : AExit → List AVal → AHeap → Prop) : Prop :=
  vb (aBin .lss x10_3 v5) fun v9 =>
  isB v9 fun b10 => cond b10
    (vb (aIndexAddr 2 v3 x10_3) fun v11 =>
    vb (aLoad H6 true 2 v11) fun v12 =>
    hb (aAlloc H6 [.int .i64 0, .str []]) fun v13 H14 =>
    sb (aStore H14 2 v13 v12) fun H15 =>
    vb (aFieldAddr 0 v13) fun v16 =>
    vb (aLoad H15 false 1 v16) fun v17 =>
    vb (aFieldAddr 1 v13) fun v18 =>
    vb (aLoad H15 false 1 v18) fun v19 =>
    cb (S_over_Sheet_Set [v1, v17, v19] H15) fun v20 H21 =>
    vb (aBin .add x10_3 (.int .i64 1)) fun v22 =>
    Kn7 [v22] H21)
    (Ke8 (.exit 0) [] H6)

def over_Sheet_Copy.L3 (v5 : AVal) (v3 : AVal) (v1 : AVal) : Body := fun vs H Kn Ke => over_Sheet_Copy.L3.b v5 v3 v1 (vs.getD 0 .undef) H Kn Ke

def over_Sheet_Copy.w (x0 : AVal) (H : AHeap) (K : AVal → AHeap → Prop) : Prop :=
  cb (S_over_New [] H) fun v1 H2 =>
  cb (S_over_Sheet_Puts [x0] H2) fun v3 H4 =>
  vb (lenSl v3) fun v5 =>
  LoopP (over_Sheet_Copy.L3 v5 v3 v1) [.int .i64 0] H4 fun e23 vs24 H25 =>
    onE e23 (.exit 0)
      (fin .ret [.v (v1)] H25 K)
    (False)

def S_over_Sheet_Copy : Abs.Spec := fun args H r H' => ∃ x0 : AVal, args = [x0] ∧ (over_Sheet_Copy.w x0 H fun r1 H1 => r1 = r ∧ H1 = H') ∧ H <+: H'
theorem over_Sheet_Copy.ok (args : List AVal) (H : AHeap) (r : AVal) (H' : AHeap) (h : S_over_Sheet_Copy args H r H') : ∃ x0 : AVal, args = [x0] ∧ over_Sheet_Copy.w x0 H fun r1 H1 => r1 = r ∧ H1 = H' := by
  obtain ⟨x0, h1, h2, _⟩ := h
  exact ⟨x0, h1, h2⟩
theorem over_Sheet_Copy.quiet {args : List AVal} {H : AHeap} {r : AVal} {H' : AHeap} (h : S_over_Sheet_Copy args H r H') : H <+: H' := by
  obtain ⟨_, _, _, h⟩ := h
  exact h
set_option maxRecDepth 100000 in
theorem over_Sheet_Copy.ex (x0 : AVal) (H : AHeap) : Ex fun K : AVal × AHeap → Prop => over_Sheet_Copy.w x0 H fun r H => K (r, H) := by
  unfold over_Sheet_Copy.w
  repeat with_reducible first
    | exact Ex.pt _
    | exact Ex.fin
    | exact Ex.no
    | refine Ex.vb fun _ => ?_
    | refine Ex.hb fun _ _ => ?_
    | refine Ex.sb fun _ => ?_
    | refine Ex.cb fun _ _ => ?_
    | refine Ex.isB fun _ => ?_
    | refine Ex.cond ?_ ?_
    | refine Ex.onE ?_ ?_
    | refine Ex.join ?_ fun _ _ _ => ?_
    | refine Ex.loop (fun _ _ => ?_) fun _ _ _ => ?_
    | (unfold over_Sheet_Copy.L3; unfold over_Sheet_Copy.L3.b)

theorem over_Sheet_Copy.out {x0 : AVal} {H : AHeap} {Q : AVal → AHeap → Prop} (h : over_Sheet_Copy.w x0 H fun r H' => H <+: H' ∧ Q r H') : ∃ r H', S_over_Sheet_Copy [x0] H r H' ∧ Q r H' := by
  obtain ⟨r, H', h1, h2⟩ := (over_Sheet_Copy.ex x0 H).out h
  exact ⟨r, H', ⟨_, rfl, h1, h2.1⟩, h2.2⟩

def over_Sheet_Over.L3.b (v5 : AVal) (v3 : AVal) (v1 : AVal) (x13_3 : AVal) (H6 : AHeap) (Kn7 : List AVal → AHeap → Prop) (Ke8 : AExit → List AVal → AHeap → Prop) : Prop :=
  vb (aBin .lss x13_3 v5) fun v9 =>
  isB v9 fun b10 => cond b10
    (vb (aIndexAddr 2 v3 x13_3) fun v11 =>
    vb (aLoad H6 true 2 v11) fun v12 =>
    hb (aAlloc H6 [.int .i64 0, .str []]) fun v13 H14 =>
    sb (aStore H14 2 v13 v12) fun H15 =>
    vb (aFieldAddr 0 v13) fun v16 =>
    vb (aLoad H15 false 1 v16) fun v17 =>
    vb (aFieldAddr 1 v13) fun v18 =>
    vb (aLoad H15 false 1 v18) fun v19 =>
    cb (S_over_Sheet_Set [v1, v17, v19] H15) fun v20 H21 =>
    vb (aBin .add x13_3 (.int .i64 1)) fun v22 =>
    Kn7 [v22] H21)
    (Ke8 (.exit 0) [] H6)

def over_Sheet_Over.L3 (v5 : AVal) (v3 : AVal) (v1 : AVal) : Body := fun vs H Kn Ke => over_Sheet_Over.L3.b v5 v3 v1 (vs.getD 0 .undef) H Kn Ke

def over_Sheet_Over.w (x0 : AVal) (x1 : AVal) (H : AHeap) (K : AVal → AHeap → Prop) : Prop :=
  cb (S_over_Sheet_Copy [x1] H) fun v1 H2 =>
  cb (S_over_Sheet_Puts [x0] H2) fun v3 H4 =>
  vb (lenSl v3) fun v5 =>
  LoopP (over_Sheet_Over.L3 v5 v3 v1) [.int .i64 0] H4 fun e23 vs24 H25 =>
    onE e23 (.exit 0)
      (fin .ret [.v (v1)] H25 K)
    (False)

def S_over_Sheet_Over : Abs.Spec := fun args H r H' => ∃ x0 x1 : AVal, args = [x0, x1] ∧ (over_Sheet_Over.w x0 x1 H fun r1 H1 => r1 = r ∧ H1 = H') ∧ H <+: H'
theorem over_Sheet_Over.ok (args : List AVal) (H : AHeap) (r : AVal) (H' : AHeap) (h : S_over_Sheet_Over args H r H') : ∃ x0 x1 : AVal, args = [x0, x1] ∧ over_Sheet_Over.w x0 x1 H fun r1 H1 => r1 = r ∧ H1 = H' := by
  obtain ⟨x0, x1, h1, h2, _⟩ := h
  exact ⟨x0, x1, h1, h2⟩
theorem over_Sheet_Over.quiet {args : List AVal} {H : AHeap} {r : AVal} {H' : AHeap} (h : S_over_Sheet_Over args H r H') : H <+: H' := by
  obtain ⟨_, _, _, _, h⟩ := h
  exact h
set_option maxRecDepth 100000 in
theorem over_Sheet_Over.ex (x0 x1 : AVal) (H : AHeap) : Ex fun K : AVal × AHeap → Prop => over_Sheet_Over.w x0 x1 H fun r H => K (r, H) := by
  unfold over_Sheet_Over.w
  repeat with_reducible first
    | exact Ex.pt _
    | exact Ex.fin
    | exact Ex.no
    | refine Ex.vb fun _ => ?_
    | refine Ex.hb fun _ _ => ?_
    | refine Ex.sb fun _ => ?_
    | refine Ex.cb fun _ _ => ?_
    | refine Ex.isB fun _ => ?_
    | refine Ex.cond ?_ ?_
    | refine Ex.onE ?_ ?_
    | refine Ex.join ?_ fun _ _ _ => ?_
    | refine Ex.loop (fun _ _ => ?_) fun _ _ _ => ?_
    | (unfold over_Sheet_Over.L3; unfold over_Sheet_Over.L3.b)

theorem over_Sheet_Over.out {x0 x1 : AVal} {H : AHeap} {Q : AVal → AHeap → Prop} (h : over_Sheet_Over.w x0 x1 H fun r H' => H <+: H' ∧ Q r H') : ∃ r H', S_over_Sheet_Over [x0, x1] H r H' ∧ Q r H' := by
  obtain ⟨r, H', h1, h2⟩ := (over_Sheet_Over.ex x0 x1 H).out h
  exact ⟨r, H', ⟨_, _, rfl, h1, h2.1⟩, h2.2⟩

def cellaretref16_At.L2.b (x0 : AVal) (x1 : AVal) (x5_2 : AVal) (H1 : AHeap) (Kn2 : List AVal → AHeap → Prop) (Ke3 : AExit → List AVal → AHeap → Prop) : Prop :=
  vb (lenSl x0) fun v4 =>
  vb (aBin .lss x5_2 v4) fun v5 =>
  isB v5 fun b6 => cond b6
    (vb (aIndexAddr 2 x0 x5_2) fun v7 =>
    vb (aFieldAddr 0 v7) fun v8 =>
    vb (aLoad H1 false 1 v8) fun v9 =>
    vb (aBin .eql v9 x1) fun v10 =>
    isB v10 fun b11 => cond b11
      (Ke3 .ret [x5_2] H1)
      (vb (aBin .add x5_2 (.int .i64 1)) fun v12 =>
      Kn2 [v12] H1))
    (Ke3 (.exit 0) [.undef] H1)

def cellaretref16_At.L2 (x0 : AVal) (x1 : AVal) : Body := fun vs H Kn Ke => cellaretref16_At.L2.b x0 x1 (vs.getD 0 .undef) H Kn Ke

def cellaretref16_At.w (x0 : AVal) (x1 : AVal) (H : AHeap) (K : AVal → AHeap → Prop) : Prop :=
  LoopP (cellaretref16_At.L2 x0 x1) [.int .i64 0] H fun e13 vs14 H15 =>
    onE e13 (.exit 0)
      (fin .ret [.v (.int .i64 (-1))] H15 K)
    (onE e13 .ret
      (fin .ret [.v (vs14.getD 0 .undef)] H15 K)
    (False))

def S_cellaretref16_At : Abs.Spec := fun args H r H' => ∃ x0 x1 : AVal, args = [x0, x1] ∧ (cellaretref16_At.w x0 x1 H fun r1 H1 => r1 = r ∧ H1 = H') ∧ H <+: H'
theorem cellaretref16_At.ok (args : List AVal) (H : AHeap) (r : AVal) (H' : AHeap) (h : S_cellaretref16_At args H r H') : ∃ x0 x1 : AVal, args = [x0, x1] ∧ cellaretref16_At.w x0 x1 H fun r1 H1 => r1 = r ∧ H1 = H' := by
  obtain ⟨x0, x1, h1, h2, _⟩ := h
  exact ⟨x0, x1, h1, h2⟩
theorem cellaretref16_At.quiet {args : List AVal} {H : AHeap} {r : AVal} {H' : AHeap} (h : S_cellaretref16_At args H r H') : H <+: H' := by
  obtain ⟨_, _, _, _, h⟩ := h
  exact h
set_option maxRecDepth 100000 in
theorem cellaretref16_At.ex (x0 x1 : AVal) (H : AHeap) : Ex fun K : AVal × AHeap → Prop => cellaretref16_At.w x0 x1 H fun r H => K (r, H) := by
  unfold cellaretref16_At.w
  repeat with_reducible first
    | exact Ex.pt _
    | exact Ex.fin
    | exact Ex.no
    | refine Ex.vb fun _ => ?_
    | refine Ex.hb fun _ _ => ?_
    | refine Ex.sb fun _ => ?_
    | refine Ex.cb fun _ _ => ?_
    | refine Ex.isB fun _ => ?_
    | refine Ex.cond ?_ ?_
    | refine Ex.onE ?_ ?_
    | refine Ex.join ?_ fun _ _ _ => ?_
    | refine Ex.loop (fun _ _ => ?_) fun _ _ _ => ?_
    | (unfold cellaretref16_At.L2; unfold cellaretref16_At.L2.b)

theorem cellaretref16_At.out {x0 x1 : AVal} {H : AHeap} {Q : AVal → AHeap → Prop} (h : cellaretref16_At.w x0 x1 H fun r H' => H <+: H' ∧ Q r H') : ∃ r H', S_cellaretref16_At [x0, x1] H r H' ∧ Q r H' := by
  obtain ⟨r, H', h1, h2⟩ := (cellaretref16_At.ex x0 x1 H).out h
  exact ⟨r, H', ⟨_, _, rfl, h1, h2.1⟩, h2.2⟩

def cellaretref16_Drop.L3.b (x0 : AVal) (x1 : AVal) (x5_3 : AVal) (x6_3 : AVal) (H1 : AHeap) (Kn2 : List AVal → AHeap → Prop) (Ke3 : AExit → List AVal → AHeap → Prop) : Prop :=
  vb (lenSl x0) fun v4 =>
  vb (aBin .lss x6_3 v4) fun v5 =>
  isB v5 fun b6 => cond b6
    (vb (aIndexAddr 2 x0 x6_3) fun v7 =>
    vb (aFieldAddr 0 v7) fun v8 =>
    vb (aLoad H1 false 1 v8) fun v9 =>
    vb (aBin .neq v9 x1) fun v10 =>
    isB v10 fun b11 => cond b11
      (vb (aIndexAddr 2 x0 x6_3) fun v12 =>
      vb (aLoad H1 true 2 v12) fun v13 =>
      hb (aBuildSlice H1 2 [.int .i64 0, .str []] 1 [(0, v13)]) fun v14 H15 =>
      hb (aAppendS H15 2 24 x5_3 v14) fun v16 H17 =>
      vb (aBin .add x6_3 (.int .i64 1)) fun v18 =>
      Kn2 [v16, v18] H17)
      (vb (aBin .add x6_3 (.int .i64 1)) fun v19 =>
      Kn2 [x5_3, v19] H1))
    (Ke3 (.exit 0) [x5_3] H1)

def cellaretref16_Drop.L3 (x0 : AVal) (x1 : AVal) : Body := fun vs H Kn Ke => cellaretref16_Drop.L3.b x0 x1 (vs.getD 0 .undef) (vs.getD 1 .undef) H Kn Ke

def cellaretref16_Drop.w (x0 : AVal) (x1 : AVal) (H : AHeap) (K : AVal → AHeap → Prop) : Prop :=
  LoopP (cellaretref16_Drop.L3 x0 x1) [.nils, .int .i64 0] H fun e20 vs21 H22 =>
    onE e20 (.exit 0)
      (fin .ret [.v (vs21.getD 0 .undef)] H22 K)
    (False)

def S_cellaretref16_Drop : Abs.Spec := fun args H r H' => ∃ x0 x1 : AVal, args = [x0, x1] ∧ (cellaretref16_Drop.w x0 x1 H fun r1 H1 => r1 = r ∧ H1 = H') ∧ H <+: H'
theorem cellaretref16_Drop.ok (args : List AVal) (H : AHeap) (r : AVal) (H' : AHeap) (h : S_cellaretref16_Drop args H r H') : ∃ x0 x1 : AVal, args = [x0, x1] ∧ cellaretref16_Drop.w x0 x1 H fun r1 H1 => r1 = r ∧ H1 = H' := by
  obtain ⟨x0, x1, h1, h2, _⟩ := h
  exact ⟨x0, x1, h1, h2⟩
theorem cellaretref16_Drop.quiet {args : List AVal} {H : AHeap} {r : AVal} {H' : AHeap} (h : S_cellaretref16_Drop args H r H') : H <+: H' := by
  obtain ⟨_, _, _, _, h⟩ := h
  exact h
set_option maxRecDepth 100000 in
theorem cellaretref16_Drop.ex (x0 x1 : AVal) (H : AHeap) : Ex fun K : AVal × AHeap → Prop => cellaretref16_Drop.w x0 x1 H fun r H => K (r, H) := by
  unfold cellaretref16_Drop.w
  repeat with_reducible first
    | exact Ex.pt _
    | exact Ex.fin
    | exact Ex.no
    | refine Ex.vb fun _ => ?_
    | refine Ex.hb fun _ _ => ?_
    | refine Ex.sb fun _ => ?_
    | refine Ex.cb fun _ _ => ?_
    | refine Ex.isB fun _ => ?_
    | refine Ex.cond ?_ ?_
    | refine Ex.onE ?_ ?_
    | refine Ex.join ?_ fun _ _ _ => ?_
    | refine Ex.loop (fun _ _ => ?_) fun _ _ _ => ?_
    | (unfold cellaretref16_Drop.L3; unfold cellaretref16_Drop.L3.b)

theorem cellaretref16_Drop.out {x0 x1 : AVal} {H : AHeap} {Q : AVal → AHeap → Prop} (h : cellaretref16_Drop.w x0 x1 H fun r H' => H <+: H' ∧ Q r H') : ∃ r H', S_cellaretref16_Drop [x0, x1] H r H' ∧ Q r H' := by
  obtain ⟨r, H', h1, h2⟩ := (cellaretref16_Drop.ex x0 x1 H).out h
  exact ⟨r, H', ⟨_, _, rfl, h1, h2.1⟩, h2.2⟩

def cellaretref16_Set.L3.b (v5 : AVal) (v1 : AVal) (x5_3 : AVal) (H7 : AHeap) (Kn8 : List AVal → AHeap → Prop) (Ke9 : AExit → List AVal → AHeap → Prop) : Prop :=
  JoinP (fun Kj10 => vb (lenSl v5) fun v11 =>
    vb (aBin .lss x5_3 v11) fun v12 =>
    isB v12 fun b13 => cond b13
      (vb (aIndexAddr 2 v5 x5_3) fun v14 =>
          vb (aFieldAddr 0 v14) fun v15 =>
            vb (aLoad H7 false 1 v15) fun v16 =>
              vb (aFieldAddr 0 v1) fun v17 =>
                vb (aLoad H7 false 1 v17) fun v18 =>
                  vb (aBin .lss v16 v18) fun v19 =>
                    isB v19 fun b20 => cond b20
                      (Kj10 .normal [] H7)
                      (Kj10 (.exit 0) [] H7))
      (Kj10 (.exit 0) [] H7))
  (fun e21 vs22 H23 =>
    onE e21 (.exit 0)
      (Ke9 (.exit 0) [x5_3] H23)
    (onE e21 .normal
      (vb (aBin .add x5_3 (.int .i64 1)) fun v24 =>
      Kn8 [v24] H23)
    (False)))

def cellaretref16_Set.L3 (v5 : AVal) (v1 : AVal) : Body := fun vs H Kn Ke => cellaretref16_Set.L3.b v5 v1 (vs.getD 0 .undef) H Kn Ke

def cellaretref16_Set.w (x0 : AVal) (x1 : AVal) (H : AHeap) (K : AVal → AHeap → Prop) : Prop :=
  hb (aBox H x1) fun v1 H2 =>
  vb (aFieldAddr 0 v1) fun v3 =>
  vb (aLoad H2 false 1 v3) fun v4 =>
  cb (S_cellaretref16_Drop [x0, v4] H2) fun v5 H6 =>
  LoopP (cellaretref16_Set.L3 v5 v1) [.int .i64 0] H6 fun e25 vs26 H27 =>
    onE e25 (.exit 0)
      (hb (aBuildSlice H27 2 [.int .i64 0, .str []] 0 []) fun v28 H29 =>
      vb (aSlice H29 2 v5 none (some (vs26.getD 0 .undef)) none) fun v30 =>
      hb (aAppendS H29 2 24 v28 v30) fun v31 H32 =>
      vb (aLoad H32 true 2 v1) fun v33 =>
      hb (aBuildSlice H32 2 [.int .i64 0, .str []] 1 [(0, v33)]) fun v34 H35 =>
      hb (aAppendS H35 2 24 v31 v34) fun v36 H37 =>
      vb (aSlice H37 2 v5 (some (vs26.getD 0 .undef)) none none) fun v38 =>
      hb (aAppendS H37 2 24 v36 v38) fun v39 H40 =>
      fin .ret [.v (v39)] H40 K)
    (False)

def S_cellaretref16_Set : Abs.Spec := fun args H r H' => ∃ x0 x1 : AVal, args = [x0, x1] ∧ (cellaretref16_Set.w x0 x1 H fun r1 H1 => r1 = r ∧ H1 = H') ∧ H <+: H'
theorem cellaretref16_Set.ok (args : List AVal) (H : AHeap) (r : AVal) (H' : AHeap) (h : S_cellaretref16_Set args H r H') : ∃ x0 x1 : AVal, args = [x0, x1] ∧ cellaretref16_Set.w x0 x1 H fun r1 H1 => r1 = r ∧ H1 = H' := by
  obtain ⟨x0, x1, h1, h2, _⟩ := h
  exact ⟨x0, x1, h1, h2⟩
theorem cellaretref16_Set.quiet {args : List AVal} {H : AHeap} {r : AVal} {H' : AHeap} (h : S_cellaretref16_Set args H r H') : H <+: H' := by
  obtain ⟨_, _, _, _, h⟩ := h
  exact h
set_option maxRecDepth 100000 in
theorem cellaretref16_Set.ex (x0 x1 : AVal) (H : AHeap) : Ex fun K : AVal × AHeap → Prop => cellaretref16_Set.w x0 x1 H fun r H => K (r, H) := by
  unfold cellaretref16_Set.w
  repeat with_reducible first
    | exact Ex.pt _
    | exact Ex.fin
    | exact Ex.no
    | refine Ex.vb fun _ => ?_
    | refine Ex.hb fun _ _ => ?_
    | refine Ex.sb fun _ => ?_
    | refine Ex.cb fun _ _ => ?_
    | refine Ex.isB fun _ => ?_
    | refine Ex.cond ?_ ?_
    | refine Ex.onE ?_ ?_
    | refine Ex.join ?_ fun _ _ _ => ?_
    | refine Ex.loop (fun _ _ => ?_) fun _ _ _ => ?_
    | (unfold cellaretref16_Set.L3; unfold cellaretref16_Set.L3.b)

theorem cellaretref16_Set.out {x0 x1 : AVal} {H : AHeap} {Q : AVal → AHeap → Prop} (h : cellaretref16_Set.w x0 x1 H fun r H' => H <+: H' ∧ Q r H') : ∃ r H', S_cellaretref16_Set [x0, x1] H r H' ∧ Q r H' := by
  obtain ⟨r, H', h1, h2⟩ := (cellaretref16_Set.ex x0 x1 H).out h
  exact ⟨r, H', ⟨_, _, rfl, h1, h2.1⟩, h2.2⟩

def cellaretref16_Same.L4.b (x0 : AVal) (x1 : AVal) (x5_4 : AVal) (H5 : AHeap) (Kn6 : List AVal → AHeap → Prop) (Ke7 : AExit → List AVal → AHeap → Prop) : Prop :=
  vb (lenSl x0) fun v8 =>
  vb (aBin .lss x5_4 v8) fun v9 =>
  isB v9 fun b10 => cond b10
    (vb (aIndexAddr 2 x0 x5_4) fun v11 =>
    vb (aLoad H5 true 2 v11) fun v12 =>
    vb (aIndexAddr 2 x1 x5_4) fun v13 =>
    vb (aLoad H5 true 2 v13) fun v14 =>
    vb (aEql true (.agg [.int, .str]) H5 v12 v14) fun v15 =>
    isB v15 fun b16 => cond b16
      (Ke7 .ret [.bool false] H5)
      (vb (aBin .add x5_4 (.int .i64 1)) fun v17 =>
      Kn6 [v17] H5))
    (Ke7 (.exit 0) [.undef] H5)

def cellaretref16_Same.L4 (x0 : AVal) (x1 : AVal) : Body := fun vs H Kn Ke => cellaretref16_Same.L4.b x0 x1 (vs.getD 0 .undef) H Kn Ke

def cellaretref16_Same.w (x0 : AVal) (x1 : AVal) (H : AHeap) (K : AVal → AHeap → Prop) : Prop :=
  vb (lenSl x0) fun v1 =>
  vb (lenSl x1) fun v2 =>
  vb (aBin .neq v1 v2) fun v3 =>
  isB v3 fun b4 => cond b4
    (fin .ret [.v (.bool false)] H K)
    (LoopP (cellaretref16_Same.L4 x0 x1) [.int .i64 0] H fun e18 vs19 H20 =>
      onE e18 (.exit 0)
        (fin .ret [.v (.bool true)] H20 K)
      (onE e18 .ret
        (fin .ret [.v (vs19.getD 0 .undef)] H20 K)
      (False)))

def S_cellaretref16_Same : Abs.Spec := fun args H r H' => ∃ x0 x1 : AVal, args = [x0, x1] ∧ (cellaretref16_Same.w x0 x1 H fun r1 H1 => r1 = r ∧ H1 = H') ∧ H <+: H'
theorem cellaretref16_Same.ok (args : List AVal) (H : AHeap) (r : AVal) (H' : AHeap) (h : S_cellaretref16_Same args H r H') : ∃ x0 x1 : AVal, args = [x0, x1] ∧ cellaretref16_Same.w x0 x1 H fun r1 H1 => r1 = r ∧ H1 = H' := by
  obtain ⟨x0, x1, h1, h2, _⟩ := h
  exact ⟨x0, x1, h1, h2⟩
theorem cellaretref16_Same.quiet {args : List AVal} {H : AHeap} {r : AVal} {H' : AHeap} (h : S_cellaretref16_Same args H r H') : H <+: H' := by
  obtain ⟨_, _, _, _, h⟩ := h
  exact h
set_option maxRecDepth 100000 in
theorem cellaretref16_Same.ex (x0 x1 : AVal) (H : AHeap) : Ex fun K : AVal × AHeap → Prop => cellaretref16_Same.w x0 x1 H fun r H => K (r, H) := by
  unfold cellaretref16_Same.w
  repeat with_reducible first
    | exact Ex.pt _
    | exact Ex.fin
    | exact Ex.no
    | refine Ex.vb fun _ => ?_
    | refine Ex.hb fun _ _ => ?_
    | refine Ex.sb fun _ => ?_
    | refine Ex.cb fun _ _ => ?_
    | refine Ex.isB fun _ => ?_
    | refine Ex.cond ?_ ?_
    | refine Ex.onE ?_ ?_
    | refine Ex.join ?_ fun _ _ _ => ?_
    | refine Ex.loop (fun _ _ => ?_) fun _ _ _ => ?_
    | (unfold cellaretref16_Same.L4; unfold cellaretref16_Same.L4.b)

theorem cellaretref16_Same.out {x0 x1 : AVal} {H : AHeap} {Q : AVal → AHeap → Prop} (h : cellaretref16_Same.w x0 x1 H fun r H' => H <+: H' ∧ Q r H') : ∃ r H', S_cellaretref16_Same [x0, x1] H r H' ∧ Q r H' := by
  obtain ⟨r, H', h1, h2⟩ := (cellaretref16_Same.ex x0 x1 H).out h
  exact ⟨r, H', ⟨_, _, rfl, h1, h2.1⟩, h2.2⟩

def cellaretlaw16_awake.w (H : AHeap) (K : AVal → AHeap → Prop) : Prop :=
  cb (S_over_New [] H) fun v1 H2 =>
  JoinP (fun Kj3 => vb (aEql false .ptr H2 v1 .nilp) fun v4 =>
    isB v4 fun b5 => cond b5
      (Kj3 .ret [.bool false] H2)
      (cb (S_over_Sheet_Set [v1, .int .i64 5, .str [97]] H2) fun v6 H7 =>
        vb (aUn .not v6) fun v8 =>
          isB v8 fun b9 => cond b9
            (Kj3 .ret [.bool false] H7)
            (cb (S_over_Sheet_Set [v1, .int .i64 3, .str [98]] H7) fun v10 H11 =>
              vb (aUn .not v10) fun v12 =>
                isB v12 fun b13 => cond b13
                  (Kj3 .ret [.bool false] H11)
                  (Kj3 .normal [.bool false] H11))))
  (fun e14 vs15 H16 =>
    onE e14 .normal
      (cb (S_over_Sheet_Get [v1, .int .i64 5] H16) fun v17 H18 =>
      vb (aExtract v17 0) fun v19 =>
      vb (aExtract v17 1) fun v20 =>
      vb (aBin .eql v19 (.str [97])) fun v21 =>
      isB v21 fun b22 => cond b22
        (isB v20 fun b23 => cond b23
          (cb (S_over_Sheet_Puts [v1] H18) fun v24 H25 =>
            vb (aBuild [.int .i64 0, .str []] (fun k => ([(0, 1), (1, 1)] : List (Nat × Nat))[k]?) [(0, .int .i64 3), (1, .str [98])]) fun v26 =>
              vb (aBuild [.int .i64 0, .str []] (fun k => ([(0, 1), (1, 1)] : List (Nat × Nat))[k]?) [(0, .int .i64 5), (1, .str [97])]) fun v27 =>
                hb (aBuildSlice H25 2 [.int .i64 0, .str []] 2 [(0, v26), (1, v27)]) fun v28 H29 =>
                  cb (S_cellaretref16_Same [v24, v28] H29) fun v30 H31 =>
                    fin .ret [.v (v30)] H31 K)
          (fin .ret [.v (.bool false)] H18 K))
        (fin .ret [.v (.bool false)] H18 K))
    (onE e14 .ret
      (fin .ret [.v (vs15.getD 0 .undef)] H16 K)
    (False)))

def S_cellaretlaw16_awake : Abs.Spec := fun args H r H' => args = [] ∧ (cellaretlaw16_awake.w H fun r1 H1 => r1 = r ∧ H1 = H') ∧ H <+: H'
theorem cellaretlaw16_awake.ok (args : List AVal) (H : AHeap) (r : AVal) (H' : AHeap) (h : S_cellaretlaw16_awake args H r H') : args = [] ∧ cellaretlaw16_awake.w H fun r1 H1 => r1 = r ∧ H1 = H' := by
  obtain ⟨h1, h2, _⟩ := h
  exact ⟨h1, h2⟩
theorem cellaretlaw16_awake.quiet {args : List AVal} {H : AHeap} {r : AVal} {H' : AHeap} (h : S_cellaretlaw16_awake args H r H') : H <+: H' := by
  obtain ⟨_, _, h⟩ := h
  exact h
set_option maxRecDepth 100000 in
theorem cellaretlaw16_awake.ex (H : AHeap) : Ex fun K : AVal × AHeap → Prop => cellaretlaw16_awake.w H fun r H => K (r, H) := by
  unfold cellaretlaw16_awake.w
  repeat with_reducible first
    | exact Ex.pt _
    | exact Ex.fin
    | exact Ex.no
    | refine Ex.vb fun _ => ?_
    | refine Ex.hb fun _ _ => ?_
    | refine Ex.sb fun _ => ?_
    | refine Ex.cb fun _ _ => ?_
    | refine Ex.isB fun _ => ?_
    | refine Ex.cond ?_ ?_
    | refine Ex.onE ?_ ?_
    | refine Ex.join ?_ fun _ _ _ => ?_
    | refine Ex.loop (fun _ _ => ?_) fun _ _ _ => ?_

theorem cellaretlaw16_awake.out {H : AHeap} {Q : AVal → AHeap → Prop} (h : cellaretlaw16_awake.w H fun r H' => H <+: H' ∧ Q r H') : ∃ r H', S_cellaretlaw16_awake [] H r H' ∧ Q r H' := by
  obtain ⟨r, H', h1, h2⟩ := (cellaretlaw16_awake.ex H).out h
  exact ⟨r, H', ⟨rfl, h1, h2.1⟩, h2.2⟩

def cellaretlaw16_do.w (x0 : AVal) (x1 : AVal) (x2 : AVal) (H : AHeap) (K : AVal → AHeap → Prop) : Prop :=
  hb (aBox H x2) fun v1 H2 =>
  vb (aFieldAddr 1 v1) fun v3 =>
  vb (aFieldAddr 0 v3) fun v4 =>
  vb (aLoad H2 false 1 v4) fun v5 =>
  cb (S_cellaretref16_At [x1, v5] H2) fun v6 H7 =>
  vb (aFieldAddr 0 v1) fun v8 =>
  vb (aLoad H7 false 1 v8) fun v9 =>
  JoinP (fun Kj10 => vb (aBin .eql v9 (.int .i64 0)) fun v11 =>
    isB v11 fun b12 => cond b12
      (Kj10 .normal [v11] H7)
      (vb (aBin .eql v9 (.int .i64 1)) fun v13 =>
      isB v13 fun b14 => cond b14
        (Kj10 .normal [v13] H7)
        (vb (aBin .eql v9 (.int .i64 2)) fun v15 =>
        Kj10 .normal [v15] H7)))
  (fun e16 vs17 H18 =>
    onE e16 .normal
      (isB (vs17.getD 0 .undef) fun b19 => cond b19
        (vb (aFieldAddr 1 v1) fun v20 =>
        vb (aLoad H18 true 2 v20) fun v21 =>
        cb (S_cellaretref16_Set [x1, v21] H18) fun v22 H23 =>
        vb (aFieldAddr 1 v1) fun v24 =>
        vb (aFieldAddr 0 v24) fun v25 =>
        vb (aLoad H23 false 1 v25) fun v26 =>
        vb (aFieldAddr 1 v1) fun v27 =>
        vb (aFieldAddr 1 v27) fun v28 =>
        vb (aLoad H23 false 1 v28) fun v29 =>
        cb (S_over_Sheet_Set [x0, v26, v29] H23) fun v30 H31 =>
        fin .ret [.v (v22), .v (v30)] H31 K)
        (vb (aBin .eql v9 (.int .i64 4)) fun v32 =>
        isB v32 fun b33 => cond b33
          (vb (aFieldAddr 1 v1) fun v34 =>
          vb (aFieldAddr 0 v34) fun v35 =>
          vb (aLoad H18 false 1 v35) fun v36 =>
          cb (S_cellaretref16_Drop [x1, v36] H18) fun v37 H38 =>
          vb (aFieldAddr 1 v1) fun v39 =>
          vb (aFieldAddr 0 v39) fun v40 =>
          vb (aLoad H38 false 1 v40) fun v41 =>
          cb (S_over_Sheet_Drop [x0, v41] H38) fun v42 H43 =>
          vb (aBin .geq v6 (.int .i64 0)) fun v44 =>
          vb (aEql false .bool H43 v42 v44) fun v45 =>
          fin .ret [.v (v37), .v (v45)] H43 K)
          (vb (aBin .eql v9 (.int .i64 5)) fun v46 =>
          isB v46 fun b47 => cond b47
            (cb (S_over_Sheet_Clear [x0] H18) fun v48 H49 =>
            fin .ret [.v (.nils), .v (.bool true)] H49 K)
            (vb (aFieldAddr 1 v1) fun v50 =>
            vb (aFieldAddr 0 v50) fun v51 =>
            vb (aLoad H18 false 1 v51) fun v52 =>
            cb (S_over_Sheet_Get [x0, v52] H18) fun v53 H54 =>
            vb (aExtract v53 0) fun v55 =>
            vb (aExtract v53 1) fun v56 =>
            vb (aBin .lss v6 (.int .i64 0)) fun v57 =>
            isB v57 fun b58 => cond b58
              (vb (aBin .eql v55 (.str [])) fun v59 =>
              isB v59 fun b60 => cond b60
                (vb (aUn .not v56) fun v61 =>
                  fin .ret [.v (x1), .v (v61)] H54 K)
                (fin .ret [.v (x1), .v (.bool false)] H54 K))
              (isB v56 fun b62 => cond b62
                (vb (aIndexAddr 2 x1 v6) fun v63 =>
                      vb (aFieldAddr 1 v63) fun v64 =>
                        vb (aLoad H54 false 1 v64) fun v65 =>
                          vb (aBin .eql v55 v65) fun v66 =>
                            fin .ret [.v (x1), .v (v66)] H54 K)
                (fin .ret [.v (x1), .v (.bool false)] H54 K))))))
    (False))

def S_cellaretlaw16_do : Abs.Spec := fun args H r H' => ∃ x0 x1 x2 : AVal, args = [x0, x1, x2] ∧ (cellaretlaw16_do.w x0 x1 x2 H fun r1 H1 => r1 = r ∧ H1 = H')
theorem cellaretlaw16_do.ok (args : List AVal) (H : AHeap) (r : AVal) (H' : AHeap) (h : S_cellaretlaw16_do args H r H') : ∃ x0 x1 x2 : AVal, args = [x0, x1, x2] ∧ cellaretlaw16_do.w x0 x1 x2 H fun r1 H1 => r1 = r ∧ H1 = H' := by
  obtain ⟨x0, x1, x2, h1, h2⟩ := h
  exact ⟨x0, x1, x2, h1, h2⟩
set_option maxRecDepth 100000 in
theorem cellaretlaw16_do.ex (x0 x1 x2 : AVal) (H : AHeap) : Ex fun K : AVal × AHeap → Prop => cellaretlaw16_do.w x0 x1 x2 H fun r H => K (r, H) := by
  unfold cellaretlaw16_do.w
  repeat with_reducible first
    | exact Ex.pt _
    | exact Ex.fin
    | exact Ex.no
    | refine Ex.vb fun _ => ?_
    | refine Ex.hb fun _ _ => ?_
    | refine Ex.sb fun _ => ?_
    | refine Ex.cb fun _ _ => ?_
    | refine Ex.isB fun _ => ?_
    | refine Ex.cond ?_ ?_
    | refine Ex.onE ?_ ?_
    | refine Ex.join ?_ fun _ _ _ => ?_
    | refine Ex.loop (fun _ _ => ?_) fun _ _ _ => ?_

theorem cellaretlaw16_do.out {x0 x1 x2 : AVal} {H : AHeap} {Q : AVal → AHeap → Prop} (h : cellaretlaw16_do.w x0 x1 x2 H fun r H' => Q r H') : ∃ r H', S_cellaretlaw16_do [x0, x1, x2] H r H' ∧ Q r H' := by
  obtain ⟨r, H', h1, h2⟩ := (cellaretlaw16_do.ex x0 x1 x2 H).out h
  exact ⟨r, H', ⟨_, _, _, rfl, h1⟩, h2⟩

def cellaretlaw16_OverDoes.L4.b (x0 : AVal) (v1 : AVal) (x4_4 : AVal) (x5_4 : AVal) (H3 : AHeap) (Kn4 : List AVal → AHeap → Prop) (Ke5 : AExit → List AVal → AHeap → Prop) : Prop :=
  JoinP (fun Kj6 => vb (lenSl x0) fun v7 =>
    vb (aBin .lss x5_4 v7) fun v8 =>
    isB v8 fun b9 => cond b9
      (vb (aBin .lss x5_4 (.int .i64 60)) fun v10 =>
        isB v10 fun b11 => cond b11
          (Kj6 .normal [] H3)
          (Kj6 (.exit 0) [] H3))
      (Kj6 (.exit 0) [] H3))
  (fun e12 vs13 H14 =>
    onE e12 (.exit 0)
      (Ke5 (.exit 0) [.undef] H14)
    (onE e12 .normal
      (vb (aIndexAddr 3 x0 x5_4) fun v15 =>
      vb (aLoad H14 true 3 v15) fun v16 =>
      cb (S_cellaretlaw16_do [v1, x4_4, v16] H14) fun v17 H18 =>
      vb (aExtract v17 0) fun v19 =>
      vb (aExtract v17 1) fun v20 =>
      vb (aUn .not v20) fun v21 =>
      isB v21 fun b22 => cond b22
        (Ke5 .ret [.bool false] H18)
        (cb (S_over_Sheet_Puts [v1] H18) fun v23 H24 =>
          cb (S_cellaretref16_Same [v23, v19] H24) fun v25 H26 =>
              vb (aUn .not v25) fun v27 =>
                isB v27 fun b28 => cond b28
                  (Ke5 .ret [.bool false] H26)
                  (cb (S_over_Sheet_Len [v1] H26) fun v29 H30 =>
                    vb (lenSl v19) fun v31 =>
                        vb (aBin .neq v29 v31) fun v32 =>
                          isB v32 fun b33 => cond b33
                            (Ke5 .ret [.bool false] H30)
                            (vb (aBin .add x5_4 (.int .i64 1)) fun v34 =>
                            Kn4 [v19, v34] H30))))
    (False)))

def cellaretlaw16_OverDoes.L4 (x0 : AVal) (v1 : AVal) : Body := fun vs H Kn Ke => cellaretlaw16_OverDoes.L4.b x0 v1 (vs.getD 0 .undef) (vs.getD 1 .undef) H Kn Ke

def cellaretlaw16_OverDoes.w (x0 : AVal) (H : AHeap) (K : AVal → AHeap → Prop) : Prop :=
  cb (S_over_New [] H) fun v1 H2 =>
  LoopP (cellaretlaw16_OverDoes.L4 x0 v1) [.nils, .int .i64 0] H2 fun e35 vs36 H37 =>
    onE e35 (.exit 0)
      (cb (S_cellaretlaw16_awake [] H37) fun v38 H39 =>
      fin .ret [.v (v38)] H39 K)
    (onE e35 .ret
      (fin .ret [.v (vs36.getD 0 .undef)] H37 K)
    (False))

def S_cellaretlaw16_OverDoes : Abs.Spec := fun args H r H' => ∃ x0 : AVal, args = [x0] ∧ (cellaretlaw16_OverDoes.w x0 H fun r1 H1 => r1 = r ∧ H1 = H')
theorem cellaretlaw16_OverDoes.ok (args : List AVal) (H : AHeap) (r : AVal) (H' : AHeap) (h : S_cellaretlaw16_OverDoes args H r H') : ∃ x0 : AVal, args = [x0] ∧ cellaretlaw16_OverDoes.w x0 H fun r1 H1 => r1 = r ∧ H1 = H' := by
  obtain ⟨x0, h1, h2⟩ := h
  exact ⟨x0, h1, h2⟩
set_option maxRecDepth 100000 in
theorem cellaretlaw16_OverDoes.ex (x0 : AVal) (H : AHeap) : Ex fun K : AVal × AHeap → Prop => cellaretlaw16_OverDoes.w x0 H fun r H => K (r, H) := by
  unfold cellaretlaw16_OverDoes.w
  repeat with_reducible first
    | exact Ex.pt _
    | exact Ex.fin
    | exact Ex.no
    | refine Ex.vb fun _ => ?_
    | refine Ex.hb fun _ _ => ?_
    | refine Ex.sb fun _ => ?_
    | refine Ex.cb fun _ _ => ?_
    | refine Ex.isB fun _ => ?_
    | refine Ex.cond ?_ ?_
    | refine Ex.onE ?_ ?_
    | refine Ex.join ?_ fun _ _ _ => ?_
    | refine Ex.loop (fun _ _ => ?_) fun _ _ _ => ?_
    | (unfold cellaretlaw16_OverDoes.L4; unfold cellaretlaw16_OverDoes.L4.b)

theorem cellaretlaw16_OverDoes.out {x0 : AVal} {H : AHeap} {Q : AVal → AHeap → Prop} (h : cellaretlaw16_OverDoes.w x0 H fun r H' => Q r H') : ∃ r H', S_cellaretlaw16_OverDoes [x0] H r H' ∧ Q r H' := by
  obtain ⟨r, H', h1, h2⟩ := (cellaretlaw16_OverDoes.ex x0 H).out h
  exact ⟨r, H', ⟨_, rfl, h1⟩, h2⟩

def cellaretlaw16_OverApart.L4.b (x0 : AVal) (v1 : AVal) (x6_4 : AVal) (x7_4 : AVal) (H3 : AHeap) (Kn4 : List AVal → AHeap → Prop) (Ke5 : AExit → List AVal → AHeap → Prop) : Prop :=
  JoinP (fun Kj6 => vb (lenSl x0) fun v7 =>
    vb (aBin .lss x7_4 v7) fun v8 =>
    isB v8 fun b9 => cond b9
      (vb (aBin .lss x7_4 (.int .i64 40)) fun v10 =>
        isB v10 fun b11 => cond b11
          (Kj6 .normal [] H3)
          (Kj6 (.exit 0) [] H3))
      (Kj6 (.exit 0) [] H3))
  (fun e12 vs13 H14 =>
    onE e12 (.exit 0)
      (Ke5 (.exit 0) [x6_4] H14)
    (onE e12 .normal
      (vb (aIndexAddr 3 x0 x7_4) fun v15 =>
      vb (aLoad H14 true 3 v15) fun v16 =>
      cb (S_cellaretlaw16_do [v1, x6_4, v16] H14) fun v17 H18 =>
      vb (aExtract v17 0) fun v19 =>
      vb (aExtract v17 1) fun v20 =>
      vb (aBin .add x7_4 (.int .i64 1)) fun v21 =>
      Kn4 [v19, v21] H18)
    (False)))

def cellaretlaw16_OverApart.L4 (x0 : AVal) (v1 : AVal) : Body := fun vs H Kn Ke => cellaretlaw16_OverApart.L4.b x0 v1 (vs.getD 0 .undef) (vs.getD 1 .undef) H Kn Ke

def cellaretlaw16_OverApart.L10.b (x1 : AVal) (v25 : AVal) (v1 : AVal) (x6_10 : AVal) (x9_10 : AVal) (x10_10 : AVal) (H27 : AHeap) (Kn28 : List AVal → AHeap → Prop) (Ke29 : AExit → List AVal → AHeap → Prop) : Prop :=
  JoinP (fun Kj30 => vb (lenSl x1) fun v31 =>
    vb (aBin .lss x10_10 v31) fun v32 =>
    isB v32 fun b33 => cond b33
      (vb (aBin .lss x10_10 (.int .i64 40)) fun v34 =>
        isB v34 fun b35 => cond b35
          (Kj30 .normal [] H27)
          (Kj30 (.exit 2) [] H27))
      (Kj30 (.exit 2) [] H27))
  (fun e36 vs37 H38 =>
    onE e36 (.exit 2)
      (Ke29 (.exit 2) [x6_10, x9_10] H38)
    (onE e36 .normal
      (vb (aBin .rem x10_10 (.int .i64 2)) fun v39 =>
      vb (aBin .eql v39 (.int .i64 0)) fun v40 =>
      isB v40 fun b41 => cond b41
        (vb (aIndexAddr 3 x1 x10_10) fun v42 =>
        vb (aLoad H38 true 3 v42) fun v43 =>
        cb (S_cellaretlaw16_do [v25, x9_10, v43] H38) fun v44 H45 =>
        vb (aExtract v44 0) fun v46 =>
        vb (aExtract v44 1) fun v47 =>
        vb (aBin .add x10_10 (.int .i64 1)) fun v48 =>
        Kn28 [x6_10, v46, v48] H45)
        (vb (aIndexAddr 3 x1 x10_10) fun v49 =>
        vb (aLoad H38 true 3 v49) fun v50 =>
        cb (S_cellaretlaw16_do [v1, x6_10, v50] H38) fun v51 H52 =>
        vb (aExtract v51 0) fun v53 =>
        vb (aExtract v51 1) fun v54 =>
        vb (aBin .add x10_10 (.int .i64 1)) fun v55 =>
        Kn28 [v53, x9_10, v55] H52))
    (False)))

def cellaretlaw16_OverApart.L10 (x1 : AVal) (v25 : AVal) (v1 : AVal) : Body := fun vs H Kn Ke => cellaretlaw16_OverApart.L10.b x1 v25 v1 (vs.getD 0 .undef) (vs.getD 1 .undef) (vs.getD 2 .undef) H Kn Ke

def cellaretlaw16_OverApart.w (x0 : AVal) (x1 : AVal) (H : AHeap) (K : AVal → AHeap → Prop) : Prop :=
  cb (S_over_New [] H) fun v1 H2 =>
  LoopP (cellaretlaw16_OverApart.L4 x0 v1) [.nils, .int .i64 0] H2 fun e22 vs23 H24 =>
    onE e22 (.exit 0)
      (cb (S_over_Sheet_Copy [v1] H24) fun v25 H26 =>
      LoopP (cellaretlaw16_OverApart.L10 x1 v25 v1) [vs23.getD 0 .undef, vs23.getD 0 .undef, .int .i64 0] H26 fun e56 vs57 H58 =>
        onE e56 (.exit 2)
          (cb (S_cellaretlaw16_awake [] H58) fun v59 H60 =>
          isB v59 fun b61 => cond b61
            (cb (S_over_Sheet_Puts [v1] H60) fun v62 H63 =>
              cb (S_cellaretref16_Same [v62, vs57.getD 0 .undef] H63) fun v64 H65 =>
                  isB v64 fun b66 => cond b66
                    (cb (S_over_Sheet_Puts [v25] H65) fun v67 H68 =>
                      cb (S_cellaretref16_Same [v67, vs57.getD 1 .undef] H68) fun v69 H70 =>
                          fin .ret [.v (v69)] H70 K)
                    (fin .ret [.v (.bool false)] H65 K))
            (fin .ret [.v (.bool false)] H60 K))
        (False))
    (False)

def S_cellaretlaw16_OverApart : Abs.Spec := fun args H r H' => ∃ x0 x1 : AVal, args = [x0, x1] ∧ (cellaretlaw16_OverApart.w x0 x1 H fun r1 H1 => r1 = r ∧ H1 = H')
theorem cellaretlaw16_OverApart.ok (args : List AVal) (H : AHeap) (r : AVal) (H' : AHeap) (h : S_cellaretlaw16_OverApart args H r H') : ∃ x0 x1 : AVal, args = [x0, x1] ∧ cellaretlaw16_OverApart.w x0 x1 H fun r1 H1 => r1 = r ∧ H1 = H' := by
  obtain ⟨x0, x1, h1, h2⟩ := h
  exact ⟨x0, x1, h1, h2⟩
set_option maxRecDepth 100000 in
theorem cellaretlaw16_OverApart.ex (x0 x1 : AVal) (H : AHeap) : Ex fun K : AVal × AHeap → Prop => cellaretlaw16_OverApart.w x0 x1 H fun r H => K (r, H) := by
  unfold cellaretlaw16_OverApart.w
  repeat with_reducible first
    | exact Ex.pt _
    | exact Ex.fin
    | exact Ex.no
    | refine Ex.vb fun _ => ?_
    | refine Ex.hb fun _ _ => ?_
    | refine Ex.sb fun _ => ?_
    | refine Ex.cb fun _ _ => ?_
    | refine Ex.isB fun _ => ?_
    | refine Ex.cond ?_ ?_
    | refine Ex.onE ?_ ?_
    | refine Ex.join ?_ fun _ _ _ => ?_
    | refine Ex.loop (fun _ _ => ?_) fun _ _ _ => ?_
    | (unfold cellaretlaw16_OverApart.L4; unfold cellaretlaw16_OverApart.L4.b)
    | (unfold cellaretlaw16_OverApart.L10; unfold cellaretlaw16_OverApart.L10.b)

theorem cellaretlaw16_OverApart.out {x0 x1 : AVal} {H : AHeap} {Q : AVal → AHeap → Prop} (h : cellaretlaw16_OverApart.w x0 x1 H fun r H' => Q r H') : ∃ r H', S_cellaretlaw16_OverApart [x0, x1] H r H' ∧ Q r H' := by
  obtain ⟨r, H', h1, h2⟩ := (cellaretlaw16_OverApart.ex x0 x1 H).out h
  exact ⟨r, H', ⟨_, _, rfl, h1⟩, h2⟩

def cellaretlaw16_OverBoth.L4.b (x1 : AVal) (v3 : AVal) (x8_4 : AVal) (x9_4 : AVal) (x10_4 : AVal) (H5 : AHeap) (Kn6 : List AVal → AHeap → Prop) (Ke7 : AExit → List AVal → AHeap → Prop) : Prop :=
  JoinP (fun Kj8 => vb (lenSl x1) fun v9 =>
    vb (aBin .lss x10_4 v9) fun v10 =>
    isB v10 fun b11 => cond b11
      (vb (aBin .lss x10_4 (.int .i64 30)) fun v12 =>
        isB v12 fun b13 => cond b13
          (Kj8 .normal [] H5)
          (Kj8 (.exit 0) [] H5))
      (Kj8 (.exit 0) [] H5))
  (fun e14 vs15 H16 =>
    onE e14 (.exit 0)
      (Ke7 (.exit 0) [x8_4, x9_4] H16)
    (onE e14 .normal
      (vb (aIndexAddr 2 x1 x10_4) fun v17 =>
      vb (aFieldAddr 0 v17) fun v18 =>
      vb (aLoad H16 false 1 v18) fun v19 =>
      vb (aIndexAddr 2 x1 x10_4) fun v20 =>
      vb (aFieldAddr 1 v20) fun v21 =>
      vb (aLoad H16 false 1 v21) fun v22 =>
      cb (S_over_Sheet_Set [v3, v19, v22] H16) fun v23 H24 =>
      vb (aIndexAddr 2 x1 x10_4) fun v25 =>
      vb (aLoad H24 true 2 v25) fun v26 =>
      cb (S_cellaretref16_Set [x8_4, v26] H24) fun v27 H28 =>
      vb (aIndexAddr 2 x1 x10_4) fun v29 =>
      vb (aLoad H28 true 2 v29) fun v30 =>
      cb (S_cellaretref16_Set [x9_4, v30] H28) fun v31 H32 =>
      vb (aBin .add x10_4 (.int .i64 1)) fun v33 =>
      Kn6 [v27, v31, v33] H32)
    (False)))

def cellaretlaw16_OverBoth.L4 (x1 : AVal) (v3 : AVal) : Body := fun vs H Kn Ke => cellaretlaw16_OverBoth.L4.b x1 v3 (vs.getD 0 .undef) (vs.getD 1 .undef) (vs.getD 2 .undef) H Kn Ke

def cellaretlaw16_OverBoth.L10.b (x0 : AVal) (v1 : AVal) (x7_10 : AVal) (x11_10 : AVal) (H37 : AHeap) (Kn38 : List AVal → AHeap → Prop) (Ke39 : AExit → List AVal → AHeap → Prop) : Prop :=
  JoinP (fun Kj40 => vb (lenSl x0) fun v41 =>
    vb (aBin .lss x11_10 v41) fun v42 =>
    isB v42 fun b43 => cond b43
      (vb (aBin .lss x11_10 (.int .i64 30)) fun v44 =>
        isB v44 fun b45 => cond b45
          (Kj40 .normal [] H37)
          (Kj40 (.exit 2) [] H37))
      (Kj40 (.exit 2) [] H37))
  (fun e46 vs47 H48 =>
    onE e46 (.exit 2)
      (Ke39 (.exit 2) [x7_10] H48)
    (onE e46 .normal
      (vb (aIndexAddr 2 x0 x11_10) fun v49 =>
      vb (aFieldAddr 0 v49) fun v50 =>
      vb (aLoad H48 false 1 v50) fun v51 =>
      vb (aIndexAddr 2 x0 x11_10) fun v52 =>
      vb (aFieldAddr 1 v52) fun v53 =>
      vb (aLoad H48 false 1 v53) fun v54 =>
      cb (S_over_Sheet_Set [v1, v51, v54] H48) fun v55 H56 =>
      vb (aIndexAddr 2 x0 x11_10) fun v57 =>
      vb (aLoad H56 true 2 v57) fun v58 =>
      cb (S_cellaretref16_Set [x7_10, v58] H56) fun v59 H60 =>
      vb (aBin .add x11_10 (.int .i64 1)) fun v61 =>
      Kn38 [v59, v61] H60)
    (False)))

def cellaretlaw16_OverBoth.L10 (x0 : AVal) (v1 : AVal) : Body := fun vs H Kn Ke => cellaretlaw16_OverBoth.L10.b x0 v1 (vs.getD 0 .undef) (vs.getD 1 .undef) H Kn Ke

def cellaretlaw16_OverBoth.L15.b (vs63 : List AVal) (x9_15 : AVal) (x12_15 : AVal) (H65 : AHeap) (Kn66 : List AVal → AHeap → Prop) (Ke67 : AExit → List AVal → AHeap → Prop) : Prop :=
  vb (lenSl (vs63.getD 0 .undef)) fun v68 =>
  vb (aBin .lss x12_15 v68) fun v69 =>
  isB v69 fun b70 => cond b70
    (vb (aIndexAddr 2 (vs63.getD 0 .undef) x12_15) fun v71 =>
    vb (aLoad H65 true 2 v71) fun v72 =>
    cb (S_cellaretref16_Set [x9_15, v72] H65) fun v73 H74 =>
    vb (aBin .add x12_15 (.int .i64 1)) fun v75 =>
    Kn66 [v73, v75] H74)
    (Ke67 (.exit 4) [x9_15] H65)

def cellaretlaw16_OverBoth.L15 (vs63 : List AVal) : Body := fun vs H Kn Ke => cellaretlaw16_OverBoth.L15.b vs63 (vs.getD 0 .undef) (vs.getD 1 .undef) H Kn Ke

def cellaretlaw16_OverBoth.w (x0 : AVal) (x1 : AVal) (H : AHeap) (K : AVal → AHeap → Prop) : Prop :=
  cb (S_over_New [] H) fun v1 H2 =>
  cb (S_over_New [] H2) fun v3 H4 =>
  LoopP (cellaretlaw16_OverBoth.L4 x1 v3) [.nils, .nils, .int .i64 0] H4 fun e34 vs35 H36 =>
    onE e34 (.exit 0)
      (LoopP (cellaretlaw16_OverBoth.L10 x0 v1) [.nils, .int .i64 0] H36 fun e62 vs63 H64 =>
        onE e62 (.exit 2)
          (LoopP (cellaretlaw16_OverBoth.L15 vs63) [vs35.getD 1 .undef, .int .i64 0] H64 fun e76 vs77 H78 =>
            onE e76 (.exit 4)
              (cb (S_over_Sheet_Over [v1, v3] H78) fun v79 H80 =>
              JoinP (fun Kj81 => vb (aEql false .ptr H80 v79 .nilp) fun v82 =>
                isB v82 fun b83 => cond b83
                  (Kj81 .ret [.bool false] H80)
                  (cb (S_over_Sheet_Puts [v79] H80) fun v84 H85 =>
                    cb (S_cellaretref16_Same [v84, vs77.getD 0 .undef] H85) fun v86 H87 =>
                        vb (aUn .not v86) fun v88 =>
                          isB v88 fun b89 => cond b89
                            (Kj81 .ret [.bool false] H87)
                            (Kj81 .normal [.bool false] H87)))
              (fun e90 vs91 H92 =>
                onE e90 .normal
                  (cb (S_over_Sheet_Clear [v79] H92) fun v93 H94 =>
                  cb (S_cellaretlaw16_awake [] H94) fun v95 H96 =>
                  isB v95 fun b97 => cond b97
                    (cb (S_over_Sheet_Puts [v1] H96) fun v98 H99 =>
                      cb (S_cellaretref16_Same [v98, vs63.getD 0 .undef] H99) fun v100 H101 =>
                          isB v100 fun b102 => cond b102
                            (cb (S_over_Sheet_Puts [v3] H101) fun v103 H104 =>
                              cb (S_cellaretref16_Same [v103, vs35.getD 0 .undef] H104) fun v105 H106 =>
                                  fin .ret [.v (v105)] H106 K)
                            (fin .ret [.v (.bool false)] H101 K))
                    (fin .ret [.v (.bool false)] H96 K))
                (onE e90 .ret
                  (fin .ret [.v (vs91.getD 0 .undef)] H92 K)
                (False))))
            (False))
        (False))
    (False)

def S_cellaretlaw16_OverBoth : Abs.Spec := fun args H r H' => ∃ x0 x1 : AVal, args = [x0, x1] ∧ (cellaretlaw16_OverBoth.w x0 x1 H fun r1 H1 => r1 = r ∧ H1 = H')
theorem cellaretlaw16_OverBoth.ok (args : List AVal) (H : AHeap) (r : AVal) (H' : AHeap) (h : S_cellaretlaw16_OverBoth args H r H') : ∃ x0 x1 : AVal, args = [x0, x1] ∧ cellaretlaw16_OverBoth.w x0 x1 H fun r1 H1 => r1 = r ∧ H1 = H' := by
  obtain ⟨x0, x1, h1, h2⟩ := h
  exact ⟨x0, x1, h1, h2⟩
set_option maxRecDepth 100000 in
theorem cellaretlaw16_OverBoth.ex (x0 x1 : AVal) (H : AHeap) : Ex fun K : AVal × AHeap → Prop => cellaretlaw16_OverBoth.w x0 x1 H fun r H => K (r, H) := by
  unfold cellaretlaw16_OverBoth.w
  repeat with_reducible first
    | exact Ex.pt _
    | exact Ex.fin
    | exact Ex.no
    | refine Ex.vb fun _ => ?_
    | refine Ex.hb fun _ _ => ?_
    | refine Ex.sb fun _ => ?_
    | refine Ex.cb fun _ _ => ?_
    | refine Ex.isB fun _ => ?_
    | refine Ex.cond ?_ ?_
    | refine Ex.onE ?_ ?_
    | refine Ex.join ?_ fun _ _ _ => ?_
    | refine Ex.loop (fun _ _ => ?_) fun _ _ _ => ?_
    | (unfold cellaretlaw16_OverBoth.L4; unfold cellaretlaw16_OverBoth.L4.b)
    | (unfold cellaretlaw16_OverBoth.L10; unfold cellaretlaw16_OverBoth.L10.b)
    | (unfold cellaretlaw16_OverBoth.L15; unfold cellaretlaw16_OverBoth.L15.b)

theorem cellaretlaw16_OverBoth.out {x0 x1 : AVal} {H : AHeap} {Q : AVal → AHeap → Prop} (h : cellaretlaw16_OverBoth.w x0 x1 H fun r H' => Q r H') : ∃ r H', S_cellaretlaw16_OverBoth [x0, x1] H r H' ∧ Q r H' := by
  obtain ⟨r, H', h1, h2⟩ := (cellaretlaw16_OverBoth.ex x0 x1 H).out h
  exact ⟨r, H', ⟨_, _, rfl, h1⟩, h2⟩

def cellaretlaw16_OverNone.w (x0 : AVal) (H : AHeap) (K : AVal → AHeap → Prop) : Prop :=
  hb (aBox H x0) fun v1 H2 =>
  vb (aFieldAddr 0 v1) fun v3 =>
  vb (aLoad H2 false 1 v3) fun v4 =>
  cb (S_over_Sheet_Get [.nilp, v4] H2) fun v5 H6 =>
  vb (aExtract v5 0) fun v7 =>
  vb (aExtract v5 1) fun v8 =>
  cb (S_over_Sheet_Clear [.nilp] H6) fun v9 H10 =>
  cb (S_over_Sheet_Copy [.nilp] H10) fun v11 H12 =>
  cb (S_over_Sheet_Over [.nilp, .nilp] H12) fun v13 H14 =>
  cb (S_cellaretlaw16_awake [] H14) fun v15 H16 =>
  isB v15 fun b17 => cond b17
    (vb (aFieldAddr 0 v1) fun v18 =>
      vb (aLoad H16 false 1 v18) fun v19 =>
        vb (aFieldAddr 1 v1) fun v20 =>
          vb (aLoad H16 false 1 v20) fun v21 =>
            cb (S_over_Sheet_Set [.nilp, v19, v21] H16) fun v22 H23 =>
              vb (aUn .not v22) fun v24 =>
                isB v24 fun b25 => cond b25
                  (vb (aBin .eql v7 (.str [])) fun v26 =>
                    isB v26 fun b27 => cond b27
                      (vb (aUn .not v8) fun v28 =>
                        isB v28 fun b29 => cond b29
                          (vb (aFieldAddr 0 v1) fun v30 =>
                            vb (aLoad H23 false 1 v30) fun v31 =>
                              cb (S_over_Sheet_Drop [.nilp, v31] H23) fun v32 H33 =>
                                vb (aUn .not v32) fun v34 =>
                                  isB v34 fun b35 => cond b35
                                    (cb (S_over_Sheet_Len [.nilp] H33) fun v36 H37 =>
                                      cb (S_over_Sheet_Puts [.nilp] H37) fun v38 H39 =>
                                          vb (lenSl v38) fun v40 =>
                                            vb (aBin .add v36 v40) fun v41 =>
                                              vb (aBin .eql v41 (.int .i64 0)) fun v42 =>
                                                isB v42 fun b43 => cond b43
                                                  (vb (aEql true .ptr H39 v11 .nilp) fun v44 =>
                                                    isB v44 fun b45 => cond b45
                                                      (vb (aEql true .ptr H39 v13 .nilp) fun v46 =>
                                                        isB v46 fun b47 => cond b47
                                                          (cb (S_over_Sheet_Len [v11] H39) fun v48 H49 =>
                                                            cb (S_over_Sheet_Len [v13] H49) fun v50 H51 =>
                                                                vb (aBin .add v48 v50) fun v52 =>
                                                                  vb (aBin .eql v52 (.int .i64 0)) fun v53 =>
                                                                    isB v53 fun b54 => cond b54
                                                                      (vb (aFieldAddr 0 v1) fun v55 =>
                                                                        vb (aLoad H51 false 1 v55) fun v56 =>
                                                                          vb (aFieldAddr 1 v1) fun v57 =>
                                                                            vb (aLoad H51 false 1 v57) fun v58 =>
                                                                              cb (S_over_Sheet_Set [v11, v56, v58] H51) fun v59 H60 =>
                                                                                fin .ret [.v (v59)] H60 K)
                                                                      (fin .ret [.v (.bool false)] H51 K))
                                                          (fin .ret [.v (.bool false)] H39 K))
                                                      (fin .ret [.v (.bool false)] H39 K))
                                                  (fin .ret [.v (.bool false)] H39 K))
                                    (fin .ret [.v (.bool false)] H33 K))
                          (fin .ret [.v (.bool false)] H23 K))
                      (fin .ret [.v (.bool false)] H23 K))
                  (fin .ret [.v (.bool false)] H23 K))
    (fin .ret [.v (.bool false)] H16 K)

def S_cellaretlaw16_OverNone : Abs.Spec := fun args H r H' => ∃ x0 : AVal, args = [x0] ∧ (cellaretlaw16_OverNone.w x0 H fun r1 H1 => r1 = r ∧ H1 = H')
theorem cellaretlaw16_OverNone.ok (args : List AVal) (H : AHeap) (r : AVal) (H' : AHeap) (h : S_cellaretlaw16_OverNone args H r H') : ∃ x0 : AVal, args = [x0] ∧ cellaretlaw16_OverNone.w x0 H fun r1 H1 => r1 = r ∧ H1 = H' := by
  obtain ⟨x0, h1, h2⟩ := h
  exact ⟨x0, h1, h2⟩
set_option maxRecDepth 100000 in
theorem cellaretlaw16_OverNone.ex (x0 : AVal) (H : AHeap) : Ex fun K : AVal × AHeap → Prop => cellaretlaw16_OverNone.w x0 H fun r H => K (r, H) := by
  unfold cellaretlaw16_OverNone.w
  repeat with_reducible first
    | exact Ex.pt _
    | exact Ex.fin
    | exact Ex.no
    | refine Ex.vb fun _ => ?_
    | refine Ex.hb fun _ _ => ?_
    | refine Ex.sb fun _ => ?_
    | refine Ex.cb fun _ _ => ?_
    | refine Ex.isB fun _ => ?_
    | refine Ex.cond ?_ ?_
    | refine Ex.onE ?_ ?_
    | refine Ex.join ?_ fun _ _ _ => ?_
    | refine Ex.loop (fun _ _ => ?_) fun _ _ _ => ?_

theorem cellaretlaw16_OverNone.out {x0 : AVal} {H : AHeap} {Q : AVal → AHeap → Prop} (h : cellaretlaw16_OverNone.w x0 H fun r H' => Q r H') : ∃ r H', S_cellaretlaw16_OverNone [x0] H r H' ∧ Q r H' := by
  obtain ⟨r, H', h1, h2⟩ := (cellaretlaw16_OverNone.ex x0 H).out h
  exact ⟨r, H', ⟨_, rfl, h1⟩, h2⟩

end Go.Sh

/- The document's lists of blocks. -/
namespace Go.Sh
open Go Go.Abs

def atI (l : List PutV) (a : Int) : Int := match l.findIdx? (fun p => decide (p.1 = a)) with | some i => (i : Int) | none => -1
theorem at_no {l : List PutV} {a : Int} (h : ∀ p ∈ l, p.1 ≠ a) : atI l a = -1 := by
  unfold atI
  rw [List.findIdx?_eq_none_iff.2 (fun p hp => by simpa using h p hp)]
theorem at_yes {l : List PutV} {k : Nat} {p : PutV} (h : ∀ q ∈ l.take k, q.1 ≠ p.1) (hk : l[k]? = some p) : atI l p.1 = (k : Int) := by
  have hlt := (List.getElem?_eq_some_iff.1 hk).1
  have e : l.findIdx? (fun q => decide (q.1 = p.1)) = some k := by
    rw [List.findIdx?_eq_some_iff_getElem]
    refine ⟨hlt, ?_, fun j hj => ?_⟩
    · rw [(List.getElem?_eq_some_iff.1 hk).2]; simp
    · have : l[j] ∈ l.take k := List.mem_of_getElem? (i := j) (by rw [List.getElem?_take_of_lt hj]; exact List.getElem?_eq_getElem _)
      simpa using h _ this
  unfold atI
  rw [e]
section
variable {B : AHeap}
theorem at_spec {x : AVal} {l : List PutV} {a : Int} (hv : View B x 2 l.length (flat putC l)) (hn : l.length ≤ 4611686018427387904) : ∃ C, S_cellaretref16_At [x, .int .i64 a] B (.int .i64 (atI l a)) C ∧ B <+: C := by
  obtain ⟨r, C, h, rfl, k⟩ := cellaretref16_At.out (x0 := x) (x1 := .int .i64 a) (H := B) (Q := fun r C => r = .int .i64 (atI l a) ∧ B <+: C) (by
    unfold cellaretref16_At.w
    have hs : Sep B (fun _ => False) B [] := Sep.start B
    have hpl := putC_len
    refine LoopP.ruleG (α := Nat) (fun j => [.int .i64 (j : Int)]) (fun j C => (j ≤ l.length ∧ ∀ q ∈ l.take j, q.1 ≠ a) ∧ B = C) (fun j => l.length - j) 0 (by simp) ⟨⟨Nat.zero_le _, by simp⟩, rfl⟩ ?_
    rintro k C Kn ⟨⟨hj, hu⟩, rfl⟩ hk
    unfold cellaretref16_At.L2 cellaretref16_At.L2.b
    try simp only [evB]
    repeat first
    | with_reducible refine vb_i (lss64 _ _ _) ?_
    | ((with_reducible apply vb_len); (· first | exact hs.o0.view | exact hs.o1.view | exact hs.o2.view | exact hs.o3.view | exact hs.o4.view | exact hs.o5.view | exact hs.o6.view | exact hs.rv hv | exact hs.rv hv2 | exact hs.rv hv3 | exact hs.rv hv4 | exact hs.view hkv hko | assumption))
    refine isB_c (fun h1 => ?_) (fun h1 => ?_)
    · have hb := List.getElem?_eq_getElem (l := l) (i := k) (by omega)
      generalize l[k] = p at hb
      repeat first
      | with_reducible refine vb_i (eql64 _ _ _) ?_
      | with_reducible refine vb_i (e_fieldAddr _ _) ?_
      | ((with_reducible apply vb_addrN); (· first | exact hs.o0.view | exact hs.o1.view | exact hs.o2.view | exact hs.o3.view | exact hs.o4.view | exact hs.o5.view | exact hs.o6.view | exact hs.rv hv | exact hs.rv hv2 | exact hs.rv hv3 | exact hs.rv hv4 | exact hs.view hkv hko | assumption); (· omega))
      | ((with_reducible apply vb_el1); (· first | exact hs.o0.view | exact hs.o1.view | exact hs.o2.view | exact hs.o3.view | exact hs.o4.view | exact hs.o5.view | exact hs.o6.view | exact hs.rv hv | exact hs.rv hv2 | exact hs.rv hv3 | exact hs.rv hv4 | exact hs.view hkv hko | assumption); (· first | exact bcell_len | exact pcell_len | exact one_len | assumption); (· first | exact hb | exact hb2 | assumption); (· rfl))
      refine isB_c (fun h2 => ?_) (fun h2 => ?_)
      · repeat first
        | with_reducible refine onE_i ?_
        | ((with_reducible refine onE_s ?_ ?_); (· decide))
        try simp only [evB]
        subst h2
        exact fin_ret (rvs_v (rvs_nil _)) ⟨hs.pre fun _ x => x, by rw [at_yes hu hb]; rfl, hs.pre fun _ x => x⟩
      · repeat first
        | ((with_reducible refine vb_i (add64 ?_ ?_) ?_); (· omega); (· omega))
        refine hk (k + 1) _ ⟨⟨by omega, fun q hq => ?_⟩, rfl⟩ (by omega)
        rw [List.take_add_one, hb] at hq
        simp only [Option.toList_some, List.mem_append, List.mem_singleton] at hq
        rcases hq with hq | rfl
        · exact hu q hq
        · exact h2
    · obtain rfl : k = l.length := by omega
      repeat first
      | with_reducible refine onE_i ?_
      try simp only [evB]
      rw [List.take_length] at hu
      exact fin_ret (rvs_v (rvs_nil _)) ⟨hs.pre fun _ x => x, by rw [at_no hu]; rfl, hs.pre fun _ x => x⟩)
  exact ⟨C, h, k⟩
theorem drop_step {l : List PutV} {k : Nat} {p : PutV} (h : l[k]? = some p) (a : Int) : dropL (l.take (k + 1)) a = dropL (l.take k) a ++ (if p.1 ≠ a then [p] else []) := by
  unfold dropL
  rw [List.take_add_one, h, List.filter_append]
  by_cases hp : p.1 = a <;> simp [hp]
theorem drop_spec {x : AVal} {l : List PutV} {a : Int} (hv : View B x 2 l.length (flat putC l)) (hn : l.length ≤ 1099511627776) :
    ∃ sv C, S_cellaretref16_Drop [x, .int .i64 a] B sv C ∧ B <+: C ∧ Sep B (fun _ => False) C [.sl sv 2 (dropL l a).length (flat putC (dropL l a))] := by
  obtain ⟨r, C, h, k1, k2⟩ := cellaretref16_Drop.out (x0 := x) (x1 := .int .i64 a) (H := B) (Q := fun sv C => B <+: C ∧ Sep B (fun _ => False) C [.sl sv 2 (dropL l a).length (flat putC (dropL l a))]) (by
    unfold cellaretref16_Drop.w
    have hs : Sep B (fun _ => False) B [] := Sep.start B
    have hpl := putC_len
    have hs := s_nils hs 2
    refine LoopP.ruleG (α := AVal × Nat) (fun a => [a.1, .int .i64 (a.2 : Int)]) (fun q C => q.2 ≤ l.length ∧ Sep B (fun _ => False) C [.sl q.1 2 (dropL (l.take q.2) a).length (flat putC (dropL (l.take q.2) a))]) (fun q => l.length - q.2) (.nils, 0) (by simp) ⟨Nat.zero_le _, by simpa [dropL, flat] using hs⟩ ?_
    clear hs
    rintro ⟨sv, k⟩ C Kn ⟨hj, hs⟩ hk
    simp only at hj hs
    unfold cellaretref16_Drop.L3 cellaretref16_Drop.L3.b
    try simp only [evB]
    have hv' := hs.view hv (fun _ _ h => h)
    have hle : (dropL (l.take k) a).length ≤ k := Nat.le_trans (List.length_filter_le _ _) (by rw [List.length_take]; omega)
    repeat first
    | with_reducible refine vb_i (lss64 _ _ _) ?_
    | ((with_reducible apply vb_len); (· first | exact hs.o0.view | exact hs.o1.view | exact hs.o2.view | exact hs.o3.view | exact hs.o4.view | exact hs.o5.view | exact hs.o6.view | exact hs.rv hv | exact hs.rv hv2 | exact hs.rv hv3 | exact hs.rv hv4 | exact hs.view hkv hko | assumption))
    refine isB_c (fun h1 => ?_) (fun h1 => ?_)
    · have hb := List.getElem?_eq_getElem (l := l) (i := k) (by omega)
      generalize l[k] = p at hb
      have hst := drop_step hb a
      repeat first
      | with_reducible refine vb_i (neq64 _ _ _) ?_
      | with_reducible refine vb_i (e_fieldAddr _ _) ?_
      | ((with_reducible apply vb_addrN); (· first | exact hs.o0.view | exact hs.o1.view | exact hs.o2.view | exact hs.o3.view | exact hs.o4.view | exact hs.o5.view | exact hs.o6.view | exact hs.rv hv | exact hs.rv hv2 | exact hs.rv hv3 | exact hs.rv hv4 | exact hs.view hkv hko | assumption); (· omega))
      | ((with_reducible apply vb_el1); (· first | exact hs.o0.view | exact hs.o1.view | exact hs.o2.view | exact hs.o3.view | exact hs.o4.view | exact hs.o5.view | exact hs.o6.view | exact hs.rv hv | exact hs.rv hv2 | exact hs.rv hv3 | exact hs.rv hv4 | exact hs.view hkv hko | assumption); (· first | exact bcell_len | exact pcell_len | exact one_len | assumption); (· first | exact hb | exact hb2 | assumption); (· rfl))
      refine isB_c (fun h2 => ?_) (fun h2 => ?_)
      · repeat first
        | ((with_reducible apply vb_addrN); (· first | exact hs.o0.view | exact hs.o1.view | exact hs.o2.view | exact hs.o3.view | exact hs.o4.view | exact hs.o5.view | exact hs.o6.view | exact hs.rv hv | exact hs.rv hv2 | exact hs.rv hv3 | exact hs.rv hv4 | exact hs.view hkv hko | assumption); (· omega))
        | ((with_reducible apply vb_elN); (· first | exact hs.o0.view | exact hs.o1.view | exact hs.o2.view | exact hs.o3.view | exact hs.o4.view | exact hs.o5.view | exact hs.o6.view | exact hs.rv hv | exact hs.rv hv2 | exact hs.rv hv3 | exact hs.rv hv4 | exact hs.view hkv hko | assumption); (· first | exact bcell_len | exact pcell_len | exact one_len | assumption); (· first | exact hb | exact hb2 | assumption))
        rw [if_pos h2] at hst
        refine s_push hs (by simp only [evF, evS]; rfl) (by decide) (xs := putC p) (m := 1) rfl (putC_cell p) (by unfold room; omega) (by unfold room; omega) ?_
        intro sv' C' hs
        repeat first
        | ((with_reducible refine vb_i (add64 ?_ ?_) ?_); (· omega); (· omega))
        refine hk (sv', k + 1) _ ⟨by simp only; omega, ?_⟩ (by simp only; omega)
        simp only
        rw [hst, flat_app, flat_one, List.length_append]
        exact hs
      · repeat first
        | ((with_reducible refine vb_i (add64 ?_ ?_) ?_); (· omega); (· omega))
        rw [if_neg h2, List.append_nil] at hst
        refine hk (sv, k + 1) _ ⟨by simp only; omega, ?_⟩ (by simp only; omega)
        simp only
        rw [hst]
        exact hs
    · obtain rfl : k = l.length := by omega
      repeat first
      | with_reducible refine onE_i ?_
      try simp only [evB]
      rw [List.take_length] at hs
      exact fin_ret (rvs_v (rvs_nil _)) ⟨hs.pre fun _ x => x, hs.pre fun _ x => x, hs⟩)
  exact ⟨r, C, h, k1, k2⟩
theorem flat_takeN {β : Type} {f : β → List AVal} {es : Nat} (hf : ∀ b, (f b).length = es) (l : List β) {k : Nat} (hk : k ≤ l.length) : (flat f l).take (k * es) = flat f (l.take k) := by
  have e : flat f l = flat f (l.take k) ++ flat f (l.drop k) := by rw [← flat_app, List.take_append_drop]
  rw [e]
  exact List.take_left' (by rw [flat_len hf, List.length_take, Nat.min_eq_left hk])
theorem flat_dropN {β : Type} {f : β → List AVal} {es : Nat} (hf : ∀ b, (f b).length = es) (l : List β) {k : Nat} (hk : k ≤ l.length) : (flat f l).drop (k * es) = flat f (l.drop k) := by
  have e : flat f l = flat f (l.take k) ++ flat f (l.drop k) := by rw [← flat_app, List.take_append_drop]
  rw [e]
  exact List.drop_left' (by rw [flat_len hf, List.length_take, Nat.min_eq_left hk])
theorem take_while {l : List PutV} {f : PutV → Bool} {k : Nat} (h : ∀ q ∈ l.take k, f q = true) (hk : ∀ q, l[k]? = some q → f q = false) : l.takeWhile f = l.take k ∧ l.dropWhile f = l.drop k := by
  induction l generalizing k with
  | nil => simp
  | cons q l ih =>
    cases k with
    | zero =>
      have := hk q rfl
      rw [List.takeWhile_cons_of_neg (by simp [this]), List.dropWhile_cons_of_neg (by simp [this])]
      simp
    | succ k =>
      have := h q (by simp)
      rw [List.takeWhile_cons_of_pos this, List.dropWhile_cons_of_pos this]
      obtain ⟨e1, e2⟩ := ih (k := k) (fun x hx => h x (by simp [hx])) (fun x hx => hk x (by simpa using hx))
      rw [e1, e2]
      simp
theorem set_spec {x : AVal} {l : List PutV} {p : PutV} (hv : View B x 2 l.length (flat putC l)) (hn : l.length ≤ 1099511627776) :
    ∃ sv C, S_cellaretref16_Set [x, .agg (putC p)] B sv C ∧ B <+: C ∧ Sep B (fun _ => False) C [.sl sv 2 (setL l p).length (flat putC (setL l p))] := by
  obtain ⟨r, C, h, k1, k2⟩ := cellaretref16_Set.out (x0 := x) (x1 := .agg (putC p)) (H := B) (Q := fun sv C => B <+: C ∧ Sep B (fun _ => False) C [.sl sv 2 (setL l p).length (flat putC (setL l p))]) (by
    unfold cellaretref16_Set.w
    have hs : Sep B (fun _ => False) B [] := Sep.start B
    have hpl := putC_len
    repeat first
    | with_reducible refine vb_i (e_fieldAddr _ _) ?_
    | ((with_reducible apply vb_ld); (· first | exact hs.g0 | exact hs.g1 | exact hs.g2 | exact hs.g3 | exact hs.g4 | exact hs.g5 | exact hs.g6 | exact hs.rd hg | exact hs.rd hg2 | exact hs.rd hg3 | exact hs.rd hg4 | assumption); (· rfl))
    | ((with_reducible apply s_box hs); (· rfl); intro _ _ _ hs; try simp only [AVal.cells] at hs)
    rename_i o C0 _
    obtain ⟨dv, C, hc, hp, hd⟩ := drop_spec (a := p.1) (hs.view hv (fun _ _ h => h)) hn
    refine cb_i _ _ hc ?_
    have hs := Sep.call01 hs (hd.own_of fun _ h => h.elim)
    clear hd hc hp
    have hle : (dropL l p.1).length ≤ l.length := List.length_filter_le _ _
    have hno := drop_no l p.1
    unfold setL
    generalize dropL l p.1 = d at *
    refine LoopP.ruleG (α := Nat) (fun j => [.int .i64 (j : Int)]) (fun j D => (j ≤ d.length ∧ ∀ q ∈ d.take j, decide (q.1 < p.1) = true) ∧ C = D) (fun j => d.length - j) 0 (by simp) ⟨⟨Nat.zero_le _, by simp⟩, rfl⟩ ?_
    rintro k D Kn ⟨⟨hj, hu⟩, rfl⟩ hk
    unfold cellaretref16_Set.L3 cellaretref16_Set.L3.b
    try simp only [evB]
    refine JoinP.mk (fun e vs D => C = D ∧ ((e = .normal ∧ ∃ q, d[k]? = some q ∧ q.1 < p.1) ∨ (e = .exit 0 ∧ ∀ q, d[k]? = some q → ¬ q.1 < p.1))) ?_ ?_
    · repeat first
      | with_reducible refine vb_i (lss64 _ _ _) ?_
      | ((with_reducible apply vb_len); (· first | exact hs.o0.view | exact hs.o1.view | exact hs.o2.view | exact hs.o3.view | exact hs.o4.view | exact hs.o5.view | exact hs.o6.view | exact hs.rv hv | exact hs.rv hv2 | exact hs.rv hv3 | exact hs.rv hv4 | exact hs.view hkv hko | assumption))
      refine isB_c (fun h1 => ?_) (fun h1 => ?_)
      · have hb := List.getElem?_eq_getElem (l := d) (i := k) (by omega)
        generalize d[k] = q at hb
        repeat first
        | with_reducible refine vb_i (lss64 _ _ _) ?_
        | with_reducible refine vb_i (e_fieldAddr _ _) ?_
        | ((with_reducible apply vb_ld); (· first | exact hs.g0 | exact hs.g1 | exact hs.g2 | exact hs.g3 | exact hs.g4 | exact hs.g5 | exact hs.g6 | exact hs.rd hg | exact hs.rd hg2 | exact hs.rd hg3 | exact hs.rd hg4 | assumption); (· rfl))
        | ((with_reducible apply vb_addrN); (· first | exact hs.o0.view | exact hs.o1.view | exact hs.o2.view | exact hs.o3.view | exact hs.o4.view | exact hs.o5.view | exact hs.o6.view | exact hs.rv hv | exact hs.rv hv2 | exact hs.rv hv3 | exact hs.rv hv4 | exact hs.view hkv hko | assumption); (· omega))
        | ((with_reducible apply vb_el1); (· first | exact hs.o0.view | exact hs.o1.view | exact hs.o2.view | exact hs.o3.view | exact hs.o4.view | exact hs.o5.view | exact hs.o6.view | exact hs.rv hv | exact hs.rv hv2 | exact hs.rv hv3 | exact hs.rv hv4 | exact hs.view hkv hko | assumption); (· first | exact bcell_len | exact pcell_len | exact one_len | assumption); (· first | exact hb | exact hb2 | assumption); (· rfl))
        refine isB_c (fun h2 => ?_) (fun h2 => ?_)
        · exact ⟨rfl, .inl ⟨rfl, q, hb, h2⟩⟩
        · exact ⟨rfl, .inr ⟨rfl, fun q' hq' => by rw [hb] at hq'; cases hq'; exact h2⟩⟩
      · exact ⟨rfl, .inr ⟨rfl, fun q' hq' => by have := (List.getElem?_eq_some_iff.1 hq').1; omega⟩⟩
    rintro e vs D ⟨rfl, ⟨rfl, q, hb, h1⟩ | ⟨rfl, h1⟩⟩
    · have hlt := (List.getElem?_eq_some_iff.1 hb).1
      repeat first
      | with_reducible refine onE_i ?_
      | ((with_reducible refine onE_s ?_ ?_); (· decide))
      | ((with_reducible refine vb_i (add64 ?_ ?_) ?_); (· omega); (· omega))
      refine hk (k + 1) _ ⟨⟨by omega, fun q' hq => ?_⟩, rfl⟩ (by omega)
      rw [List.take_add_one, hb] at hq
      simp only [Option.toList_some, List.mem_append, List.mem_singleton] at hq
      rcases hq with hq | rfl
      · exact hu q' hq
      · simpa using h1
    · clear hk
      obtain ⟨e1, e2⟩ := take_while hu (fun q hq => by simpa using h1 q hq)
      repeat first
      | with_reducible refine onE_i ?_
      try simp only [evB]
      unfold insL
      rw [e1, e2]
      refine s_row hs (by rfl) ?_
      intro i D _ hs
      have hs := Sep.as (b := .sl (.slice ⟨i, 0, 0⟩ 0 (.ex 0)) 2 0 []) hs rfl fun ho => ⟨rfl, .inr (.inl ⟨i, 0, rfl, ho⟩)⟩
      have hfl := flat_len putC_len d
      obtain ⟨s1, g1, g2, _⟩ := slice_view (l := none) (h := some (.int .i64 (k : Int))) hs.o1.view (lo := 0) (hi := k) (by simp [bnd]) (by simp [bnd]) (by omega) hj
      refine vb_i g1 ?_
      have f1 : (List.drop (0 * 2) (flat putC d)).take ((k - 0) * 2) = flat putC (d.take k) := by rw [Nat.zero_mul, List.drop_zero, Nat.sub_zero, flat_takeN putC_len _ hj]
      rw [f1] at g2
      refine s_appv hs (by decide) g2 (flat_cell putC_cell _) (by unfold room; omega) (by unfold room; omega) ?_
      intro s2 D2 hs
      repeat first
      | ((with_reducible apply vb_ldA); (· first | exact hs.g0 | exact hs.g1 | exact hs.g2 | exact hs.g3 | exact hs.g4 | exact hs.g5 | exact hs.g6 | exact hs.rd hg | exact hs.rd hg2 | exact hs.rd hg3 | exact hs.rd hg4 | assumption); (· rfl))
      refine s_push hs (by simp only [evF, evS]; rfl) (by decide) (xs := putC p) (m := 1) rfl (putC_cell p) (by unfold room; omega) (by unfold room; omega) ?_
      intro s3 D3 hs
      obtain ⟨s4, g3, g4, _⟩ := slice_view (l := some (.int .i64 (k : Int))) (h := none) hs.o1.view (lo := k) (hi := d.length) (by simp [bnd]) (by simp [bnd]) hj (Nat.le_refl _)
      refine vb_i g3 ?_
      have f2 : (List.drop (k * 2) (flat putC d)).take ((d.length - k) * 2) = flat putC (d.drop k) := by rw [flat_dropN putC_len _ hj, List.take_of_length_le (by rw [flat_len putC_len, List.length_drop]; exact Nat.le_refl _)]
      rw [f2] at g4
      refine s_appv hs (by decide) g4 (flat_cell putC_cell _) (by unfold room; omega) (by unfold room; omega) ?_
      intro s5 D4 hs
      skip
      have hp := hs.pre fun _ x => x
      have hs := hs.drop (R1 := [_])
      refine fin_ret (rvs_v (rvs_nil _)) ⟨hp, hp, ?_⟩
      have e3 : (List.take k d ++ p :: List.drop k d).length = 0 + (k - 0) + 1 + (d.length - k) := by simp; omega
      have e4 : flat putC (List.take k d ++ p :: List.drop k d) = [] ++ flat putC (d.take k) ++ putC p ++ flat putC (d.drop k) := by simp [flat]
      rw [e3, e4]
      exact hs)
  exact ⟨r, C, h, k1, k2⟩
end
end Go.Sh

/- Sheets, method by method. -/
namespace Go.Sh
open Go Go.Abs

theorem putC_inj {a b : PutV} : putC a = putC b ↔ a = b := by
  constructor
  · intro h
    obtain ⟨a1, a2⟩ := a
    obtain ⟨b1, b2⟩ := b
    simp only [putC, List.cons.injEq, AVal.int.injEq, AVal.str.injEq, true_and, and_true] at h
    obtain ⟨rfl, rfl⟩ := h
    rfl
  · rintro rfl; rfl
theorem e_nePut {H : AHeap} {a b : PutV} : aEql true (.agg [.int, .str]) H (.agg (putC a)) (.agg (putC b)) = some (.bool (decide (a ≠ b))) := by
  have e : aEql true (.agg [.int, .str]) H (.agg (putC a)) (.agg (putC b)) = some (.bool (true != (decide (a.1 = b.1) && (decide (a.2 = b.2) && true)))) := by
    by_cases h1 : a.1 = b.1 <;> by_cases h2 : a.2 = b.2 <;> simp [aEql, aEq, putC, eqCells, eqCell, h1, h2]
  rw [e]
  congr 2
  rw [Bool.eq_iff_iff]
  obtain ⟨a1, a2⟩ := a
  obtain ⟨b1, b2⟩ := b
  simp
theorem take_same {l k : List PutV} {j : Nat} {a b : PutV} (h : l.take j = k.take j) (ha : l[j]? = some a) (hb : k[j]? = some b) (e : a = b) : l.take (j + 1) = k.take (j + 1) := by
  rw [List.take_add_one, List.take_add_one, h, ha, hb, e]
section
variable {H0 B : AHeap} {own : Nat → Prop} {R : List Part}
theorem same_spec {x y : AVal} {l k : List PutV} (hv1 : View B x 2 l.length (flat putC l)) (hv2 : View B y 2 k.length (flat putC k)) (hn : l.length ≤ 4611686018427387904) :
    ∃ C, S_cellaretref16_Same [x, y] B (.bool (decide (l = k))) C ∧ B <+: C := by
  obtain ⟨r, C, h, rfl, k⟩ := cellaretref16_Same.out (x0 := x) (x1 := y) (H := B) (Q := fun r C => r = .bool (decide (l = k)) ∧ B <+: C) (by
    unfold cellaretref16_Same.w
    have hs : Sep B (fun _ => False) B [] := Sep.start B
    have hpl := putC_len
    refine vb_len hv1 ?_
    refine vb_len hv2 ?_
    repeat first
    | with_reducible refine vb_i (neq64 _ _ _) ?_
    refine isB_c (fun h1 => ?_) (fun h1 => ?_)
    · have : ¬ l = k := fun e => h1 (by rw [e])
      rw [decide_eq_false this]
      exact fin_ret (rvs_v (rvs_nil _)) ⟨hs.pre fun _ x => x, rfl, hs.pre fun _ x => x⟩
    have h1 : l.length = k.length := by omega
    refine LoopP.ruleG (α := Nat) (fun j => [.int .i64 (j : Int)]) (fun j C => (j ≤ l.length ∧ l.take j = k.take j) ∧ B = C) (fun j => l.length - j) 0 (by simp) ⟨⟨Nat.zero_le _, by simp⟩, rfl⟩ ?_
    rintro j C Kn ⟨⟨hj, hu⟩, rfl⟩ hk
    unfold cellaretref16_Same.L4 cellaretref16_Same.L4.b
    try simp only [evB]
    refine vb_len hv1 ?_
    repeat first
    | with_reducible refine vb_i (lss64 _ _ _) ?_
    refine isB_c (fun h2 => ?_) (fun h2 => ?_)
    · have hb := List.getElem?_eq_getElem (l := l) (i := j) (by omega)
      have hb2 := List.getElem?_eq_getElem (l := k) (i := j) (by omega)
      generalize l[j] = a at hb
      generalize k[j] = b at hb2
      refine vb_addrN hv1 (by omega) ?_
      refine vb_i (el_ldN putC_len hv1 hb) ?_
      refine vb_addrN hv2 (by omega) ?_
      refine vb_i (el_ldN putC_len hv2 hb2) ?_
      refine vb_i e_nePut ?_
      refine isB_c (fun h4 => ?_) (fun h4 => ?_)
      · repeat first
        | with_reducible refine onE_i ?_
        | ((with_reducible refine onE_s ?_ ?_); (· decide))
        try simp only [evB]
        have : ¬ l = k := fun e => h4 (by rw [e, hb2] at hb; exact (Option.some.inj hb).symm)
        rw [decide_eq_false this]
        exact fin_ret (rvs_v (rvs_nil _)) ⟨hs.pre fun _ x => x, rfl, hs.pre fun _ x => x⟩
      · have h4 := Decidable.not_not.1 h4
        repeat first
        | ((with_reducible refine vb_i (add64 ?_ ?_) ?_); (· omega); (· omega))
        exact hk (j + 1) _ ⟨⟨by omega, take_same hu hb hb2 h4⟩, rfl⟩ (by omega)
    · obtain rfl : j = l.length := by omega
      repeat first
      | with_reducible refine onE_i ?_
      try simp only [evB]
      rw [List.take_length, h1, List.take_length] at hu
      rw [decide_eq_true hu]
      exact fin_ret (rvs_v (rvs_nil _)) ⟨hs.pre fun _ x => x, rfl, hs.pre fun _ x => x⟩)
  exact ⟨C, h, k⟩
theorem new_spec : ∃ i m C, S_over_New [] B (.ptr ⟨i, 0, 0⟩) C ∧ B <+: C ∧ Sep B (fun _ => False) C [sheetP i m []] := by
  obtain ⟨r, C, h, ⟨i, m, rfl, k⟩, k2⟩ := over_New.out (H := B) (Q := fun r C => (∃ i m, r = .ptr ⟨i, 0, 0⟩ ∧ Sep B (fun _ => False) C [sheetP i m []]) ∧ B <+: C) (by
    unfold over_New.w
    have hs : Sep B (fun _ => False) B [] := Sep.start B
    have hs := hs.new (.map 0 [])
    refine hb_i rfl ?_
    repeat first
    | ((with_reducible apply s_box hs); (· rfl); intro _ _ _ hs; try simp only [AVal.cells] at hs)
    | ((with_reducible apply vb_bld); (· first | rfl | (simp only [evF, evS]; rfl)))
    rename_i i C _
    have hp := hs.pre fun _ x => x
    refine fin_ret (rvs_v (rvs_nil _)) ⟨hp, ⟨i, B.length, rfl, ?_⟩, hp⟩
    have hd := (List.pairwise_cons.1 hs.apart).1 _ List.mem_cons_self i (by simp [Part.obj])
    have hd : i ≠ B.length := by simpa [Part.obj] using hd
    refine Sep.call (R1 := [_, _]) (R2 := [sheetP i B.length []]) (R := []) hs ⟨Nat.le_refl _, fun _ _ _ => rfl, fun r hr => ?_, fun r hr j hj => ?_, List.pairwise_singleton _ _⟩
    · simp at hr; subst hr
      exact ⟨hd, List.Pairwise.nil, hs.g0, 0, [], hs.g1, List.Perm.refl _⟩
    · simp at hr; subst hr
      simp [sheetP] at hj
      right
      rcases hj with rfl | rfl
      · exact ⟨_, List.mem_cons_self, by simp [Part.obj]⟩
      · exact ⟨_, List.mem_cons_of_mem _ List.mem_cons_self, by simp [Part.obj]⟩)
  exact ⟨i, m, C, h, k2, k⟩
theorem sh_set {i m w : Nat} {l l' es : List PutV} (hs : Sep H0 own B (sheetP i m l :: R)) (hr : Rising l') (hp : l'.Perm es) : Sep H0 own (B.set m (.map w (ments es))) (sheetP i m l' :: R) := by
  obtain ⟨h1, h2, h3, w0, es0, h4, h5⟩ := hs.head
  have hm := lt_of_some h4
  refine hs.put (by simp) (fun j hj => .inl hj) (fun k _ hk => List.getElem?_set_ne (fun e => hk (by rw [← e]; simp [sheetP]))) ?_
  exact ⟨h1, hr, by rw [List.getElem?_set_ne (Ne.symm h1)]; exact h3, w, es, by rw [List.getElem?_set_self hm], hp⟩
theorem set_sheet {i m : Nat} {l : List PutV} (hs : Sep H0 own B (sheetP i m l :: R)) (a : Int) (s : List UInt8) :
    ∃ C, S_over_Sheet_Set [.ptr ⟨i, 0, 0⟩, .int .i64 a, .str s] B (.bool true) C ∧ Sep H0 own C (sheetP i m (setL l (a, s)) :: R) := by
  obtain ⟨r, C, h, rfl, k⟩ := over_Sheet_Set.out (x0 := .ptr ⟨i, 0, 0⟩) (x1 := .int .i64 a) (x2 := .str s) (H := B) (Q := fun r C => r = .bool true ∧ Sep H0 own C (sheetP i m (setL l (a, s)) :: R)) (by
    unfold over_Sheet_Set.w
    obtain ⟨h1, h2, h3, w, es, h4, h5⟩ := hs.head
    repeat first
    | with_reducible refine isB_F ?_
    | with_reducible refine vb_i (e_ptrNil _ _) ?_
    refine JoinP.mk (fun e vs D => B = D ∧ e = .normal) ?_ ?_
    · repeat first
      | refine vb_ld h3 rfl ?_
      refine vb_i (v := .bool false) rfl ?_
      repeat first
      | with_reducible refine isB_F ?_
      exact ⟨rfl, rfl⟩
    rintro _ _ _ ⟨rfl, rfl⟩
    rw [onE_same]
    repeat first
    | refine vb_ld h3 rfl ?_
    obtain ⟨es', e1, e2⟩ := map_put (a := a) h4 h2 h5 s
    refine sb_i e1 ?_
    exact fin_ret (rvs_v (rvs_nil _)) ⟨rfl, sh_set hs (rise_set h2 _) e2⟩)
  exact ⟨C, h, k⟩
theorem set_nil (a s : AVal) : ∃ C, S_over_Sheet_Set [.nilp, a, s] B (.bool false) C ∧ B <+: C := by
  obtain ⟨r, C, h, rfl, k⟩ := over_Sheet_Set.out (x0 := .nilp) (x1 := a) (x2 := s) (H := B) (Q := fun r C => r = .bool false ∧ B <+: C) (by
    unfold over_Sheet_Set.w
    repeat first
    | with_reducible refine isB_T ?_
    | with_reducible refine vb_i (e_nilNil _) ?_
    exact fin_ret (rvs_v (rvs_nil _)) ⟨rfl, List.prefix_refl _⟩)
  exact ⟨C, h, k⟩
theorem get_sheet {i m : Nat} {l : List PutV} (hk : shOk i m l B) (a : Int) :
    ∃ C, S_over_Sheet_Get [.ptr ⟨i, 0, 0⟩, .int .i64 a] B (.tup [.str ((getL l a).getD []), .bool (getL l a).isSome]) C ∧ B <+: C := by
  obtain ⟨r, C, h, rfl, k⟩ := over_Sheet_Get.out (x0 := .ptr ⟨i, 0, 0⟩) (x1 := .int .i64 a) (H := B) (Q := fun r C => r = .tup [.str ((getL l a).getD []), .bool (getL l a).isSome] ∧ B <+: C) (by
    unfold over_Sheet_Get.w
    obtain ⟨h1, h2, h3, w, es, h4, h5⟩ := hk
    repeat first
    | refine vb_ld h3 rfl ?_
    refine vb_i (map_look h4 h2 h5) ?_
    repeat first
    | with_reducible refine vb_i e_ext0 ?_
    | with_reducible refine vb_i e_ext1 ?_
    exact fin_ret (rvs_v (rvs_v (rvs_nil _))) ⟨List.prefix_refl _, rfl, List.prefix_refl _⟩)
  exact ⟨C, h, k⟩
theorem get_nil (a : AVal) : ∃ C, S_over_Sheet_Get [.nilp, a] B (.tup [.str [], .bool false]) C ∧ B <+: C := by
  obtain ⟨r, C, h, rfl, k⟩ := over_Sheet_Get.out (x0 := .nilp) (x1 := a) (H := B) (Q := fun r C => r = .tup [.str [], .bool false] ∧ B <+: C) (by
    unfold over_Sheet_Get.w
    repeat first
    | with_reducible refine isB_T ?_
    | with_reducible refine vb_i (e_nilNil _) ?_
    exact fin_ret (rvs_v (rvs_v (rvs_nil _))) ⟨List.prefix_refl _, rfl, List.prefix_refl _⟩)
  exact ⟨C, h, k⟩
theorem dropL_get {l : List PutV} {a : Int} (h : getL l a = none) : dropL l a = l := by
  unfold getL at h
  rw [Option.map_eq_none_iff, List.find?_eq_none] at h
  exact drop_none fun p hp => by simpa using h p hp
theorem drop_sheet {i m : Nat} {l : List PutV} (hs : Sep H0 own B (sheetP i m l :: R)) (a : Int) :
    ∃ C, S_over_Sheet_Drop [.ptr ⟨i, 0, 0⟩, .int .i64 a] B (.bool (getL l a).isSome) C ∧ Sep H0 own C (sheetP i m (dropL l a) :: R) := by
  obtain ⟨r, C, h, rfl, k⟩ := over_Sheet_Drop.out (x0 := .ptr ⟨i, 0, 0⟩) (x1 := .int .i64 a) (H := B) (Q := fun r C => r = .bool (getL l a).isSome ∧ Sep H0 own C (sheetP i m (dropL l a) :: R)) (by
    unfold over_Sheet_Drop.w
    obtain ⟨C, hc, hp⟩ := get_sheet (B := B) (a := a) hs.head
    refine cb_i _ _ hc ?_
    have hs := hs.quiet hp
    obtain ⟨h1, h2, h3, w, es, h4, h5⟩ := hs.head
    repeat first
    | with_reducible refine vb_i e_ext0 ?_
    | with_reducible refine vb_i e_ext1 ?_
    cases hg : getL l a with
    | none =>
      refine JoinP.mk (fun e vs D => C = D ∧ e = .normal) ?_ ?_
      · refine isB_Fa rfl ?_
        exact ⟨rfl, rfl⟩
      rintro _ _ _ ⟨rfl, rfl⟩
      rw [onE_same]
      exact fin_ret (rvs_v (rvs_nil _)) ⟨rfl, by rw [dropL_get hg]; exact hs⟩
    | some v =>
      obtain ⟨es', e1, e2⟩ := map_del (a := a) h4 h2 h5
      refine JoinP.mk (fun e vs D => C.set m (.map (w + 1) (ments es')) = D ∧ e = .normal) ?_ ?_
      · refine isB_Tr rfl ?_
        repeat first
        | refine vb_ld h3 rfl ?_
        refine hb_i e1 ?_
        exact ⟨rfl, rfl⟩
      rintro _ _ _ ⟨rfl, rfl⟩
      rw [onE_same]
      exact fin_ret (rvs_v (rvs_nil _)) ⟨rfl, sh_set hs (rise_drop h2 _) e2⟩)
  exact ⟨C, h, k⟩
theorem drop_nil (a : AVal) : ∃ C, S_over_Sheet_Drop [.nilp, a] B (.bool false) C ∧ B <+: C := by
  obtain ⟨r, C, h, rfl, k⟩ := over_Sheet_Drop.out (x0 := .nilp) (x1 := a) (H := B) (Q := fun r C => r = .bool false ∧ B <+: C) (by
    unfold over_Sheet_Drop.w
    obtain ⟨C, hc, hp⟩ := get_nil (B := B) a
    refine cb_i _ _ hc ?_
    repeat first
    | with_reducible refine vb_i e_ext0 ?_
    | with_reducible refine vb_i e_ext1 ?_
    refine JoinP.mk (fun e vs D => C = D ∧ e = .normal) ?_ ?_
    · repeat first
      | with_reducible refine isB_F ?_
      exact ⟨rfl, rfl⟩
    rintro _ _ _ ⟨rfl, rfl⟩
    rw [onE_same]
    exact fin_ret (rvs_v (rvs_nil _)) ⟨rfl, hp⟩)
  exact ⟨C, h, k⟩
theorem len_sheet {i m : Nat} {l : List PutV} (hk : shOk i m l B) : ∃ C, S_over_Sheet_Len [.ptr ⟨i, 0, 0⟩] B (.int .i64 l.length) C ∧ B <+: C := by
  obtain ⟨r, C, h, rfl, k⟩ := over_Sheet_Len.out (x0 := .ptr ⟨i, 0, 0⟩) (H := B) (Q := fun r C => r = .int .i64 l.length ∧ B <+: C) (by
    unfold over_Sheet_Len.w
    obtain ⟨h1, h2, h3, w, es, h4, h5⟩ := hk
    repeat first
    | refine vb_ld h3 rfl ?_
    refine vb_i (v := .int .i64 l.length) (by simp only [lenMp, h4]; rw [ments_len, h5.length_eq]) ?_
    exact fin_ret (rvs_v (rvs_nil _)) ⟨List.prefix_refl _, rfl, List.prefix_refl _⟩)
  exact ⟨C, h, k⟩
theorem len_nil' : ∃ C, S_over_Sheet_Len [.nilp] B (.int .i64 0) C ∧ B <+: C := by
  obtain ⟨r, C, h, rfl, k⟩ := over_Sheet_Len.out (x0 := .nilp) (H := B) (Q := fun r C => r = .int .i64 0 ∧ B <+: C) (by
    unfold over_Sheet_Len.w
    repeat first
    | with_reducible refine isB_T ?_
    | with_reducible refine vb_i (e_nilNil _) ?_
    exact fin_ret (rvs_v (rvs_nil _)) ⟨List.prefix_refl _, rfl, List.prefix_refl _⟩)
  exact ⟨C, h, k⟩
theorem clear_sheet {i m : Nat} {l : List PutV} (hs : Sep H0 own B (sheetP i m l :: R)) : ∃ m' C, S_over_Sheet_Clear [.ptr ⟨i, 0, 0⟩] B (.tup []) C ∧ Sep H0 own C (sheetP i m' [] :: R) := by
  obtain ⟨r, C, h, rfl, m', k⟩ := over_Sheet_Clear.out (x0 := .ptr ⟨i, 0, 0⟩) (H := B) (Q := fun r C => r = .tup [] ∧ ∃ m', Sep H0 own C (sheetP i m' [] :: R)) (by
    unfold over_Sheet_Clear.w
    obtain ⟨h1, h2, h3, w, es, h4, h5⟩ := hs.head
    have hi := lt_of_some h3
    repeat first
    | with_reducible refine isB_T ?_
    | with_reducible refine vb_i (e_ptrNilN _ _) ?_
    refine hb_i rfl ?_
    repeat first
    | with_reducible refine vb_i (e_nilCheck _) ?_
    | with_reducible refine vb_i (e_fieldAddr _ _) ?_
    refine sb_i (H := (B ++ [AObj.map 0 []]).set i (AObj.cells 0 .exact [AVal.map B.length])) ?_ ?_
    · rw [x_store1 rfl, List.getElem?_append_left hi, h3, x_st1 rfl (by simp)]
      rfl
    refine fin_normal (rvs_nil _) ⟨rfl, B.length, ?_⟩
    refine hs.put (by simp) (fun j hj => ?_) (fun k hk hn => ?_) ?_
    · simp [sheetP] at hj ⊢
      rcases hj with rfl | rfl
      · exact .inl (.inl rfl)
      · exact .inr (Nat.le_refl _)
    · rw [List.getElem?_set_ne (fun e => hn (by rw [← e]; simp [sheetP])), List.getElem?_append_left hk]
    · refine ⟨by omega, List.Pairwise.nil, by rw [List.getElem?_set_self (by simp; omega)], 0, [], ?_, List.Perm.refl _⟩
      rw [List.getElem?_set_ne (by omega), app_get0]; rfl)
  exact ⟨m', C, h, k⟩
theorem clear_nil : ∃ C, S_over_Sheet_Clear [.nilp] B (.tup []) C ∧ B <+: C := by
  obtain ⟨r, C, h, rfl, k⟩ := over_Sheet_Clear.out (x0 := .nilp) (H := B) (Q := fun r C => r = .tup [] ∧ B <+: C) (by
    unfold over_Sheet_Clear.w
    repeat first
    | with_reducible refine isB_F ?_
    | with_reducible refine vb_i (e_nilNilN _) ?_
    exact fin_normal (rvs_nil _) ⟨rfl, List.prefix_refl _⟩)
  exact ⟨C, h, k⟩
end
end Go.Sh

/- A sheet's blocks, in order. -/
namespace Go.Sh
open Go Go.Abs

theorem nx_iter {C : AHeap} {j m w : Nat} {lf : List PutV} {cur : Option (AVal × AVal)} {K : AVal → Bool → AHeap → Prop} (h : C[j]? = some (.mapIter (some (m, w)) (ments lf) cur)) (hv : verOf C m = w)
    (h1 : lf = [] → K (.tup [.bool false]) false C)
    (h2 : ∀ k p, lf[k]? = some p → K (.tup [.bool true, .int .i64 p.1, .str p.2]) true (C.set j (.mapIter (some (m, w)) (ments (lf.eraseIdx k)) (some (.int .i64 p.1, .str p.2))))) : nxP (.ptr ⟨j, 0, 0⟩) C K := by
  simp only [nxP, h]
  refine ⟨by simp [hv], fun e => h1 ?_, fun k c hc => ?_⟩
  · cases lf with
    | nil => rfl
    | cons _ _ => simp [ments] at e
  · unfold ments at hc ⊢
    rw [List.getElem?_map] at hc
    cases hp : lf[k]? with
    | none => rw [hp] at hc; cases hc
    | some p =>
      rw [hp] at hc
      cases hc
      rw [erase_map]
      exact h2 k p hp
theorem e_entry {C : AHeap} {j m w : Nat} {lf : List (AVal × AVal)} {k y : AVal} (h : C[j]? = some (.mapIter (some (m, w)) lf (some (k, y)))) (hv : verOf C m = w) : aEntry C (.ptr ⟨j, 0, 0⟩) = some (.tup [k, y]) := by
  simp only [aEntry, h]
  rw [if_pos (by simp [hv])]
theorem erase_perm {α : Type} {a : α} : ∀ {l : List α} {k : Nat}, l[k]? = some a → l.Perm (a :: l.eraseIdx k)
  | [], _, h => by simp at h
  | x :: l, 0, h => by simp at h; subst h; exact List.Perm.refl _
  | x :: l, k + 1, h => by
    simp at h
    rw [List.eraseIdx_cons_succ]
    exact ((erase_perm h).cons x).trans (List.Perm.swap _ _ _)
theorem puts_plain : ∀ (l : List PutV), ∀ x ∈ flat putC l, x.plain = true := by
  intro l x hx
  simp only [flat, List.mem_flatten, List.mem_map] at hx
  obtain ⟨_, ⟨p, _, rfl⟩, hx⟩ := hx
  simp only [putC, List.mem_cons, List.not_mem_nil, or_false] at hx
  rcases hx with rfl | rfl <;> rfl
theorem over_Sheet_Puts.ok (args : List AVal) (H : AHeap) (r : AVal) (H' : AHeap) (h : S_over_Sheet_Puts args H r H') : ∃ x0, args = [x0] ∧ over_Sheet_Puts.w x0 H fun r1 H1 => Weak H r1 H1 r H' := by
  rcases h with ⟨rfl, rfl, rfl⟩ | ⟨i, m, l, rfl, hok, hroom, h⟩
  · refine ⟨_, rfl, ?_⟩
    unfold over_Sheet_Puts.w
    repeat first
    | with_reducible refine isB_T ?_
    | with_reducible refine vb_i (e_nilNil _) ?_
    exact fin_ret (rvs_v (rvs_nil _)) (Weak.plain rfl (List.prefix_refl _))
  · refine ⟨_, rfl, ?_⟩
    unfold over_Sheet_Puts.w
    obtain ⟨h1, h2, h3, w, es, h4, h5⟩ := hok
    have hm := lt_of_some h4
    have hes : es.length = l.length := h5.length_eq.symm
    have hroom' : es.length * 24 ≤ room := by omega
    have hr2 : es.length ≤ room := by unfold room at hroom' ⊢; omega
    repeat first
    | refine vb_ld h3 rfl ?_
    refine hb_i (v := .ptr ⟨H.length, 0, 0⟩) (H := H ++ [.mapIter (some (m, w)) (ments es) none]) (by simp only [aRangeMap, h4]) ?_
    refine LoopP.ruleG (α := AVal × List PutV × List PutV) (fun a => [a.1]) (fun a C => (H <+: C ∧ (∃ cur, C[H.length]? = some (.mapIter (some (m, w)) (ments a.2.2) cur)) ∧ (a.2.1 ++ a.2.2).Perm es ∧ (∀ k, slId a.1 = some k → H.length ≤ k) ∧ (a.2.1 = [] → a.1 = .nils)) ∧ OwnO C a.1 2 a.2.1.length (flat putC a.2.1)) (fun a => a.2.2.length) (.nils, [], es) (by simp)
      ⟨⟨pre_app _ _, ⟨none, by rw [app_get0]; rfl⟩, List.Perm.refl _, (fun k hk => by cases hk), fun _ => rfl⟩, OwnO.nils _ 2⟩ ?_
    rintro ⟨sv, dn, lf⟩ C Kn ⟨⟨hp, ⟨cur, hc⟩, hpm, hid, hnil⟩, ho⟩ hk
    simp only at hc hpm ho hid hnil
    unfold over_Sheet_Puts.L5 over_Sheet_Puts.L5.b
    try simp only [evB]
    have hver : ∀ D : AHeap, H <+: D → verOf D m = w := fun D hD => verOf_some (o := .map w (ments es)) (by rw [pre_get hD hm]; exact h4)
    refine nx_iter hc (hver C hp) (fun e => ?_) (fun k p hkp => ?_)
    · subst e
      rw [List.append_nil] at hpm
      rw [isB_bool, cond_false, onE_same]
      have hdl : l.Perm dn := h5.trans hpm.symm
      have hdn : dn.length = es.length := hpm.length_eq
      rcases ho.2 with ⟨rfl, hz⟩ | ⟨q, v, rfl, hq⟩
      · have hdn0 : dn = [] := List.eq_nil_of_length_eq_zero hz
        subst hdn0
        have hl : l = [] := hdl.eq_nil
        subst hl
        refine cb_i (.tup []) C ⟨[], [], List.Perm.refl _, List.Pairwise.nil, by decide, rfl, .inr ⟨rfl, rfl, rfl⟩⟩ ?_
        rcases h with ⟨_, rfl, rfl⟩ | ⟨h, _⟩
        · exact fin_ret (rvs_v (rvs_nil _)) (Weak.plain rfl hp)
        · exact absurd rfl h
      · have hqH : H.length ≤ q := hid q rfl
        refine cb_i (.tup []) (C.set q (.cells v .opn (flat putC l))) ⟨dn, l, hdl, h2, by unfold room at hr2; omega, rfl, .inl ⟨q, v, rfl, hq, rfl⟩⟩ ?_
        have hfl := flat_len putC_len l
        have ho' : OwnO (C.set q (.cells v .opn (flat putC l))) (.slice ⟨q, v, 0⟩ dn.length (.op 2)) 2 l.length (flat putC l) := by
          rw [← hdl.length_eq]
          exact ⟨hfl, .inr ⟨q, v, rfl, List.getElem?_set_self (lt_of_some hq)⟩⟩
        rcases h with ⟨hl, rfl, rfl⟩ | ⟨hl, rfl, rfl⟩
        · have hd0 : dn = [] := by subst hl; exact hdl.nil_eq.symm
          cases hnil hd0
        · refine fin_ret (rvs_v (rvs_nil _)) (OwnO.weak ho' (List.length_pos_iff.2 hl) (puts_plain l) (pre_set hp hqH _) (fun k hk => by cases hk; exact hqH) fun ρ σ N hN hr => ?_)
          exact hr
    · rw [isB_bool, cond_true]
      have hCl : H.length < C.length := lt_of_some hc
      have hp' : H <+: C.set H.length (.mapIter (some (m, w)) (ments (lf.eraseIdx k)) (some (.int .i64 p.1, .str p.2))) := pre_set hp (Nat.le_refl _) _
      have hlf := erase_perm hkp
      have hdl : dn.length + lf.length = es.length := by rw [← List.length_append]; exact hpm.length_eq
      have hlf1 : lf.length = (lf.eraseIdx k).length + 1 := by rw [hlf.length_eq]; rfl
      have hc' : (C.set H.length (.mapIter (some (m, w)) (ments (lf.eraseIdx k)) (some (.int .i64 p.1, .str p.2))))[H.length]? = some (.mapIter (some (m, w)) (ments (lf.eraseIdx k)) (some (.int .i64 p.1, .str p.2))) := List.getElem?_set_self hCl
      refine vb_i (e_entry hc' (hver _ hp')) ?_
      refine vb_i e_ext0 ?_
      refine vb_i e_ext1 ?_
      refine vb_i (v := .agg (putC p)) rfl ?_
      have ho' : OwnO (C.set H.length (.mapIter (some (m, w)) (ments (lf.eraseIdx k)) (some (.int .i64 p.1, .str p.2)))) sv 2 dn.length (flat putC dn) := by
        refine ⟨ho.1, ho.2.imp id fun ⟨q, v, e, hq⟩ => ⟨q, v, e, ?_⟩⟩
        rw [List.getElem?_set_ne (fun e' => by rw [← e', hc] at hq; cases hq)]
        exact hq
      generalize C.set H.length (.mapIter (some (m, w)) (ments (lf.eraseIdx k)) (some (.int .i64 p.1, .str p.2))) = D at *
      have hDl : H.length < D.length := lt_of_some hc'
      have hsv : slId sv ≠ some H.length := by
        intro e
        rcases ho'.2 with ⟨rfl, _⟩ | ⟨q, v, rfl, hq⟩
        · cases e
        · cases e; rw [hc'] at hq; cases hq
      refine pushON ho' (by decide) (putC_len p) rfl (putC_cell p) (by unfold room at *; omega) (by omega) fun sv' D' o kk hi => ?_
      have hpm' : ((dn ++ [p]) ++ lf.eraseIdx k).Perm es := by
        refine List.Perm.trans ?_ hpm
        rw [List.append_assoc]
        exact (hlf.symm).append_left dn
      refine hk (sv', dn ++ [p], lf.eraseIdx k) D' ⟨⟨?_, ⟨some (.int .i64 p.1, .str p.2), ?_⟩, hpm', ?_, fun e => by simp at e⟩, ?_⟩ (by simp only; omega)
      · refine pre_of_get (Nat.le_trans (by omega) kk.len) fun j hj => ?_
        rw [kk.get j (by omega) ?_, pre_get hp' hj]
        intro e
        have := hid j e
        omega
      · rw [kk.get _ hDl hsv]; exact hc'
      · intro j hj
        rcases hi with hi | ⟨_, hi⟩
        · rw [hi] at hj; exact hid j hj
        · rw [hi] at hj; cases hj; omega
      · rw [flat_app, flat_one, List.length_append]
        exact o
end Go.Sh

/- Sheets: copies; one over another one. -/
namespace Go.Sh
open Go Go.Abs

def setAll (acc l : List PutV) : List PutV := l.foldl setL acc
theorem setAll_app (acc l k : List PutV) : setAll acc (l ++ k) = setAll (setAll acc l) k := List.foldl_append
theorem setAll_step {l : List PutV} {k : Nat} {p : PutV} (h : l[k]? = some p) (acc : List PutV) : setAll acc (l.take (k + 1)) = setL (setAll acc (l.take k)) p := by
  rw [List.take_add_one, h, setAll_app]; rfl
theorem rise_all : ∀ {l acc : List PutV}, Rising acc → Rising (setAll acc l)
  | [], _, h => h
  | p :: l, _, h => rise_all (l := l) (rise_set h p)
theorem set_end {l : List PutV} {p : PutV} (h : ∀ q ∈ l, q.1 < p.1) : setL l p = l ++ [p] := by
  unfold setL
  rw [drop_none fun q hq => by have := h q hq; omega]
  unfold insL
  rw [(take_while (l := l) (k := l.length) (fun q hq => by simpa using h q (List.mem_of_mem_take hq)) (fun q hq => by have := lt_some hq; omega)).1, (take_while (l := l) (k := l.length) (fun q hq => by simpa using h q (List.mem_of_mem_take hq)) (fun q hq => by have := lt_some hq; omega)).2]
  simp
theorem setAll_rise : ∀ {l acc : List PutV}, Rising (acc ++ l) → setAll acc l = acc ++ l
  | [], acc, _ => by simp [setAll]
  | p :: l, acc, h => by
    have h1 := (List.pairwise_append.1 h).2.2
    show setAll (setL acc p) l = _
    rw [set_end fun q hq => h1 q hq p List.mem_cons_self, setAll_rise (by simpa using h)]
    simp
theorem set_len (l : List PutV) (p : PutV) : (setL l p).length ≤ l.length + 1 := by
  rw [(set_perm l p).length_eq]
  exact Nat.succ_le_succ (List.length_filter_le _ _)
theorem setAll_len : ∀ (l acc : List PutV), (setAll acc l).length ≤ acc.length + l.length
  | [], _ => Nat.le_refl _
  | p :: l, acc => by
    have := setAll_len l (setL acc p)
    have := set_len acc p
    show (setAll (setL acc p) l).length ≤ acc.length + (l.length + 1)
    omega
/-- A sheet that is read, or none. -/
def shArg (x : AVal) (l : List PutV) (B : AHeap) : Prop := (x = .nilp ∧ l = []) ∨ ∃ i m, x = .ptr ⟨i, 0, 0⟩ ∧ shOk i m l B
theorem shArg.pre {x : AVal} {l : List PutV} {B C : AHeap} (h : shArg x l B) (p : B <+: C) : shArg x l C := by
  refine h.imp id fun ⟨i, m, e, k⟩ => ⟨i, m, e, ?_⟩
  obtain ⟨h1, h2, h3, w, es, h4, h5⟩ := k
  exact ⟨h1, h2, by rw [pre_get p (lt_of_some h3)]; exact h3, w, es, by rw [pre_get p (lt_of_some h4)]; exact h4, h5⟩
theorem shArg.rise {x : AVal} {l : List PutV} {B : AHeap} (h : shArg x l B) : Rising l := by
  rcases h with ⟨_, rfl⟩ | ⟨i, m, _, _, h, _⟩
  · exact List.Pairwise.nil
  · exact h
section
variable {H0 B : AHeap} {own : Nat → Prop} {R : List Part}
theorem puts_spec {x : AVal} {l : List PutV} (h : shArg x l B) (hl : l.length ≤ 1099511627776) : ∃ sv C, S_over_Sheet_Puts [x] B sv C ∧ B <+: C ∧ Sep B (fun _ => False) C [.sl sv 2 l.length (flat putC l)] := by
  rcases h with ⟨rfl, rfl⟩ | ⟨i, m, rfl, h⟩
  · exact ⟨.nils, B, .inl ⟨rfl, rfl, rfl⟩, List.prefix_refl _, s_nils (Sep.start B) 2⟩
  · cases hl0 : l with
    | nil =>
      subst hl0
      exact ⟨.nils, B, .inr ⟨i, m, [], rfl, h, by decide, .inl ⟨rfl, rfl, rfl⟩⟩, List.prefix_refl _, s_nils (Sep.start B) 2⟩
    | cons p k =>
      rw [← hl0]
      have hn : l ≠ [] := by rw [hl0]; nofun
      refine ⟨_, _, .inr ⟨i, m, l, rfl, h, by unfold room; omega, .inr ⟨hn, rfl, rfl⟩⟩, pre_app _ _, ?_⟩
      exact Sep.as ((Sep.start B).new _) rfl fun ho => ⟨flat_len putC_len l, .inr (.inr ⟨_, 0, rfl, ho⟩)⟩
theorem copy_spec {x : AVal} {l : List PutV} (h : shArg x l B) (hl : l.length ≤ 1099511627776) : ∃ i m C, S_over_Sheet_Copy [x] B (.ptr ⟨i, 0, 0⟩) C ∧ B <+: C ∧ Sep B (fun _ => False) C [sheetP i m l] := by
  obtain ⟨r, C, h, ⟨i, m, rfl, k⟩, k2⟩ := over_Sheet_Copy.out (x0 := x) (H := B) (Q := fun r C => (∃ i m, r = .ptr ⟨i, 0, 0⟩ ∧ Sep B (fun _ => False) C [sheetP i m l]) ∧ B <+: C) (by
    unfold over_Sheet_Copy.w
    have hs : Sep B (fun _ => False) B [] := Sep.start B
    have hpl := putC_len
    obtain ⟨i, m, C, hc, hp, hk⟩ := new_spec (B := B)
    refine cb_i _ _ hc ?_
    have hs := hk
    obtain ⟨sv, D, hc', hp', hk'⟩ := puts_spec (h.pre hp) hl
    refine cb_i _ _ hc' ?_
    have hs := Sep.call01 hs (hk'.own_of fun _ h => h.elim)
    clear hc hc' hp hp' hk hk'
    refine vb_len hs.o0.view ?_
    refine LoopP.ruleG (α := Nat) (fun j => [.int .i64 (j : Int)]) (fun j D => j ≤ l.length ∧ Sep B (fun _ => False) D [sheetP i m (setAll [] (l.take j)), .sl sv 2 l.length (flat putC l)]) (fun j => l.length - j) 0 (by simp) ⟨Nat.zero_le _, hs.f1⟩ ?_
    clear hs
    rintro j D Kn ⟨hj, hs⟩ hk
    unfold over_Sheet_Copy.L3 over_Sheet_Copy.L3.b
    try simp only [evB]
    repeat first
    | with_reducible refine vb_i (lss64 _ _ _) ?_
    refine isB_c (fun h1 => ?_) (fun h1 => ?_)
    · have hb := List.getElem?_eq_getElem (l := l) (i := j) (by omega)
      generalize l[j] = p at hb
      refine vb_addrN hs.o1.view (by omega) ?_
      refine vb_i (el_ldN putC_len hs.o1.view hb) ?_
      repeat first
      | with_reducible refine vb_i (e_fieldAddr _ _) ?_
      | ((with_reducible apply vb_ld); (· first | exact hs.g0 | exact hs.g1 | exact hs.g2 | exact hs.g3 | exact hs.g4 | exact hs.g5 | exact hs.g6 | exact hs.rd hg | exact hs.rd hg2 | exact hs.rd hg3 | exact hs.rd hg4 | assumption); (· rfl))
      | ((with_reducible refine s_alloc hs ?_); intro _ _ _ hs)
      | ((with_reducible first | apply s_storeA hs | apply s_storeA hs.f1 | apply s_storeA hs.f2); (· rfl); (· first | rfl | assumption); (· first | rfl | assumption); (· first | rfl | assumption); intro _ hs)
      obtain ⟨D2, hc, hs⟩ := set_sheet hs.f1 p.1 p.2
      refine cb_i _ _ hc ?_
      repeat first
      | ((with_reducible refine vb_i (add64 ?_ ?_) ?_); (· omega); (· omega))
      refine hk (j + 1) _ ⟨by omega, ?_⟩ (by omega)
      rw [setAll_step hb]
      exact hs.f1.tail
    · obtain rfl : j = l.length := by omega
      repeat first
      | with_reducible refine onE_i ?_
      have hp := hs.pre fun _ x => x
      have hs := hs.drop (R1 := [_])
      rw [List.take_length, setAll_rise (by simpa using h.rise), List.nil_append] at hs
      exact fin_ret (rvs_v (rvs_nil _)) ⟨hp, ⟨i, m, rfl, hs⟩, hp⟩)
  exact ⟨i, m, C, h, k2, k⟩
theorem over_spec {x y : AVal} {l k : List PutV} (h : shArg x l B) (h' : shArg y k B) (hl : l.length ≤ 1099511627776) (hl' : k.length ≤ 1099511627776) :
    ∃ i m C, S_over_Sheet_Over [x, y] B (.ptr ⟨i, 0, 0⟩) C ∧ B <+: C ∧ Sep B (fun _ => False) C [sheetP i m (setAll k l)] := by
  obtain ⟨r, C, h, ⟨i, m, rfl, k⟩, k2⟩ := over_Sheet_Over.out (x0 := x) (x1 := y) (H := B) (Q := fun r C => (∃ i m, r = .ptr ⟨i, 0, 0⟩ ∧ Sep B (fun _ => False) C [sheetP i m (setAll k l)]) ∧ B <+: C) (by
    unfold over_Sheet_Over.w
    have hpl := putC_len
    obtain ⟨i, m, C, hc, hp, hk⟩ := copy_spec h' hl'
    refine cb_i _ _ hc ?_
    have hs := hk
    obtain ⟨sv, D, hc', hp', hk'⟩ := puts_spec (h.pre hp) hl
    refine cb_i _ _ hc' ?_
    have hs := Sep.call01 hs (hk'.own_of fun _ h => h.elim)
    clear hc hc' hp hp' hk hk'
    refine vb_len hs.o0.view ?_
    refine LoopP.ruleG (α := Nat) (fun j => [.int .i64 (j : Int)]) (fun j D => j ≤ l.length ∧ Sep B (fun _ => False) D [sheetP i m (setAll k (l.take j)), .sl sv 2 l.length (flat putC l)]) (fun j => l.length - j) 0 (by simp) ⟨Nat.zero_le _, hs.f1⟩ ?_
    clear hs
    rintro j D Kn ⟨hj, hs⟩ hk
    unfold over_Sheet_Over.L3 over_Sheet_Over.L3.b
    try simp only [evB]
    repeat first
    | with_reducible refine vb_i (lss64 _ _ _) ?_
    refine isB_c (fun h1 => ?_) (fun h1 => ?_)
    · have hb := List.getElem?_eq_getElem (l := l) (i := j) (by omega)
      generalize l[j] = p at hb
      refine vb_addrN hs.o1.view (by omega) ?_
      refine vb_i (el_ldN putC_len hs.o1.view hb) ?_
      repeat first
      | with_reducible refine vb_i (e_fieldAddr _ _) ?_
      | ((with_reducible apply vb_ld); (· first | exact hs.g0 | exact hs.g1 | exact hs.g2 | exact hs.g3 | exact hs.g4 | exact hs.g5 | exact hs.g6 | exact hs.rd hg | exact hs.rd hg2 | exact hs.rd hg3 | exact hs.rd hg4 | assumption); (· rfl))
      | ((with_reducible refine s_alloc hs ?_); intro _ _ _ hs)
      | ((with_reducible first | apply s_storeA hs | apply s_storeA hs.f1 | apply s_storeA hs.f2); (· rfl); (· first | rfl | assumption); (· first | rfl | assumption); (· first | rfl | assumption); intro _ hs)
      obtain ⟨D2, hc, hs⟩ := set_sheet hs.f1 p.1 p.2
      refine cb_i _ _ hc ?_
      repeat first
      | ((with_reducible refine vb_i (add64 ?_ ?_) ?_); (· omega); (· omega))
      refine hk (j + 1) _ ⟨by omega, ?_⟩ (by omega)
      rw [setAll_step hb]
      exact hs.f1.tail
    · obtain rfl : j = l.length := by omega
      repeat first
      | with_reducible refine onE_i ?_
      have hp := hs.pre fun _ x => x
      have hs := hs.drop (R1 := [_])
      rw [List.take_length] at hs
      exact fin_ret (rvs_v (rvs_nil _)) ⟨hp, ⟨i, m, rfl, hs⟩, hp⟩)
  exact ⟨i, m, C, h, k2, k⟩
end
end Go.Sh

/- Sheets against lists. -/
namespace Go.Sh
open Go Go.Abs

theorem at_cases : ∀ (l : List PutV) (a : Int), (atI l a = -1 ∧ getL l a = none) ∨ ∃ (j : Nat) (p : PutV), l[j]? = some p ∧ atI l a = (j : Int) ∧ getL l a = some p.2
  | [], a => .inl ⟨rfl, rfl⟩
  | q :: l, a => by
    by_cases h : q.1 = a
    · right
      refine ⟨0, q, rfl, ?_, ?_⟩
      · unfold atI; rw [List.findIdx?_cons, if_pos (by simpa using h)]
      · unfold getL; rw [List.find?_cons_of_pos (by simpa using h)]; rfl
    · have e1 : atI (q :: l) a = if atI l a = -1 then -1 else atI l a + 1 := by
        unfold atI
        rw [List.findIdx?_cons, if_neg (by simpa using h)]
        cases l.findIdx? (fun p => decide (p.1 = a)) with
        | none => rfl
        | some i => simp only [Option.map_some]; rw [if_neg (by omega)]; rfl
      have e2 : getL (q :: l) a = getL l a := by unfold getL; rw [List.find?_cons_of_neg (by simpa using h)]
      rcases at_cases l a with ⟨h1, h2⟩ | ⟨j, p, h1, h2, h3⟩
      · left
        rw [e1, e2, if_pos h1]
        exact ⟨rfl, h2⟩
      · right
        refine ⟨j + 1, p, by simpa using h1, ?_, by rw [e2]; exact h3⟩
        rw [e1, h2, if_neg (by omega)]
        rfl
abbrev ActV := Int × Int × List UInt8
def actC (q : ActV) : List AVal := [.int .i64 q.1, .int .i64 q.2.1, .str q.2.2]
theorem actC_len (q : ActV) : (actC q).length = 3 := rfl
def doL (l : List PutV) (q : ActV) : List PutV := if q.1 = 0 ∨ q.1 = 1 ∨ q.1 = 2 then setL l q.2 else if q.1 = 4 then dropL l q.2.1 else if q.1 = 5 then [] else l
theorem doL_len (l : List PutV) (q : ActV) : (doL l q).length ≤ l.length + 1 := by
  unfold doL
  split
  · exact set_len l q.2
  · split
    · exact Nat.le_succ_of_le (List.length_filter_le _ _)
    · split
      · exact Nat.zero_le _
      · exact Nat.le_succ _
section
variable {H0 B : AHeap} {own : Nat → Prop} {R : List Part} {vs vs' : List (AVal × List PutV)}
theorem vws_add {sv : AVal} {l : List PutV} (h : Sep H0 own B (.sl sv 2 l.length (flat putC l) :: vwsP vs :: R)) : Sep H0 own B (vwsP ((sv, l) :: vs) :: R) := by
  refine Sep.as h.join rfl fun ⟨h1, h2, _⟩ p hp => ?_
  rcases List.mem_cons.1 hp with rfl | hp
  · exact Own.view h1
  · exact h2 p hp
theorem vws_sub (h : Sep H0 own B (vwsP vs :: R)) (hs : ∀ p ∈ vs', p ∈ vs) : Sep H0 own B (vwsP vs' :: R) := by
  refine h.put (Nat.le_refl _) (fun i hi => .inl ?_) (fun _ _ _ => rfl) (fun p hp => h.head p (hs p hp))
  obtain ⟨p, hp, hi⟩ := List.mem_flatMap.1 hi
  exact List.mem_flatMap.2 ⟨p, hs p hp, hi⟩
theorem vws_nil (h : Sep H0 own B R) : Sep H0 own B (vwsP [] :: R) := by
  have h := s_nils h 2
  exact h.as rfl fun _ p hp => by cases hp
theorem awake_spec : ∃ C, S_cellaretlaw16_awake [] B (.bool true) C ∧ B <+: C := by
  obtain ⟨r, C, h, rfl, k⟩ := cellaretlaw16_awake.out (H := B) (Q := fun r C => r = .bool true ∧ B <+: C) (by
    unfold cellaretlaw16_awake.w
    have hpl := putC_len
    obtain ⟨i, m, C, hc, hp, hs⟩ := new_spec (B := B)
    refine cb_i _ _ hc ?_
    obtain ⟨C1, hc1, hs⟩ := set_sheet hs 5 [97]
    obtain ⟨C2, hc2, hs⟩ := set_sheet hs 3 [98]
    refine JoinP.mk (fun e vs D => C2 = D ∧ e = .normal) ?_ ?_
    · repeat first
      | with_reducible refine isB_F ?_
      | with_reducible refine vb_i (e_ptrNil _ _) ?_
      refine cb_i _ _ hc1 ?_
      repeat first
      | with_reducible refine vb_i (e_not _) ?_
      | ((with_reducible refine isB_Fa ?_ ?_); (· rfl))
      refine cb_i _ _ hc2 ?_
      repeat first
      | with_reducible refine vb_i (e_not _) ?_
      | ((with_reducible refine isB_Fa ?_ ?_); (· rfl))
      exact ⟨rfl, rfl⟩
    rintro _ _ _ ⟨rfl, rfl⟩
    rw [onE_same]
    have e : setL (setL [] (5, [97])) (3, [98]) = [(3, [98]), (5, [97])] := by decide
    rw [e] at hs
    obtain ⟨C3, hc3, hp3⟩ := get_sheet hs.head 5
    refine cb_i _ _ hc3 ?_
    have hs := hs.quiet hp3
    have e2 : getL [(3, [98]), (5, [97])] 5 = some [97] := by decide
    rw [e2]
    repeat first
    | with_reducible refine vb_i e_ext0 ?_
    | with_reducible refine vb_i e_ext1 ?_
    | with_reducible refine vb_i (eqls _ _) ?_
    | ((with_reducible refine isB_Tr ?_ ?_); (· rfl))
    obtain ⟨sv, C4, hc4, hp4, hk4⟩ := puts_spec (B := C3) (.inr ⟨i, m, rfl, hs.head⟩) (by decide)
    refine cb_i _ _ hc4 ?_
    have hs := Sep.call01 hs (hk4.own_of fun _ h => h.elim)
    refine vb_bld (cs := [.int .i64 3, .str [98]]) (by simp only [evF, evS]; rfl) ?_
    refine vb_bld (cs := [.int .i64 5, .str [97]]) (by simp only [evF, evS]; rfl) ?_
    refine s_row hs (cs := flat putC [(3, [98]), (5, [97])]) (by rfl) ?_
    intro q C5 _ hs
    have hv : View C5 (.slice ⟨q, 0, 0⟩ 2 (.ex 2)) 2 2 (flat putC [(3, [98]), (5, [97])]) := ⟨rfl, .inr ⟨q, 0, 0, _, .exact, _, rfl, hs.g0, fun _ => by decide, by rfl, Nat.le_refl _⟩⟩
    obtain ⟨C6, hc6, hp6⟩ := same_spec (l := [(3, [98]), (5, [97])]) (k := [(3, [98]), (5, [97])]) hs.o1.view hv (by decide)
    refine cb_i _ _ hc6 ?_
    have hs := hs.quiet hp6
    have hp := hs.pre fun _ x => x
    exact fin_ret (rvs_v (rvs_nil _)) ⟨hp, rfl, hp⟩)
  exact ⟨C, h, k⟩
set_option maxHeartbeats 400000 in
theorem do_spec {i m : Nat} {l : List PutV} {x : AVal} {q : ActV} (hs : Sep H0 own B (sheetP i m l :: vwsP vs :: R)) (hx : (x, l) ∈ vs) (hl : l.length ≤ 1099511627776) :
    ∃ m' x' C, S_cellaretlaw16_do [.ptr ⟨i, 0, 0⟩, x, .agg (actC q)] B (.tup [x', .bool true]) C ∧ Sep H0 own C (sheetP i m' (doL l q) :: vwsP ((x', doL l q) :: vs) :: R) := by
  obtain ⟨r, C, h, m', x', rfl, k⟩ := cellaretlaw16_do.out (x0 := .ptr ⟨i, 0, 0⟩) (x1 := x) (x2 := .agg (actC q)) (H := B) (Q := fun r C => ∃ m' x', r = .tup [x', .bool true] ∧ Sep H0 own C (sheetP i m' (doL l q) :: vwsP ((x', doL l q) :: vs) :: R)) (by
    obtain ⟨k, a, s⟩ := q
    unfold cellaretlaw16_do.w actC
    have hpl := putC_len
    repeat first
    | with_reducible refine vb_i (e_fieldAddr _ _) ?_
    | ((with_reducible apply vb_ld); (· first | exact hs.g0 | exact hs.g1 | exact hs.g2 | exact hs.g3 | exact hs.g4 | exact hs.g5 | exact hs.g6 | exact hs.rd hg | exact hs.rd hg2 | exact hs.rd hg3 | exact hs.rd hg4 | assumption); (· rfl))
    | ((with_reducible apply s_box hs); (· rfl); intro _ _ _ hs; try simp only [AVal.cells] at hs)
    rename_i o C0 _
    have hv : View C0 x 2 l.length (flat putC l) := hs.tail.tail.head _ hx
    obtain ⟨C, hc, hp⟩ := at_spec (a := a) hv (by omega)
    refine cb_i _ _ hc ?_
    have hs := hs.quiet hp
    have hv : View C x 2 l.length (flat putC l) := hs.tail.tail.head _ hx
    clear hc hp
    repeat first
    | with_reducible refine vb_i (e_fieldAddr _ _) ?_
    | ((with_reducible apply vb_ld); (· first | exact hs.g0 | exact hs.g1 | exact hs.g2 | exact hs.g3 | exact hs.g4 | exact hs.g5 | exact hs.g6 | exact hs.rd hg | exact hs.rd hg2 | exact hs.rd hg3 | exact hs.rd hg4 | assumption); (· rfl))
    refine JoinP.mk (fun e vs D => C = D ∧ e = .normal ∧ vs = [.bool (decide (k = 0 ∨ k = 1 ∨ k = 2))]) ?_ ?_
    · repeat first
      | with_reducible refine vb_i (eql64 _ _ _) ?_
      refine isB_c (fun h1 => ?_) (fun h1 => ?_)
      · exact ⟨rfl, rfl, by rw [decide_eq_true h1, decide_eq_true (by omega)]⟩
      repeat first
      | with_reducible refine vb_i (eql64 _ _ _) ?_
      refine isB_c (fun h2 => ?_) (fun h2 => ?_)
      · exact ⟨rfl, rfl, by rw [decide_eq_true h2, decide_eq_true (by omega)]⟩
      repeat first
      | with_reducible refine vb_i (eql64 _ _ _) ?_
      have e : decide (k = 2) = decide (k = 0 ∨ k = 1 ∨ k = 2) := decide_eq_decide.2 (by omega)
      exact ⟨rfl, rfl, by rw [e]⟩
    rintro _ _ _ ⟨rfl, rfl, rfl⟩
    rw [onE_same]
    try simp only [evB]
    refine isB_c (fun h1 => ?_) (fun h1 => ?_)
    · have e : doL l (k, a, s) = setL l (a, s) := if_pos h1
      rw [e]
      repeat first
      | with_reducible refine vb_i (e_fieldAddr _ _) ?_
      | ((with_reducible apply vb_ldP); (· first | exact hs.g0 | exact hs.g1 | exact hs.g2 | exact hs.g3 | exact hs.g4 | exact hs.g5 | exact hs.g6 | exact hs.rd hg | exact hs.rd hg2 | exact hs.rd hg3 | exact hs.rd hg4 | assumption); (· rfl); (· rfl))
      obtain ⟨sv, D, hc, hp, hk⟩ := set_spec (p := (a, s)) hv hl
      refine cb_i _ _ hc ?_
      have hs := Sep.call01 hs (hk.own_of fun _ h => h.elim)
      repeat first
      | with_reducible refine vb_i (e_fieldAddr _ _) ?_
      | ((with_reducible apply vb_ld); (· first | exact hs.g0 | exact hs.g1 | exact hs.g2 | exact hs.g3 | exact hs.g4 | exact hs.g5 | exact hs.g6 | exact hs.rd hg | exact hs.rd hg2 | exact hs.rd hg3 | exact hs.rd hg4 | assumption); (· rfl))
      obtain ⟨D2, hc2, hs⟩ := set_sheet hs.f2 a s
      refine cb_i _ _ hc2 ?_
      exact fin_ret (rvs_v (rvs_v (rvs_nil _))) ⟨m, sv, rfl, (vws_add (hs.f2.tail.b2)).f1⟩
    · repeat first
      | with_reducible refine vb_i (eql64 _ _ _) ?_
      refine isB_c (fun h2 => ?_) (fun h2 => ?_)
      · have e : doL l (k, a, s) = dropL l a := by unfold doL; rw [if_neg h1, if_pos h2]
        rw [e]
        repeat first
        | with_reducible refine vb_i (e_fieldAddr _ _) ?_
        | ((with_reducible apply vb_ld); (· first | exact hs.g0 | exact hs.g1 | exact hs.g2 | exact hs.g3 | exact hs.g4 | exact hs.g5 | exact hs.g6 | exact hs.rd hg | exact hs.rd hg2 | exact hs.rd hg3 | exact hs.rd hg4 | assumption); (· rfl))
        obtain ⟨sv, D, hc, hp, hk⟩ := drop_spec (a := a) hv hl
        refine cb_i _ _ hc ?_
        have hs := Sep.call01 hs (hk.own_of fun _ h => h.elim)
        repeat first
        | with_reducible refine vb_i (e_fieldAddr _ _) ?_
        | ((with_reducible apply vb_ld); (· first | exact hs.g0 | exact hs.g1 | exact hs.g2 | exact hs.g3 | exact hs.g4 | exact hs.g5 | exact hs.g6 | exact hs.rd hg | exact hs.rd hg2 | exact hs.rd hg3 | exact hs.rd hg4 | assumption); (· rfl))
        obtain ⟨D2, hc2, hs⟩ := drop_sheet hs.f2 a
        refine cb_i _ _ hc2 ?_
        repeat first
        | with_reducible refine vb_i (geq64 _ _ _) ?_
        refine vb_i (v := .bool true) ?_ ?_
        · rcases at_cases l a with ⟨h4, h5⟩ | ⟨j, p, h4, h5, h6⟩
          · rw [h4, h5]; rfl
          · rw [h5, h6]
            have : decide (0 ≤ (j : Int)) = true := decide_eq_true (by omega)
            rw [this]; rfl
        exact fin_ret (rvs_v (rvs_v (rvs_nil _))) ⟨m, sv, rfl, (vws_add (hs.f2.tail.b2)).f1⟩
      repeat first
      | with_reducible refine vb_i (eql64 _ _ _) ?_
      refine isB_c (fun h3 => ?_) (fun h3 => ?_)
      · have e : doL l (k, a, s) = [] := by unfold doL; rw [if_neg h1, if_neg h2, if_pos h3]
        rw [e]
        obtain ⟨m', D2, hc2, hs⟩ := clear_sheet hs.f1
        refine cb_i _ _ hc2 ?_
        exact fin_ret (rvs_v (rvs_v (rvs_nil _))) ⟨m', .nils, rfl, (vws_add (l := []) (s_nils (hs.f1.tail.f1) 2)).f1⟩
      have e : doL l (k, a, s) = l := by unfold doL; rw [if_neg h1, if_neg h2, if_neg h3]
      rw [e]
      repeat first
      | with_reducible refine vb_i (e_fieldAddr _ _) ?_
      | ((with_reducible apply vb_ld); (· first | exact hs.g0 | exact hs.g1 | exact hs.g2 | exact hs.g3 | exact hs.g4 | exact hs.g5 | exact hs.g6 | exact hs.rd hg | exact hs.rd hg2 | exact hs.rd hg3 | exact hs.rd hg4 | assumption); (· rfl))
      obtain ⟨D2, hc2, hp2⟩ := get_sheet hs.tail.head a
      refine cb_i _ _ hc2 ?_
      have hs := (hs.quiet hp2).tail
      have hv : View D2 x 2 l.length (flat putC l) := hs.tail.head _ hx
      have hs := (vws_sub (vs' := (x, l) :: vs) hs.f1 (fun p hp => by
        rcases List.mem_cons.1 hp with rfl | hp
        · exact hx
        · exact hp)).f1
      rcases at_cases l a with ⟨h4, h5⟩ | ⟨j, p, h4, h5, h6⟩
      · rw [h4, h5]
        repeat first
        | ((with_reducible refine isB_ct ?_ ?_); (· omega))
        | with_reducible refine vb_i e_ext0 ?_
        | with_reducible refine vb_i e_ext1 ?_
        | with_reducible refine vb_i (lss64 _ _ _) ?_
        | with_reducible refine vb_i (eqls _ _) ?_
        | with_reducible refine vb_i (e_not _) ?_
        | ((with_reducible refine isB_Tr ?_ ?_); (· rfl))
        exact fin_ret (rvs_v (rvs_v (rvs_nil _))) ⟨m, x, rfl, hs⟩
      · rw [h5, h6]
        have hlt := (List.getElem?_eq_some_iff.1 h4).1
        repeat first
        | ((with_reducible refine isB_cf ?_ ?_); (· omega))
        | with_reducible refine vb_i e_ext0 ?_
        | with_reducible refine vb_i e_ext1 ?_
        | with_reducible refine vb_i (lss64 _ _ _) ?_
        | with_reducible refine vb_i (eqls _ _) ?_
        | with_reducible refine vb_i (e_fieldAddr _ _) ?_
        | ((with_reducible refine isB_Tr ?_ ?_); (· rfl))
        | ((with_reducible apply vb_addrN); (· first | exact hs.o0.view | exact hs.o1.view | exact hs.o2.view | exact hs.o3.view | exact hs.o4.view | exact hs.o5.view | exact hs.o6.view | exact hs.rv hv | exact hs.rv hv2 | exact hs.rv hv3 | exact hs.rv hv4 | exact hs.view hkv hko | assumption); (· omega))
        | ((with_reducible apply vb_el1); (· first | exact hs.o0.view | exact hs.o1.view | exact hs.o2.view | exact hs.o3.view | exact hs.o4.view | exact hs.o5.view | exact hs.o6.view | exact hs.rv hv | exact hs.rv hv2 | exact hs.rv hv3 | exact hs.rv hv4 | exact hs.view hkv hko | assumption); (· first | exact bcell_len | exact pcell_len | exact one_len | assumption); (· first | exact hb | exact hb2 | assumption); (· rfl))
        have e : decide ((some p.2).getD [] = p.2) = true := decide_eq_true rfl
        exact fin_ret (rvs_v (rvs_v (rvs_nil _))) ⟨m, x, by rw [e]; rfl, hs⟩)
  exact ⟨m', x', C, h, k⟩
end
end Go.Sh

/- Sheets: the laws. -/
namespace Go.Sh
open Go Go.Abs

section
variable {B : AHeap}
theorem law_OverDoes {x : AVal} {l : List ActV} (hv : View B x 3 l.length (flat actC l)) (hn : l.length ≤ 9223372036854775807) : ∃ C, S_cellaretlaw16_OverDoes [x] B (.bool true) C := by
  obtain ⟨r, C, h, rfl⟩ := cellaretlaw16_OverDoes.out (x0 := x) (H := B) (Q := fun r C => r = .bool true) (by
    unfold cellaretlaw16_OverDoes.w
    have hpl := actC_len
    obtain ⟨i, m, C, hc, hp, hs⟩ := new_spec (B := B)
    refine cb_i _ _ hc ?_
    clear hc
    refine LoopP.ruleG (α := AVal × Nat × Nat × List PutV) (fun q => [q.1, .int .i64 (q.2.1 : Int)]) (fun q D => (q.2.1 ≤ l.length ∧ q.2.2.2.length ≤ q.2.1 ∧ q.2.1 ≤ 60) ∧ Sep B (fun _ => False) D [sheetP i q.2.2.1 q.2.2.2, vwsP [(q.1, q.2.2.2)]]) (fun q => 60 - q.2.1) (.nils, 0, m, []) (by simp)
      ⟨⟨Nat.zero_le _, Nat.le_refl _, Nat.zero_le _⟩, (vws_add (vs := []) (l := []) (s_nils (vws_nil hs) 2)).f1⟩ ?_
    clear hs
    rintro ⟨sv, j, m, k⟩ D Kn ⟨⟨h1, h2, h3⟩, hs⟩ hk
    simp only at h1 h2 h3 hs hk
    unfold cellaretlaw16_OverDoes.L4 cellaretlaw16_OverDoes.L4.b
    try simp only [evB]
    have hv' := hs.view hv (fun _ _ h => h)
    refine JoinP.mk (fun e vs E => D = E ∧ ((e = .normal ∧ j < l.length ∧ j < 60) ∨ (e = .exit 0 ∧ ¬ (j < l.length ∧ j < 60)))) ?_ ?_
    · repeat first
      | with_reducible refine vb_i (lss64 _ _ _) ?_
      | ((with_reducible apply vb_len); (· first | exact hs.o0.view | exact hs.o1.view | exact hs.o2.view | exact hs.o3.view | exact hs.o4.view | exact hs.o5.view | exact hs.o6.view | exact hs.rv hv | exact hs.rv hv2 | exact hs.rv hv3 | exact hs.rv hv4 | exact hs.view hkv hko | assumption))
      refine isB_c (fun h4 => ?_) (fun h4 => ?_)
      · repeat first
        | with_reducible refine vb_i (lss64 _ _ _) ?_
        refine isB_c (fun h5 => ?_) (fun h5 => ?_)
        · exact ⟨rfl, .inl ⟨rfl, by omega, by omega⟩⟩
        · exact ⟨rfl, .inr ⟨rfl, by omega⟩⟩
      · exact ⟨rfl, .inr ⟨rfl, by omega⟩⟩
    rintro _ _ _ ⟨rfl, ⟨rfl, h4, h5⟩ | ⟨rfl, h4⟩⟩
    · have hb := List.getElem?_eq_getElem h4
      generalize l[j] = q at hb
      repeat first
      | with_reducible refine onE_i ?_
      | ((with_reducible refine onE_s ?_ ?_); (· decide))
      | ((with_reducible apply vb_addrN); (· first | exact hs.o0.view | exact hs.o1.view | exact hs.o2.view | exact hs.o3.view | exact hs.o4.view | exact hs.o5.view | exact hs.o6.view | exact hs.rv hv | exact hs.rv hv2 | exact hs.rv hv3 | exact hs.rv hv4 | exact hs.view hkv hko | assumption); (· omega))
      | ((with_reducible apply vb_elN); (· first | exact hs.o0.view | exact hs.o1.view | exact hs.o2.view | exact hs.o3.view | exact hs.o4.view | exact hs.o5.view | exact hs.o6.view | exact hs.rv hv | exact hs.rv hv2 | exact hs.rv hv3 | exact hs.rv hv4 | exact hs.view hkv hko | assumption); (· first | exact bcell_len | exact pcell_len | exact one_len | assumption); (· first | exact hb | exact hb2 | assumption))
      obtain ⟨m', sv', D2, hc, hs⟩ := do_spec (q := q) hs List.mem_cons_self (by omega)
      refine cb_i _ _ hc ?_
      have hlen := doL_len k q
      generalize doL k q = k' at *
      repeat first
      | with_reducible refine vb_i e_ext0 ?_
      | with_reducible refine vb_i e_ext1 ?_
      | with_reducible refine vb_i (e_not _) ?_
      | ((with_reducible refine isB_Fa ?_ ?_); (· rfl))
      obtain ⟨pv, D3, hc3, hp3, hk3⟩ := puts_spec (B := D2) (.inr ⟨i, m', rfl, hs.head⟩) (by omega)
      refine cb_i _ _ hc3 ?_
      have hs := Sep.call01 hs (hk3.own_of fun _ h => h.elim)
      have hv2 : View D3 sv' 2 k'.length (flat putC k') := hs.tail.tail.head _ List.mem_cons_self
      obtain ⟨D4, hc4, hp4⟩ := same_spec hs.o0.view hv2 (by omega)
      refine cb_i _ _ hc4 ?_
      have hs := hs.quiet hp4
      rw [decide_eq_true rfl]
      repeat first
      | with_reducible refine vb_i (e_not _) ?_
      | ((with_reducible refine isB_Fa ?_ ?_); (· rfl))
      obtain ⟨D5, hc5, hp5⟩ := len_sheet hs.tail.head
      refine cb_i _ _ hc5 ?_
      have hs := hs.quiet hp5
      have hv2 : View D5 sv' 2 k'.length (flat putC k') := hs.tail.tail.head _ List.mem_cons_self
      refine vb_len hv2 ?_
      repeat first
      | ((with_reducible refine isB_cf ?_ ?_); (· omega))
      | with_reducible refine vb_i (neq64 _ _ _) ?_
      | ((with_reducible refine vb_i (add64 ?_ ?_) ?_); (· omega); (· omega))
      refine hk (sv', j + 1, m', k') _ ⟨⟨by simp only; omega, by simp only; omega, by simp only; omega⟩, (vws_sub hs.tail.f1 (fun p hp => ?_)).f1⟩ (by simp only; omega)
      rw [List.mem_singleton] at hp
      subst hp
      exact List.mem_cons_self
    · repeat first
      | with_reducible refine onE_i ?_
      obtain ⟨D2, hc, hp⟩ := awake_spec (B := D)
      refine cb_i _ _ hc ?_
      exact fin_ret (rvs_v (rvs_nil _)) rfl)
  exact ⟨C, h⟩
theorem law_OverApart {x y : AVal} {l l' : List ActV} (hv : View B x 3 l.length (flat actC l)) (hv' : View B y 3 l'.length (flat actC l')) (hn : l.length ≤ 9223372036854775807) (hn' : l'.length ≤ 9223372036854775807) :
    ∃ C, S_cellaretlaw16_OverApart [x, y] B (.bool true) C := by
  obtain ⟨r, C, h, rfl⟩ := cellaretlaw16_OverApart.out (x0 := x) (x1 := y) (H := B) (Q := fun r C => r = .bool true) (by
    unfold cellaretlaw16_OverApart.w
    have hpl := actC_len
    obtain ⟨i, m, C, hc, hp, hs⟩ := new_spec (B := B)
    refine cb_i _ _ hc ?_
    clear hc
    refine LoopP.ruleG (α := AVal × Nat × Nat × List PutV) (fun q => [q.1, .int .i64 (q.2.1 : Int)]) (fun q D => (q.2.1 ≤ l.length ∧ q.2.2.2.length ≤ q.2.1 ∧ q.2.1 ≤ 40) ∧ Sep B (fun _ => False) D [sheetP i q.2.2.1 q.2.2.2, vwsP [(q.1, q.2.2.2)]]) (fun q => 40 - q.2.1) (.nils, 0, m, []) (by simp)
      ⟨⟨Nat.zero_le _, Nat.le_refl _, Nat.zero_le _⟩, (vws_add (vs := []) (l := []) (s_nils (vws_nil hs) 2)).f1⟩ ?_
    clear hs
    rintro ⟨sv, j, m, k⟩ D Kn ⟨⟨h1, h2, h3⟩, hs⟩ hk
    simp only at h1 h2 h3 hs hk
    unfold cellaretlaw16_OverApart.L4 cellaretlaw16_OverApart.L4.b
    try simp only [evB]
    have hvx := hs.view hv (fun _ _ h => h)
    refine JoinP.mk (fun e vs E => D = E ∧ ((e = .normal ∧ j < l.length ∧ j < 40) ∨ (e = .exit 0 ∧ ¬ (j < l.length ∧ j < 40)))) ?_ ?_
    · repeat first
      | with_reducible refine vb_i (lss64 _ _ _) ?_
      | ((with_reducible apply vb_len); (· first | exact hs.o0.view | exact hs.o1.view | exact hs.o2.view | exact hs.o3.view | exact hs.o4.view | exact hs.o5.view | exact hs.o6.view | exact hs.rv hv | exact hs.rv hv2 | exact hs.rv hv3 | exact hs.rv hv4 | exact hs.view hkv hko | assumption))
      refine isB_c (fun h4 => ?_) (fun h4 => ?_)
      · repeat first
        | with_reducible refine vb_i (lss64 _ _ _) ?_
        refine isB_c (fun h5 => ?_) (fun h5 => ?_)
        · exact ⟨rfl, .inl ⟨rfl, by omega, by omega⟩⟩
        · exact ⟨rfl, .inr ⟨rfl, by omega⟩⟩
      · exact ⟨rfl, .inr ⟨rfl, by omega⟩⟩
    rintro _ _ _ ⟨rfl, ⟨rfl, h4, h5⟩ | ⟨rfl, h4⟩⟩
    · have hb := List.getElem?_eq_getElem h4
      generalize l[j] = q at hb
      repeat first
      | with_reducible refine onE_i ?_
      | ((with_reducible refine onE_s ?_ ?_); (· decide))
      | ((with_reducible apply vb_addrN); (· first | exact hs.o0.view | exact hs.o1.view | exact hs.o2.view | exact hs.o3.view | exact hs.o4.view | exact hs.o5.view | exact hs.o6.view | exact hs.rv hv | exact hs.rv hv2 | exact hs.rv hv3 | exact hs.rv hv4 | exact hs.view hkv hko | assumption); (· omega))
      | ((with_reducible apply vb_elN); (· first | exact hs.o0.view | exact hs.o1.view | exact hs.o2.view | exact hs.o3.view | exact hs.o4.view | exact hs.o5.view | exact hs.o6.view | exact hs.rv hv | exact hs.rv hv2 | exact hs.rv hv3 | exact hs.rv hv4 | exact hs.view hkv hko | assumption); (· first | exact bcell_len | exact pcell_len | exact one_len | assumption); (· first | exact hb | exact hb2 | assumption))
      obtain ⟨m', sv', D2, hc, hs⟩ := do_spec (q := q) hs List.mem_cons_self (by omega)
      refine cb_i _ _ hc ?_
      have hlen := doL_len k q
      generalize doL k q = k' at *
      repeat first
      | with_reducible refine vb_i e_ext0 ?_
      | with_reducible refine vb_i e_ext1 ?_
      | ((with_reducible refine vb_i (add64 ?_ ?_) ?_); (· omega); (· omega))
      refine hk (sv', j + 1, m', k') _ ⟨⟨by simp only; omega, by simp only; omega, by simp only; omega⟩, (vws_sub hs.f1 (fun p hp => ?_)).f1⟩ (by simp only; omega)
      rw [List.mem_singleton] at hp
      subst hp
      exact List.mem_cons_self
    · clear hk
      repeat first
      | with_reducible refine onE_i ?_
      try simp only [evB]
      obtain ⟨ci, cm, D2, hc, hp, hk⟩ := copy_spec (B := D) (.inr ⟨i, m, rfl, hs.head⟩) (by omega)
      refine cb_i _ _ hc ?_
      have hs := Sep.call01 hs (hk.own_of fun _ h => h.elim)
      clear hc hk
      refine LoopP.ruleG (α := (AVal × AVal × Nat) × (Nat × Nat) × (List PutV × List PutV)) (fun q => [q.1.1, q.1.2.1, .int .i64 (q.1.2.2 : Int)])
        (fun q D => (q.1.2.2 ≤ l'.length ∧ q.2.2.1.length ≤ 40 + q.1.2.2 ∧ q.2.2.2.length ≤ 40 + q.1.2.2 ∧ q.1.2.2 ≤ 40) ∧ Sep B (fun _ => False) D [sheetP ci q.2.1.2 q.2.2.2, sheetP i q.2.1.1 q.2.2.1, vwsP [(q.1.1, q.2.2.1), (q.1.2.1, q.2.2.2)]]) (fun q => 40 - q.1.2.2) ((sv, sv, 0), (m, cm), (k, k)) (by simp)
        ⟨⟨Nat.zero_le _, by simp only; omega, by simp only; omega, Nat.zero_le _⟩, (vws_sub hs.f2 (fun p hp => by simp at hp ⊢; exact hp)).b2⟩ ?_
      clear hs hp hvx
      clear h1 h2 h3 h4
      rintro ⟨⟨av, bv, j⟩, ⟨m, cm⟩, k, n⟩ D Kn ⟨⟨h1, h2, h3, h6⟩, hs⟩ hk
      simp only at h1 h2 h3 h6 hs hk
      unfold cellaretlaw16_OverApart.L10 cellaretlaw16_OverApart.L10.b
      try simp only [evB]
      have hvy := hs.view hv' (fun _ _ h => h)
      refine JoinP.mk (fun e vs E => D = E ∧ ((e = .normal ∧ j < l'.length ∧ j < 40) ∨ (e = .exit 2 ∧ ¬ (j < l'.length ∧ j < 40)))) ?_ ?_
      · repeat first
        | with_reducible refine vb_i (lss64 _ _ _) ?_
        | ((with_reducible apply vb_len); (· first | exact hs.o0.view | exact hs.o1.view | exact hs.o2.view | exact hs.o3.view | exact hs.o4.view | exact hs.o5.view | exact hs.o6.view | exact hs.rv hv | exact hs.rv hv2 | exact hs.rv hv3 | exact hs.rv hv4 | exact hs.view hkv hko | assumption))
        refine isB_c (fun h4 => ?_) (fun h4 => ?_)
        · repeat first
          | with_reducible refine vb_i (lss64 _ _ _) ?_
          refine isB_c (fun h5 => ?_) (fun h5 => ?_)
          · exact ⟨rfl, .inl ⟨rfl, by omega, by omega⟩⟩
          · exact ⟨rfl, .inr ⟨rfl, by omega⟩⟩
        · exact ⟨rfl, .inr ⟨rfl, by omega⟩⟩
      rintro _ _ _ ⟨rfl, ⟨rfl, h4, h5⟩ | ⟨rfl, h4⟩⟩
      · have hb := List.getElem?_eq_getElem h4
        generalize l'[j] = q at hb
        repeat first
        | with_reducible refine onE_i ?_
        | ((with_reducible refine onE_s ?_ ?_); (· decide))
        | with_reducible refine vb_i (eql64 _ _ _) ?_
        | ((with_reducible refine vb_i (rem64 ?_ ?_) ?_); (· omega); (· omega))
        refine isB_c (fun h7 => ?_) (fun h7 => ?_)
        · repeat first
          | ((with_reducible apply vb_addrN); (· first | exact hs.o0.view | exact hs.o1.view | exact hs.o2.view | exact hs.o3.view | exact hs.o4.view | exact hs.o5.view | exact hs.o6.view | exact hs.rv hv | exact hs.rv hv2 | exact hs.rv hv3 | exact hs.rv hv4 | exact hs.view hkv hko | assumption); (· omega))
          | ((with_reducible apply vb_elN); (· first | exact hs.o0.view | exact hs.o1.view | exact hs.o2.view | exact hs.o3.view | exact hs.o4.view | exact hs.o5.view | exact hs.o6.view | exact hs.rv hv | exact hs.rv hv2 | exact hs.rv hv3 | exact hs.rv hv4 | exact hs.view hkv hko | assumption); (· first | exact bcell_len | exact pcell_len | exact one_len | assumption); (· first | exact hb | exact hb2 | assumption))
          obtain ⟨m', sv', D2, hc, hs⟩ := do_spec (q := q) (x := bv) hs.f1.b2 (List.mem_cons_of_mem _ List.mem_cons_self) (by omega)
          refine cb_i _ _ hc ?_
          have hlen := doL_len n q
          generalize doL n q = k' at *
          repeat first
          | with_reducible refine vb_i e_ext0 ?_
          | with_reducible refine vb_i e_ext1 ?_
          | ((with_reducible refine vb_i (add64 ?_ ?_) ?_); (· omega); (· omega))
          refine hk ((av, sv', j + 1), (m, m'), k, k') _ ⟨⟨by simp only; omega, by simp only; omega, by simp only; omega, by simp only; omega⟩, (vws_sub hs.f1 (fun p hp => ?_)).b2⟩ (by simp only; omega)
          simp only [List.mem_cons, List.not_mem_nil, or_false] at hp ⊢
          rcases hp with rfl | rfl
          · exact .inr (.inl rfl)
          · exact .inl rfl
        · repeat first
          | ((with_reducible apply vb_addrN); (· first | exact hs.o0.view | exact hs.o1.view | exact hs.o2.view | exact hs.o3.view | exact hs.o4.view | exact hs.o5.view | exact hs.o6.view | exact hs.rv hv | exact hs.rv hv2 | exact hs.rv hv3 | exact hs.rv hv4 | exact hs.view hkv hko | assumption); (· omega))
          | ((with_reducible apply vb_elN); (· first | exact hs.o0.view | exact hs.o1.view | exact hs.o2.view | exact hs.o3.view | exact hs.o4.view | exact hs.o5.view | exact hs.o6.view | exact hs.rv hv | exact hs.rv hv2 | exact hs.rv hv3 | exact hs.rv hv4 | exact hs.view hkv hko | assumption); (· first | exact bcell_len | exact pcell_len | exact one_len | assumption); (· first | exact hb | exact hb2 | assumption))
          obtain ⟨m', sv', D2, hc, hs⟩ := do_spec (q := q) (x := av) hs.b2 List.mem_cons_self (by omega)
          refine cb_i _ _ hc ?_
          have hlen := doL_len k q
          generalize doL k q = k' at *
          repeat first
          | with_reducible refine vb_i e_ext0 ?_
          | with_reducible refine vb_i e_ext1 ?_
          | ((with_reducible refine vb_i (add64 ?_ ?_) ?_); (· omega); (· omega))
          refine hk ((sv', bv, j + 1), (m', cm), k', n) _ ⟨⟨by simp only; omega, by simp only; omega, by simp only; omega, by simp only; omega⟩, (vws_sub hs.f1 (fun p hp => ?_)).f2.f1.b2⟩ (by simp only; omega)
          simp only [List.mem_cons, List.not_mem_nil, or_false] at hp ⊢
          rcases hp with rfl | rfl
          · exact .inl rfl
          · exact .inr (.inr rfl)
      · clear hk
        repeat first
        | with_reducible refine onE_i ?_
        try simp only [evB]
        obtain ⟨D2, hc, hp⟩ := awake_spec (B := D)
        refine cb_i _ _ hc ?_
        have hs := hs.quiet hp
        repeat first
        | with_reducible refine isB_T ?_
        obtain ⟨pv, D3, hc3, hp3, hk3⟩ := puts_spec (B := D2) (.inr ⟨i, m, rfl, hs.tail.head⟩) (by omega)
        refine cb_i _ _ hc3 ?_
        have hs := Sep.call01 hs (hk3.own_of fun _ h => h.elim)
        have hv2 : View D3 av 2 k.length (flat putC k) := hs.tail.tail.tail.head _ List.mem_cons_self
        obtain ⟨D4, hc4, hp4⟩ := same_spec hs.o0.view hv2 (by omega)
        refine cb_i _ _ hc4 ?_
        have hs := (hs.quiet hp4).tail
        rw [decide_eq_true rfl]
        repeat first
        | with_reducible refine isB_T ?_
        obtain ⟨pv, D5, hc5, hp5, hk5⟩ := puts_spec (B := D4) (.inr ⟨ci, cm, rfl, hs.head⟩) (by omega)
        refine cb_i _ _ hc5 ?_
        have hs := Sep.call01 hs (hk5.own_of fun _ h => h.elim)
        have hv3 : View D5 bv 2 n.length (flat putC n) := hs.tail.tail.tail.head _ (List.mem_cons_of_mem _ List.mem_cons_self)
        obtain ⟨D6, hc6, hp6⟩ := same_spec hs.o0.view hv3 (by omega)
        refine cb_i _ _ hc6 ?_
        rw [decide_eq_true rfl]
        exact fin_ret (rvs_v (rvs_nil _)) rfl)
  exact ⟨C, h⟩
end
end Go.Sh

/- Sheets: the last two laws. -/
namespace Go.Sh
open Go Go.Abs

theorem setAll_take (l : List PutV) (k : Nat) : (setAll [] (l.take k)).length ≤ k := by
  have := setAll_len (l.take k) []
  simp only [List.length_nil, List.length_take] at this
  omega
section
variable {B : AHeap}
theorem law_OverNone (p : PutV) : ∃ C, S_cellaretlaw16_OverNone [.agg (putC p)] B (.bool true) C := by
  obtain ⟨r, C, h, rfl⟩ := cellaretlaw16_OverNone.out (x0 := .agg (putC p)) (H := B) (Q := fun r C => r = .bool true) (by
    obtain ⟨a, s⟩ := p
    unfold cellaretlaw16_OverNone.w putC
    have hs : Sep B (fun _ => False) B [] := Sep.start B
    repeat first
    | with_reducible refine vb_i (e_fieldAddr _ _) ?_
    | ((with_reducible apply vb_ld); (· first | exact hs.g0 | exact hs.g1 | exact hs.g2 | exact hs.g3 | exact hs.g4 | exact hs.g5 | exact hs.g6 | exact hs.rd hg | exact hs.rd hg2 | exact hs.rd hg3 | exact hs.rd hg4 | assumption); (· rfl))
    | ((with_reducible apply s_box hs); (· rfl); intro _ _ _ hs; try simp only [AVal.cells] at hs)
    obtain ⟨D, hc, hp⟩ := get_nil (B := _) (.int .i64 a)
    refine cb_i _ _ hc ?_
    have hs := hs.quiet hp
    repeat first
    | with_reducible refine vb_i e_ext0 ?_
    | with_reducible refine vb_i e_ext1 ?_
    obtain ⟨D, hc, hp⟩ := clear_nil (B := D)
    refine cb_i _ _ hc ?_
    have hs := hs.quiet hp
    obtain ⟨ci, cm, D, hc, hp, hk⟩ := copy_spec (B := D) (.inl ⟨rfl, rfl⟩) (by decide)
    refine cb_i _ _ hc ?_
    have hs := Sep.call01 hs (hk.own_of fun _ h => h.elim)
    obtain ⟨di, dm, D, hc, hp, hk⟩ := over_spec (B := D) (x := .nilp) (y := .nilp) (.inl ⟨rfl, rfl⟩) (.inl ⟨rfl, rfl⟩) (by decide) (by decide)
    refine cb_i _ _ hc ?_
    have hs := Sep.call01 hs (hk.own_of fun _ h => h.elim)
    obtain ⟨D, hc, hp⟩ := awake_spec (B := D)
    refine cb_i _ _ hc ?_
    have hs := hs.quiet hp
    repeat first
    | with_reducible refine isB_T ?_
    | with_reducible refine vb_i (e_fieldAddr _ _) ?_
    | ((with_reducible apply vb_ld); (· first | exact hs.g0 | exact hs.g1 | exact hs.g2 | exact hs.g3 | exact hs.g4 | exact hs.g5 | exact hs.g6 | exact hs.rd hg | exact hs.rd hg2 | exact hs.rd hg3 | exact hs.rd hg4 | assumption); (· rfl))
    obtain ⟨D, hc, hp⟩ := set_nil (B := D) (.int .i64 a) (.str s)
    refine cb_i _ _ hc ?_
    have hs := hs.quiet hp
    repeat first
    | ((with_reducible refine isB_ct ?_ ?_); (· with_reducible rfl))
    | with_reducible refine vb_i (eqls _ _) ?_
    | with_reducible refine vb_i (e_not _) ?_
    | with_reducible refine vb_i (e_fieldAddr _ _) ?_
    | ((with_reducible refine isB_Tr ?_ ?_); (· rfl))
    | ((with_reducible apply vb_ld); (· first | exact hs.g0 | exact hs.g1 | exact hs.g2 | exact hs.g3 | exact hs.g4 | exact hs.g5 | exact hs.g6 | exact hs.rd hg | exact hs.rd hg2 | exact hs.rd hg3 | exact hs.rd hg4 | assumption); (· rfl))
    obtain ⟨D, hc, hp⟩ := drop_nil (B := D) (.int .i64 a)
    refine cb_i _ _ hc ?_
    have hs := hs.quiet hp
    repeat first
    | with_reducible refine vb_i (e_not _) ?_
    | ((with_reducible refine isB_Tr ?_ ?_); (· rfl))
    obtain ⟨D, hc, hp⟩ := len_nil' (B := D)
    refine cb_i _ _ hc ?_
    have hs := hs.quiet hp
    obtain ⟨sv, D, hc, hp, hk⟩ := puts_spec (B := D) (.inl ⟨rfl, rfl⟩) (by decide)
    refine cb_i _ _ hc ?_
    refine vb_len hk.o0.view ?_
    have hs := hs.quiet hp
    skip
    obtain ⟨D, hc, hp⟩ := len_sheet (B := D) hs.tail.head
    refine cb_i _ _ hc ?_
    have hs := hs.quiet hp
    obtain ⟨D, hc, hp⟩ := len_sheet (B := D) hs.head
    refine cb_i _ _ hc ?_
    have hs := hs.quiet hp
    refine vb_i (v := .int .i64 0) (by rfl) ?_
    repeat first
    | ((with_reducible refine isB_ct ?_ ?_); (· omega))
    | with_reducible refine vb_i (eql64 _ _ _) ?_
    | with_reducible refine vb_i (e_fieldAddr _ _) ?_
    | ((with_reducible apply vb_ld); (· first | exact hs.g0 | exact hs.g1 | exact hs.g2 | exact hs.g3 | exact hs.g4 | exact hs.g5 | exact hs.g6 | exact hs.rd hg | exact hs.rd hg2 | exact hs.rd hg3 | exact hs.rd hg4 | assumption); (· rfl))
    obtain ⟨D, hc, hs⟩ := set_sheet hs.f1 a s
    refine cb_i _ _ hc ?_
    exact fin_ret (rvs_v (rvs_nil _)) rfl)
  exact ⟨C, h⟩
set_option maxHeartbeats 400000 in
theorem law_OverBoth {x y : AVal} {l l' : List PutV} (hv : View B x 2 l.length (flat putC l)) (hv' : View B y 2 l'.length (flat putC l')) (hn : l.length ≤ 9223372036854775807) (hn' : l'.length ≤ 9223372036854775807) :
    ∃ C, S_cellaretlaw16_OverBoth [x, y] B (.bool true) C := by
  obtain ⟨r, C, h, rfl⟩ := cellaretlaw16_OverBoth.out (x0 := x) (x1 := y) (H := B) (Q := fun r C => r = .bool true) (by
    unfold cellaretlaw16_OverBoth.w
    have hpl := putC_len
    obtain ⟨ia, ma, C, hc, hp, hs⟩ := new_spec (B := B)
    refine cb_i _ _ hc ?_
    obtain ⟨ib, mb, C, hc, hp, hk⟩ := new_spec (B := C)
    refine cb_i _ _ hc ?_
    have hs := Sep.call01 hs (hk.own_of fun _ h => h.elim)
    clear hc hk hp
    refine LoopP.ruleG (α := AVal × AVal × Nat) (fun q => [q.1, q.2.1, .int .i64 (q.2.2 : Int)]) (fun q D => (q.2.2 ≤ l'.length ∧ q.2.2 ≤ 30) ∧ Sep B (fun _ => False) D [sheetP ib mb (setAll [] (l'.take q.2.2)), sheetP ia ma [], .sl q.1 2 (setAll [] (l'.take q.2.2)).length (flat putC (setAll [] (l'.take q.2.2))), .sl q.2.1 2 (setAll [] (l'.take q.2.2)).length (flat putC (setAll [] (l'.take q.2.2)))]) (fun q => 30 - q.2.2) (.nils, .nils, 0) (by simp)
      ⟨⟨Nat.zero_le _, Nat.zero_le _⟩, (s_nils (s_nils hs 2) 2).f2.f3.f1⟩ ?_
    clear hs
    rintro ⟨yv, zv, j⟩ D Kn ⟨⟨h1, h2⟩, hs⟩ hk
    simp only at h1 h2 hs hk
    unfold cellaretlaw16_OverBoth.L4 cellaretlaw16_OverBoth.L4.b
    try simp only [evB]
    have hvy := hs.view hv' (fun _ _ h => h)
    refine JoinP.mk (fun e vs E => D = E ∧ ((e = .normal ∧ j < l'.length ∧ j < 30) ∨ (e = .exit 0 ∧ ¬ (j < l'.length ∧ j < 30)))) ?_ ?_
    · repeat first
      | with_reducible refine vb_i (lss64 _ _ _) ?_
      | ((with_reducible apply vb_len); (· first | exact hs.o0.view | exact hs.o1.view | exact hs.o2.view | exact hs.o3.view | exact hs.o4.view | exact hs.o5.view | exact hs.o6.view | exact hs.rv hv | exact hs.rv hv2 | exact hs.rv hv3 | exact hs.rv hv4 | exact hs.view hkv hko | assumption))
      refine isB_c (fun h4 => ?_) (fun h4 => ?_)
      · repeat first
        | with_reducible refine vb_i (lss64 _ _ _) ?_
        refine isB_c (fun h5 => ?_) (fun h5 => ?_)
        · exact ⟨rfl, .inl ⟨rfl, by omega, by omega⟩⟩
        · exact ⟨rfl, .inr ⟨rfl, by omega⟩⟩
      · exact ⟨rfl, .inr ⟨rfl, by omega⟩⟩
    rintro _ _ _ ⟨rfl, ⟨rfl, h4, h5⟩ | ⟨rfl, h4⟩⟩
    · have hb := List.getElem?_eq_getElem h4
      generalize l'[j] = q at hb
      have hst := setAll_step hb []
      have hlen := setAll_take l' j
      generalize setAll [] (l'.take j) = k at *
      repeat first
      | with_reducible refine onE_i ?_
      | ((with_reducible refine onE_s ?_ ?_); (· decide))
      | with_reducible refine vb_i (e_fieldAddr _ _) ?_
      | ((with_reducible apply vb_addrN); (· first | exact hs.o0.view | exact hs.o1.view | exact hs.o2.view | exact hs.o3.view | exact hs.o4.view | exact hs.o5.view | exact hs.o6.view | exact hs.rv hv | exact hs.rv hv2 | exact hs.rv hv3 | exact hs.rv hv4 | exact hs.view hkv hko | assumption); (· omega))
      | ((with_reducible apply vb_el1); (· first | exact hs.o0.view | exact hs.o1.view | exact hs.o2.view | exact hs.o3.view | exact hs.o4.view | exact hs.o5.view | exact hs.o6.view | exact hs.rv hv | exact hs.rv hv2 | exact hs.rv hv3 | exact hs.rv hv4 | exact hs.view hkv hko | assumption); (· first | exact bcell_len | exact pcell_len | exact one_len | assumption); (· first | exact hb | exact hb2 | assumption); (· rfl))
      obtain ⟨D2, hc, hs⟩ := set_sheet hs q.1 q.2
      refine cb_i _ _ hc ?_
      have hvy2 := hs.view hv' (fun _ _ h => h)
      refine vb_addrN hvy2 (by omega) ?_
      refine vb_i (el_ldN putC_len hvy2 hb) ?_
      obtain ⟨y', D3, hc3, hp3, hk3⟩ := set_spec (p := q) hs.o2.view (by omega)
      refine cb_i _ _ hc3 ?_
      have hs := Sep.call01 hs (hk3.own_of fun _ h => h.elim)
      have hvy3 := hs.view hv' (fun _ _ h => h)
      refine vb_addrN hvy3 (by omega) ?_
      refine vb_i (el_ldN putC_len hvy3 hb) ?_
      obtain ⟨z', D4, hc4, hp4, hk4⟩ := set_spec (p := q) hs.o4.view (by omega)
      refine cb_i _ _ hc4 ?_
      have hs := Sep.call01 hs (hk4.own_of fun _ h => h.elim)
      repeat first
      | ((with_reducible refine vb_i (add64 ?_ ?_) ?_); (· omega); (· omega))
      refine hk (y', z', j + 1) _ ⟨⟨by simp only; omega, by simp only; omega⟩, ?_⟩ (by simp only; omega)
      simp only
      rw [hst]
      exact (hs.drop (R1 := [_, _, _, _])).f2.f3.f1.f3.b2
    · clear hk
      repeat first
      | with_reducible refine onE_i ?_
      try simp only [evB]
      have hlen := setAll_take l' j
      generalize setAll [] (l'.take j) = k at *
      have hlk : k.length ≤ 30 := by omega
      clear h1 h2 h4 hlen hvy
      refine LoopP.ruleG (α := AVal × Nat) (fun q => [q.1, .int .i64 (q.2 : Int)]) (fun q D => (q.2 ≤ l.length ∧ q.2 ≤ 30) ∧ Sep B (fun _ => False) D [sheetP ia ma (setAll [] (l.take q.2)), .sl q.1 2 (setAll [] (l.take q.2)).length (flat putC (setAll [] (l.take q.2))), sheetP ib mb k, .sl yv 2 k.length (flat putC k), .sl zv 2 k.length (flat putC k)]) (fun q => 30 - q.2) (.nils, 0) (by simp)
        ⟨⟨Nat.zero_le _, Nat.zero_le _⟩, (s_nils hs 2).f2⟩ ?_
      clear hs
      rintro ⟨xv, j⟩ D Kn ⟨⟨h1, h2⟩, hs⟩ hk
      simp only at h1 h2 hs hk
      unfold cellaretlaw16_OverBoth.L10 cellaretlaw16_OverBoth.L10.b
      try simp only [evB]
      have hvx := hs.view hv (fun _ _ h => h)
      refine JoinP.mk (fun e vs E => D = E ∧ ((e = .normal ∧ j < l.length ∧ j < 30) ∨ (e = .exit 2 ∧ ¬ (j < l.length ∧ j < 30)))) ?_ ?_
      · repeat first
        | with_reducible refine vb_i (lss64 _ _ _) ?_
        | ((with_reducible apply vb_len); (· first | exact hs.o0.view | exact hs.o1.view | exact hs.o2.view | exact hs.o3.view | exact hs.o4.view | exact hs.o5.view | exact hs.o6.view | exact hs.rv hv | exact hs.rv hv2 | exact hs.rv hv3 | exact hs.rv hv4 | exact hs.view hkv hko | assumption))
        refine isB_c (fun h4 => ?_) (fun h4 => ?_)
        · repeat first
          | with_reducible refine vb_i (lss64 _ _ _) ?_
          refine isB_c (fun h5 => ?_) (fun h5 => ?_)
          · exact ⟨rfl, .inl ⟨rfl, by omega, by omega⟩⟩
          · exact ⟨rfl, .inr ⟨rfl, by omega⟩⟩
        · exact ⟨rfl, .inr ⟨rfl, by omega⟩⟩
      rintro _ _ _ ⟨rfl, ⟨rfl, h4, h5⟩ | ⟨rfl, h4⟩⟩
      · have hb := List.getElem?_eq_getElem h4
        generalize l[j] = q at hb
        have hst := setAll_step hb []
        have hlen := setAll_take l j
        generalize setAll [] (l.take j) = ka at *
        repeat first
        | with_reducible refine onE_i ?_
        | ((with_reducible refine onE_s ?_ ?_); (· decide))
        | with_reducible refine vb_i (e_fieldAddr _ _) ?_
        | ((with_reducible apply vb_addrN); (· first | exact hs.o0.view | exact hs.o1.view | exact hs.o2.view | exact hs.o3.view | exact hs.o4.view | exact hs.o5.view | exact hs.o6.view | exact hs.rv hv | exact hs.rv hv2 | exact hs.rv hv3 | exact hs.rv hv4 | exact hs.view hkv hko | assumption); (· omega))
        | ((with_reducible apply vb_el1); (· first | exact hs.o0.view | exact hs.o1.view | exact hs.o2.view | exact hs.o3.view | exact hs.o4.view | exact hs.o5.view | exact hs.o6.view | exact hs.rv hv | exact hs.rv hv2 | exact hs.rv hv3 | exact hs.rv hv4 | exact hs.view hkv hko | assumption); (· first | exact bcell_len | exact pcell_len | exact one_len | assumption); (· first | exact hb | exact hb2 | assumption); (· rfl))
        obtain ⟨D2, hc, hs⟩ := set_sheet hs q.1 q.2
        refine cb_i _ _ hc ?_
        have hvx2 := hs.view hv (fun _ _ h => h)
        refine vb_addrN hvx2 (by omega) ?_
        refine vb_i (el_ldN putC_len hvx2 hb) ?_
        obtain ⟨y', D3, hc3, hp3, hk3⟩ := set_spec (p := q) hs.o1.view (by omega)
        refine cb_i _ _ hc3 ?_
        have hs := Sep.call01 hs (hk3.own_of fun _ h => h.elim)
        repeat first
        | ((with_reducible refine vb_i (add64 ?_ ?_) ?_); (· omega); (· omega))
        refine hk (y', j + 1) _ ⟨⟨by simp only; omega, by simp only; omega⟩, ?_⟩ (by simp only; omega)
        simp only
        rw [hst]
        exact hs.f2.tail.f1
      · clear hk
        repeat first
        | with_reducible refine onE_i ?_
        try simp only [evB]
        have hlen := setAll_take l j
        generalize setAll [] (l.take j) = ka at *
        have hla : ka.length ≤ 30 := by omega
        clear h1 h2 h4 hlen hvx
        refine LoopP.ruleG (α := AVal × Nat) (fun q => [q.1, .int .i64 (q.2 : Int)]) (fun q D => q.2 ≤ ka.length ∧ Sep B (fun _ => False) D [.sl q.1 2 (setAll k (ka.take q.2)).length (flat putC (setAll k (ka.take q.2))), sheetP ia ma ka, .sl xv 2 ka.length (flat putC ka), sheetP ib mb k, .sl yv 2 k.length (flat putC k)]) (fun q => ka.length - q.2) (zv, 0) (by simp)
          ⟨Nat.zero_le _, hs.f4⟩ ?_
        clear hs
        rintro ⟨wv, j⟩ D Kn ⟨h1, hs⟩ hk
        simp only at h1 hs hk
        unfold cellaretlaw16_OverBoth.L15 cellaretlaw16_OverBoth.L15.b
        try simp only [evB]
        refine vb_len hs.o2.view ?_
        repeat first
        | with_reducible refine vb_i (lss64 _ _ _) ?_
        refine isB_c (fun h2 => ?_) (fun h2 => ?_)
        · have hb := List.getElem?_eq_getElem (l := ka) (i := j) (by omega)
          generalize ka[j] = q at hb
          have hst := setAll_step hb k
          have hlen := setAll_len (ka.take j) k
          rw [List.length_take] at hlen
          generalize setAll k (ka.take j) = kz at *
          refine vb_addrN hs.o2.view (by omega) ?_
          refine vb_i (el_ldN putC_len hs.o2.view hb) ?_
          obtain ⟨y', D3, hc3, hp3, hk3⟩ := set_spec (p := q) hs.o0.view (by omega)
          refine cb_i _ _ hc3 ?_
          have hs := Sep.call01 hs (hk3.own_of fun _ h => h.elim)
          repeat first
          | ((with_reducible refine vb_i (add64 ?_ ?_) ?_); (· omega); (· omega))
          refine hk (y', j + 1) _ ⟨by simp only; omega, ?_⟩ (by simp only; omega)
          simp only
          rw [hst]
          exact hs.f1.tail
        · clear hk
          obtain rfl : j = ka.length := by omega
          rw [List.take_length] at hs
          repeat first
          | with_reducible refine onE_i ?_
          try simp only [evB]
          have hlz := setAll_len ka k
          obtain ⟨ic, mc, D2, hc, hp, hk⟩ := over_spec (B := D) (x := .ptr ⟨ia, 0, 0⟩) (y := .ptr ⟨ib, 0, 0⟩) (l := ka) (k := k) (.inr ⟨ia, ma, rfl, hs.tail.head⟩) (.inr ⟨ib, mb, rfl, hs.tail.tail.tail.head⟩) (by omega) (by omega)
          refine cb_i _ _ hc ?_
          have hs := Sep.call01 hs (hk.own_of fun _ h => h.elim)
          clear hc hk hp
          generalize setAll k ka = kc at *
          obtain ⟨pv, D3, hc3, hp3, hk3⟩ := puts_spec (B := D2) (.inr ⟨ic, mc, rfl, hs.head⟩) (by omega)
          have hs := Sep.call01 hs (hk3.own_of fun _ h => h.elim)
          obtain ⟨D4, hc4, hp4⟩ := same_spec hs.o0.view hs.o2.view (by omega)
          have hs := (hs.quiet hp4).tail
          refine JoinP.mk (fun e vs E => D4 = E ∧ e = .normal) ?_ ?_
          · repeat first
            | with_reducible refine isB_F ?_
            | with_reducible refine vb_i (e_ptrNil _ _) ?_
            refine cb_i _ _ hc3 ?_
            refine cb_i _ _ hc4 ?_
            rw [decide_eq_true rfl]
            repeat first
            | with_reducible refine vb_i (e_not _) ?_
            | ((with_reducible refine isB_Fa ?_ ?_); (· rfl))
            exact ⟨rfl, rfl⟩
          rintro _ _ _ ⟨rfl, rfl⟩
          rw [onE_same]
          obtain ⟨mc', D5, hc5, hs⟩ := clear_sheet hs
          refine cb_i _ _ hc5 ?_
          obtain ⟨D6, hc6, hp6⟩ := awake_spec (B := D5)
          refine cb_i _ _ hc6 ?_
          have hs := hs.quiet hp6
          repeat first
          | with_reducible refine isB_T ?_
          obtain ⟨pv, D7, hc7, hp7, hk7⟩ := puts_spec (B := D6) (.inr ⟨ia, ma, rfl, hs.tail.tail.head⟩) (by omega)
          refine cb_i _ _ hc7 ?_
          have hs := Sep.call01 hs (hk7.own_of fun _ h => h.elim)
          obtain ⟨D8, hc8, hp8⟩ := same_spec hs.o0.view hs.o4.view (by omega)
          refine cb_i _ _ hc8 ?_
          have hs := (hs.quiet hp8).tail
          rw [decide_eq_true rfl]
          repeat first
          | with_reducible refine isB_T ?_
          obtain ⟨pv, D9, hc9, hp9, hk9⟩ := puts_spec (B := D8) (.inr ⟨ib, mb, rfl, hs.tail.tail.tail.tail.head⟩) (by omega)
          refine cb_i _ _ hc9 ?_
          have hs := Sep.call01 hs (hk9.own_of fun _ h => h.elim)
          obtain ⟨Da, hca, hpa⟩ := same_spec hs.o0.view hs.o6.view (by omega)
          refine cb_i _ _ hca ?_
          rw [decide_eq_true rfl]
          exact fin_ret (rvs_v (rvs_nil _)) rfl)
  exact ⟨C, h⟩
end
end Go.Sh
