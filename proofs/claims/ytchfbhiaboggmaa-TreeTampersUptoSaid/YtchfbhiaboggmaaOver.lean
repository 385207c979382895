/- One text of these: Over0, OverW1, OverP1, OverP2, OverP3, OverP4, OverP5. -/
import Derived.Test.YtchfbhiaboggmaaAbsG
import Derived.Test.YtchfbhiaboggmaaNum
import Derived.Test.YtchfbhiaboggmaaAbsE

/- Sheets: blocks by places. -/
namespace Go.Sh
open Go Go.Abs

abbrev S_slices_SortFunc_api_Put_api_Put : Abs.Spec := S_sortPuts OverF.puts1
theorem putC_len (p : PutV) : (putC p).length = 2 := rfl
theorem putC_cell (p : PutV) : (putC p).all AVal.isCell = true := rfl
def dropL (l : List PutV) (a : Int) : List PutV := l.filter fun p => decide (p.1 ≠ a)
def insL (l : List PutV) (p : PutV) : List PutV := l.takeWhile (fun q => decide (q.1 < p.1)) ++ p :: l.dropWhile (fun q => decide (q.1 < p.1))
def setL (l : List PutV) (p : PutV) : List PutV := insL (dropL l p.1) p
def getL (l : List PutV) (a : Int) : Option (List UInt8) := (l.find? fun p => decide (p.1 = a)).map (·.2)
def apartP (a b : PutV) : Prop := a.1 ≠ b.1
abbrev Rising (l : List PutV) : Prop := l.Pairwise rising
theorem Rising.apart {l : List PutV} (h : Rising l) : l.Pairwise apartP := h.imp fun {a b} (h : a.1 < b.1) => (by unfold apartP; omega)
theorem apart_perm {l k : List PutV} (p : l.Perm k) (h : l.Pairwise apartP) : k.Pairwise apartP := (p.pairwise_iff (R := apartP) (fun {_ _} h => Ne.symm h)).1 h
theorem rise_drop {l : List PutV} (h : Rising l) (a : Int) : Rising (dropL l a) := h.filter _
theorem rise_ins : ∀ {l : List PutV} {p : PutV}, Rising l → (∀ q ∈ l, q.1 ≠ p.1) → Rising (insL l p)
  | [], p, _, _ => by simp [insL]
  | q :: l, p, h, hn => by
    obtain ⟨h1, h2⟩ := List.pairwise_cons.1 h
    unfold insL
    by_cases hq : q.1 < p.1
    · rw [List.takeWhile_cons_of_pos (by simpa using hq), List.dropWhile_cons_of_pos (by simpa using hq)]
      have ih := rise_ins (p := p) h2 fun x hx => hn x (List.mem_cons_of_mem _ hx)
      unfold insL at ih
      refine List.pairwise_cons.2 ⟨fun x hx => ?_, ih⟩
      rcases List.mem_append.1 hx with hx | hx
      · exact h1 x ((List.takeWhile_sublist _).mem hx)
      · rcases List.mem_cons.1 hx with rfl | hx
        · exact hq
        · exact h1 x ((List.dropWhile_sublist _).mem hx)
    · rw [List.takeWhile_cons_of_neg (by simpa using hq), List.dropWhile_cons_of_neg (by simpa using hq)]
      have hpq : p.1 < q.1 := by have := hn q List.mem_cons_self; omega
      refine List.pairwise_cons.2 ⟨fun x hx => ?_, h⟩
      rcases List.mem_cons.1 hx with rfl | hx
      · exact hpq
      · have : q.1 < x.1 := h1 x hx
        show p.1 < x.1
        omega
theorem drop_no (l : List PutV) (a : Int) : ∀ q ∈ dropL l a, q.1 ≠ a := fun q hq => by
  have := (List.mem_filter.1 hq).2
  simpa using this
theorem rise_set {l : List PutV} (h : Rising l) (p : PutV) : Rising (setL l p) := rise_ins (rise_drop h p.1) (drop_no l p.1)
theorem ins_perm (l : List PutV) (p : PutV) : (insL l p).Perm (p :: l) := by
  unfold insL
  refine List.perm_middle.trans ?_
  rw [List.takeWhile_append_dropWhile]
theorem set_perm (l : List PutV) (p : PutV) : (setL l p).Perm (p :: dropL l p.1) := ins_perm _ _
theorem drop_perm {l k : List PutV} (h : l.Perm k) (a : Int) : (dropL l a).Perm (dropL k a) := h.filter _
theorem drop_none {l : List PutV} {a : Int} (h : ∀ p ∈ l, p.1 ≠ a) : dropL l a = l := List.filter_eq_self.2 fun p hp => by simpa using h p hp
theorem drop_at : ∀ {l : List PutV} {j : Nat} {p : PutV}, l.Pairwise apartP → l[j]? = some p → dropL l p.1 = l.eraseIdx j
  | [], _, _, _, h => by simp at h
  | q :: l, 0, p, h, hj => by
    simp at hj; subst hj
    obtain ⟨h1, _⟩ := List.pairwise_cons.1 h
    rw [List.eraseIdx_cons_zero]
    unfold dropL
    rw [List.filter_cons_of_neg (by simp)]
    exact drop_none fun x hx => Ne.symm (h1 x hx)
  | q :: l, j + 1, p, h, hj => by
    simp at hj
    obtain ⟨h1, h2⟩ := List.pairwise_cons.1 h
    have hne : q.1 ≠ p.1 := h1 p (List.mem_of_getElem? hj)
    rw [List.eraseIdx_cons_succ, ← drop_at h2 hj]
    unfold dropL
    rw [List.filter_cons_of_pos (by simpa using hne)]
theorem set_erase {l : List PutV} {j : Nat} (h : j < l.length) (p : PutV) : (l.set j p).Perm (p :: l.eraseIdx j) := by
  induction l generalizing j with
  | nil => simp at h
  | cons q l ih =>
    cases j with
    | zero => simp
    | succ j =>
      simp only [List.set_cons_succ, List.eraseIdx_cons_succ]
      exact ((ih (by simpa using h)).cons q).trans (List.Perm.swap _ _ _)
theorem getL_none {l : List PutV} {a : Int} (h : ∀ p ∈ l, p.1 ≠ a) : getL l a = none := by
  unfold getL
  rw [List.find?_eq_none.2 (fun p hp => by simpa using h p hp)]
  rfl
theorem getL_some {l : List PutV} {p : PutV} (h : l.Pairwise apartP) (hp : p ∈ l) : getL l p.1 = some p.2 := by
  unfold getL
  induction l with
  | nil => cases hp
  | cons q l ih =>
    obtain ⟨h1, h2⟩ := List.pairwise_cons.1 h
    rcases List.mem_cons.1 hp with rfl | hp
    · rw [List.find?_cons_of_pos (by simp)]; rfl
    · rw [List.find?_cons_of_neg (by have := h1 p hp; unfold apartP at this; simpa using this)]
      exact ih h2 hp
/-- A map's entries. -/
def ments (l : List PutV) : List (AVal × AVal) := l.map fun p => (.int .i64 p.1, .str p.2)
theorem ments_len (l : List PutV) : (ments l).length = l.length := by simp [ments]
theorem erase_map {α β : Type} (f : α → β) : ∀ (l : List α) (j : Nat), (l.map f).eraseIdx j = (l.eraseIdx j).map f
  | [], _ => rfl
  | _ :: _, 0 => rfl
  | x :: l, j + 1 => by simp only [List.map_cons, List.eraseIdx_cons_succ, erase_map f l j]
theorem find_at (a : Int) : ∀ (es : List PutV) (i : Nat), (∃ j p, es[j]? = some p ∧ p.1 = a ∧ findKey (.int .i64) (.int .i64 a) (ments es) i = some (some (i + j, .str p.2))) ∨
    ((∀ p ∈ es, p.1 ≠ a) ∧ findKey (.int .i64) (.int .i64 a) (ments es) i = some none)
  | [], i => .inr ⟨fun _ h => (by cases h), rfl⟩
  | q :: es, i => by
    have hk : keyEq (.int .i64) (.int .i64 a) (.int .i64 q.1) = some (a == q.1) := rfl
    by_cases h : q.1 = a
    · left
      refine ⟨0, q, rfl, h, ?_⟩
      have : (a == q.1) = true := by simp [h]
      simp only [ments, List.map_cons, findKey, hk, this, Nat.add_zero]
    · have : (a == q.1) = false := by simp; omega
      rcases find_at a es (i + 1) with ⟨j, p, h1, h2, h3⟩ | ⟨h1, h2⟩
      · left
        refine ⟨j + 1, p, by simpa using h1, h2, ?_⟩
        simp only [ments, List.map_cons, findKey, hk, this] at h3 ⊢
        rw [h3, show i + 1 + j = i + (j + 1) by omega]
      · right
        refine ⟨fun p hp => ?_, ?_⟩
        · rcases List.mem_cons.1 hp with rfl | hp
          · exact h
          · exact h1 p hp
        · simp only [ments, List.map_cons, findKey, hk, this] at h2 ⊢
          exact h2
section
variable {H : AHeap} {m w : Nat} {es l : List PutV} {a : Int}
theorem map_look (hm : H[m]? = some (.map w (ments es))) (hr : Rising l) (hp : l.Perm es) :
    aLookup H (.int .i64) (.str []) true (.map m) (.int .i64 a) = some (.tup [.str ((getL l a).getD []), .bool (getL l a).isSome]) := by
  have hk : keyOk (.int .i64) (.int .i64 a) = true := rfl
  simp only [aLookup, hk, cond_true, hm]
  rcases find_at a es 0 with ⟨j, p, h1, h2, h3⟩ | ⟨h1, h2⟩
  · rw [h3]
    subst h2
    rw [getL_some hr.apart (hp.mem_iff.2 (List.mem_of_getElem? h1))]
    rfl
  · rw [h2, getL_none fun p h => h1 p (hp.mem_iff.1 h)]
    rfl
theorem map_put (hm : H[m]? = some (.map w (ments es))) (hr : Rising l) (hp : l.Perm es) (s : List UInt8) :
    ∃ es', aMapUpdate H (.int .i64) (.map m) (.int .i64 a) (.str s) = some (H.set m (.map (w + 1) (ments es'))) ∧ (setL l (a, s)).Perm es' := by
  have hk : keyOk (.int .i64) (.int .i64 a) = true := rfl
  simp only [aMapUpdate, hk, cond_true, hm]
  have h0 : (setL l (a, s)).Perm ((a, s) :: dropL es a) := (set_perm l (a, s)).trans ((drop_perm hp a).cons _)
  rcases find_at a es 0 with ⟨j, p, h1, h2, h3⟩ | ⟨h1, h2⟩
  · rw [h3]
    subst h2
    refine ⟨es.set j (p.1, s), ?_, ?_⟩
    · simp only [Nat.zero_add]
      rw [show (ments es).set j (.int .i64 p.1, .str s) = ments (es.set j (p.1, s)) by simp [ments, List.map_set]]
    · rw [drop_at (apart_perm hp hr.apart) h1] at h0
      exact h0.trans (set_erase (List.getElem?_eq_some_iff.1 h1).1 _).symm
  · rw [h2]
    refine ⟨es ++ [(a, s)], by simp [ments], ?_⟩
    rw [drop_none h1] at h0
    refine h0.trans ?_
    have := (List.perm_middle (a := ((a, s) : PutV)) (l₁ := es) (l₂ := [])).symm
    simpa using this
end
/-- A sheet of these blocks. -/
def shOk (i m : Nat) (l : List PutV) (B : AHeap) : Prop := i ≠ m ∧ Rising l ∧ B[i]? = some (.cells 0 .exact [.map m]) ∧ ∃ w es, B[m]? = some (.map w (ments es)) ∧ l.Perm es
def sheetP (i m : Nat) (l : List PutV) : Part where
  ids := [i, m]
  ok := shOk i m l
  loc B C h k := by
    obtain ⟨h1, h2, h3, w, es, h4, h5⟩ := k
    exact ⟨h1, h2, by rw [h i (by simp)]; exact h3, w, es, by rw [h m (by simp)]; exact h4, h5⟩
  live B h j hj := by
    obtain ⟨h1, h2, h3, w, es, h4, h5⟩ := h
    simp at hj
    rcases hj with rfl | rfl
    · exact lt_of_some h3
    · exact lt_of_some h4
def S_over_Sheet_Puts : Abs.Spec := fun args H r H' => (args = [.nilp] ∧ r = .nils ∧ H' = H) ∨ ∃ i m l, args = [.ptr ⟨i, 0, 0⟩] ∧ shOk i m l H ∧ l.length * 24 ≤ room ∧
  ((l = [] ∧ r = .nils ∧ H' = H) ∨ (l ≠ [] ∧ r = .slice ⟨H.length, 0, 0⟩ l.length (.op 2) ∧ H' = H ++ [.cells 0 .opn (flat putC l)]))
theorem over_Sheet_Puts.quiet {args : List AVal} {H : AHeap} {r : AVal} {H' : AHeap} (h : S_over_Sheet_Puts args H r H') : H <+: H' := by
  rcases h with ⟨_, _, rfl⟩ | ⟨i, m, l, _, _, _, ⟨_, _, rfl⟩ | ⟨_, _, rfl⟩⟩
  · exact List.prefix_refl _
  · exact List.prefix_refl _
  · exact pre_app _ _
end Go.Sh

/- What Go functions come to over abstract values, printed by a program (wx.py); of each function its own text is what is told of it. -/
namespace Go.Sh
open Go Go.Abs

def over_Sheet_Puts.L5.b (v6 : AVal) (x3_5 : AVal) (H8 : AHeap) (Kn9 : List AVal → AHeap → Prop) (Ke10 : AExit → List AVal → AHeap → Prop) : Prop :=
 nxP v6 H8 fun v11 b12 H13 =>
 isB (.bool b12) fun b14 => cond b14
 (vb (aEntry H13 v6) fun v15 =>
 vb (aExtract v15 0) fun v16 =>
 vb (aExtract v15 1) fun v17 =>
 vb (aBuild [.int .i64 0, .str []] (fun k => ([(0, 1), (1, 1)] : List (Nat × Nat))[k]?) [(0, v16), (1, v17)]) fun v18 =>
 hb (aBuildSlice H13 2 [.int .i64 0, .str []] 1 [(0, v18)]) fun v19 H20 =>
 hb (aAppendS H20 2 24 x3_5 v19) fun v21 H22 =>
 Kn9 [v21] H22)
 (Ke10 (.exit 0) [x3_5] H13)

def over_Sheet_Puts.L5 (v6 : AVal) : Body := fun vs H Kn Ke => over_Sheet_Puts.L5.b v6 (vs.getD 0 .undef) H Kn Ke

def over_Sheet_Puts.w (x0 : AVal) (H : AHeap) (K : AVal → AHeap → Prop) : Prop :=
 vb (aEql false .ptr H x0 .nilp) fun v1 =>
 isB v1 fun b2 => cond b2
 (fin .ret [.v (.nils)] H K)
 (vb (aNilCheck x0) fun v3 =>
 vb (aFieldAddr 0 v3) fun v4 =>
 vb (aLoad H false 1 v4) fun v5 =>
 hb (aRangeMap H v5) fun v6 H7 =>
 LoopP (over_Sheet_Puts.L5 v6) [.nils] H7 fun e23 vs24 H25 =>
 onE e23 (.exit 0)
 (cb (S_slices_SortFunc_api_Put_api_Put [vs24.getD 0 .undef, .func (.func OverF.puts1) [] []] H25) fun v26 H27 =>
 fin .ret [.v (vs24.getD 0 .undef)] H27 K)
 (False))

def over_New.w (H : AHeap) (K : AVal → AHeap → Prop) : Prop :=
 hb (aMakeMap H) fun v1 H2 =>
 vb (aBuild [.nilm] (fun k => ([(0, 1)] : List (Nat × Nat))[k]?) [(0, v1)]) fun v3 =>
 hb (aBox H2 v3) fun v4 H5 =>
 fin .ret [.v (v4)] H5 K

def S_over_New : Abs.Spec := fun args H r H' => args = [] ∧ (over_New.w H fun r1 H1 => r1 = r ∧ H1 = H') ∧ H <+: H'
theorem over_New.ok (args : List AVal) (H : AHeap) (r : AVal) (H' : AHeap) (h : S_over_New args H r H') : args = [] ∧ over_New.w H fun r1 H1 => r1 = r ∧ H1 = H' := by
  obtain ⟨h1, h2, _⟩ := h
  exact ⟨h1, h2⟩
theorem over_New.quiet {args : List AVal} {H : AHeap} {r : AVal} {H' : AHeap} (h : S_over_New args H r H') : H <+: H' := by
  obtain ⟨_, _, h⟩ := h
  exact h
set_option maxRecDepth 100000 in
theorem over_New.ex (H : AHeap) : Ex fun K : AVal × AHeap → Prop => over_New.w H fun r H => K (r, H) := by
  unfold over_New.w
  repeat with_reducible first
    | exact Ex.pt _
    | exact Ex.fin
    | exact Ex.no
    | refine Ex.vb fun _ => ?_
    | refine Ex.hb fun _ _ => ?_
    | refine Ex.sb fun _ => ?_
    | refine Ex.cb fun _ _ => ?_
    | refine Ex.isB fun _ => ?_
    | refine Ex.cond ?_ ?_
    | refine Ex.onE ?_ ?_
    | refine Ex.join ?_ fun _ _ _ => ?_
    | refine Ex.loop (fun _ _ => ?_) fun _ _ _ => ?_

theorem over_New.out {H : AHeap} {Q : AVal → AHeap → Prop} (h : over_New.w H fun r H' => H <+: H' ∧ Q r H') : ∃ r H', S_over_New [] H r H' ∧ Q r H' := by
  obtain ⟨r, H', h1, h2⟩ := (over_New.ex H).out h
  exact ⟨r, H', ⟨rfl, h1, h2.1⟩, h2.2⟩

def over_Sheet_Set.w (x0 : AVal) (x1 : AVal) (x2 : AVal) (H : AHeap) (K : AVal → AHeap → Prop) : Prop :=
 vb (aEql false .ptr H x0 .nilp) fun v1 =>
 isB v1 fun b2 => cond b2
 (fin .ret [.v (.bool false)] H K)
 (JoinP (fun Kj3 => vb (aNilCheck x0) fun v4 =>
 vb (aFieldAddr 0 v4) fun v5 =>
 vb (aLoad H false 1 v5) fun v6 =>
 vb (aEql false .map H v6 .nilm) fun v7 =>
 isB v7 fun b8 => cond b8
 (hb (aMakeMap H) fun v9 H10 =>
 vb (aNilCheck x0) fun v11 =>
 vb (aFieldAddr 0 v11) fun v12 =>
 sb (aStore H10 1 v12 v9) fun H13 =>
 Kj3 .normal [] H13)
 (Kj3 .normal [] H))
 (fun e14 vs15 H16 =>
 onE e14 .normal
 (vb (aNilCheck x0) fun v17 =>
 vb (aFieldAddr 0 v17) fun v18 =>
 vb (aLoad H16 false 1 v18) fun v19 =>
 sb (aMapUpdate H16 (.int .i64) v19 x1 x2) fun H20 =>
 fin .ret [.v (.bool true)] H20 K)
 (False)))

def S_over_Sheet_Set : Abs.Spec := fun args H r H' => ∃ x0 x1 x2 : AVal, args = [x0, x1, x2] ∧ (over_Sheet_Set.w x0 x1 x2 H fun r1 H1 => r1 = r ∧ H1 = H')
theorem over_Sheet_Set.ok (args : List AVal) (H : AHeap) (r : AVal) (H' : AHeap) (h : S_over_Sheet_Set args H r H') : ∃ x0 x1 x2 : AVal, args = [x0, x1, x2] ∧ over_Sheet_Set.w x0 x1 x2 H fun r1 H1 => r1 = r ∧ H1 = H' := by
  obtain ⟨x0, x1, x2, h1, h2⟩ := h
  exact ⟨x0, x1, x2, h1, h2⟩
set_option maxRecDepth 100000 in
theorem over_Sheet_Set.ex (x0 x1 x2 : AVal) (H : AHeap) : Ex fun K : AVal × AHeap → Prop => over_Sheet_Set.w x0 x1 x2 H fun r H => K (r, H) := by
  unfold over_Sheet_Set.w
  repeat with_reducible first
    | exact Ex.pt _
    | exact Ex.fin
    | exact Ex.no
    | refine Ex.vb fun _ => ?_
    | refine Ex.hb fun _ _ => ?_
    | refine Ex.sb fun _ => ?_
    | refine Ex.cb fun _ _ => ?_
    | refine Ex.isB fun _ => ?_
    | refine Ex.cond ?_ ?_
    | refine Ex.onE ?_ ?_
    | refine Ex.join ?_ fun _ _ _ => ?_
    | refine Ex.loop (fun _ _ => ?_) fun _ _ _ => ?_

theorem over_Sheet_Set.out {x0 x1 x2 : AVal} {H : AHeap} {Q : AVal → AHeap → Prop} (h : over_Sheet_Set.w x0 x1 x2 H fun r H' => Q r H') : ∃ r H', S_over_Sheet_Set [x0, x1, x2] H r H' ∧ Q r H' := by
  obtain ⟨r, H', h1, h2⟩ := (over_Sheet_Set.ex x0 x1 x2 H).out h
  exact ⟨r, H', ⟨_, _, _, rfl, h1⟩, h2⟩

def over_Sheet_Get.w (x0 : AVal) (x1 : AVal) (H : AHeap) (K : AVal → AHeap → Prop) : Prop :=
 vb (aEql false .ptr H x0 .nilp) fun v1 =>
 isB v1 fun b2 => cond b2
 (fin .ret [.v (.str []), .v (.bool false)] H K)
 (vb (aNilCheck x0) fun v3 =>
 vb (aFieldAddr 0 v3) fun v4 =>
 vb (aLoad H false 1 v4) fun v5 =>
 vb (aLookup H (.int .i64) (.str []) true v5 x1) fun v6 =>
 vb (aExtract v6 0) fun v7 =>
 vb (aExtract v6 1) fun v8 =>
 fin .ret [.v (v7), .v (v8)] H K)

def S_over_Sheet_Get : Abs.Spec := fun args H r H' => ∃ x0 x1 : AVal, args = [x0, x1] ∧ (over_Sheet_Get.w x0 x1 H fun r1 H1 => r1 = r ∧ H1 = H') ∧ H <+: H'
theorem over_Sheet_Get.ok (args : List AVal) (H : AHeap) (r : AVal) (H' : AHeap) (h : S_over_Sheet_Get args H r H') : ∃ x0 x1 : AVal, args = [x0, x1] ∧ over_Sheet_Get.w x0 x1 H fun r1 H1 => r1 = r ∧ H1 = H' := by
  obtain ⟨x0, x1, h1, h2, _⟩ := h
  exact ⟨x0, x1, h1, h2⟩
theorem over_Sheet_Get.quiet {args : List AVal} {H : AHeap} {r : AVal} {H' : AHeap} (h : S_over_Sheet_Get args H r H') : H <+: H' := by
  obtain ⟨_, _, _, _, h⟩ := h
  exact h
set_option maxRecDepth 100000 in
theorem over_Sheet_Get.ex (x0 x1 : AVal) (H : AHeap) : Ex fun K : AVal × AHeap → Prop => over_Sheet_Get.w x0 x1 H fun r H => K (r, H) := by
  unfold over_Sheet_Get.w
  repeat with_reducible first
    | exact Ex.pt _
    | exact Ex.fin
    | exact Ex.no
    | refine Ex.vb fun _ => ?_
    | refine Ex.hb fun _ _ => ?_
    | refine Ex.sb fun _ => ?_
    | refine Ex.cb fun _ _ => ?_
    | refine Ex.isB fun _ => ?_
    | refine Ex.cond ?_ ?_
    | refine Ex.onE ?_ ?_
    | refine Ex.join ?_ fun _ _ _ => ?_
    | refine Ex.loop (fun _ _ => ?_) fun _ _ _ => ?_

theorem over_Sheet_Get.out {x0 x1 : AVal} {H : AHeap} {Q : AVal → AHeap → Prop} (h : over_Sheet_Get.w x0 x1 H fun r H' => H <+: H' ∧ Q r H') : ∃ r H', S_over_Sheet_Get [x0, x1] H r H' ∧ Q r H' := by
  obtain ⟨r, H', h1, h2⟩ := (over_Sheet_Get.ex x0 x1 H).out h
  exact ⟨r, H', ⟨_, _, rfl, h1, h2.1⟩, h2.2⟩

def over_Sheet_Clear.w (x0 : AVal) (H : AHeap) (K : AVal → AHeap → Prop) : Prop :=
 vb (aEql true .ptr H x0 .nilp) fun v1 =>
 isB v1 fun b2 => cond b2
 (hb (aMakeMap H) fun v3 H4 =>
 vb (aNilCheck x0) fun v5 =>
 vb (aFieldAddr 0 v5) fun v6 =>
 sb (aStore H4 1 v6 v3) fun H7 =>
 fin .normal [] H7 K)
 (fin .normal [] H K)

def S_over_Sheet_Clear : Abs.Spec := fun args H r H' => ∃ x0 : AVal, args = [x0] ∧ (over_Sheet_Clear.w x0 H fun r1 H1 => r1 = r ∧ H1 = H')
theorem over_Sheet_Clear.ok (args : List AVal) (H : AHeap) (r : AVal) (H' : AHeap) (h : S_over_Sheet_Clear args H r H') : ∃ x0 : AVal, args = [x0] ∧ over_Sheet_Clear.w x0 H fun r1 H1 => r1 = r ∧ H1 = H' := by
  obtain ⟨x0, h1, h2⟩ := h
  exact ⟨x0, h1, h2⟩
set_option maxRecDepth 100000 in
theorem over_Sheet_Clear.ex (x0 : AVal) (H : AHeap) : Ex fun K : AVal × AHeap → Prop => over_Sheet_Clear.w x0 H fun r H => K (r, H) := by
  unfold over_Sheet_Clear.w
  repeat with_reducible first
    | exact Ex.pt _
    | exact Ex.fin
    | exact Ex.no
    | refine Ex.vb fun _ => ?_
    | refine Ex.hb fun _ _ => ?_
    | refine Ex.sb fun _ => ?_
    | refine Ex.cb fun _ _ => ?_
    | refine Ex.isB fun _ => ?_
    | refine Ex.cond ?_ ?_
    | refine Ex.onE ?_ ?_
    | refine Ex.join ?_ fun _ _ _ => ?_
    | refine Ex.loop (fun _ _ => ?_) fun _ _ _ => ?_

theorem over_Sheet_Clear.out {x0 : AVal} {H : AHeap} {Q : AVal → AHeap → Prop} (h : over_Sheet_Clear.w x0 H fun r H' => Q r H') : ∃ r H', S_over_Sheet_Clear [x0] H r H' ∧ Q r H' := by
  obtain ⟨r, H', h1, h2⟩ := (over_Sheet_Clear.ex x0 H).out h
  exact ⟨r, H', ⟨_, rfl, h1⟩, h2⟩

def cellaretref16_At.L2.b (x0 : AVal) (x1 : AVal) (x5_2 : AVal) (H1 : AHeap) (Kn2 : List AVal → AHeap → Prop) (Ke3 : AExit → List AVal → AHeap → Prop) : Prop :=
 vb (lenSl x0) fun v4 =>
 vb (aBin .lss x5_2 v4) fun v5 =>
 isB v5 fun b6 => cond b6
 (vb (aIndexAddr 2 x0 x5_2) fun v7 =>
 vb (aFieldAddr 0 v7) fun v8 =>
 vb (aLoad H1 false 1 v8) fun v9 =>
 vb (aBin .eql v9 x1) fun v10 =>
 isB v10 fun b11 => cond b11
 (Ke3 .ret [x5_2] H1)
 (vb (aBin .add x5_2 (.int .i64 1)) fun v12 =>
 Kn2 [v12] H1))
 (Ke3 (.exit 0) [.undef] H1)

def cellaretref16_At.L2 (x0 : AVal) (x1 : AVal) : Body := fun vs H Kn Ke => cellaretref16_At.L2.b x0 x1 (vs.getD 0 .undef) H Kn Ke

def cellaretref16_At.w (x0 : AVal) (x1 : AVal) (H : AHeap) (K : AVal → AHeap → Prop) : Prop :=
 LoopP (cellaretref16_At.L2 x0 x1) [.int .i64 0] H fun e13 vs14 H15 =>
 onE e13 (.exit 0)
 (fin .ret [.v (.int .i64 (-1))] H15 K)
 (onE e13 .ret
 (fin .ret [.v (vs14.getD 0 .undef)] H15 K)
 (False))

def S_cellaretref16_At : Abs.Spec := fun args H r H' => ∃ x0 x1 : AVal, args = [x0, x1] ∧ (cellaretref16_At.w x0 x1 H fun r1 H1 => r1 = r ∧ H1 = H') ∧ H <+: H'
theorem cellaretref16_At.ok (args : List AVal) (H : AHeap) (r : AVal) (H' : AHeap) (h : S_cellaretref16_At args H r H') : ∃ x0 x1 : AVal, args = [x0, x1] ∧ cellaretref16_At.w x0 x1 H fun r1 H1 => r1 = r ∧ H1 = H' := by
  obtain ⟨x0, x1, h1, h2, _⟩ := h
  exact ⟨x0, x1, h1, h2⟩
theorem cellaretref16_At.quiet {args : List AVal} {H : AHeap} {r : AVal} {H' : AHeap} (h : S_cellaretref16_At args H r H') : H <+: H' := by
  obtain ⟨_, _, _, _, h⟩ := h
  exact h
set_option maxRecDepth 100000 in
theorem cellaretref16_At.ex (x0 x1 : AVal) (H : AHeap) : Ex fun K : AVal × AHeap → Prop => cellaretref16_At.w x0 x1 H fun r H => K (r, H) := by
  unfold cellaretref16_At.w
  repeat with_reducible first
    | exact Ex.pt _
    | exact Ex.fin
    | exact Ex.no
    | refine Ex.vb fun _ => ?_
    | refine Ex.hb fun _ _ => ?_
    | refine Ex.sb fun _ => ?_
    | refine Ex.cb fun _ _ => ?_
    | refine Ex.isB fun _ => ?_
    | refine Ex.cond ?_ ?_
    | refine Ex.onE ?_ ?_
    | refine Ex.join ?_ fun _ _ _ => ?_
    | refine Ex.loop (fun _ _ => ?_) fun _ _ _ => ?_
    | (unfold cellaretref16_At.L2; unfold cellaretref16_At.L2.b)

theorem cellaretref16_At.out {x0 x1 : AVal} {H : AHeap} {Q : AVal → AHeap → Prop} (h : cellaretref16_At.w x0 x1 H fun r H' => H <+: H' ∧ Q r H') : ∃ r H', S_cellaretref16_At [x0, x1] H r H' ∧ Q r H' := by
  obtain ⟨r, H', h1, h2⟩ := (cellaretref16_At.ex x0 x1 H).out h
  exact ⟨r, H', ⟨_, _, rfl, h1, h2.1⟩, h2.2⟩

def cellaretref16_Drop.L3.b (x0 : AVal) (x1 : AVal) (x5_3 : AVal) (x6_3 : AVal) (H1 : AHeap) (Kn2 : List AVal → AHeap → Prop) (Ke3 : AExit → List AVal → AHeap → Prop) : Prop :=
 vb (lenSl x0) fun v4 =>
 vb (aBin .lss x6_3 v4) fun v5 =>
 isB v5 fun b6 => cond b6
 (vb (aIndexAddr 2 x0 x6_3) fun v7 =>
 vb (aFieldAddr 0 v7) fun v8 =>
 vb (aLoad H1 false 1 v8) fun v9 =>
 vb (aBin .neq v9 x1) fun v10 =>
 isB v10 fun b11 => cond b11
 (vb (aIndexAddr 2 x0 x6_3) fun v12 =>
 vb (aLoad H1 true 2 v12) fun v13 =>
 hb (aBuildSlice H1 2 [.int .i64 0, .str []] 1 [(0, v13)]) fun v14 H15 =>
 hb (aAppendS H15 2 24 x5_3 v14) fun v16 H17 =>
 vb (aBin .add x6_3 (.int .i64 1)) fun v18 =>
 Kn2 [v16, v18] H17)
 (vb (aBin .add x6_3 (.int .i64 1)) fun v19 =>
 Kn2 [x5_3, v19] H1))
 (Ke3 (.exit 0) [x5_3] H1)

def cellaretref16_Drop.L3 (x0 : AVal) (x1 : AVal) : Body := fun vs H Kn Ke => cellaretref16_Drop.L3.b x0 x1 (vs.getD 0 .undef) (vs.getD 1 .undef) H Kn Ke

def cellaretref16_Drop.w (x0 : AVal) (x1 : AVal) (H : AHeap) (K : AVal → AHeap → Prop) : Prop :=
 LoopP (cellaretref16_Drop.L3 x0 x1) [.nils, .int .i64 0] H fun e20 vs21 H22 =>
 onE e20 (.exit 0)
 (fin .ret [.v (vs21.getD 0 .undef)] H22 K)
 (False)

def S_cellaretref16_Drop : Abs.Spec := fun args H r H' => ∃ x0 x1 : AVal, args = [x0, x1] ∧ (cellaretref16_Drop.w x0 x1 H fun r1 H1 => r1 = r ∧ H1 = H') ∧ H <+: H'
theorem cellaretref16_Drop.ok (args : List AVal) (H : AHeap) (r : AVal) (H' : AHeap) (h : S_cellaretref16_Drop args H r H') : ∃ x0 x1 : AVal, args = [x0, x1] ∧ cellaretref16_Drop.w x0 x1 H fun r1 H1 => r1 = r ∧ H1 = H' := by
  obtain ⟨x0, x1, h1, h2, _⟩ := h
  exact ⟨x0, x1, h1, h2⟩
theorem cellaretref16_Drop.quiet {args : List AVal} {H : AHeap} {r : AVal} {H' : AHeap} (h : S_cellaretref16_Drop args H r H') : H <+: H' := by
  obtain ⟨_, _, _, _, h⟩ := h
  exact h
set_option maxRecDepth 100000 in
theorem cellaretref16_Drop.ex (x0 x1 : AVal) (H : AHeap) : Ex fun K : AVal × AHeap → Prop => cellaretref16_Drop.w x0 x1 H fun r H => K (r, H) := by
  unfold cellaretref16_Drop.w
  repeat with_reducible first
    | exact Ex.pt _
    | exact Ex.fin
    | exact Ex.no
    | refine Ex.vb fun _ => ?_
    | refine Ex.hb fun _ _ => ?_
    | refine Ex.sb fun _ => ?_
    | refine Ex.cb fun _ _ => ?_
    | refine Ex.isB fun _ => ?_
    | refine Ex.cond ?_ ?_
    | refine Ex.onE ?_ ?_
    | refine Ex.join ?_ fun _ _ _ => ?_
    | refine Ex.loop (fun _ _ => ?_) fun _ _ _ => ?_
    | (unfold cellaretref16_Drop.L3; unfold cellaretref16_Drop.L3.b)

theorem cellaretref16_Drop.out {x0 x1 : AVal} {H : AHeap} {Q : AVal → AHeap → Prop} (h : cellaretref16_Drop.w x0 x1 H fun r H' => H <+: H' ∧ Q r H') : ∃ r H', S_cellaretref16_Drop [x0, x1] H r H' ∧ Q r H' := by
  obtain ⟨r, H', h1, h2⟩ := (cellaretref16_Drop.ex x0 x1 H).out h
  exact ⟨r, H', ⟨_, _, rfl, h1, h2.1⟩, h2.2⟩

def cellaretref16_Set.L3.b (v5 : AVal) (v1 : AVal) (x5_3 : AVal) (H7 : AHeap) (Kn8 : List AVal → AHeap → Prop) (Ke9 : AExit → List AVal → AHeap → Prop) : Prop :=
 JoinP (fun Kj10 => vb (lenSl v5) fun v11 =>
 vb (aBin .lss x5_3 v11) fun v12 =>
 isB v12 fun b13 => cond b13
 (vb (aIndexAddr 2 v5 x5_3) fun v14 =>
 vb (aFieldAddr 0 v14) fun v15 =>
 vb (aLoad H7 false 1 v15) fun v16 =>
 vb (aFieldAddr 0 v1) fun v17 =>
 vb (aLoad H7 false 1 v17) fun v18 =>
 vb (aBin .lss v16 v18) fun v19 =>
 isB v19 fun b20 => cond b20
 (Kj10 .normal [] H7)
 (Kj10 (.exit 0) [] H7))
 (Kj10 (.exit 0) [] H7))
 (fun e21 vs22 H23 =>
 onE e21 (.exit 0)
 (Ke9 (.exit 0) [x5_3] H23)
 (onE e21 .normal
 (vb (aBin .add x5_3 (.int .i64 1)) fun v24 =>
 Kn8 [v24] H23)
 (False)))

def cellaretref16_Set.L3 (v5 : AVal) (v1 : AVal) : Body := fun vs H Kn Ke => cellaretref16_Set.L3.b v5 v1 (vs.getD 0 .undef) H Kn Ke

def cellaretref16_Set.w (x0 : AVal) (x1 : AVal) (H : AHeap) (K : AVal → AHeap → Prop) : Prop :=
 hb (aBox H x1) fun v1 H2 =>
 vb (aFieldAddr 0 v1) fun v3 =>
 vb (aLoad H2 false 1 v3) fun v4 =>
 cb (S_cellaretref16_Drop [x0, v4] H2) fun v5 H6 =>
 LoopP (cellaretref16_Set.L3 v5 v1) [.int .i64 0] H6 fun e25 vs26 H27 =>
 onE e25 (.exit 0)
 (hb (aBuildSlice H27 2 [.int .i64 0, .str []] 0 []) fun v28 H29 =>
 vb (aSlice H29 2 v5 none (some (vs26.getD 0 .undef)) none) fun v30 =>
 hb (aAppendS H29 2 24 v28 v30) fun v31 H32 =>
 vb (aLoad H32 true 2 v1) fun v33 =>
 hb (aBuildSlice H32 2 [.int .i64 0, .str []] 1 [(0, v33)]) fun v34 H35 =>
 hb (aAppendS H35 2 24 v31 v34) fun v36 H37 =>
 vb (aSlice H37 2 v5 (some (vs26.getD 0 .undef)) none none) fun v38 =>
 hb (aAppendS H37 2 24 v36 v38) fun v39 H40 =>
 fin .ret [.v (v39)] H40 K)
 (False)

def S_cellaretref16_Set : Abs.Spec := fun args H r H' => ∃ x0 x1 : AVal, args = [x0, x1] ∧ (cellaretref16_Set.w x0 x1 H fun r1 H1 => r1 = r ∧ H1 = H') ∧ H <+: H'
theorem cellaretref16_Set.ok (args : List AVal) (H : AHeap) (r : AVal) (H' : AHeap) (h : S_cellaretref16_Set args H r H') : ∃ x0 x1 : AVal, args = [x0, x1] ∧ cellaretref16_Set.w x0 x1 H fun r1 H1 => r1 = r ∧ H1 = H' := by
  obtain ⟨x0, x1, h1, h2, _⟩ := h
  exact ⟨x0, x1, h1, h2⟩
theorem cellaretref16_Set.quiet {args : List AVal} {H : AHeap} {r : AVal} {H' : AHeap} (h : S_cellaretref16_Set args H r H') : H <+: H' := by
  obtain ⟨_, _, _, _, h⟩ := h
  exact h
set_option maxRecDepth 100000 in
theorem cellaretref16_Set.ex (x0 x1 : AVal) (H : AHeap) : Ex fun K : AVal × AHeap → Prop => cellaretref16_Set.w x0 x1 H fun r H => K (r, H) := by
  unfold cellaretref16_Set.w
  repeat with_reducible first
    | exact Ex.pt _
    | exact Ex.fin
    | exact Ex.no
    | refine Ex.vb fun _ => ?_
    | refine Ex.hb fun _ _ => ?_
    | refine Ex.sb fun _ => ?_
    | refine Ex.cb fun _ _ => ?_
    | refine Ex.isB fun _ => ?_
    | refine Ex.cond ?_ ?_
    | refine Ex.onE ?_ ?_
    | refine Ex.join ?_ fun _ _ _ => ?_
    | refine Ex.loop (fun _ _ => ?_) fun _ _ _ => ?_
    | (unfold cellaretref16_Set.L3; unfold cellaretref16_Set.L3.b)

theorem cellaretref16_Set.out {x0 x1 : AVal} {H : AHeap} {Q : AVal → AHeap → Prop} (h : cellaretref16_Set.w x0 x1 H fun r H' => H <+: H' ∧ Q r H') : ∃ r H', S_cellaretref16_Set [x0, x1] H r H' ∧ Q r H' := by
  obtain ⟨r, H', h1, h2⟩ := (cellaretref16_Set.ex x0 x1 H).out h
  exact ⟨r, H', ⟨_, _, rfl, h1, h2.1⟩, h2.2⟩

end Go.Sh

/- The document's lists of blocks. -/
namespace Go.Sh
open Go Go.Abs

def atI (l : List PutV) (a : Int) : Int := match l.findIdx? (fun p => decide (p.1 = a)) with | some i => (i : Int) | none => -1
theorem at_no {l : List PutV} {a : Int} (h : ∀ p ∈ l, p.1 ≠ a) : atI l a = -1 := by
  unfold atI
  rw [List.findIdx?_eq_none_iff.2 (fun p hp => by simpa using h p hp)]
theorem at_yes {l : List PutV} {k : Nat} {p : PutV} (h : ∀ q ∈ l.take k, q.1 ≠ p.1) (hk : l[k]? = some p) : atI l p.1 = (k : Int) := by
  have hlt := (List.getElem?_eq_some_iff.1 hk).1
  have e : l.findIdx? (fun q => decide (q.1 = p.1)) = some k := by
    rw [List.findIdx?_eq_some_iff_getElem]
    refine ⟨hlt, ?_, fun j hj => ?_⟩
    · rw [(List.getElem?_eq_some_iff.1 hk).2]; simp
    · have : l[j] ∈ l.take k := List.mem_of_getElem? (i := j) (by rw [List.getElem?_take_of_lt hj]; exact List.getElem?_eq_getElem _)
      simpa using h _ this
  unfold atI
  rw [e]
section
variable {B : AHeap}
theorem at_spec {x : AVal} {l : List PutV} {a : Int} (hv : View B x 2 l.length (flat putC l)) (hn : l.length ≤ 4611686018427387904) : ∃ C, S_cellaretref16_At [x, .int .i64 a] B (.int .i64 (atI l a)) C ∧ B <+: C := by
  obtain ⟨r, C, h, rfl, k⟩ := cellaretref16_At.out (x0 := x) (x1 := .int .i64 a) (H := B) (Q := fun r C => r = .int .i64 (atI l a) ∧ B <+: C) (by
    unfold cellaretref16_At.w
    have hs : Sep B (fun _ => False) B [] := Sep.start B
    have hpl := putC_len
    refine LoopP.ruleG (α := Nat) (fun j => [.int .i64 (j : Int)]) (fun j C => (j ≤ l.length ∧ ∀ q ∈ l.take j, q.1 ≠ a) ∧ B = C) (fun j => l.length - j) 0 (by simp) ⟨⟨Nat.zero_le _, by simp⟩, rfl⟩ ?_
    rintro k C Kn ⟨⟨hj, hu⟩, rfl⟩ hk
    unfold cellaretref16_At.L2 cellaretref16_At.L2.b
    try simp only [evB]
    repeat first
    | with_reducible refine vb_i (lss64 _ _ _) ?_
    | ((with_reducible apply vb_len); (· first | exact hs.o0.view | exact hs.o1.view | exact hs.o2.view | exact hs.o3.view | exact hs.o4.view | exact hs.o5.view | exact hs.o6.view | exact hs.rv hv | exact hs.rv hv2 | exact hs.rv hv3 | exact hs.rv hv4 | exact hs.view hkv hko | assumption))
    refine isB_c (fun h1 => ?_) (fun h1 => ?_)
    · have hb := List.getElem?_eq_getElem (l := l) (i := k) (by omega)
      generalize l[k] = p at hb
      repeat first
      | with_reducible refine vb_i (eql64 _ _ _) ?_
      | with_reducible refine vb_i (e_fieldAddr _ _) ?_
      | ((with_reducible apply vb_addrN); (· first | exact hs.o0.view | exact hs.o1.view | exact hs.o2.view | exact hs.o3.view | exact hs.o4.view | exact hs.o5.view | exact hs.o6.view | exact hs.rv hv | exact hs.rv hv2 | exact hs.rv hv3 | exact hs.rv hv4 | exact hs.view hkv hko | assumption); (· omega))
      | ((with_reducible apply vb_el1); (· first | exact hs.o0.view | exact hs.o1.view | exact hs.o2.view | exact hs.o3.view | exact hs.o4.view | exact hs.o5.view | exact hs.o6.view | exact hs.rv hv | exact hs.rv hv2 | exact hs.rv hv3 | exact hs.rv hv4 | exact hs.view hkv hko | assumption); (· first | exact bcell_len | exact pcell_len | exact one_len | assumption); (· first | exact hb | exact hb2 | assumption); (· rfl))
      refine isB_c (fun h2 => ?_) (fun h2 => ?_)
      · repeat first
        | with_reducible refine onE_i ?_
        | ((with_reducible refine onE_s ?_ ?_); (· decide))
        try simp only [evB]
        subst h2
        exact fin_ret (rvs_v (rvs_nil _)) ⟨hs.pre fun _ x => x, by rw [at_yes hu hb]; rfl, hs.pre fun _ x => x⟩
      · repeat first
        | ((with_reducible refine vb_i (add64 ?_ ?_) ?_); (· omega); (· omega))
        refine hk (k + 1) _ ⟨⟨by omega, fun q hq => ?_⟩, rfl⟩ (by omega)
        rw [List.take_add_one, hb] at hq
        simp only [Option.toList_some, List.mem_append, List.mem_singleton] at hq
        rcases hq with hq | rfl
        · exact hu q hq
        · exact h2
    · obtain rfl : k = l.length := by omega
      repeat first
      | with_reducible refine onE_i ?_
      try simp only [evB]
      rw [List.take_length] at hu
      exact fin_ret (rvs_v (rvs_nil _)) ⟨hs.pre fun _ x => x, by rw [at_no hu]; rfl, hs.pre fun _ x => x⟩)
  exact ⟨C, h, k⟩
theorem drop_step {l : List PutV} {k : Nat} {p : PutV} (h : l[k]? = some p) (a : Int) : dropL (l.take (k + 1)) a = dropL (l.take k) a ++ (if p.1 ≠ a then [p] else []) := by
  unfold dropL
  rw [List.take_add_one, h, List.filter_append]
  by_cases hp : p.1 = a <;> simp [hp]
theorem drop_spec {x : AVal} {l : List PutV} {a : Int} (hv : View B x 2 l.length (flat putC l)) (hn : l.length ≤ 1099511627776) :
    ∃ sv C, S_cellaretref16_Drop [x, .int .i64 a] B sv C ∧ B <+: C ∧ Sep B (fun _ => False) C [.sl sv 2 (dropL l a).length (flat putC (dropL l a))] := by
  obtain ⟨r, C, h, k1, k2⟩ := cellaretref16_Drop.out (x0 := x) (x1 := .int .i64 a) (H := B) (Q := fun sv C => B <+: C ∧ Sep B (fun _ => False) C [.sl sv 2 (dropL l a).length (flat putC (dropL l a))]) (by
    unfold cellaretref16_Drop.w
    have hs : Sep B (fun _ => False) B [] := Sep.start B
    have hpl := putC_len
    have hs := s_nils hs 2
    refine LoopP.ruleG (α := AVal × Nat) (fun a => [a.1, .int .i64 (a.2 : Int)]) (fun q C => q.2 ≤ l.length ∧ Sep B (fun _ => False) C [.sl q.1 2 (dropL (l.take q.2) a).length (flat putC (dropL (l.take q.2) a))]) (fun q => l.length - q.2) (.nils, 0) (by simp) ⟨Nat.zero_le _, by simpa [dropL, flat] using hs⟩ ?_
    clear hs
    rintro ⟨sv, k⟩ C Kn ⟨hj, hs⟩ hk
    simp only at hj hs
    unfold cellaretref16_Drop.L3 cellaretref16_Drop.L3.b
    try simp only [evB]
    have hv' := hs.view hv (fun _ _ h => h)
    have hle : (dropL (l.take k) a).length ≤ k := Nat.le_trans (List.length_filter_le _ _) (by rw [List.length_take]; omega)
    repeat first
    | with_reducible refine vb_i (lss64 _ _ _) ?_
    | ((with_reducible apply vb_len); (· first | exact hs.o0.view | exact hs.o1.view | exact hs.o2.view | exact hs.o3.view | exact hs.o4.view | exact hs.o5.view | exact hs.o6.view | exact hs.rv hv | exact hs.rv hv2 | exact hs.rv hv3 | exact hs.rv hv4 | exact hs.view hkv hko | assumption))
    refine isB_c (fun h1 => ?_) (fun h1 => ?_)
    · have hb := List.getElem?_eq_getElem (l := l) (i := k) (by omega)
      generalize l[k] = p at hb
      have hst := drop_step hb a
      repeat first
      | with_reducible refine vb_i (neq64 _ _ _) ?_
      | with_reducible refine vb_i (e_fieldAddr _ _) ?_
      | ((with_reducible apply vb_addrN); (· first | exact hs.o0.view | exact hs.o1.view | exact hs.o2.view | exact hs.o3.view | exact hs.o4.view | exact hs.o5.view | exact hs.o6.view | exact hs.rv hv | exact hs.rv hv2 | exact hs.rv hv3 | exact hs.rv hv4 | exact hs.view hkv hko | assumption); (· omega))
      | ((with_reducible apply vb_el1); (· first | exact hs.o0.view | exact hs.o1.view | exact hs.o2.view | exact hs.o3.view | exact hs.o4.view | exact hs.o5.view | exact hs.o6.view | exact hs.rv hv | exact hs.rv hv2 | exact hs.rv hv3 | exact hs.rv hv4 | exact hs.view hkv hko | assumption); (· first | exact bcell_len | exact pcell_len | exact one_len | assumption); (· first | exact hb | exact hb2 | assumption); (· rfl))
      refine isB_c (fun h2 => ?_) (fun h2 => ?_)
      · repeat first
        | ((with_reducible apply vb_addrN); (· first | exact hs.o0.view | exact hs.o1.view | exact hs.o2.view | exact hs.o3.view | exact hs.o4.view | exact hs.o5.view | exact hs.o6.view | exact hs.rv hv | exact hs.rv hv2 | exact hs.rv hv3 | exact hs.rv hv4 | exact hs.view hkv hko | assumption); (· omega))
        | ((with_reducible apply vb_elN); (· first | exact hs.o0.view | exact hs.o1.view | exact hs.o2.view | exact hs.o3.view | exact hs.o4.view | exact hs.o5.view | exact hs.o6.view | exact hs.rv hv | exact hs.rv hv2 | exact hs.rv hv3 | exact hs.rv hv4 | exact hs.view hkv hko | assumption); (· first | exact bcell_len | exact pcell_len | exact one_len | assumption); (· first | exact hb | exact hb2 | assumption))
        rw [if_pos h2] at hst
        refine s_push hs (by simp only [evF, evS]; rfl) (by decide) (xs := putC p) (m := 1) rfl (putC_cell p) (by unfold room; omega) (by unfold room; omega) ?_
        intro sv' C' hs
        repeat first
        | ((with_reducible refine vb_i (add64 ?_ ?_) ?_); (· omega); (· omega))
        refine hk (sv', k + 1) _ ⟨by simp only; omega, ?_⟩ (by simp only; omega)
        simp only
        rw [hst, flat_app, flat_one, List.length_append]
        exact hs
      · repeat first
        | ((with_reducible refine vb_i (add64 ?_ ?_) ?_); (· omega); (· omega))
        rw [if_neg h2, List.append_nil] at hst
        refine hk (sv, k + 1) _ ⟨by simp only; omega, ?_⟩ (by simp only; omega)
        simp only
        rw [hst]
        exact hs
    · obtain rfl : k = l.length := by omega
      repeat first
      | with_reducible refine onE_i ?_
      try simp only [evB]
      rw [List.take_length] at hs
      exact fin_ret (rvs_v (rvs_nil _)) ⟨hs.pre fun _ x => x, hs.pre fun _ x => x, hs⟩)
  exact ⟨r, C, h, k1, k2⟩
theorem flat_takeN {β : Type} {f : β → List AVal} {es : Nat} (hf : ∀ b, (f b).length = es) (l : List β) {k : Nat} (hk : k ≤ l.length) : (flat f l).take (k * es) = flat f (l.take k) := by
  have e : flat f l = flat f (l.take k) ++ flat f (l.drop k) := by rw [← flat_app, List.take_append_drop]
  rw [e]
  exact List.take_left' (by rw [flat_len hf, List.length_take, Nat.min_eq_left hk])
theorem flat_dropN {β : Type} {f : β → List AVal} {es : Nat} (hf : ∀ b, (f b).length = es) (l : List β) {k : Nat} (hk : k ≤ l.length) : (flat f l).drop (k * es) = flat f (l.drop k) := by
  have e : flat f l = flat f (l.take k) ++ flat f (l.drop k) := by rw [← flat_app, List.take_append_drop]
  rw [e]
  exact List.drop_left' (by rw [flat_len hf, List.length_take, Nat.min_eq_left hk])
theorem take_while {l : List PutV} {f : PutV → Bool} {k : Nat} (h : ∀ q ∈ l.take k, f q = true) (hk : ∀ q, l[k]? = some q → f q = false) : l.takeWhile f = l.take k ∧ l.dropWhile f = l.drop k := by
  induction l generalizing k with
  | nil => simp
  | cons q l ih =>
    cases k with
    | zero =>
      have := hk q rfl
      rw [List.takeWhile_cons_of_neg (by simp [this]), List.dropWhile_cons_of_neg (by simp [this])]
      simp
    | succ k =>
      have := h q (by simp)
      rw [List.takeWhile_cons_of_pos this, List.dropWhile_cons_of_pos this]
      obtain ⟨e1, e2⟩ := ih (k := k) (fun x hx => h x (by simp [hx])) (fun x hx => hk x (by simpa using hx))
      rw [e1, e2]
      simp
theorem set_spec {x : AVal} {l : List PutV} {p : PutV} (hv : View B x 2 l.length (flat putC l)) (hn : l.length ≤ 1099511627776) :
    ∃ sv C, S_cellaretref16_Set [x, .agg (putC p)] B sv C ∧ B <+: C ∧ Sep B (fun _ => False) C [.sl sv 2 (setL l p).length (flat putC (setL l p))] := by
  obtain ⟨r, C, h, k1, k2⟩ := cellaretref16_Set.out (x0 := x) (x1 := .agg (putC p)) (H := B) (Q := fun sv C => B <+: C ∧ Sep B (fun _ => False) C [.sl sv 2 (setL l p).length (flat putC (setL l p))]) (by
    unfold cellaretref16_Set.w
    have hs : Sep B (fun _ => False) B [] := Sep.start B
    have hpl := putC_len
    repeat first
    | with_reducible refine vb_i (e_fieldAddr _ _) ?_
    | ((with_reducible apply vb_ld); (· first | exact hs.g0 | exact hs.g1 | exact hs.g2 | exact hs.g3 | exact hs.g4 | exact hs.g5 | exact hs.g6 | exact hs.rd hg | exact hs.rd hg2 | exact hs.rd hg3 | exact hs.rd hg4 | assumption); (· rfl))
    | ((with_reducible apply s_box hs); (· rfl); intro _ _ _ hs; try simp only [AVal.cells] at hs)
    rename_i o C0 _
    obtain ⟨dv, C, hc, hp, hd⟩ := drop_spec (a := p.1) (hs.view hv (fun _ _ h => h)) hn
    refine cb_i _ _ hc ?_
    have hs := Sep.call01 hs (hd.own_of fun _ h => h.elim)
    clear hd hc hp
    have hle : (dropL l p.1).length ≤ l.length := List.length_filter_le _ _
    have hno := drop_no l p.1
    unfold setL
    generalize dropL l p.1 = d at *
    refine LoopP.ruleG (α := Nat) (fun j => [.int .i64 (j : Int)]) (fun j D => (j ≤ d.length ∧ ∀ q ∈ d.take j, decide (q.1 < p.1) = true) ∧ C = D) (fun j => d.length - j) 0 (by simp) ⟨⟨Nat.zero_le _, by simp⟩, rfl⟩ ?_
    rintro k D Kn ⟨⟨hj, hu⟩, rfl⟩ hk
    unfold cellaretref16_Set.L3 cellaretref16_Set.L3.b
    try simp only [evB]
    refine JoinP.mk (fun e vs D => C = D ∧ ((e = .normal ∧ ∃ q, d[k]? = some q ∧ q.1 < p.1) ∨ (e = .exit 0 ∧ ∀ q, d[k]? = some q → ¬ q.1 < p.1))) ?_ ?_
    · repeat first
      | with_reducible refine vb_i (lss64 _ _ _) ?_
      | ((with_reducible apply vb_len); (· first | exact hs.o0.view | exact hs.o1.view | exact hs.o2.view | exact hs.o3.view | exact hs.o4.view | exact hs.o5.view | exact hs.o6.view | exact hs.rv hv | exact hs.rv hv2 | exact hs.rv hv3 | exact hs.rv hv4 | exact hs.view hkv hko | assumption))
      refine isB_c (fun h1 => ?_) (fun h1 => ?_)
      · have hb := List.getElem?_eq_getElem (l := d) (i := k) (by omega)
        generalize d[k] = q at hb
        repeat first
        | with_reducible refine vb_i (lss64 _ _ _) ?_
        | with_reducible refine vb_i (e_fieldAddr _ _) ?_
        | ((with_reducible apply vb_ld); (· first | exact hs.g0 | exact hs.g1 | exact hs.g2 | exact hs.g3 | exact hs.g4 | exact hs.g5 | exact hs.g6 | exact hs.rd hg | exact hs.rd hg2 | exact hs.rd hg3 | exact hs.rd hg4 | assumption); (· rfl))
        | ((with_reducible apply vb_addrN); (· first | exact hs.o0.view | exact hs.o1.view | exact hs.o2.view | exact hs.o3.view | exact hs.o4.view | exact hs.o5.view | exact hs.o6.view | exact hs.rv hv | exact hs.rv hv2 | exact hs.rv hv3 | exact hs.rv hv4 | exact hs.view hkv hko | assumption); (· omega))
        | ((with_reducible apply vb_el1); (· first | exact hs.o0.view | exact hs.o1.view | exact hs.o2.view | exact hs.o3.view | exact hs.o4.view | exact hs.o5.view | exact hs.o6.view | exact hs.rv hv | exact hs.rv hv2 | exact hs.rv hv3 | exact hs.rv hv4 | exact hs.view hkv hko | assumption); (· first | exact bcell_len | exact pcell_len | exact one_len | assumption); (· first | exact hb | exact hb2 | assumption); (· rfl))
        refine isB_c (fun h2 => ?_) (fun h2 => ?_)
        · exact ⟨rfl, .inl ⟨rfl, q, hb, h2⟩⟩
        · exact ⟨rfl, .inr ⟨rfl, fun q' hq' => by rw [hb] at hq'; cases hq'; exact h2⟩⟩
      · exact ⟨rfl, .inr ⟨rfl, fun q' hq' => by have := (List.getElem?_eq_some_iff.1 hq').1; omega⟩⟩
    rintro e vs D ⟨rfl, ⟨rfl, q, hb, h1⟩ | ⟨rfl, h1⟩⟩
    · have hlt := (List.getElem?_eq_some_iff.1 hb).1
      repeat first
      | with_reducible refine onE_i ?_
      | ((with_reducible refine onE_s ?_ ?_); (· decide))
      | ((with_reducible refine vb_i (add64 ?_ ?_) ?_); (· omega); (· omega))
      refine hk (k + 1) _ ⟨⟨by omega, fun q' hq => ?_⟩, rfl⟩ (by omega)
      rw [List.take_add_one, hb] at hq
      simp only [Option.toList_some, List.mem_append, List.mem_singleton] at hq
      rcases hq with hq | rfl
      · exact hu q' hq
      · simpa using h1
    · clear hk
      obtain ⟨e1, e2⟩ := take_while hu (fun q hq => by simpa using h1 q hq)
      repeat first
      | with_reducible refine onE_i ?_
      try simp only [evB]
      unfold insL
      rw [e1, e2]
      refine s_row hs (by rfl) ?_
      intro i D _ hs
      have hs := Sep.as (b := .sl (.slice ⟨i, 0, 0⟩ 0 (.ex 0)) 2 0 []) hs rfl fun ho => ⟨rfl, .inr (.inl ⟨i, 0, rfl, ho⟩)⟩
      have hfl := flat_len putC_len d
      obtain ⟨s1, g1, g2, _⟩ := slice_view (l := none) (h := some (.int .i64 (k : Int))) hs.o1.view (lo := 0) (hi := k) (by simp [bnd]) (by simp [bnd]) (by omega) hj
      refine vb_i g1 ?_
      have f1 : (List.drop (0 * 2) (flat putC d)).take ((k - 0) * 2) = flat putC (d.take k) := by rw [Nat.zero_mul, List.drop_zero, Nat.sub_zero, flat_takeN putC_len _ hj]
      rw [f1] at g2
      refine s_appv hs (by decide) g2 (flat_cell putC_cell _) (by unfold room; omega) (by unfold room; omega) ?_
      intro s2 D2 hs
      repeat first
      | ((with_reducible apply vb_ldA); (· first | exact hs.g0 | exact hs.g1 | exact hs.g2 | exact hs.g3 | exact hs.g4 | exact hs.g5 | exact hs.g6 | exact hs.rd hg | exact hs.rd hg2 | exact hs.rd hg3 | exact hs.rd hg4 | assumption); (· rfl))
      refine s_push hs (by simp only [evF, evS]; rfl) (by decide) (xs := putC p) (m := 1) rfl (putC_cell p) (by unfold room; omega) (by unfold room; omega) ?_
      intro s3 D3 hs
      obtain ⟨s4, g3, g4, _⟩ := slice_view (l := some (.int .i64 (k : Int))) (h := none) hs.o1.view (lo := k) (hi := d.length) (by simp [bnd]) (by simp [bnd]) hj (Nat.le_refl _)
      refine vb_i g3 ?_
      have f2 : (List.drop (k * 2) (flat putC d)).take ((d.length - k) * 2) = flat putC (d.drop k) := by rw [flat_dropN putC_len _ hj, List.take_of_length_le (by rw [flat_len putC_len, List.length_drop]; exact Nat.le_refl _)]
      rw [f2] at g4
      refine s_appv hs (by decide) g4 (flat_cell putC_cell _) (by unfold room; omega) (by unfold room; omega) ?_
      intro s5 D4 hs
      skip
      have hp := hs.pre fun _ x => x
      have hs := hs.drop (R1 := [_])
      refine fin_ret (rvs_v (rvs_nil _)) ⟨hp, hp, ?_⟩
      have e3 : (List.take k d ++ p :: List.drop k d).length = 0 + (k - 0) + 1 + (d.length - k) := by simp; omega
      have e4 : flat putC (List.take k d ++ p :: List.drop k d) = [] ++ flat putC (d.take k) ++ putC p ++ flat putC (d.drop k) := by simp [flat]
      rw [e3, e4]
      exact hs)
  exact ⟨r, C, h, k1, k2⟩
end
end Go.Sh

/- Sheets, method by method. -/
namespace Go.Sh
open Go Go.Abs

section
variable {H0 B : AHeap} {own : Nat → Prop} {R : List Part}
theorem sheet_new : ∃ i m C, S_over_New [] B (.ptr ⟨i, 0, 0⟩) C ∧ B <+: C ∧ Sep B (fun _ => False) C [sheetP i m []] := by
  obtain ⟨r, C, h, ⟨i, m, rfl, k⟩, k2⟩ := over_New.out (H := B) (Q := fun r C => (∃ i m, r = .ptr ⟨i, 0, 0⟩ ∧ Sep B (fun _ => False) C [sheetP i m []]) ∧ B <+: C) (by
    unfold over_New.w
    have hs : Sep B (fun _ => False) B [] := Sep.start B
    have hs := hs.new (.map 0 [])
    refine hb_i rfl ?_
    repeat first
    | ((with_reducible apply s_box hs); (· rfl); intro _ _ _ hs; try simp only [AVal.cells] at hs)
    | ((with_reducible apply vb_bld); (· first | rfl | (simp only [evF, evS]; rfl)))
    rename_i i C _
    have hp := hs.pre fun _ x => x
    refine fin_ret (rvs_v (rvs_nil _)) ⟨hp, ⟨i, B.length, rfl, ?_⟩, hp⟩
    have hd := (List.pairwise_cons.1 hs.apart).1 _ List.mem_cons_self i (by simp [Part.obj])
    have hd : i ≠ B.length := by simpa [Part.obj] using hd
    refine Sep.call (R1 := [_, _]) (R2 := [sheetP i B.length []]) (R := []) hs ⟨Nat.le_refl _, fun _ _ _ => rfl, fun r hr => ?_, fun r hr j hj => ?_, List.pairwise_singleton _ _⟩
    · simp at hr; subst hr
      exact ⟨hd, List.Pairwise.nil, hs.g0, 0, [], hs.g1, List.Perm.refl _⟩
    · simp at hr; subst hr
      simp [sheetP] at hj
      right
      rcases hj with rfl | rfl
      · exact ⟨_, List.mem_cons_self, by simp [Part.obj]⟩
      · exact ⟨_, List.mem_cons_of_mem _ List.mem_cons_self, by simp [Part.obj]⟩)
  exact ⟨i, m, C, h, k2, k⟩
theorem sh_set {i m w : Nat} {l l' es : List PutV} (hs : Sep H0 own B (sheetP i m l :: R)) (hr : Rising l') (hp : l'.Perm es) : Sep H0 own (B.set m (.map w (ments es))) (sheetP i m l' :: R) := by
  obtain ⟨h1, h2, h3, w0, es0, h4, h5⟩ := hs.head
  have hm := lt_of_some h4
  refine hs.put (by simp) (fun j hj => .inl hj) (fun k _ hk => List.getElem?_set_ne (fun e => hk (by rw [← e]; simp [sheetP]))) ?_
  exact ⟨h1, hr, by rw [List.getElem?_set_ne (Ne.symm h1)]; exact h3, w, es, by rw [List.getElem?_set_self hm], hp⟩
theorem set_sheet {i m : Nat} {l : List PutV} (hs : Sep H0 own B (sheetP i m l :: R)) (a : Int) (s : List UInt8) :
    ∃ C, S_over_Sheet_Set [.ptr ⟨i, 0, 0⟩, .int .i64 a, .str s] B (.bool true) C ∧ Sep H0 own C (sheetP i m (setL l (a, s)) :: R) := by
  obtain ⟨r, C, h, rfl, k⟩ := over_Sheet_Set.out (x0 := .ptr ⟨i, 0, 0⟩) (x1 := .int .i64 a) (x2 := .str s) (H := B) (Q := fun r C => r = .bool true ∧ Sep H0 own C (sheetP i m (setL l (a, s)) :: R)) (by
    unfold over_Sheet_Set.w
    obtain ⟨h1, h2, h3, w, es, h4, h5⟩ := hs.head
    repeat first
    | with_reducible refine isB_F ?_
    | with_reducible refine vb_i (e_ptrNil _ _) ?_
    refine JoinP.mk (fun e vs D => B = D ∧ e = .normal) ?_ ?_
    · repeat first
      | refine vb_ld h3 rfl ?_
      refine vb_i (v := .bool false) rfl ?_
      repeat first
      | with_reducible refine isB_F ?_
      exact ⟨rfl, rfl⟩
    rintro _ _ _ ⟨rfl, rfl⟩
    rw [onE_same]
    repeat first
    | refine vb_ld h3 rfl ?_
    obtain ⟨es', e1, e2⟩ := map_put (a := a) h4 h2 h5 s
    refine sb_i e1 ?_
    exact fin_ret (rvs_v (rvs_nil _)) ⟨rfl, sh_set hs (rise_set h2 _) e2⟩)
  exact ⟨C, h, k⟩
theorem get_sheet {i m : Nat} {l : List PutV} (hk : shOk i m l B) (a : Int) :
    ∃ C, S_over_Sheet_Get [.ptr ⟨i, 0, 0⟩, .int .i64 a] B (.tup [.str ((getL l a).getD []), .bool (getL l a).isSome]) C ∧ B <+: C := by
  obtain ⟨r, C, h, rfl, k⟩ := over_Sheet_Get.out (x0 := .ptr ⟨i, 0, 0⟩) (x1 := .int .i64 a) (H := B) (Q := fun r C => r = .tup [.str ((getL l a).getD []), .bool (getL l a).isSome] ∧ B <+: C) (by
    unfold over_Sheet_Get.w
    obtain ⟨h1, h2, h3, w, es, h4, h5⟩ := hk
    repeat first
    | refine vb_ld h3 rfl ?_
    refine vb_i (map_look h4 h2 h5) ?_
    repeat first
    | with_reducible refine vb_i e_ext0 ?_
    | with_reducible refine vb_i e_ext1 ?_
    exact fin_ret (rvs_v (rvs_v (rvs_nil _))) ⟨List.prefix_refl _, rfl, List.prefix_refl _⟩)
  exact ⟨C, h, k⟩
theorem clear_sheet {i m : Nat} {l : List PutV} (hs : Sep H0 own B (sheetP i m l :: R)) : ∃ m' C, S_over_Sheet_Clear [.ptr ⟨i, 0, 0⟩] B (.tup []) C ∧ Sep H0 own C (sheetP i m' [] :: R) := by
  obtain ⟨r, C, h, rfl, m', k⟩ := over_Sheet_Clear.out (x0 := .ptr ⟨i, 0, 0⟩) (H := B) (Q := fun r C => r = .tup [] ∧ ∃ m', Sep H0 own C (sheetP i m' [] :: R)) (by
    unfold over_Sheet_Clear.w
    obtain ⟨h1, h2, h3, w, es, h4, h5⟩ := hs.head
    have hi := lt_of_some h3
    repeat first
    | with_reducible refine isB_T ?_
    | with_reducible refine vb_i (e_ptrNilN _ _) ?_
    refine hb_i rfl ?_
    repeat first
    | with_reducible refine vb_i (e_nilCheck _) ?_
    | with_reducible refine vb_i (e_fieldAddr _ _) ?_
    refine sb_i (H := (B ++ [AObj.map 0 []]).set i (AObj.cells 0 .exact [AVal.map B.length])) ?_ ?_
    · rw [x_store1 rfl, List.getElem?_append_left hi, h3, x_st1 rfl (by simp)]
      rfl
    refine fin_normal (rvs_nil _) ⟨rfl, B.length, ?_⟩
    refine hs.put (by simp) (fun j hj => ?_) (fun k hk hn => ?_) ?_
    · simp [sheetP] at hj ⊢
      rcases hj with rfl | rfl
      · exact .inl (.inl rfl)
      · exact .inr (Nat.le_refl _)
    · rw [List.getElem?_set_ne (fun e => hn (by rw [← e]; simp [sheetP])), List.getElem?_append_left hk]
    · refine ⟨by omega, List.Pairwise.nil, by rw [List.getElem?_set_self (by simp; omega)], 0, [], ?_, List.Perm.refl _⟩
      rw [List.getElem?_set_ne (by omega), app_get0]; rfl)
  exact ⟨m', C, h, k⟩
end
end Go.Sh

/- A sheet's blocks, in order. -/
namespace Go.Sh
open Go Go.Abs

theorem nx_iter {C : AHeap} {j m w : Nat} {lf : List PutV} {cur : Option (AVal × AVal)} {K : AVal → Bool → AHeap → Prop} (h : C[j]? = some (.mapIter (some (m, w)) (ments lf) cur)) (hv : verOf C m = w)
    (h1 : lf = [] → K (.tup [.bool false]) false C)
    (h2 : ∀ k p, lf[k]? = some p → K (.tup [.bool true, .int .i64 p.1, .str p.2]) true (C.set j (.mapIter (some (m, w)) (ments (lf.eraseIdx k)) (some (.int .i64 p.1, .str p.2))))) : nxP (.ptr ⟨j, 0, 0⟩) C K := by
  simp only [nxP, h]
  refine ⟨by simp [hv], fun e => h1 ?_, fun k c hc => ?_⟩
  · cases lf with
    | nil => rfl
    | cons _ _ => simp [ments] at e
  · unfold ments at hc ⊢
    rw [List.getElem?_map] at hc
    cases hp : lf[k]? with
    | none => rw [hp] at hc; cases hc
    | some p =>
      rw [hp] at hc
      cases hc
      rw [erase_map]
      exact h2 k p hp
theorem e_entry {C : AHeap} {j m w : Nat} {lf : List (AVal × AVal)} {k y : AVal} (h : C[j]? = some (.mapIter (some (m, w)) lf (some (k, y)))) (hv : verOf C m = w) : aEntry C (.ptr ⟨j, 0, 0⟩) = some (.tup [k, y]) := by
  simp only [aEntry, h]
  rw [if_pos (by simp [hv])]
theorem erase_perm {α : Type} {a : α} : ∀ {l : List α} {k : Nat}, l[k]? = some a → l.Perm (a :: l.eraseIdx k)
  | [], _, h => by simp at h
  | x :: l, 0, h => by simp at h; subst h; exact List.Perm.refl _
  | x :: l, k + 1, h => by
    simp at h
    rw [List.eraseIdx_cons_succ]
    exact ((erase_perm h).cons x).trans (List.Perm.swap _ _ _)
theorem puts_plain : ∀ (l : List PutV), ∀ x ∈ flat putC l, x.plain = true := by
  intro l x hx
  simp only [flat, List.mem_flatten, List.mem_map] at hx
  obtain ⟨_, ⟨p, _, rfl⟩, hx⟩ := hx
  simp only [putC, List.mem_cons, List.not_mem_nil, or_false] at hx
  rcases hx with rfl | rfl <;> rfl
theorem over_Sheet_Puts.ok (args : List AVal) (H : AHeap) (r : AVal) (H' : AHeap) (h : S_over_Sheet_Puts args H r H') : ∃ x0, args = [x0] ∧ over_Sheet_Puts.w x0 H fun r1 H1 => Weak H r1 H1 r H' := by
  rcases h with ⟨rfl, rfl, rfl⟩ | ⟨i, m, l, rfl, hok, hroom, h⟩
  · refine ⟨_, rfl, ?_⟩
    unfold over_Sheet_Puts.w
    repeat first
    | with_reducible refine isB_T ?_
    | with_reducible refine vb_i (e_nilNil _) ?_
    exact fin_ret (rvs_v (rvs_nil _)) (Weak.plain rfl (List.prefix_refl _))
  · refine ⟨_, rfl, ?_⟩
    unfold over_Sheet_Puts.w
    obtain ⟨h1, h2, h3, w, es, h4, h5⟩ := hok
    have hm := lt_of_some h4
    have hes : es.length = l.length := h5.length_eq.symm
    have hroom' : es.length * 24 ≤ room := by omega
    have hr2 : es.length ≤ room := by unfold room at hroom' ⊢; omega
    repeat first
    | refine vb_ld h3 rfl ?_
    refine hb_i (v := .ptr ⟨H.length, 0, 0⟩) (H := H ++ [.mapIter (some (m, w)) (ments es) none]) (by simp only [aRangeMap, h4]) ?_
    refine LoopP.ruleG (α := AVal × List PutV × List PutV) (fun a => [a.1]) (fun a C => (H <+: C ∧ (∃ cur, C[H.length]? = some (.mapIter (some (m, w)) (ments a.2.2) cur)) ∧ (a.2.1 ++ a.2.2).Perm es ∧ (∀ k, slId a.1 = some k → H.length ≤ k) ∧ (a.2.1 = [] → a.1 = .nils)) ∧ OwnO C a.1 2 a.2.1.length (flat putC a.2.1)) (fun a => a.2.2.length) (.nils, [], es) (by simp)
      ⟨⟨pre_app _ _, ⟨none, by rw [app_get0]; rfl⟩, List.Perm.refl _, (fun k hk => by cases hk), fun _ => rfl⟩, OwnO.nils _ 2⟩ ?_
    rintro ⟨sv, dn, lf⟩ C Kn ⟨⟨hp, ⟨cur, hc⟩, hpm, hid, hnil⟩, ho⟩ hk
    simp only at hc hpm ho hid hnil
    unfold over_Sheet_Puts.L5 over_Sheet_Puts.L5.b
    try simp only [evB]
    have hver : ∀ D : AHeap, H <+: D → verOf D m = w := fun D hD => verOf_some (o := .map w (ments es)) (by rw [pre_get hD hm]; exact h4)
    refine nx_iter hc (hver C hp) (fun e => ?_) (fun k p hkp => ?_)
    · subst e
      rw [List.append_nil] at hpm
      rw [isB_bool, cond_false, onE_same]
      have hdl : l.Perm dn := h5.trans hpm.symm
      have hdn : dn.length = es.length := hpm.length_eq
      rcases ho.2 with ⟨rfl, hz⟩ | ⟨q, v, rfl, hq⟩
      · have hdn0 : dn = [] := List.eq_nil_of_length_eq_zero hz
        subst hdn0
        have hl : l = [] := hdl.eq_nil
        subst hl
        refine cb_i (.tup []) C ⟨[], [], List.Perm.refl _, List.Pairwise.nil, by decide, rfl, .inr ⟨rfl, rfl, rfl⟩⟩ ?_
        rcases h with ⟨_, rfl, rfl⟩ | ⟨h, _⟩
        · exact fin_ret (rvs_v (rvs_nil _)) (Weak.plain rfl hp)
        · exact absurd rfl h
      · have hqH : H.length ≤ q := hid q rfl
        refine cb_i (.tup []) (C.set q (.cells v .opn (flat putC l))) ⟨dn, l, hdl, h2, by unfold room at hr2; omega, rfl, .inl ⟨q, v, rfl, hq, rfl⟩⟩ ?_
        have hfl := flat_len putC_len l
        have ho' : OwnO (C.set q (.cells v .opn (flat putC l))) (.slice ⟨q, v, 0⟩ dn.length (.op 2)) 2 l.length (flat putC l) := by
          rw [← hdl.length_eq]
          exact ⟨hfl, .inr ⟨q, v, rfl, List.getElem?_set_self (lt_of_some hq)⟩⟩
        rcases h with ⟨hl, rfl, rfl⟩ | ⟨hl, rfl, rfl⟩
        · have hd0 : dn = [] := by subst hl; exact hdl.nil_eq.symm
          cases hnil hd0
        · refine fin_ret (rvs_v (rvs_nil _)) (OwnO.weak ho' (List.length_pos_iff.2 hl) (puts_plain l) (pre_set hp hqH _) (fun k hk => by cases hk; exact hqH) fun ρ σ N hN hr => ?_)
          exact hr
    · rw [isB_bool, cond_true]
      have hCl : H.length < C.length := lt_of_some hc
      have hp' : H <+: C.set H.length (.mapIter (some (m, w)) (ments (lf.eraseIdx k)) (some (.int .i64 p.1, .str p.2))) := pre_set hp (Nat.le_refl _) _
      have hlf := erase_perm hkp
      have hdl : dn.length + lf.length = es.length := by rw [← List.length_append]; exact hpm.length_eq
      have hlf1 : lf.length = (lf.eraseIdx k).length + 1 := by rw [hlf.length_eq]; rfl
      have hc' : (C.set H.length (.mapIter (some (m, w)) (ments (lf.eraseIdx k)) (some (.int .i64 p.1, .str p.2))))[H.length]? = some (.mapIter (some (m, w)) (ments (lf.eraseIdx k)) (some (.int .i64 p.1, .str p.2))) := List.getElem?_set_self hCl
      refine vb_i (e_entry hc' (hver _ hp')) ?_
      refine vb_i e_ext0 ?_
      refine vb_i e_ext1 ?_
      refine vb_i (v := .agg (putC p)) rfl ?_
      have ho' : OwnO (C.set H.length (.mapIter (some (m, w)) (ments (lf.eraseIdx k)) (some (.int .i64 p.1, .str p.2)))) sv 2 dn.length (flat putC dn) := by
        refine ⟨ho.1, ho.2.imp id fun ⟨q, v, e, hq⟩ => ⟨q, v, e, ?_⟩⟩
        rw [List.getElem?_set_ne (fun e' => by rw [← e', hc] at hq; cases hq)]
        exact hq
      generalize C.set H.length (.mapIter (some (m, w)) (ments (lf.eraseIdx k)) (some (.int .i64 p.1, .str p.2))) = D at *
      have hDl : H.length < D.length := lt_of_some hc'
      have hsv : slId sv ≠ some H.length := by
        intro e
        rcases ho'.2 with ⟨rfl, _⟩ | ⟨q, v, rfl, hq⟩
        · cases e
        · cases e; rw [hc'] at hq; cases hq
      refine pushON ho' (by decide) (putC_len p) rfl (putC_cell p) (by unfold room at *; omega) (by omega) fun sv' D' o kk hi => ?_
      have hpm' : ((dn ++ [p]) ++ lf.eraseIdx k).Perm es := by
        refine List.Perm.trans ?_ hpm
        rw [List.append_assoc]
        exact (hlf.symm).append_left dn
      refine hk (sv', dn ++ [p], lf.eraseIdx k) D' ⟨⟨?_, ⟨some (.int .i64 p.1, .str p.2), ?_⟩, hpm', ?_, fun e => by simp at e⟩, ?_⟩ (by simp only; omega)
      · refine pre_of_get (Nat.le_trans (by omega) kk.len) fun j hj => ?_
        rw [kk.get j (by omega) ?_, pre_get hp' hj]
        intro e
        have := hid j e
        omega
      · rw [kk.get _ hDl hsv]; exact hc'
      · intro j hj
        rcases hi with hi | ⟨_, hi⟩
        · rw [hi] at hj; exact hid j hj
        · rw [hi] at hj; cases hj; omega
      · rw [flat_app, flat_one, List.length_append]
        exact o
end Go.Sh

/- Sheets: copies; one over another one. -/
namespace Go.Sh
open Go Go.Abs

/-- A sheet that is read, or none. -/
def shArg (x : AVal) (l : List PutV) (B : AHeap) : Prop := (x = .nilp ∧ l = []) ∨ ∃ i m, x = .ptr ⟨i, 0, 0⟩ ∧ shOk i m l B
section
variable {H0 B : AHeap} {own : Nat → Prop} {R : List Part}
theorem puts_spec {x : AVal} {l : List PutV} (h : shArg x l B) (hl : l.length ≤ 1099511627776) : ∃ sv C, S_over_Sheet_Puts [x] B sv C ∧ B <+: C ∧ Sep B (fun _ => False) C [.sl sv 2 l.length (flat putC l)] := by
  rcases h with ⟨rfl, rfl⟩ | ⟨i, m, rfl, h⟩
  · exact ⟨.nils, B, .inl ⟨rfl, rfl, rfl⟩, List.prefix_refl _, s_nils (Sep.start B) 2⟩
  · cases hl0 : l with
    | nil =>
      subst hl0
      exact ⟨.nils, B, .inr ⟨i, m, [], rfl, h, by decide, .inl ⟨rfl, rfl, rfl⟩⟩, List.prefix_refl _, s_nils (Sep.start B) 2⟩
    | cons p k =>
      rw [← hl0]
      have hn : l ≠ [] := by rw [hl0]; nofun
      refine ⟨_, _, .inr ⟨i, m, l, rfl, h, by unfold room; omega, .inr ⟨hn, rfl, rfl⟩⟩, pre_app _ _, ?_⟩
      exact Sep.as ((Sep.start B).new _) rfl fun ho => ⟨flat_len putC_len l, .inr (.inr ⟨_, 0, rfl, ho⟩)⟩
end
end Go.Sh

/- Sheets against lists. -/
namespace Go.Sh
open Go Go.Abs

abbrev ActV := Int × Int × List UInt8
def actC (q : ActV) : List AVal := [.int .i64 q.1, .int .i64 q.2.1, .str q.2.2]
theorem actC_len (q : ActV) : (actC q).length = 3 := rfl
section
variable {H0 B : AHeap} {own : Nat → Prop} {R : List Part} {vs vs' : List (AVal × List PutV)}
end
end Go.Sh
