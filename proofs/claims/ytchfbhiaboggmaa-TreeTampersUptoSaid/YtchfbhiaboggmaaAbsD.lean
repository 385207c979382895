/- One text of these: Abs17, Abs18a, Abs18b, Abs18c, Abs18d, Abs18, Abs19, Abs20. -/
import Derived.Tactics
import Derived.ScopeJumps
import Derived.Test.YtchfbhiaboggmaaAbsC

/- The evaluator is sound, but for regions that draw their order. -/
namespace Go.Abs
open Go

def AExit.toExit : AExit → Exit
  | .normal => .normal
  | .exit id => .exit id
  | .goto l => .goto l
  | .ret => .ret

structure Agree (W : List Nat) (fr fr' : List AVal) : Prop where
  len : fr'.length = fr.length
  same : ∀ i, i ∉ W → fr'.getD i .undef = fr.getD i .undef

theorem Agree.refl (W : List Nat) (fr : List AVal) : Agree W fr fr := ⟨rfl, fun _ _ => rfl⟩
theorem Agree.trans {W : List Nat} {a b c : List AVal} (h : Agree W a b) (k : Agree W b c) : Agree W a c :=
  ⟨k.len.trans h.len, fun i hi => (k.same i hi).trans (h.same i hi)⟩
theorem Agree.mono {W W' : List Nat} {a b : List AVal} (h : Agree W a b) (hs : ∀ i, i ∈ W → i ∈ W') : Agree W' a b :=
  ⟨h.len, fun i hi => h.same i fun x => hi (hs i x)⟩

theorem getD_set_ne {l : List AVal} {i j : Nat} {v : AVal} (h : i ≠ j) : (l.set i v).getD j .undef = l.getD j .undef := by
  simp [List.getD, List.getElem?_set_ne h]
theorem getD_set_eq {l : List AVal} {i : Nat} {v : AVal} (h : i < l.length) : (l.set i v).getD i .undef = v := by
  simp [List.getD, h]

theorem Agree.put {W : List Nat} (fr : List AVal) (dst : Option Tmp) (v : AVal) (h : ∀ d, dst = some d → d ∈ W) : Agree W fr (putA fr dst v) := by
  cases dst with
  | none => exact Agree.refl _ _
  | some d =>
    refine ⟨by simp [putA], fun i hi => ?_⟩
    have : d ≠ i := fun e => hi (e ▸ h d rfl)
    exact getD_set_ne this

section
variable {P : Program} {E : Env} {w : World} {sp : Specs}

theorem RelF.put {fr : List AVal} {a : Act} (h : RelF E fr a) (dst : Option Tmp) {v : AVal} {u : Value} (hv : RelV E v u) : RelF E (putA fr dst v) (a.put dst u) := by
  cases dst with
  | none => exact h
  | some d =>
    unfold RelF putA Act.put
    simp only [Array.toList_setIfInBounds]
    exact RelGL.set h d hv

theorem RelF.ext {E' : Env} {w' : World} (x : Ext E w E' w') {fr : List AVal} {a : Act} (h : RelF E fr a) : RelF E' fr a := RelL.ext x h

theorem RelF.bool {fr : List AVal} {a : Act} (h : RelF E fr a) {t : Nat} {b : Bool} (ht : fr.getD t .undef = .bool b) : a.tmps[t]? = some (.bool b) := by
  have hx : fr[t]? = some (.bool b) := by
    cases hf : fr[t]? with
    | none => simp [List.getD, hf] at ht
    | some x => simp [List.getD, hf] at ht; rw [ht]
  obtain ⟨y, hy, hr⟩ := RelGL.get h hx
  simp only [RelG] at hr; subst hr
  simpa using hy

theorem set_same {fr : List AVal} {t : Nat} {b : Bool} (ht : fr.getD t .undef = .bool b) : fr.set t (.bool b) = fr := by
  have hx : fr[t]? = some (.bool b) := by
    cases hf : fr[t]? with
    | none => simp [List.getD, hf] at ht
    | some x => simp [List.getD, hf] at ht; rw [ht]
  obtain ⟨h1, h2⟩ := List.getElem?_eq_some_iff.1 hx
  rw [← h2]; exact List.set_getElem_self h1

theorem wanted_guard {ops : Array Oper} {o : Oper} {fr : List AVal} {a : Act} (h : RelF E fr a) {t : Nat} {want b : Bool} (hg : guardSlot ops o = some (some (t, want)))
    (ht : fr.getD t .undef = .bool b) : Region.wanted o (yielded ops a.tmps) = (b == want) := by
  unfold guardSlot at hg
  split at hg
  · cases hg
  · rename_i j w' hgo
    split at hg
    · rename_i t' ht'
      simp only [Option.some.injEq, Prod.mk.injEq] at hg
      obtain ⟨rfl, rfl⟩ := hg
      simp only [Region.wanted, hgo, yielded, ht', Option.bind_some, h.bool ht]
      cases b <;> cases w' <;> rfl
    · cases hg

theorem wanted_skip {ops : Array Oper} {o : Oper} {fr : List AVal} {a : Act} (h : RelF E fr a) {t : Nat} {want : Bool} (hg : guardSlot ops o = some (some (t, want)))
    (ht : fr.getD t .undef = .tup []) : Region.wanted o (yielded ops a.tmps) = false := by
  unfold guardSlot at hg
  split at hg
  · cases hg
  · rename_i j w' hgo
    split at hg
    · rename_i t' ht'
      simp only [Option.some.injEq, Prod.mk.injEq] at hg
      obtain ⟨rfl, rfl⟩ := hg
      have hx : fr[t']? = some (.tup []) := by
        cases hf : fr[t']? with
        | none => simp [List.getD, hf] at ht
        | some x => simp [List.getD, hf] at ht; rw [ht]
      obtain ⟨y, hy, hr⟩ := RelGL.get h hx
      simp only [RelG, RelGL] at hr
      obtain ⟨l, rfl, rfl⟩ := hr
      have hy2 : a.tmps[t']? = some (.tuple #[]) := by simpa using hy
      simp [Region.wanted, hgo, yielded, ht', hy2]
    · cases hg

theorem wanted_none {ops : Array Oper} {o : Oper} (hg : guardSlot ops o = some none) (y : Nat → Option Bool) : Region.wanted o y = true := by
  unfold guardSlot at hg
  split at hg
  · rename_i h; simp [Region.wanted, h]
  · split at hg <;> cases hg

/-- The operations of a region in the order of the text. -/
theorem ops_sound (hsp : SpecsOk P sp) {ops : Array Oper} {Q : Exit → Act → World → Prop} (W : List Nat) :
    ∀ (l : List Oper) (sk : List Nat) (fr : List AVal) (H : AHeap) (K : List AVal → AHeap → Prop) (E : Env) (w : World) (a : Act), evOps P sp ops l sk fr H K → E.H = H → RelW E w → RelF E fr a → a.defers = [] →
      (∀ o ∈ l, ∀ d, o.dst = some d → d ∈ W) →
      (∀ E' fr' a' w', K fr' E'.H → RelW E' w' → RelF E' fr' a' → a'.defers = [] → Ext E w E' w' → Agree W fr fr' → Q .normal a' w') → wpList P ops Q l a w
  | [], _, fr, H, K, E, w, a, h, hH, hw, hf, hd, _, hq => by
    subst hH
    exact hq E fr a w h hw hf hd (Ext.refl _ _) (Agree.refl _ _)
  | o :: rest, sk, fr, H, K, E, w, a, h, hH, hw, hf, hd, hW, hq => by
    have hWr : ∀ o ∈ rest, ∀ d, o.dst = some d → d ∈ W := fun o' ho' => hW o' (List.mem_cons_of_mem _ ho')
    have hWo : ∀ d, o.dst = some d → d ∈ W := hW o (List.mem_cons_self ..)
    have step : ∀ fr0, fr0 = fr → stepA P sp o fr0 H (fun fr H => evOps P sp ops rest sk fr H K) → o.wp P a w (wpList P ops Q rest) Q := by
      intro fr0 h0 hs
      subst h0
      obtain ⟨v, H1, ho, hs⟩ := stepA_some hs
      · refine Oper.wp_mono (K := After E w a o.dst v H1) (fun a' w' ha => ?_) (op_sound hsp ho hH hw hf Q)
        obtain ⟨u, E', rfl, h1, h2, h3, h4⟩ := ha
        refine ops_sound hsp W rest _ _ H1 K E' w' _ hs h3 h2 (RelF.put (RelF.ext h4 hf) o.dst h1) (by cases o.dst <;> simpa [Act.put] using hd) hWr fun E'' fr'' a'' w'' hk hw'' hf'' hd'' hx hag => ?_
        exact hq E'' fr'' a'' w'' hk hw'' hf'' hd'' (h4.trans hx) ((Agree.put fr0 o.dst v hWo).trans hag)
    have skipO : ∀ fr0, fr0 = fr → evOps P sp ops rest (addSk o.dst sk) (putA fr0 o.dst (.tup [])) H K → wpList P ops Q rest (a.put o.dst undef) w := by
      intro fr0 h0 hs
      subst h0
      refine ops_sound hsp W rest _ _ H K E w _ hs hH hw (RelF.put hf o.dst (by simp only [RelG]; exact ⟨[], rfl, RelGL.nil⟩)) (by cases o.dst <;> simpa [Act.put] using hd) hWr fun E'' fr'' a'' w'' hk hw'' hf'' hd'' hx hag => ?_
      exact hq E'' fr'' a'' w'' hk hw'' hf'' hd'' hx ((Agree.put fr0 o.dst (.tup []) hWo).trans hag)
    unfold evOps at h
    unfold wpList
    split at h
    · exact h.elim
    · rename_i hg
      rw [if_pos (wanted_none hg _)]
      exact .inl (step fr rfl h)
    · rename_i t want hg
      cases hsk : (sk.any fun x => Nat.beq t x) with
      | true =>
      rw [hsk] at h
      obtain ⟨hb, h⟩ := isT_some h
      rw [wanted_skip hf hg hb, if_neg (by decide)]
      exact skipO fr rfl h
      | false =>
      rw [hsk] at h
      obtain ⟨b, hb, h⟩ := isB_some h
      rw [wanted_guard hf hg hb]
      cases b <;> cases want <;> simp only [cond_true, cond_false] at h <;> rw [set_same hb] at h
      · rw [if_pos (by rfl)]; exact .inl (step fr rfl h)
      · rw [if_neg (by decide)]; exact skipO fr rfl h
      · rw [if_neg (by decide)]; exact skipO fr rfl h
      · rw [if_pos (by rfl)]; exact .inl (step fr rfl h)

/-- What stands behind a piece of code. -/
def Post (E : Env) (w : World) (W : List Nat) (fr : List AVal) (K : AExit → List AVal → AHeap → Prop) : Exit → Act → World → Prop :=
  fun e a' w' => ∃ E' fr' e', e = AExit.toExit e' ∧ K e' fr' E'.H ∧ RelW E' w' ∧ RelF E' fr' a' ∧ a'.defers = [] ∧ Ext E w E' w' ∧ Agree W fr fr'

theorem wipe_len (W : List Nat) (fr : List AVal) : (wipe W fr).length = fr.length := by
  unfold wipe
  induction W generalizing fr with
  | nil => rfl
  | cons i W ih => simp only [List.foldl_cons]; rw [ih]; simp
theorem wipe_out (W : List Nat) (fr : List AVal) {i : Nat} (h : i ∉ W) : (wipe W fr).getD i .undef = fr.getD i .undef := by
  unfold wipe
  induction W generalizing fr with
  | nil => rfl
  | cons j W ih =>
    simp only [List.mem_cons, not_or] at h
    simp only [List.foldl_cons]
    rw [ih _ h.2, getD_set_ne (Ne.symm h.1)]
theorem wipe_in (W : List Nat) (fr : List AVal) {i : Nat} (h : i ∈ W) : (wipe W fr).getD i .undef = .undef := by
  unfold wipe
  induction W generalizing fr with
  | nil => simp at h
  | cons j W ih =>
    simp only [List.foldl_cons]
    by_cases hw : i ∈ W
    · exact ih _ hw
    · have : i = j := by simpa [hw] using h
      subst this
      have := wipe_out W (fr.set i .undef) hw
      unfold wipe at this
      rw [this]
      by_cases hl : i < fr.length
      · exact getD_set_eq hl
      · simp [List.getD, List.getElem?_eq_none (show (fr.set i AVal.undef).length ≤ i by simp; omega)]

theorem lay_len : ∀ (is : List Nat) (k : Nat) (vs fr : List AVal), (laySlots is k vs fr).length = fr.length
  | [], _, _, _ => rfl
  | i :: is, k, vs, fr => by simp only [laySlots]; rw [lay_len]; simp
theorem lay_get (g : Nat → AVal) : ∀ (is : List Nat) (k : Nat) (vs fr : List AVal), (∀ j i, is[j]? = some i → vs.getD (k + j) .undef = g i) → ∀ i,
    (laySlots is k vs fr).getD i .undef = if i ∈ is ∧ i < fr.length then g i else fr.getD i .undef
  | [], _, _, _, _, i => by simp [laySlots]
  | j :: is, k, vs, fr, hg, i => by
    simp only [laySlots]
    rw [lay_get g is (k + 1) vs _ (fun m i' hm => by have := hg (m + 1) i' (by simpa using hm); rwa [show k + (m + 1) = k + 1 + m by omega] at this)]
    have h0 : vs.getD k .undef = g j := by simpa using hg 0 j (by simp)
    simp only [List.length_set, List.mem_cons]
    by_cases hi : i < fr.length
    · by_cases hm : i ∈ is
      · simp [hm, hi]
      · by_cases hj : i = j
        · subst hj; rw [if_neg (by simp [hm]), if_pos (by simp [hi]), getD_set_eq hi, h0]
        · rw [if_neg (by simp [hm]), if_neg (by simp [hm, hj]), getD_set_ne (Ne.symm hj)]
    · simp [hi, List.getElem?_eq_none (Nat.le_of_not_lt hi), List.getElem?_eq_none (show (fr.set j (vs.getD k .undef)).length ≤ i by simp; omega)]

theorem lay_pick (is : List Nat) (fr' base : List AVal) (i : Nat) :
    (laySlots is 0 (pickSlots is fr') base).getD i .undef = if i ∈ is ∧ i < base.length then fr'.getD i .undef else base.getD i .undef := by
  refine lay_get (fun i => fr'.getD i .undef) is 0 _ base (fun j i hj => ?_) i
  simp [pickSlots, List.getD, hj]

theorem RelF.of_get {fr : List AVal} {a : Act} (hl : fr.length = a.tmps.size) (h : ∀ i, RelV E (fr.getD i .undef) (a.tmps.toList.getD i undef)) : RelF E fr a := by
  unfold RelF
  have key : ∀ (xs : List AVal) (ys : List Value), xs.length = ys.length → (∀ i, RelV E (xs.getD i .undef) (ys.getD i undef)) → RelL E xs ys := by
    intro xs
    induction xs with
    | nil => intro ys hl _; cases ys with | nil => exact RelGL.nil | cons _ _ => simp at hl
    | cons x xs ih =>
      intro ys hl hh
      cases ys with
      | nil => simp at hl
      | cons y ys =>
        refine RelGL.cons (by simpa using hh 0) (ih ys (by simpa using hl) fun i => by simpa using hh (i + 1))
  exact key _ _ (by simpa using hl) h

theorem RelF.len {fr : List AVal} {a : Act} (h : RelF E fr a) : fr.length = a.tmps.size := by simpa using RelGL.length h
theorem RelF.get {fr : List AVal} {a : Act} (h : RelF E fr a) (i : Nat) : RelV E (fr.getD i .undef) (a.tmps.toList.getD i undef) := RelGL.getD h i undef

theorem onExits_of {e : AExit} {K : AExit → Prop} : ∀ {l : List AExit}, onExits e K l → K e
  | [], h => h.elim
  | x :: l, h => by
    unfold onExits onE at h
    split at h
    · rename_i he; subst he; exact h
    · exact onExits_of h

/-- A frame rebuilt out of what was kept of it. -/
theorem rebuilt {W is : List Nat} {fr head fr' : List AVal} {a : Act} (hf : RelF E fr' a) (hag : Agree W head fr') (hlen : head.length = fr.length) (hh : ∀ i, i ∉ W → head.getD i .undef = fr.getD i .undef) :
    RelF E (laySlots is 0 (pickSlots is fr') (wipe W fr)) a ∧ (∀ i, i ∉ W → (laySlots is 0 (pickSlots is fr') (wipe W fr)).getD i .undef = fr.getD i .undef) ∧ (laySlots is 0 (pickSlots is fr') (wipe W fr)).length = fr.length := by
  have hl : (laySlots is 0 (pickSlots is fr') (wipe W fr)).length = fr.length := by rw [lay_len, wipe_len]
  refine ⟨RelF.of_get (by rw [hl, ← hlen, ← hag.len, hf.len]) fun i => ?_, fun i hi => ?_, hl⟩
  · rw [lay_pick]
    split
    · exact hf.get i
    · by_cases hi : i ∈ W
      · rw [wipe_in W fr hi]; simp only [RelG]
      · rw [wipe_out W fr hi, ← hh i hi, ← hag.same i hi]; exact hf.get i
  · rw [lay_pick]
    split
    · rw [hag.same i hi, hh i hi]
    · exact wipe_out W fr hi

theorem nextOf_some {ops : Array Oper} {x : Operand} {d e : Nat} (h : nextOf ops = some (x, d, e)) : ∃ t1 p1 a1 t2 p2 a2, ops.toList = [⟨some d, .next x false, t1, p1, a1, none⟩, ⟨some e, .extract (.tmp d) 0, t2, p2, a2, none⟩] := by
  unfold nextOf at h
  split at h
  · rename_i d1 x1 t1 p1 a1 e1 d2 t2 p2 a2 hl
    cases hd : Nat.beq d2 d1 with
    | false => rw [hd] at h; cases h
    | true =>
      rw [hd] at h
      simp only [cond_true, Option.some.injEq, Prod.mk.injEq] at h
      obtain ⟨rfl, rfl, rfl⟩ := h
      rw [Nat.eq_of_beq_eq_true hd] at hl
      exact ⟨t1, p1, a1, t2, p2, a2, hl⟩
  · cases h
theorem next_code {ops : Array Oper} {id : Nat} {x : Operand} {d e : Nat} (hn : nextOf ops = some (x, d, e)) {fr : List AVal} {K : AExit → List AVal → AHeap → Prop} {a : Act} (hl : d < fr.length)
    (h : nxP (evalA fr x) E.H fun v b H => K .normal ((fr.set d v).set e (.bool b)) H) (hw : RelW E w) (hf : RelF E fr a) (hd : a.defers = []) :
    (Code.region id ops false).wp P (Post E w (writesOf (.region id ops false)) fr K) a w := by
  obtain ⟨t1, p1, a1, t2, p2, a2, hops⟩ := nextOf_some hn
  obtain ⟨v, b, u, w', E', r1, r2, r3, r4, r5, rest, rfl⟩ := next_sound (P := P) hw (eval_sound hf x) t1 h
  have hW : writesOf (.region id ops false) = [d, e] := by simp [writesOf, hops]
  rw [hW]
  refine wp_region_list ?_
  rw [hops]
  unfold wpList
  rw [if_pos (by rfl)]
  refine .inl ?_
  unfold Oper.wp
  have he : execOp a.eval ⟨some d, .next x false, t1, p1, a1, none⟩ = (do pure (.value (← Instr.next (a.eval x) false t1)) : Sem Next) := rfl
  rw [he]
  simp only [Sem.run_bind, r1, Result.andThen, Sem.run_pure, Oper.upon]
  have hf1 : RelF E' (fr.set d (.tup (.bool b :: rest))) (a.put (some d) u) := RelF.put (RelF.ext r4 hf) (some d) r2
  unfold wpList
  rw [if_pos (by rfl)]
  refine .inl ?_
  have hx : aExtract (evalA (fr.set d (.tup (.bool b :: rest))) (.tmp d)) 0 = some (.bool b) := by
    simp only [evalA]
    rw [getD_set_eq hl]
    rfl
  obtain ⟨u2, s1, s2⟩ := aExtract_sound (P := P) (w := w') (eval_sound hf1 (.tmp d)) hx
  unfold Oper.wp
  have he2 : execOp (a.put (some d) u).eval ⟨some e, .extract (.tmp d) 0, t2, p2, a2, none⟩ = (do pure (.value (← Instr.extract ((a.put (some d) u).eval (.tmp d)) 0)) : Sem Next) := rfl
  rw [he2]
  simp only [Sem.run_bind, s1, Result.andThen, Sem.run_pure, Oper.upon]
  unfold wpList
  refine ⟨E', _, .normal, rfl, r5, r3, RelF.put hf1 (some e) s2, by simpa [Act.put] using hd, r4, ?_⟩
  exact (Agree.put fr (some d) _ (fun d' h => by cases h; simp)).trans (Agree.put _ (some e) _ (fun d' h => by cases h; simp))
def DrawSound (P : Program) (sp : Specs) : Prop :=
  ∀ (T : Cuts) (id : Nat) (ops : Array Oper) (fr : List AVal) (H : AHeap) (K : List AVal → AHeap → Prop) (E : Env) (w : World) (a : Act) (Q : Exit → Act → World → Prop),
    evDraw P sp T id 4 1 ops fr H K → E.H = H → RelW E w → RelF E fr a → a.defers = [] →
    (∀ E' fr' a' w', K fr' E'.H → RelW E' w' → RelF E' fr' a' → a'.defers = [] → Ext E w E' w' → Agree (ops.toList.filterMap (·.dst)) fr fr' → Q .normal a' w') →
    (Code.region id ops true).wp P Q a w

theorem label_some : ∀ {c : Code} {l : Nat}, firstLabel c = some l → ∃ rest, findLabel c l = some rest
  | .seq x y, l, h => by
    simp only [findLabel]
    cases hx : findLabel x l with
    | some r => exact ⟨_, rfl⟩
    | none =>
      simp only [firstLabel] at h
      cases hf : firstLabel x with
      | some l' =>
        rw [hf] at h
        have h : l' = l := Option.some.inj h
        subst h
        obtain ⟨r, hr⟩ := label_some hf
        rw [hx] at hr; cases hr
      | none =>
        rw [hf] at h
        exact label_some (by simpa using h)
  | .label l', l, h => by
    simp only [firstLabel, Option.some.injEq] at h
    subst h
    exact ⟨.skip, by simp [findLabel]⟩
  | .skip, _, h => by cases h
  | .region _ _ _, _, h => by cases h
  | .cond _ _ _, _, h => by cases h
  | .block _ _, _, h => by cases h
  | .loop _, _, h => by cases h
  | .exit _, _, h => by cases h
  | .goto _, _, h => by cases h
  | .ret, _, h => by cases h
  | .rangeFunc _ _ _ _, _, h => by cases h
  | .scope _, _, h => by cases h
  | .refuse _, _, h => by cases h

mutual
theorem code_sound (hsp : SpecsOk P sp) (hdr : DrawSound P sp) (T : Cuts) : ∀ (c : Code) (fr : List AVal) (H : AHeap) (K : AExit → List AVal → AHeap → Prop) (E : Env) (w : World) (a : Act), evC P sp T c fr H K → E.H = H → RelW E w → RelF E fr a → a.defers = [] →
    c.wp P (Post E w (writesOf c) fr K) a w
  | .skip, fr, H, K, E, w, a, h, hH, hw, hf, hd => by
    subst hH
    exact wp_skip ⟨E, fr, .normal, rfl, h, hw, hf, hd, Ext.refl _ _, Agree.refl _ _⟩
  | .label l, fr, H, K, E, w, a, h, hH, hw, hf, hd => by
    subst hH
    exact wp_label ⟨E, fr, .normal, rfl, h, hw, hf, hd, Ext.refl _ _, Agree.refl _ _⟩
  | .exit id, fr, H, K, E, w, a, h, hH, hw, hf, hd => by
    subst hH
    exact wp_exit ⟨E, fr, .exit id, rfl, h, hw, hf, hd, Ext.refl _ _, Agree.refl _ _⟩
  | .goto l, fr, H, K, E, w, a, h, hH, hw, hf, hd => by
    subst hH
    exact wp_goto ⟨E, fr, .goto l, rfl, h, hw, hf, hd, Ext.refl _ _, Agree.refl _ _⟩
  | .ret, fr, H, K, E, w, a, h, hH, hw, hf, hd => by
    subst hH
    exact wp_ret ⟨E, fr, .ret, rfl, h, hw, hf, hd, Ext.refl _ _, Agree.refl _ _⟩
  | .region id ops draw, fr, H, K, E, w, a, h, hH, hw, hf, hd => by
    have reg : ∀ K0 : List AVal → AHeap → Prop, cond draw (evDraw P sp T id 4 1 ops fr H K0) (evOps P sp ops ops.toList [] fr H K0) →
        (Code.region id ops draw).wp P (Post E w (writesOf (.region id ops draw)) fr fun e fr H => e = .normal ∧ K0 fr H) a w := by
      intro K0 h
      cases draw with
      | false =>
        simp only [cond_false] at h
        refine wp_region_list (ops_sound hsp (writesOf (.region id ops false)) ops.toList [] fr H _ E w a h hH hw hf hd (fun o ho d hod => ?_) fun E' fr' a' w' hk hw' hf' hd' hx hag => ⟨E', fr', .normal, rfl, ⟨rfl, hk⟩, hw', hf', hd', hx, hag⟩)
        exact List.mem_filterMap.2 ⟨o, ho, hod⟩
      | true =>
        simp only [cond_true] at h
        exact hdr T id ops fr H _ E w a _ h hH hw hf hd fun E' fr' a' w' hk hw' hf' hd' hx hag => ⟨E', fr', .normal, rfl, ⟨rfl, hk⟩, hw', hf', hd', hx, hag⟩
    unfold evC at h
    split at h
    · rename_i x d e hn
      cases draw with
      | true => exact h.elim
      | false =>
        simp only [cond_false] at h
        cases hl : Nat.blt d fr.length with
        | false => rw [hl] at h; exact h.elim
        | true =>
          rw [hl] at h
          subst hH
          exact next_code hn (Nat.blt_eq ▸ hl) h hw hf hd
    split at h
    · refine Code.wp_mono (fun e a' w' hp => ?_) (reg _ h)
      obtain ⟨E', fr', e', rfl, ⟨rfl, hk⟩, hw', hf', hd', hx, hag⟩ := hp
      exact ⟨E', fr', .normal, rfl, hk, hw', hf', hd', hx, hag⟩
    · rename_i cut _
      obtain ⟨Q, h, hQ⟩ := h
      refine Code.wp_mono (fun e a' w' hp => ?_) (reg _ h)
      obtain ⟨E', fr', e', rfl, ⟨rfl, hk⟩, hw', hf', hd', hx, hag⟩ := hp
      have hk2 := onExits_of (hQ _ _ _ hk)
      obtain ⟨o1, o2, o3⟩ := rebuilt (is := cut.outs) (fr := fr) hf' hag rfl (fun _ _ => rfl)
      exact ⟨E', _, .normal, rfl, hk2, hw', o1, hd', hx, ⟨o3, o2⟩⟩
  | .seq x y, fr, H, K, E, w, a, h, hH, hw, hf, hd => by
    unfold evC at h
    have rest : ∀ (E' : Env) (fr' : List AVal) (e' : AExit) (a' : Act) (w' : World), exitA K (fun fr H => evC P sp T y fr H K) e' fr' E'.H → RelW E' w' → RelF E' fr' a' → a'.defers = [] → Ext E w E' w' →
        Agree (writesOf (.seq x y)) fr fr' → Exit.then (y.wp P (Post E w (writesOf (.seq x y)) fr K)) (Post E w (writesOf (.seq x y)) fr K) (AExit.toExit e') a' w' := by
      intro E' fr' e' a' w' hk hw' hf' hd' hx hag'
      cases e' with
      | normal =>
        refine Code.wp_mono (fun e a'' w'' hp => ?_) (code_sound hsp hdr T y fr' E'.H K E' w' a' hk rfl hw' hf' hd')
        obtain ⟨E'', fr'', e'', rfl, hk, hw'', hf'', hd'', hx', hag2⟩ := hp
        exact ⟨E'', fr'', e'', rfl, hk, hw'', hf'', hd'', hx.trans hx', hag'.trans (hag2.mono fun i hi => List.mem_append_right _ hi)⟩
      | exit id => exact ⟨E', fr', .exit id, rfl, hk, hw', hf', hd', hx, hag'⟩
      | goto l => exact ⟨E', fr', .goto l, rfl, hk, hw', hf', hd', hx, hag'⟩
      | ret => exact ⟨E', fr', .ret, rfl, hk, hw', hf', hd', hx, hag'⟩
    split at h
    · refine wp_seq (Code.wp_mono (fun e a' w' hp => ?_) (code_sound hsp hdr T x fr H _ E w a h hH hw hf hd))
      obtain ⟨E', fr', e', rfl, hk, hw', hf', hd', hx, hag⟩ := hp
      exact rest E' fr' e' a' w' hk hw' hf' hd' hx (hag.mono fun i hi => List.mem_append_left _ hi)
    · rename_i cut _
      obtain ⟨Q, h, hQ⟩ := h
      refine wp_seq (Code.wp_mono (fun e a' w' hp => ?_) (code_sound hsp hdr T x fr H _ E w a h hH hw hf hd))
      obtain ⟨E', fr', e', rfl, hk, hw', hf', hd', hx, hag⟩ := hp
      have hk2 := onExits_of (hQ _ _ _ hk)
      obtain ⟨o1, o2, o3⟩ := rebuilt (is := cut.outs) (fr := fr) hf' hag rfl (fun _ _ => rfl)
      have hag2 : Agree (writesOf (.seq x y)) fr (laySlots cut.outs 0 (pickSlots cut.outs fr') (wipe (writesOf x) fr)) := ⟨o3, fun i hi => o2 i fun hh => hi (List.mem_append_left _ hh)⟩
      exact rest E' _ e' a' w' hk2 hw' o1 hd' hx hag2
  | .cond c x y, fr, H, K, E, w, a, h, hH, hw, hf, hd => by
    unfold evC at h
    obtain ⟨t, ht, h⟩ := isB_some h
    · have hv := eval_sound hf c
      rw [ht] at hv
      simp only [RelG] at hv
      cases t with
      | true =>
        refine wp_cond hv (Code.wp_mono (fun e a' w' hp => ?_) (code_sound hsp hdr T x fr H K E w a h hH hw hf hd))
        obtain ⟨E', fr', e', rfl, hk, hw', hf', hd', hx, hag⟩ := hp
        exact ⟨E', fr', e', rfl, hk, hw', hf', hd', hx, hag.mono fun i hi => List.mem_append_left _ hi⟩
      | false =>
        refine wp_cond hv (Code.wp_mono (fun e a' w' hp => ?_) (code_sound hsp hdr T y fr H K E w a h hH hw hf hd))
        obtain ⟨E', fr', e', rfl, hk, hw', hf', hd', hx, hag⟩ := hp
        exact ⟨E', fr', e', rfl, hk, hw', hf', hd', hx, hag.mono fun i hi => List.mem_append_right _ hi⟩
  | .block id c, fr, H, K, E, w, a, h, hH, hw, hf, hd => by
    unfold evC at h
    refine wp_block (Code.wp_mono (fun e a' w' hp => ?_) (code_sound hsp hdr T c fr H _ E w a h hH hw hf hd))
    obtain ⟨E', fr', e', rfl, hk, hw', hf', hd', hx, hag⟩ := hp
    unfold onE at hk
    cases e' with
    | normal => exact ⟨E', fr', .normal, rfl, by simpa using hk, hw', hf', hd', hx, hag⟩
    | exit id' =>
      show (if id' = id then Post E w (writesOf (.block id c)) fr K .normal a' w' else Post E w (writesOf (.block id c)) fr K (.exit id') a' w')
      by_cases hid : id' = id
      · subst hid
        rw [if_pos rfl]
        exact ⟨E', fr', .normal, rfl, by simpa using hk, hw', hf', hd', hx, hag⟩
      · rw [if_neg hid]
        exact ⟨E', fr', .exit id', rfl, by simpa [hid] using hk, hw', hf', hd', hx, hag⟩
    | goto l => exact ⟨E', fr', .goto l, rfl, by simpa using hk, hw', hf', hd', hx, hag⟩
    | ret => exact ⟨E', fr', .ret, rfl, by simpa using hk, hw', hf', hd', hx, hag⟩
  | .loop c, fr, H, K, E, w, a, h, hH, hw, hf, hd => by
    unfold evC at h
    split at h
    case h_2 => exact h.elim
    rename_i cut _
    obtain ⟨n, h⟩ := h
    intro b k cs
    have key : ∀ (n : Nat) (vs : List AVal) (H' : AHeap) (E1 : Env) (w1 : World) (a1 : Act),
        LoopN (fun vs H Kn Ke => evC P sp T c (laySlots cut.ins 0 vs (wipe (writesOf c) fr)) H (exitA (fun e fr H => Ke e (pickSlots cut.outs fr) H) (fun fr H => Kn (pickSlots cut.ins fr) H)))
          (fun e vs H => onExits e (fun e => K e (laySlots cut.outs 0 vs (wipe (writesOf c) fr)) H) cut.exits) n vs H' →
        E1.H = H' → RelW E1 w1 → RelF E1 (laySlots cut.ins 0 vs (wipe (writesOf c) fr)) a1 → a1.defers = [] → Ext E w E1 w1 →
        (∀ i, i ∉ writesOf c → (laySlots cut.ins 0 vs (wipe (writesOf c) fr)).getD i .undef = fr.getD i .undef) →
        ∃ e a' w', Post E w (writesOf (.loop c)) fr K e a' w' ∧ Arrives P (lone (b.at a1 (.code c :: .inLoop c :: k)) cs w1) b k cs e a' w' := by
      intro n
      induction n with
      | zero => intro vs H' E1 w1 a1 h; exact h.elim
      | succ n ih =>
        intro vs H' E1 w1 a1 h hH1 hw1 hf1 hd1 hx1 hinv
        have hl1 : (laySlots cut.ins 0 vs (wipe (writesOf c) fr)).length = fr.length := by rw [lay_len, wipe_len]
        obtain ⟨e, a2, w2, hp, harr⟩ := code_sound hsp hdr T c _ H' _ E1 w1 a1 h hH1 hw1 hf1 hd1 b (.inLoop c :: k) cs
        obtain ⟨E2, fr2, e2, rfl, hk, hw2, hf2, hd2, hx2, hag⟩ := hp
        have out : ∀ is, RelF E2 (laySlots is 0 (pickSlots is fr2) (wipe (writesOf c) fr)) a2 ∧ (∀ i, i ∉ writesOf c → (laySlots is 0 (pickSlots is fr2) (wipe (writesOf c) fr)).getD i .undef = fr.getD i .undef) ∧ (laySlots is 0 (pickSlots is fr2) (wipe (writesOf c) fr)).length = fr.length :=
          fun is => rebuilt (is := is) hf2 hag hl1 hinv
        have leave : ∀ e2 : AExit, e2 ≠ .normal → onExits e2 (fun e => K e (laySlots cut.outs 0 (pickSlots cut.outs fr2) (wipe (writesOf c) fr)) E2.H) cut.exits → Post E w (writesOf (.loop c)) fr K e2.toExit a2 w2 := by
          intro e2 _ hk
          obtain ⟨o1, o2, o3⟩ := out cut.outs
          exact ⟨E2, _, e2, rfl, onExits_of hk, hw2, o1, hd2, hx1.trans hx2, ⟨o3, o2⟩⟩
        cases e2 with
        | normal =>
          obtain ⟨o1, o2, o3⟩ := out cut.ins
          obtain ⟨e, a3, w3, hp3, harr3⟩ := ih (pickSlots cut.ins fr2) E2.H E2 w2 a2 hk rfl hw2 o1 hd2 (hx1.trans hx2) o2
          exact ⟨e, a3, w3, hp3, .of_steps (Steps.trans harr (.one step_inLoop)) harr3⟩
        | exit id => exact ⟨_, a2, w2, leave (.exit id) (by simp) hk, .pass (x := .inLoop c) rfl (fun _ _ => .inl (by simp [AExit.toExit])) harr⟩
        | goto l => exact ⟨_, a2, w2, leave (.goto l) (by simp) hk, .pass (x := .inLoop c) rfl (fun _ _ => .inl (by simp [AExit.toExit])) harr⟩
        | ret => exact ⟨_, a2, w2, leave .ret (by simp) hk, .pass (x := .inLoop c) rfl (fun _ _ => .inl (by simp [AExit.toExit])) harr⟩
    obtain ⟨r1, r2, r3⟩ := rebuilt (E := E) (W := writesOf c) (is := cut.ins) (fr := fr) (head := fr) (fr' := fr) hf (Agree.refl _ _) rfl (fun _ _ => rfl)
    obtain ⟨e, a', w', hp, harr⟩ := key n _ H E w a h hH hw r1 hd (Ext.refl _ _) r2
    exact ⟨e, a', w', hp, .of_steps (.one step_loop) harr⟩
  | .rangeFunc _ _ _ _, _, _, _, _, _, _, h, _, _, _, _ => by unfold evC at h; exact h.elim
  | .scope c, fr, H, K, E, w, a, h, hH, hw, hf, hd => by
    unfold evC at h
    cases hl : firstLabel c with
    | none =>
      rw [hl] at h
      refine wp_scope_straight (Code.wp_mono (fun e a' w' hp => ?_) (code_sound hsp hdr T c fr H _ E w a h hH hw hf hd))
      obtain ⟨E', fr', e', rfl, hk, hw', hf', hd', hx, hag⟩ := hp
      cases e' with
      | normal => exact ⟨E', fr', .normal, rfl, hk, hw', hf', hd', hx, hag⟩
      | exit id => exact ⟨E', fr', .exit id, rfl, hk, hw', hf', hd', hx, hag⟩
      | goto l => exact hk.elim
      | ret => exact ⟨E', fr', .ret, rfl, hk, hw', hf', hd', hx, hag⟩
    | some l =>
      rw [hl] at h
      obtain ⟨rest, hrest⟩ := label_some hl
      refine wp_scope_jumps l (fun a' w' => ∃ E' fr', evL P sp T l c fr' E'.H (fun e fr H => noGoto e (K e fr H)) ∧ RelW E' w' ∧ RelF E' fr' a' ∧ a'.defers = [] ∧ Ext E w E' w' ∧ Agree (writesOf c) fr fr') (fun _ _ => 0) hrest
        (Code.wp_mono (fun e a' w' hp => ?_) (code_sound hsp hdr T c fr H _ E w a h hH hw hf hd)) ?_
      · obtain ⟨E', fr', e', rfl, hk, hw', hf', hd', hx, hag⟩ := hp
        cases e' with
        | normal => exact ⟨E', fr', .normal, rfl, hk, hw', hf', hd', hx, hag⟩
        | exit id => exact ⟨E', fr', .exit id, rfl, hk, hw', hf', hd', hx, hag⟩
        | goto l' =>
          simp only [gotoA] at hk
          cases hb : Nat.beq l' l with
          | false => rw [hb] at hk; exact hk.elim
          | true =>
            rw [hb] at hk
            exact ⟨Nat.eq_of_beq_eq_true hb, E', fr', hk, hw', hf', hd', hx, hag⟩
        | ret => exact ⟨E', fr', .ret, rfl, hk, hw', hf', hd', hx, hag⟩
      · rintro a' w' ⟨E', fr', hk, hw', hf', hd', hx, hag⟩
        obtain ⟨rest', hr', hwp⟩ := label_sound hsp hdr T l c fr' E'.H _ E' w' a' hk rfl hw' hf' hd'
        rw [hrest] at hr'; cases hr'
        refine Code.wp_mono (fun e a2 w2 hp => ?_) hwp
        obtain ⟨E2, fr2, e2, rfl, hk2, hw2, hf2, hd2, hx2, hag2⟩ := hp
        cases e2 with
        | normal => exact ⟨E2, fr2, .normal, rfl, hk2, hw2, hf2, hd2, hx.trans hx2, hag.trans hag2⟩
        | exit id => exact ⟨E2, fr2, .exit id, rfl, hk2, hw2, hf2, hd2, hx.trans hx2, hag.trans hag2⟩
        | goto l => exact hk2.elim
        | ret => exact ⟨E2, fr2, .ret, rfl, hk2, hw2, hf2, hd2, hx.trans hx2, hag.trans hag2⟩
  | .refuse _, _, _, _, _, _, _, h, _, _, _, _ => by unfold evC at h; exact h.elim
theorem label_sound (hsp : SpecsOk P sp) (hdr : DrawSound P sp) (T : Cuts) (l : Nat) : ∀ (c : Code) (fr : List AVal) (H : AHeap) (K : AExit → List AVal → AHeap → Prop) (E : Env) (w : World) (a : Act), evL P sp T l c fr H K → E.H = H → RelW E w → RelF E fr a → a.defers = [] →
    ∃ rest, findLabel c l = some rest ∧ rest.wp P (Post E w (writesOf c) fr K) a w
  | .seq x y, fr, H, K, E, w, a, h, hH, hw, hf, hd => by
    unfold evL at h
    cases hx : findLabel x l with
    | none =>
      have hb : hasLabel l x = false := by simp [hasLabel, hx]
      rw [hb] at h
      obtain ⟨rest, h1, h2⟩ := label_sound hsp hdr T l y fr H K E w a h hH hw hf hd
      refine ⟨rest, by simp [findLabel, hx, h1], Code.wp_mono (fun e a' w' hp => ?_) h2⟩
      obtain ⟨E', fr', e', rfl, hk, hw', hf', hd', hx', hag⟩ := hp
      exact ⟨E', fr', e', rfl, hk, hw', hf', hd', hx', hag.mono fun i hi => List.mem_append_right _ hi⟩
    | some r =>
      have hb : hasLabel l x = true := by simp [hasLabel, hx]
      rw [hb] at h
      obtain ⟨rest, h1, h2⟩ := label_sound hsp hdr T l x fr H _ E w a h hH hw hf hd
      refine ⟨.seq rest y, by simp [findLabel, h1], wp_seq (Code.wp_mono (fun e a' w' hp => ?_) h2)⟩
      obtain ⟨E', fr', e', rfl, hk, hw', hf', hd', hx', hag⟩ := hp
      have hag' : Agree (writesOf (.seq x y)) fr fr' := hag.mono fun i hi => List.mem_append_left _ hi
      cases e' with
      | normal =>
        refine Code.wp_mono (fun e a'' w'' hp => ?_) (code_sound hsp hdr T y fr' E'.H K E' w' a' hk rfl hw' hf' hd')
        obtain ⟨E'', fr'', e'', rfl, hk, hw'', hf'', hd'', hx2, hag2⟩ := hp
        exact ⟨E'', fr'', e'', rfl, hk, hw'', hf'', hd'', hx'.trans hx2, hag'.trans (hag2.mono fun i hi => List.mem_append_right _ hi)⟩
      | exit id => exact ⟨E', fr', .exit id, rfl, hk, hw', hf', hd', hx', hag'⟩
      | goto l => exact ⟨E', fr', .goto l, rfl, hk, hw', hf', hd', hx', hag'⟩
      | ret => exact ⟨E', fr', .ret, rfl, hk, hw', hf', hd', hx', hag'⟩
  | .label l', fr, H, K, E, w, a, h, hH, hw, hf, hd => by
    unfold evL at h
    cases hb : Nat.beq l' l with
    | false => rw [hb] at h; exact h.elim
    | true =>
      rw [hb] at h
      subst hH
      exact ⟨.skip, by simp [findLabel, Nat.eq_of_beq_eq_true hb], wp_skip ⟨E, fr, .normal, rfl, h, hw, hf, hd, Ext.refl _ _, Agree.refl _ _⟩⟩
  | .skip, _, _, _, _, _, _, h, _, _, _, _ => by unfold evL at h; exact h.elim
  | .region _ _ _, _, _, _, _, _, _, h, _, _, _, _ => by unfold evL at h; exact h.elim
  | .cond _ _ _, _, _, _, _, _, _, h, _, _, _, _ => by unfold evL at h; exact h.elim
  | .block _ _, _, _, _, _, _, _, h, _, _, _, _ => by unfold evL at h; exact h.elim
  | .loop _, _, _, _, _, _, _, h, _, _, _, _ => by unfold evL at h; exact h.elim
  | .exit _, _, _, _, _, _, _, h, _, _, _, _ => by unfold evL at h; exact h.elim
  | .goto _, _, _, _, _, _, _, h, _, _, _, _ => by unfold evL at h; exact h.elim
  | .ret, _, _, _, _, _, _, h, _, _, _, _ => by unfold evL at h; exact h.elim
  | .rangeFunc _ _ _ _, _, _, _, _, _, _, h, _, _, _, _ => by unfold evL at h; exact h.elim
  | .scope _, _, _, _, _, _, _, h, _, _, _, _ => by unfold evL at h; exact h.elim
  | .refuse _, _, _, _, _, _, _, h, _, _, _, _ => by unfold evL at h; exact h.elim
end
end
end Go.Abs

/- What an operation's kind says of it. -/
namespace Go.Abs
open Go

section
variable {P : Program} {sp : Specs}

theorem map_congr' {ρ ρ' : Operand → AVal} {l : List Operand} (h : ∀ x ∈ l, ρ x = ρ' x) : l.map ρ = l.map ρ' := List.map_congr_left h

theorem aop_congr {ρ ρ' : Operand → AVal} (op : Op) (h : ∀ x ∈ op.operands.toList, ρ x = ρ' x) (H : AHeap) : aop P op ρ H = aop P op ρ' H := by
  have pairs : ∀ ps : Array (Nat × Operand), (∀ x ∈ ps.toList.map (·.2), ρ x = ρ' x) → (ps.toList.map fun p => (p.1, ρ p.2)) = (ps.toList.map fun p => (p.1, ρ' p.2)) := fun ps hp =>
    List.map_congr_left fun p hm => by rw [hp p.2 (List.mem_map.2 ⟨p, hm, rfl⟩)]
  have opt : ∀ o : Option Operand, (∀ x ∈ o.toList, ρ x = ρ' x) → o.map ρ = o.map ρ' := fun o ho => by
    cases o with
    | none => rfl
    | some x => simp [ho x (by simp)]
  cases op <;> simp only [Op.operands] at h <;> simp only [aop]
  case build t ps => rw [pairs ps fun x hx => h x (by simpa using hx)]
  case buildSlice t n ps => rw [pairs ps fun x hx => h x (by simpa using hx)]
  case makeFunc fn first captured =>
    rw [map_congr' (l := first.toList) fun x hx => h x (by simp at hx ⊢; exact .inl hx), map_congr' (l := captured.toList) fun x hx => h x (by simp at hx ⊢; exact .inr hx)]
  case makeMap t r => cases r <;> rfl
  case call c =>
    obtain ⟨callee, args, ts⟩ := c
    have ha : args.toList.map ρ = args.toList.map ρ' := map_congr' fun x hx => h x (by simp only [Call.operands]; cases callee <;> simp at hx ⊢ <;> first | exact hx | exact .inr hx)
    cases callee with
    | value f => rfl
    | invoke r m => rfl
    | builtin b => simp only [ha]
  case slice t x lo hi mx =>
    rw [h x (by simp), opt lo fun y hy => h y (by simp at hy ⊢; simp [hy]), opt hi fun y hy => h y (by simp at hy ⊢; simp [hy]), opt mx fun y hy => h y (by simp at hy ⊢; simp [hy])]
  all_goals (first | rfl | (simp at h; simp only [h]; done) | (simp at h; simp only [h.1, h.2]; done) | (simp at h; simp only [h.1, h.2.1, h.2.2]; done))

def Res.quietForm (r : Res) : Prop := (∃ v, r = .now v) ∨ (∃ q, r = .val q) ∨ r = .eff none

theorem quiet_cond (b : Bool) (q : Option AVal) : (cond b (Res.eff none) (Res.val q)).quietForm := by
  cases b
  · exact .inr (.inl ⟨_, rfl⟩)
  · exact .inr (.inr rfl)

theorem kind0 {op : Op} (hk : heapKind P sp op = 0) (ρ : Operand → AVal) (H H2 : AHeap) : aopR P op ρ H = aopR P op ρ H2 ∧ (aopR P op ρ H).quietForm := by
  cases op <;> simp only [heapKind] at hk
  all_goals try (exact absurd hk (by decide))
  case binOp b t x y t2 =>
    cases hs : scalarT P t with
    | true => simp only [aopR, hs, cond_true]; exact ⟨trivial, .inr (.inl ⟨_, rfl⟩)⟩
    | false => rw [hs] at hk; cases hk
  case call c =>
    obtain ⟨callee, args, ts⟩ := c
    exfalso
    cases callee with
    | value f =>
      cases f with
      | func k => simp only at hk; split at hk <;> cases hk
      | _ => cases hk
    | invoke r m => cases hk
    | builtin b => cases b <;> cases hk
  all_goals simp only [aopR]
  all_goals refine ⟨by first | rfl | trivial, ?_⟩
  all_goals (repeat' split)
  all_goals first
    | exact .inl ⟨_, rfl⟩
    | exact .inr (.inl ⟨_, rfl⟩)
    | exact .inr (.inr rfl)
    | exact quiet_cond _ _

theorem kind0_any {op : Op} (hk : heapKind P sp op = 0) {ρ : Operand → AVal} {H H' : AHeap} {v : AVal} (h : aop P op ρ H = some (v, H')) (H2 : AHeap) : H' = H ∧ aop P op ρ H2 = some (v, H2) := by
  rw [← aopR_ok] at h ⊢
  obtain ⟨k1, k2⟩ := kind0 (P := P) (sp := sp) hk ρ H H2
  rw [← k1]
  rcases k2 with ⟨x, hx⟩ | ⟨r, hx⟩ | hx <;> rw [hx] at h ⊢
  · simp only [Res.toOpt, Option.some.injEq, Prod.mk.injEq] at h ⊢; exact ⟨h.2.symm, h.1, trivial⟩
  · obtain ⟨e1, e2⟩ := keep_some h
    exact ⟨e2, by rw [e1]; rfl⟩
  · cases h

theorem keep_pre {H H' : AHeap} {r : Option AVal} {v : AVal} (h : keep H r = some (v, H')) : H <+: H' := by rw [(keep_some h).2]; exact List.prefix_refl _

theorem cond_some {α : Type} {b : Bool} {x : Option α} {y : α} (h : (cond b x none) = some y) : x = some y := by
  cases b
  · cases h
  · exact h

theorem aBuildSlice_pre {H H' : AHeap} {es n : Nat} {z : List AVal} {ps : List (Nat × AVal)} {v : AVal} (h : aBuildSlice H es z n ps = some (v, H')) : H <+: H' := by
  unfold aBuildSlice at h
  split at h
  · simp only [Option.some.injEq, Prod.mk.injEq] at h; rw [← h.2]; exact ⟨_, rfl⟩
  · cases h
theorem aMakeSlice_pre {H H' : AHeap} {b : Nat} {z : List AVal} {x y v : AVal} (h : aMakeSlice H b z x y = some (v, H')) : H <+: H' := by
  unfold aMakeSlice at h
  split at h
  · split at h
    · simp only [Option.some.injEq, Prod.mk.injEq] at h; rw [← h.2]; exact ⟨_, rfl⟩
    · cases h
  · cases h

theorem kind1_aop {op : Op} (hk : heapKind P sp op = 1) {ρ : Operand → AVal} {H H' : AHeap} {v : AVal} (h : aop P op ρ H = some (v, H')) : H <+: H' := by
  have pre : ∀ K : AHeap, H <+: H ++ K := fun K => ⟨K, rfl⟩
  cases op <;> simp only [heapKind] at hk
  all_goals try (exact absurd hk (by decide))
  all_goals simp only [aop] at h
  case binOp b t x y t2 =>
    cases hs : scalarT P t with
    | true => rw [hs] at hk; cases hk
    | false =>
      rw [hs] at h; simp only [cond_false] at h
      (repeat' split at h) <;> first | exact keep_pre h | cases h
  case alloc t =>
    split at h
    · simp only [aAlloc, Option.some.injEq, Prod.mk.injEq] at h; rw [← h.2]; exact pre _
    · cases h
  case box t x =>
    unfold aBox at h
    split at h
    · simp only [Option.some.injEq, Prod.mk.injEq] at h; rw [← h.2]; exact pre _
    · cases h
  case load t x => (repeat' split at h) <;> first | exact keep_pre h | cases h
  case makeMap t r =>
    cases r with
    | some r => cases h
    | none => simp only [aMakeMap, Option.some.injEq, Prod.mk.injEq] at h; rw [← h.2]; exact pre _
  case lookup t x k ok => (repeat' split at h) <;> first | exact keep_pre h | cases h
  case convert s d x =>
    (repeat' split at h) <;> first | exact keep_pre h | cases h | skip
    all_goals try (have h := cond_some h; (repeat' split at h) <;> first | exact keep_pre h | cases h; done)
    all_goals try (cases hc : Nat.beq s d <;> rw [hc] at h <;> first | exact keep_pre h | cases h; done)
    unfold aStr2Bytes at h
    (repeat' split at h) <;> first | cases h | skip
    exact pre _
  case slice t x lo hi mx =>
    cases hc : (mx.isSome && !hi.isSome) with
    | true => rw [hc] at h; cases h
    | false =>
      rw [hc] at h; simp only [cond_false] at h
      split at h
      · cases mx <;> simp only [Option.isSome_none, Option.isSome_some, cond_false, cond_true] at h <;> first | exact keep_pre h | cases h
      all_goals (repeat' split at h) <;> first | exact keep_pre h | cases h
  case buildSlice t n ps =>
    split at h
    · split at h
      · exact aBuildSlice_pre (cond_some h)
      · cases h
    · cases h
  case makeSlice t l c =>
    split at h
    · split at h
      · exact aMakeSlice_pre (cond_some h)
      · cases h
    · cases h
  case call c =>
    obtain ⟨callee, args, ts⟩ := c
    cases callee with
    | invoke r m => cases hk
    | builtin b =>
      simp only at h
      generalize args.toList.map ρ = l at h
      unfold aBuiltin at h
      split at h
      · (repeat' split at h) <;> first | exact keep_pre h | cases h
      · cases hk
      · cases hk
      · cases hk
      · cases hk
      · exact keep_pre h
      · exact keep_pre h
      · cases h
    | value f => cases h

theorem not_call {op : Op} {ρ : Operand → AVal} {H H' : AHeap} {v : AVal} (h : ∀ f args ts, op ≠ .call ⟨.value f, args, ts⟩) : aopP P sp op ρ H v H' = (aop P op ρ H = some (v, H')) := by
  unfold aopP
  split
  · rename_i f args ts; exact absurd rfl (h f args ts)
  · rfl

theorem aopP_congr {ρ ρ' : Operand → AVal} (op : Op) (h : ∀ x ∈ op.operands.toList, ρ x = ρ' x) (H : AHeap) (v : AVal) (H' : AHeap) : aopP P sp op ρ H v H' = aopP P sp op ρ' H v H' := by
  unfold aopP
  split
  · rename_i f args ts
    simp only [Op.operands, Call.operands] at h
    rw [h f (by simp), map_congr' (l := args.toList) (ρ := ρ) (ρ' := ρ') fun x hx => h x (by simp at hx ⊢; exact .inr hx)]
  · rw [aop_congr op h H]

theorem kind0_P {op : Op} (hk : heapKind P sp op = 0) {ρ : Operand → AVal} {H H' : AHeap} {v : AVal} (h : aopP P sp op ρ H v H') (H2 : AHeap) : H' = H ∧ aopP P sp op ρ H2 v H2 := by
  have hn : ∀ f args ts, op ≠ .call ⟨.value f, args, ts⟩ := by
    rintro f args ts rfl
    simp only [heapKind] at hk
    cases f with
    | func k => simp only at hk; split at hk <;> cases hk
    | _ => cases hk
  rw [not_call hn] at h
  rw [not_call hn]
  exact kind0_any hk h H2

theorem kind1 (hq : ∀ f g, sp f = some (true, g) → ∀ args H r H', g args H r H' → H <+: H') {op : Op} (hk : heapKind P sp op = 1) {ρ : Operand → AVal} (hρ : ∀ k, ρ (.func k) = .func (.func k) [] []) {H H' : AHeap} {v : AVal} (h : aopP P sp op ρ H v H') : H <+: H' := by
  by_cases hc : ∃ f args ts, op = .call ⟨.value f, args, ts⟩
  · obtain ⟨f, args, ts, rfl⟩ := hc
    simp only [heapKind] at hk
    simp only [aopP] at h
    cases f with
    | func k =>
      simp only at hk
      split at hk
      · rename_i g hg
        rw [hρ] at h
        simp only [callP, hg] at h
        exact hq k g hg _ _ _ _ h
      · cases hk
    | _ => cases hk
  · rw [not_call fun f args ts e => hc ⟨f, args, ts, e⟩] at h
    exact kind1_aop hk h
end
end Go.Abs

/- Regions that draw their order: what comes ahead at any rate; the run in the text's order; frames. -/
namespace Go.Abs
open Go

theorem forceN_eq {α : Type} (n : Nat) (k : Nat → α) : forceN n k = k n := by cases n <;> rfl

/-- A set of operations that has, with each, what must be ahead of it. -/
def Closed (L : List Oper) (D : Nat → Prop) : Prop :=
  ∀ j o, D j → L[j]? = some o → ∀ e ∈ o.after.toList, Region.binds .any e = true → D e.on

theorem maskOf_bit (acc : List Nat) : ∀ (es : List Edge) (s i : Nat), Nat.testBit (maskOf acc es s) i = true →
    Nat.testBit s i = true ∨ ∃ e ∈ es, Region.binds .any e = true ∧ (e.on = i ∨ Nat.testBit (acc.getD e.on 0) i = true)
  | [], s, i, h => .inl h
  | e :: es, s, i, h => by
    simp only [maskOf] at h
    cases hb : Region.binds .any e with
    | false =>
      rw [hb] at h
      rcases maskOf_bit acc es s i h with h | ⟨e', he', h⟩
      · exact .inl h
      · exact .inr ⟨e', List.mem_cons_of_mem _ he', h⟩
    | true =>
      rw [hb] at h
      rcases maskOf_bit acc es _ i h with h | ⟨e', he', h⟩
      · have h' : Nat.testBit (s ||| (2 ^ e.on ||| acc.getD e.on 0)) i = true := h
        rw [Nat.testBit_or, Nat.testBit_or, Nat.testBit_two_pow] at h'
        simp only [Bool.or_eq_true, decide_eq_true_eq] at h'
        rcases h' with h | h | h
        · exact .inl h
        · exact .inr ⟨e, List.mem_cons_self .., hb, .inl h⟩
        · exact .inr ⟨e, List.mem_cons_self .., hb, .inr h⟩
      · exact .inr ⟨e', List.mem_cons_of_mem _ he', h⟩

theorem masks_spec (L : List Oper) : ∀ (l : List Oper) (acc : List Nat), L = L.take acc.length ++ l → acc.length ≤ L.length →
    (∀ D, Closed L D → ∀ j i, j < acc.length → D j → Nat.testBit (acc.getD j 0) i = true → D i) →
    (masks l acc).length = L.length ∧ ∀ D, Closed L D → ∀ j i, D j → Nat.testBit ((masks l acc).getD j 0) i = true → D i
  | [], acc, hL, hlen, h => by
    have : acc.length = L.length := by
      have := congrArg List.length hL
      simp at this; omega
    refine ⟨this, fun D hD j i hj hb => ?_⟩
    simp only [masks] at hb
    by_cases hjl : j < acc.length
    · exact h D hD j i hjl hj hb
    · simp [List.getD, List.getElem?_eq_none (Nat.le_of_not_lt hjl)] at hb
  | o :: l, acc, hL, hlen, h => by
    simp only [masks, forceN_eq]
    have hlt : acc.length < L.length := by
      have := congrArg List.length hL
      simp at this; omega
    have ho : L[acc.length]? = some o := by
      rw [hL, List.getElem?_append_right (by simp; omega)]
      simp [Nat.min_eq_left hlen]
    refine masks_spec L l (acc ++ [maskOf acc o.after.toList 0]) ?_ (by simp; omega) fun D hD j i hj hDj hb => ?_
    · have e : (acc ++ [maskOf acc o.after.toList 0]).length = acc.length + 1 := by simp
      rw [e, List.take_succ_eq_append_getElem hlt]
      have : L[acc.length] = o := by
        have := List.getElem?_eq_getElem hlt
        rw [ho] at this; exact (Option.some.inj this).symm
      rw [this, List.append_assoc, List.singleton_append]
      exact hL
    · by_cases hja : j < acc.length
      · refine h D hD j i hja hDj ?_
        rwa [List.getD, List.getElem?_append_left hja] at hb
      · have : j = acc.length := by simp at hj; omega
        subst this
        have e : (acc ++ [maskOf acc o.after.toList 0]).getD acc.length 0 = maskOf acc o.after.toList 0 := by simp [List.getD]
        rw [e] at hb
        rcases maskOf_bit acc _ _ _ hb with hb | ⟨ed, hed, hbind, hb⟩
        · simp at hb
        · have hDe := hD _ o hDj ho ed hed hbind
          rcases hb with hb | hb
          · subst hb; exact hDe
          · by_cases hel : ed.on < acc.length
            · exact h D hD ed.on i hel hDe hb
            · simp [List.getD, List.getElem?_eq_none (Nat.le_of_not_lt hel)] at hb

section
variable {P : Program} {sp : Specs} {ops : Array Oper}

theorem rows_get (P : Program) (sp : Specs) (ops : Array Oper) : ∀ (l : List Oper) (ms : List Nat) (i j : Nat) (o : Oper), l[j]? = some o →
    (opRows P sp ops l ms i)[j]? = some ⟨i + j, o.dst, namesOf ops o, heapKind P sp o.op, ms.getD j 0⟩
  | [], _, _, _, _, h => by simp at h
  | o :: l, ms, i, 0, o', h => by
    simp at h; subst h
    cases ms <;> simp [opRows, List.getD]
  | o :: l, ms, i, j + 1, o', h => by
    simp at h
    simp only [opRows, List.getElem?_cons_succ]
    rw [rows_get P sp ops l ms.tail (i + 1) j o' h]
    cases ms <;> simp [List.getD] <;> omega

theorem against_get : ∀ {xs : List OpRow} {y : OpRow}, againstAll y xs = true → ∀ x ∈ xs, pairOk x y = true
  | [], _, _, x, hx => by simp at hx
  | z :: xs, y, h, x, hx => by
    simp only [againstAll, Bool.and_eq_true] at h
    rcases List.mem_cons.1 hx with rfl | hx
    · exact h.1
    · exact against_get h.2 x hx

theorem rowsOk_get : ∀ (ys seen : List OpRow), rowsOk seen ys = true → (∀ (j : Nat) (y : OpRow), ys[j]? = some y → (∀ x ∈ seen, pairOk x y = true) ∧ ∀ i x, i < j → ys[i]? = some x → pairOk x y = true)
  | [], _, _, _, _, h => by simp at h
  | z :: ys, seen, h, j, y, hy => by
    simp only [rowsOk, Bool.and_eq_true] at h
    cases j with
    | zero =>
      simp at hy; subst hy
      exact ⟨against_get h.1, fun i x hi => by omega⟩
    | succ j =>
      simp at hy
      obtain ⟨h1, h2⟩ := rowsOk_get ys (z :: seen) h.2 j y hy
      refine ⟨fun x hx => h1 x (List.mem_cons_of_mem _ hx), fun i x hi hx => ?_⟩
      cases i with
      | zero => simp at hx; subst hx; exact h1 _ (List.mem_cons_self ..)
      | succ i => simp at hx; exact h2 i x (by omega) hx

/-- Nothing of one's slots is the other one's, and not both are loud. -/
structure Indep (P : Program) (sp : Specs) (ops : Array Oper) (x y : Oper) : Prop where
  d1 : ∀ d, x.dst = some d → d ∉ namesOf ops y
  d2 : ∀ d, y.dst = some d → d ∉ namesOf ops x
  loud : ¬ (heapKind P sp x.op = 2 ∧ heapKind P sp y.op ≠ 0) ∧ ¬ (heapKind P sp x.op ≠ 0 ∧ heapKind P sp y.op = 2)

theorem clash_false {d : Option Nat} {names : List Nat} (h : clash d names = false) : ∀ x, d = some x → x ∉ names := by
  rintro x rfl hx
  simp only [clash, List.any_eq_false] at h
  exact h x hx (by simp)

theorem heapKind_le (op : Op) : heapKind P sp op ≤ 2 := by
  unfold heapKind
  split <;> try omega
  · cases scalarT P _ <;> simp
  · split <;> omega

theorem pair_indep {i j m1 m2 : Nat} {x y : Oper} (h : pairOk ⟨i, x.dst, namesOf ops x, heapKind P sp x.op, m1⟩ ⟨j, y.dst, namesOf ops y, heapKind P sp y.op, m2⟩ = true) :
    Nat.testBit m2 i = true ∨ Indep P sp ops x y := by
  unfold pairOk at h
  cases hb : Nat.testBit m2 i with
  | true => exact .inl rfl
  | false =>
    right
    simp only [hb, cond_false, Bool.and_eq_true, Bool.not_eq_true'] at h
    refine ⟨clash_false h.1.1, clash_false h.1.2, ?_⟩
    have hl := h.2
    have h1 := heapKind_le (P := P) (sp := sp) x.op
    have h2 := heapKind_le (P := P) (sp := sp) y.op
    generalize heapKind P sp x.op = a at *
    generalize heapKind P sp y.op = b at *
    have ha : a = 0 ∨ a = 1 ∨ a = 2 := by omega
    have hb : b = 0 ∨ b = 1 ∨ b = 2 := by omega
    rcases ha with rfl | rfl | rfl <;> rcases hb with rfl | rfl | rfl <;> simp [loudPair] at hl ⊢

/-- All that drawOk says. -/
theorem drawOk_spec (h : drawOk P sp ops = true) (i j : Nat) (x y : Oper) (hij : i < j) (hx : ops.toList[i]? = some x) (hy : ops.toList[j]? = some y) :
    (∀ D, Closed ops.toList D → D j → D i) ∨ Indep P sp ops x y := by
  unfold drawOk at h
  simp only [Bool.and_eq_true] at h
  have hm := masks_spec ops.toList ops.toList [] (by simp) (by simp) (fun _ _ j i hj => by simp at hj)
  have gx := rows_get P sp ops ops.toList (masks ops.toList []) 0 i x hx
  have gy := rows_get P sp ops ops.toList (masks ops.toList []) 0 j y hy
  have := (rowsOk_get _ [] h.2 j _ gy).2 i _ hij gx
  simp only [Nat.zero_add] at this
  rcases pair_indep this with hb | hb
  · exact .inl fun D hD hj => hm.2 D hD j i hj hb
  · exact .inr hb

theorem edgesOk_spec : ∀ (l : List Oper) (k : Nat), edgesOk l k = true → ∀ j o, l[j]? = some o → ∀ e ∈ o.after.toList, Region.binds .any e = true → e.on < k + j
  | [], _, _, _, _, h => by simp at h
  | o :: l, k, h, j, o', hj => by
    simp only [edgesOk, Bool.and_eq_true] at h
    intro e he hb
    cases j with
    | zero =>
      simp at hj; subst hj
      have := List.all_eq_true.1 h.1 e he
      simp [hb] at this
      omega
    | succ j =>
      simp at hj
      have := edgesOk_spec l (k + 1) h.2 j o' hj e he hb
      omega

theorem drawOk_edges (h : drawOk P sp ops = true) (j : Nat) (o : Oper) (hj : ops.toList[j]? = some o) (e : Edge) (he : e ∈ o.after.toList) (hb : Region.binds .any e = true) : e.on < j := by
  unfold drawOk at h
  simp only [Bool.and_eq_true] at h
  have := edgesOk_spec _ 0 h.1 j o hj e he hb
  omega

/-- Whether a guard lets an operation be done. -/
def WantA (ops : Array Oper) (o : Oper) (fr : List AVal) (b : Bool) : Prop :=
  (guardSlot ops o = some none ∧ b = true) ∨ ∃ t want, guardSlot ops o = some (some (t, want)) ∧ ((∃ c, fr.getD t .undef = .bool c ∧ b = (c == want)) ∨ (fr.getD t .undef = .tup [] ∧ b = false))

def StepT (P : Program) (sp : Specs) (ops : Array Oper) (o : Oper) (fr : List AVal) (H : AHeap) (v : AVal) (H' : AHeap) : Prop :=
  (WantA ops o fr true ∧ aopP P sp o.op (evalA fr) H v H') ∨ (WantA ops o fr false ∧ v = .tup [] ∧ H' = H)

structure Trace (P : Program) (sp : Specs) (ops : Array Oper) (l : List Oper) (frs : Nat → List AVal) (Hs : Nat → AHeap) (vs : Nat → AVal) : Prop where
  step : ∀ j o, l[j]? = some o → StepT P sp ops o (frs j) (Hs j) (vs j) (Hs (j + 1))
  put : ∀ j o, l[j]? = some o → frs (j + 1) = putA (frs j) o.dst (vs j)

theorem trace_of : ∀ (l : List Oper) (sk : List Nat) (fr : List AVal) (H : AHeap) (K : List AVal → AHeap → Prop), evOps P sp ops l sk fr H K →
    ∃ frs Hs vs, frs 0 = fr ∧ Hs 0 = H ∧ K (frs l.length) (Hs l.length) ∧ Trace P sp ops l frs Hs vs
  | [], _, fr, H, K, h => ⟨fun _ => fr, fun _ => H, fun _ => .undef, rfl, rfl, h, fun j o hj => by simp at hj, fun j o hj => by simp at hj⟩
  | o :: l, sk, fr, H, K, h => by
    have join : ∀ v H1 sk, StepT P sp ops o fr H v H1 → evOps P sp ops l sk (putA fr o.dst v) H1 K →
        ∃ frs Hs vs, frs 0 = fr ∧ Hs 0 = H ∧ K (frs (o :: l).length) (Hs (o :: l).length) ∧ Trace P sp ops (o :: l) frs Hs vs := by
      intro v H1 sk hs hr
      obtain ⟨frs, Hs, vs, h1, h2, h3, h4⟩ := trace_of l _ _ _ K hr
      refine ⟨fun k => match k with | 0 => fr | k + 1 => frs k, fun k => match k with | 0 => H | k + 1 => Hs k, fun k => match k with | 0 => v | k + 1 => vs k, rfl, rfl, h3, ?_, ?_⟩
      · intro j o' hj
        cases j with
        | zero => simp at hj; subst hj; simp only [h2]; exact hs
        | succ j => simp at hj; exact h4.step j o' hj
      · intro j o' hj
        cases j with
        | zero => simp at hj; subst hj; exact h1
        | succ j => simp at hj; exact h4.put j o' hj
    have doit : ∀ fr0, fr0 = fr → WantA ops o fr true → stepA P sp o fr0 H (fun fr H => evOps P sp ops l sk fr H K) →
        ∃ frs Hs vs, frs 0 = fr ∧ Hs 0 = H ∧ K (frs (o :: l).length) (Hs (o :: l).length) ∧ Trace P sp ops (o :: l) frs Hs vs := by
      intro fr0 h0 hw hs
      subst h0
      obtain ⟨v, H1, ho, hr⟩ := stepA_some hs
      exact join v H1 _ (.inl ⟨hw, ho⟩) hr
    have leave : ∀ fr0, fr0 = fr → WantA ops o fr false → evOps P sp ops l (addSk o.dst sk) (putA fr0 o.dst (.tup [])) H K →
        ∃ frs Hs vs, frs 0 = fr ∧ Hs 0 = H ∧ K (frs (o :: l).length) (Hs (o :: l).length) ∧ Trace P sp ops (o :: l) frs Hs vs := by
      intro fr0 h0 hw hr
      subst h0
      exact join (.tup []) H _ (.inr ⟨hw, rfl, rfl⟩) hr
    unfold evOps at h
    split at h
    · exact h.elim
    · rename_i hg
      exact doit fr rfl (.inl ⟨hg, rfl⟩) h
    · rename_i t want hg
      cases hsk : (sk.any fun x => Nat.beq t x) with
      | true =>
      rw [hsk] at h
      obtain ⟨hb, h⟩ := isT_some h
      exact leave fr rfl (.inr ⟨t, want, hg, .inr ⟨hb, rfl⟩⟩) h
      | false =>
      rw [hsk] at h
      obtain ⟨b, hb, h⟩ := isB_some h
      have hw : ∀ r, (b == want) = r → WantA ops o fr r := fun r hr => .inr ⟨t, want, hg, .inl ⟨b, hb, hr.symm⟩⟩
      cases b <;> cases want <;> simp only [cond_true, cond_false] at h <;> rw [set_same hb] at h
      · exact doit fr rfl (hw _ rfl) h
      · exact leave fr rfl (hw _ rfl) h
      · exact leave fr rfl (hw _ rfl) h
      · exact doit fr rfl (hw _ rfl) h

/-- The frame when just the operations of D are done. -/
def frD (L : List Oper) (vs : Nat → AVal) (fr : List AVal) (D : Nat → Bool) : Nat → List AVal
  | 0 => fr
  | k + 1 => cond (D k) (putA (frD L vs fr D k) ((L[k]?).bind (·.dst)) (vs k)) (frD L vs fr D k)

theorem putA_len (fr : List AVal) (d : Option Tmp) (v : AVal) : (putA fr d v).length = fr.length := by cases d <;> simp [putA]
theorem frD_len (L : List Oper) (vs : Nat → AVal) (fr : List AVal) (D : Nat → Bool) (k : Nat) : (frD L vs fr D k).length = fr.length := by
  induction k with
  | zero => rfl
  | succ k ih =>
    simp only [frD]
    cases D k <;> simp [ih, putA_len]

theorem putA_getD (fr : List AVal) (d : Option Tmp) (v : AVal) (t : Nat) : (putA fr d v).getD t .undef = if d = some t ∧ t < fr.length then v else fr.getD t .undef := by
  cases d with
  | none => simp [putA]
  | some d =>
    by_cases hd : d = t
    · subst hd
      by_cases hl : d < fr.length
      · rw [if_pos ⟨rfl, hl⟩]; exact getD_set_eq hl
      · rw [if_neg (by simp [hl])]
        have e1 : fr[d]? = none := List.getElem?_eq_none (Nat.le_of_not_lt hl)
        have e2 : (fr.set d v)[d]? = none := List.getElem?_eq_none (by rw [List.length_set]; exact Nat.le_of_not_lt hl)
        simp [putA, List.getD, e1, e2]
    · rw [if_neg (by simp [hd])]; exact getD_set_ne hd

theorem trace_len {l : List Oper} {frs : Nat → List AVal} {Hs : Nat → AHeap} {vs : Nat → AVal} (T : Trace P sp ops l frs Hs vs) : ∀ k, k ≤ l.length → (frs k).length = (frs 0).length := by
  intro k
  induction k with
  | zero => intro _; rfl
  | succ k ih =>
    intro hk
    have ho : l[k]? = some l[k] := List.getElem?_eq_getElem (by omega)
    rw [T.put k _ ho, putA_len, ih (by omega)]

theorem frD_eq {L : List Oper} {frs : Nat → List AVal} {Hs : Nat → AHeap} {vs : Nat → AVal} (T : Trace P sp ops L frs Hs vs) (D : Nat → Bool) (t j : Nat) (hj : j ≤ L.length)
    (h1 : ∀ i o, i < j → L[i]? = some o → D i = false → o.dst ≠ some t) (h2 : ∀ i o, j ≤ i → L[i]? = some o → D i = true → o.dst ≠ some t) :
    (frD L vs (frs 0) D L.length).getD t .undef = (frs j).getD t .undef := by
  have c1 : ∀ k, k ≤ j → (frD L vs (frs 0) D k).getD t .undef = (frs k).getD t .undef := by
    intro k
    induction k with
    | zero => intro _; rfl
    | succ k ih =>
      intro hk
      have ho : L[k]? = some L[k] := List.getElem?_eq_getElem (by omega)
      simp only [frD]
      rw [T.put k _ ho]
      cases hD : D k with
      | true =>
        simp only [cond_true, ho, Option.bind_some]
        rw [putA_getD, putA_getD, frD_len, trace_len T k (by omega), ih (by omega)]
      | false =>
        simp only [cond_false]
        rw [putA_getD, if_neg (fun hh => h1 k _ (by omega) ho hD hh.1), ih (by omega)]
  have c2 : ∀ k, j ≤ k → k ≤ L.length → (frD L vs (frs 0) D k).getD t .undef = (frD L vs (frs 0) D j).getD t .undef := by
    intro k hjk
    induction k with
    | zero => intro _; have : j = 0 := by omega
              subst this; rfl
    | succ k ih =>
      intro hk
      by_cases e : j = k + 1
      · rw [e]
      · have ho : L[k]? = some L[k] := List.getElem?_eq_getElem (by omega)
        simp only [frD]
        cases hD : D k with
        | true =>
          simp only [cond_true, ho, Option.bind_some]
          rw [putA_getD, if_neg (fun hh => h2 k _ (by omega) ho hD hh.1), ih (by omega) (by omega)]
        | false => simp only [cond_false]; exact ih (by omega) (by omega)
  rw [c2 L.length hj (Nat.le_refl _), c1 j (Nat.le_refl _)]

theorem frD_add {L : List Oper} {vs : Nat → AVal} {fr : List AVal} {D D' : Nat → Bool} {j : Nat} {oj : Oper} (hoj : L[j]? = some oj) (hj : D j = false) (hD : ∀ i, D' i = (D i || Nat.beq i j))
    (h2 : ∀ i o d, j < i → L[i]? = some o → D i = true → oj.dst = some d → o.dst ≠ some d) (t : Nat) :
    (frD L vs fr D' L.length).getD t .undef = (putA (frD L vs fr D L.length) oj.dst (vs j)).getD t .undef := by
  have hjl : j < L.length := (List.getElem?_eq_some_iff.1 hoj).1
  have hne : ∀ i, i ≠ j → D' i = D i := fun i hi => by rw [hD]; simp [hi]
  have hjj : D' j = true := by rw [hD]; simp
  have c1 : ∀ k, k ≤ j → frD L vs fr D' k = frD L vs fr D k := by
    intro k
    induction k with
    | zero => intro _; rfl
    | succ k ih => intro hk; simp only [frD]; rw [hne k (by omega), ih (by omega)]
  by_cases hd : oj.dst = some t
  · have c2 : ∀ k, j < k → k ≤ L.length → (frD L vs fr D' k).getD t .undef = if t < fr.length then vs j else .undef := by
      intro k hjk
      induction k with
      | zero => omega
      | succ k ih =>
        intro hk
        by_cases e : j = k
        · subst e
          simp only [frD, hjj, cond_true, hoj, Option.bind_some]
          rw [putA_getD, frD_len]
          by_cases hl : t < fr.length
          · rw [if_pos ⟨hd, hl⟩, if_pos hl]
          · rw [if_neg (by simp [hl]), if_neg hl]
            simp [List.getD, List.getElem?_eq_none (show (frD L vs fr D' j).length ≤ t by rw [frD_len]; omega)]
        · have ho : L[k]? = some L[k] := List.getElem?_eq_getElem (by omega)
          simp only [frD]
          cases hDk : D' k with
          | true =>
            simp only [cond_true, ho, Option.bind_some]
            rw [putA_getD, if_neg (fun hh => h2 k _ t (by omega) ho (by rw [← hne k (by omega)]; exact hDk) hd hh.1), ih (by omega) (by omega)]
          | false => simp only [cond_false]; exact ih (by omega) (by omega)
    rw [c2 L.length hjl (Nat.le_refl _), putA_getD, frD_len]
    by_cases hl : t < fr.length
    · rw [if_pos hl, if_pos ⟨hd, hl⟩]
    · rw [if_neg hl, if_neg (by simp [hl])]
      simp [List.getD, List.getElem?_eq_none (show (frD L vs fr D L.length).length ≤ t by rw [frD_len]; omega)]
  · rw [putA_getD, if_neg (fun hh => hd hh.1)]
    have c2 : ∀ k, k ≤ L.length → (frD L vs fr D' k).getD t .undef = (frD L vs fr D k).getD t .undef := by
      intro k
      induction k with
      | zero => intro _; rfl
      | succ k ih =>
        intro hk
        have ho : L[k]? = some L[k] := List.getElem?_eq_getElem (by omega)
        simp only [frD]
        by_cases e : k = j
        · subst e
          rw [hjj, hj]
          simp only [cond_true, cond_false, hoj, Option.bind_some]
          rw [putA_getD, if_neg (fun hh => hd hh.1), ih (by omega)]
        · rw [hne k e]
          cases D k with
          | true => simp only [cond_true]; rw [putA_getD, putA_getD, frD_len, frD_len, ih (by omega)]
          | false => simp only [cond_false]; exact ih (by omega)
    exact c2 L.length (Nat.le_refl _)

theorem frD_all {L : List Oper} {frs : Nat → List AVal} {Hs : Nat → AHeap} {vs : Nat → AVal} (T : Trace P sp ops L frs Hs vs) {D : Nat → Bool} (hD : ∀ i, i < L.length → D i = true) :
    frD L vs (frs 0) D L.length = frs L.length := by
  have c : ∀ k, k ≤ L.length → frD L vs (frs 0) D k = frs k := by
    intro k
    induction k with
    | zero => intro _; rfl
    | succ k ih =>
      intro hk
      have ho : L[k]? = some L[k] := List.getElem?_eq_getElem (by omega)
      simp only [frD]
      rw [hD k (by omega), T.put k _ ho, ih (by omega)]
      simp [ho]
  exact c _ (Nat.le_refl _)
end
end Go.Abs

/- Environments cut back, led on, joined. -/
namespace Go.Abs
open Go

section both
variable {RP RP' RP2 : Ref → Addr → Prop} {RS RS' RS2 : Ref → Nat → Cap → Addr → Nat → Prop} {RM RM' RM2 : Nat → Nat → Prop}
mutual
theorem RelG.both (hp : ∀ r a a', RP r a → RP' r a' → RP2 r a) (hs : ∀ r n c a k a' k', RS r n c a k → RS' r n c a' k' → RS2 r n c a k) (hm : ∀ i b b', RM i b → RM' i b' → RM2 i b) :
    ∀ (x : AVal) (v v' : Value), RelG RP RS RM x v → RelG RP' RS' RM' x v' → RelG RP2 RS2 RM2 x v
  | .undef, _, _, _, _ => by simp only [RelG]
  | .bool _, _, _, h, _ => by simpa only [RelG] using h
  | .int _ _, _, _, h, _ => by simpa only [RelG] using h
  | .float _ _, _, _, h, _ => by simpa only [RelG] using h
  | .cplx _ _ _, _, _, h, _ => by simpa only [RelG] using h
  | .str _, _, _, h, _ => by simpa only [RelG] using h
  | .nilp, _, _, h, _ => by simpa only [RelG] using h
  | .ptr r, _, _, h, h' => by simp only [RelG] at h h' ⊢; obtain ⟨a, h1, h2⟩ := h; obtain ⟨a', _, h2'⟩ := h'; exact ⟨a, h1, hp _ _ _ h2 h2'⟩
  | .nils, _, _, h, _ => by simpa only [RelG] using h
  | .slice r n c, _, _, h, h' => by simp only [RelG] at h h' ⊢; obtain ⟨a, k, h1, h2⟩ := h; obtain ⟨a', k', _, h2'⟩ := h'; exact ⟨a, k, h1, hs _ _ _ _ _ _ _ h2 h2'⟩
  | .nilm, _, _, h, _ => by simpa only [RelG] using h
  | .map i, _, _, h, h' => by simp only [RelG] at h h' ⊢; obtain ⟨a, h1, h2⟩ := h; obtain ⟨a', _, h2'⟩ := h'; exact ⟨a, h1, hm _ _ _ h2 h2'⟩
  | .func _ f c, _, _, h, h' => by
    simp only [RelG] at h h' ⊢; obtain ⟨f', c', h1, h2, h3⟩ := h; obtain ⟨f2, c2, _, k2, k3⟩ := h'
    exact ⟨f', c', h1, RelGL.both hp hs hm f f' f2 h2 k2, RelGL.both hp hs hm c c' c2 h3 k3⟩
  | .nilf, _, _, h, _ => by simpa only [RelG] using h
  | .iface _ x, _, _, h, h' => by simp only [RelG] at h h' ⊢; obtain ⟨y, h1, h2⟩ := h; obtain ⟨y', _, h2'⟩ := h'; exact ⟨y, h1, RelG.both hp hs hm x y y' h2 h2'⟩
  | .nili, _, _, h, _ => by simpa only [RelG] using h
  | .agg cs, _, _, h, h' => by simp only [RelG] at h h' ⊢; obtain ⟨l, h1, h2⟩ := h; obtain ⟨l', _, h2'⟩ := h'; exact ⟨l, h1, RelGL.both hp hs hm cs l l' h2 h2'⟩
  | .tup cs, _, _, h, h' => by simp only [RelG] at h h' ⊢; obtain ⟨l, h1, h2⟩ := h; obtain ⟨l', _, h2'⟩ := h'; exact ⟨l, h1, RelGL.both hp hs hm cs l l' h2 h2'⟩
theorem RelGL.both (hp : ∀ r a a', RP r a → RP' r a' → RP2 r a) (hs : ∀ r n c a k a' k', RS r n c a k → RS' r n c a' k' → RS2 r n c a k) (hm : ∀ i b b', RM i b → RM' i b' → RM2 i b) :
    ∀ (xs : List AVal) (l l' : List Value), RelGL RP RS RM xs l → RelGL RP' RS' RM' xs l' → RelGL RP2 RS2 RM2 xs l
  | [], _, _, h, _ => by simpa only [RelGL] using h
  | x :: xs, _, _, h, h' => by
    simp only [RelGL] at h h' ⊢; obtain ⟨y, ys, h1, h2, h3⟩ := h; obtain ⟨y', ys', _, k2, k3⟩ := h'
    exact ⟨y, ys, h1, RelG.both hp hs hm x y y' h2 k2, RelGL.both hp hs hm xs ys ys' h3 k3⟩
end
end both

/-- A longer heap of which nothing new counts. -/
def Env.adv (E : Env) (H : AHeap) : Env := { E with H := H, S := fun x => E.S x ∧ x < E.H.length }

section
variable {E F : Env} {w w' wF : World}

theorem adv_ext {H : AHeap} (hp : E.H <+: H) : Ext0 E w (E.adv H) w := by
  obtain ⟨K, rfl⟩ := hp
  refine ⟨⟨by simp [Env.adv], fun i hi _ => ?_, fun i hi hs hm => ⟨?_, rfl, fun _ => rfl⟩, fun i hi hs hv => ⟨rfl, rfl, ?_⟩, fun i hi hs => ⟨hs, hi⟩⟩,
    fun i hi _ => ?_, fun i hi hs => .inl ⟨hs.2, hs.1, rfl⟩, rfl, rfl, rfl, Nat.le_refl _, fun _ _ _ => rfl⟩
  · simp only [Env.adv, verOf_append hi]; exact Nat.le_refl _
  · simpa only [Env.adv, isMapAt_append hi] using hm
  · simp only [Env.adv, opnAt_append hi]; exact id
  · simp only [Env.adv, ownAt_append hi]

theorem adv_rel {H : AHeap} (h : RelW E w) (hp : E.H <+: H) : RelW (E.adv H) w := by
  have x := adv_ext (w := w) hp
  obtain ⟨K, rfl⟩ := hp
  refine ⟨fun i o hs ho => ?_, fun i j hi hj _ _ how hne => ?_⟩
  · have ho' : (E.H ++ K)[i]? = some o := ho
    rw [List.getElem?_append_left hs.2] at ho'
    exact RelObj.ext0 x.toSub rfl rfl rfl (h.obj i o hs.1 ho')
  · refine h.inj i j hi.1 hj.1 hi.2 hj.2 ?_ hne
    simpa only [Env.adv, ownAt_append hi.2] using how

/-- The heap as it was. -/
def Env.cut (E : Env) (H : AHeap) : Env := { E with H := H, S := fun x => E.S x ∧ x < H.length }

theorem pre_ver {H K : AHeap} (hp : H <+: K) {i : Nat} (hi : i < H.length) : verOf K i = verOf H i := by obtain ⟨L, rfl⟩ := hp; exact verOf_append hi
theorem pre_own {H K : AHeap} (hp : H <+: K) {i : Nat} (hi : i < H.length) : ownAt K i = ownAt H i := by obtain ⟨L, rfl⟩ := hp; exact ownAt_append hi
theorem pre_opn {H K : AHeap} (hp : H <+: K) {i : Nat} (hi : i < H.length) : opnAt K i = opnAt H i := by obtain ⟨L, rfl⟩ := hp; exact opnAt_append hi
theorem pre_map {H K : AHeap} (hp : H <+: K) {i : Nat} (hi : i < H.length) : isMapAt K i = isMapAt H i := by obtain ⟨L, rfl⟩ := hp; exact isMapAt_append hi
theorem pre_get {H K : AHeap} (hp : H <+: K) {i : Nat} (hi : i < H.length) : K[i]? = H[i]? := by obtain ⟨L, rfl⟩ := hp; exact List.getElem?_append_left hi

theorem RelRef.cut (hp : F.H <+: E.H) {r : Ref} {a a' : Addr} (h : RelRef E r a) (h' : RelRef F r a') : RelRef (E.cut F.H) r a := by
  obtain ⟨h1, h2, h3, h4⟩ := h
  have hl := h'.2.1
  have hv := pre_ver hp hl
  exact ⟨⟨h1, hl⟩, hl, by rw [hv] at h3; exact h3, fun e => h4 (by rw [hv]; exact e)⟩

theorem RelSl.cut (hp : F.H <+: E.H) {r : Ref} {n : Nat} {cp : Cap} {a a' : Addr} {c c' : Nat} (h : RelSl E r n cp a c) (h' : RelSl F r n cp a' c') : RelSl (E.cut F.H) r n cp a c := by
  obtain ⟨h1, h2, h3, h4⟩ := h
  have hl := h'.2.1
  have hv := pre_ver hp hl
  refine ⟨⟨h1, hl⟩, hl, by rw [hv] at h3; exact h3, fun e => ?_⟩
  have h5 := h4 (by rw [hv]; exact e)
  rw [pre_opn hp hl] at h5
  exact h5

theorem RelMp.cut (hp : F.H <+: E.H) {i b b' : Nat} (h : RelMp E i b) (h' : RelMp F i b') : RelMp (E.cut F.H) i b := by
  obtain ⟨h1, h2, h3, h4⟩ := h
  have hl := h'.2.1
  exact ⟨⟨h1, hl⟩, hl, by rw [pre_map hp hl] at h3; exact h3, h4⟩

theorem RelV.cut (hp : F.H <+: E.H) {x : AVal} {v v' : Value} (h : RelV E x v) (h' : RelV F x v') : RelV (E.cut F.H) x v :=
  RelG.both (RP2 := RelRef (E.cut F.H)) (RS2 := RelSl (E.cut F.H)) (RM2 := RelMp (E.cut F.H)) (fun _ _ _ => RelRef.cut hp) (fun _ _ _ _ _ _ _ => RelSl.cut hp) (fun _ _ _ => RelMp.cut hp) x v v' h h'
theorem RelL.cut (hp : F.H <+: E.H) {x : List AVal} {v v' : List Value} (h : RelL E x v) (h' : RelL F x v') : RelL (E.cut F.H) x v :=
  RelGL.both (RP2 := RelRef (E.cut F.H)) (RS2 := RelSl (E.cut F.H)) (RM2 := RelMp (E.cut F.H)) (fun _ _ _ => RelRef.cut hp) (fun _ _ _ _ _ _ _ => RelSl.cut hp) (fun _ _ _ => RelMp.cut hp) x v v' h h'

theorem RelObj.cut (hp : F.H <+: E.H) {i : Nat} {o : AObj} (h : RelObj E w i o) (h' : RelObj F wF i o) : RelObj (E.cut F.H) w i o := by
  cases o with
  | cells v kd cs =>
    obtain ⟨c, e, fz, h1, h2, h3, h4, h5, h6⟩ := h
    obtain ⟨c', e', fz', _, _, k3, _⟩ := h'
    exact ⟨c, e, fz, h1, h2, RelL.cut hp h3 k3, h4, h5, h6⟩
  | map v es =>
    obtain ⟨ents, clock, h1, h2, h3, h4⟩ := h
    obtain ⟨ents', clock', _, _, k3, k4⟩ := h'
    exact ⟨ents, clock, h1, h2, RelL.cut hp h3 k3, RelL.cut hp h4 k4⟩
  | strIter s pos => exact h
  | mapIter mp left cur =>
    cases mp with
    | none => exact h
    | some jv =>
      obtain ⟨j, v⟩ := jv
      obtain ⟨h1, h2, h3, h4, since, seen, h5, h6⟩ := h
      obtain ⟨_, k2, _, _, _, _, _, k6⟩ := h'
      have hv := pre_ver hp k2
      refine ⟨⟨h1, k2⟩, k2, by rw [pre_map hp k2] at h3; exact h3, by rw [hv] at h4; exact h4, since, seen, h5, fun e => ?_⟩
      have e : v = verOf F.H j := e
      obtain ⟨ents, g1, g2, g3, g4, g5⟩ := h6 (by rw [hv]; exact e)
      obtain ⟨ents', _, _, f3, f4, f5⟩ := k6 e
      refine ⟨ents, g1, g2, RelL.cut hp g3 f3, RelL.cut hp g4 f4, ?_⟩
      cases cur with
      | none => trivial
      | some c =>
        obtain ⟨e, m1, m2, m3, m4⟩ := g5
        obtain ⟨e', _, _, n3, n4⟩ := f5
        exact ⟨e, m1, m2, RelV.cut hp m3 n3, RelV.cut hp m4 n4⟩

theorem cut_rel (h : RelW E w) (hF : RelW F wF) (hp : F.H <+: E.H) (hS : ∀ x, x < F.H.length → E.S x → F.S x) : RelW (E.cut F.H) w := by
  refine ⟨fun i o hs ho => ?_, fun i j hi hj hil hjl how hne => ?_⟩
  · have ho : F.H[i]? = some o := ho
    exact RelObj.cut hp (h.obj i o hs.1 (by rw [pre_get hp hs.2]; exact ho)) (hF.obj i o (hS i hs.2 hs.1) ho)
  · have hle : F.H.length ≤ E.H.length := hp.length_le
    have hil : i < F.H.length := hil
    have hjl : j < F.H.length := hjl
    exact h.inj i j hi.1 hj.1 (by omega) (by omega) (by rw [pre_own hp hil]; exact how) hne

/-- What a cut one brought, put in. -/
def Env.join (E E' : Env) (lo hi : Nat) : Env where
  m x := if lo ≤ x ∧ x < hi then E'.m x else E.m x
  sz x := if lo ≤ x ∧ x < hi then E'.sz x else E.sz x
  S x := (E.S x ∧ x < E.H.length) ∨ (lo ≤ x ∧ x < hi)
  H := E.H

theorem join_all {E' : Env} {H1 : AHeap} (h : RelW E w) (hw' : RelW E' w') (x : Ext (E.cut H1) w E' w') (p1 : H1 <+: E'.H) (p2 : E'.H <+: E.H)
    (hn : ∀ i, H1.length ≤ i → i < E'.H.length → ¬ E.S i) :
    Ext0 E w (E.join E' H1.length E'.H.length) w' ∧ RelW (E.join E' H1.length E'.H.length) w' ∧ Sub E' w' (E.join E' H1.length E'.H.length) w' := by
  have p : H1 <+: E.H := p1.trans p2
  have l1 := p1.length_le
  have l2 := p2.length_le
  have mold : ∀ i, E.S i → i < E.H.length → (E.join E' H1.length E'.H.length).m i = E.m i := fun i hs hi => if_neg fun hh => hn i hh.1 hh.2 hs
  have szold : ∀ i, E.S i → i < E.H.length → (E.join E' H1.length E'.H.length).sz i = E.sz i := fun i hs hi => if_neg fun hh => hn i hh.1 hh.2 hs
  have mnew : ∀ i, E'.S i → i < E'.H.length → (E.join E' H1.length E'.H.length).m i = E'.m i ∧ (E.join E' H1.length E'.H.length).sz i = E'.sz i ∧ (E.join E' H1.length E'.H.length).S i := by
    intro i hs hi
    by_cases hlo : H1.length ≤ i
    · exact ⟨if_pos ⟨hlo, hi⟩, if_pos ⟨hlo, hi⟩, .inr ⟨hlo, hi⟩⟩
    · rcases x.news i hs hi with ⟨a, b⟩ | a
      · have a' : i < H1.length := a
        have hv : verOf (E.cut H1).H i = verOf E'.H i := (pre_ver p1 a').symm
        obtain ⟨s1, s2, _⟩ := x.same i a b hv
        exact ⟨(if_neg (by omega)).trans s1.symm, (if_neg (by omega)).trans s2.symm, .inl ⟨b.1, by omega⟩⟩
      · exact absurd a hlo
  have old : ∀ i, E.S i → i < E.H.length → ¬ i < H1.length → w'.heap[E.m i]? = w.heap[E.m i]? := by
    intro i hs hi hlo
    refine x.frame _ (h.lt hs hi) fun k hk hks hko => ?_
    have hk : k < H1.length := hk
    exact h.inj k i hks.1 hs (by omega) hi (by rw [pre_own p hk]; exact hko) (by omega)
  have s1 : Sub E w (E.join E' H1.length E'.H.length) w' := by
    refine ⟨Nat.le_refl _, fun i _ _ => Nat.le_refl _, fun i hi hs hm => ⟨hm, mold i hs hi, fun _ => ?_⟩, fun i hi hs _ => ⟨mold i hs hi, szold i hs hi, id⟩, fun i hi hs => .inl ⟨hs, hi⟩⟩
    by_cases hlo : i < H1.length
    · obtain ⟨_, _, c⟩ := x.mp i hlo ⟨hs, hlo⟩ (by rw [pre_map p hlo] at hm; exact hm)
      exact c (pre_ver p1 hlo).symm
    · exact old i hs hi hlo
  have s2 : Sub E' w' (E.join E' H1.length E'.H.length) w' :=
    ⟨l2, fun i hi hs => by rw [show (E.join E' H1.length E'.H.length).H = E.H from rfl, pre_ver p2 hi]; exact Nat.le_refl _,
     fun i hi hs hm => ⟨by rw [show (E.join E' H1.length E'.H.length).H = E.H from rfl, pre_map p2 hi]; exact hm, (mnew i hs hi).1, fun _ => rfl⟩,
     fun i hi hs _ => ⟨(mnew i hs hi).1, (mnew i hs hi).2.1, fun ho => by rw [show (E.join E' H1.length E'.H.length).H = E.H from rfl, pre_opn p2 hi] at ho; exact ho⟩,
     fun i hi hs => (mnew i hs hi).2.2⟩
  have memE' : ∀ i, (E.join E' H1.length E'.H.length).S i → i < E'.H.length → E'.S i := by
    intro i hs hi
    rcases hs with ⟨a, b⟩ | ⟨a, b⟩
    · by_cases hlo : i < H1.length
      · exact x.S i hlo ⟨a, hlo⟩
      · exact absurd a (hn i (by omega) hi)
    · exact x.full i a b
  refine ⟨⟨s1, fun i hi _ => rfl, fun i hi hs => ?_, x.tape, x.os, x.output, x.size, fun k hk hne => ?_⟩, ⟨fun i o hs ho => ?_, fun i j hs hsj hi hj how hne => ?_⟩, s2⟩
  · rcases hs with ⟨a, b⟩ | ⟨a, b⟩
    · exact .inl ⟨b, a, mold i a b⟩
    · right
      have e' : E'.S i := x.full i a b
      rw [(mnew i e' b).1]
      rcases x.fresh i b e' with ⟨c, _, _⟩ | c
      · have c : i < H1.length := c
        omega
      · exact c
  · refine x.frame k hk fun i hi hs hown => ?_
    have hi : i < H1.length := hi
    exact hne i (by omega) hs.1 (by rw [pre_own p hi]; exact hown)
  · have ho : E.H[i]? = some o := ho
    by_cases hi : i < E'.H.length
    · have e' := memE' i hs hi
      obtain ⟨m1, m2, _⟩ := mnew i e' hi
      exact RelObj.ext0 s2 m1 m2 rfl (hw'.obj i o e' (by rw [← pre_get p2 hi]; exact ho))
    · have hs' : E.S i := by
        rcases hs with ⟨a, _⟩ | ⟨_, b⟩
        · exact a
        · exact absurd b hi
      have hil := lt_of_some ho
      exact RelObj.ext0 s1 (mold i hs' hil) (szold i hs' hil) (old i hs' hil (by omega)) (h.obj i o hs' ho)
  · have hi : i < E.H.length := hi
    have hj : j < E.H.length := hj
    by_cases hi' : i < E'.H.length <;> by_cases hj' : j < E'.H.length
    · have ei := memE' i hs hi'
      have ej := memE' j hsj hj'
      rw [(mnew i ei hi').1, (mnew j ej hj').1]
      exact hw'.inj i j ei ej hi' hj' (by rw [← pre_own p2 hi']; exact how) hne
    · have ei := memE' i hs hi'
      have ej : E.S j := by
        rcases hsj with ⟨a, _⟩ | ⟨_, b⟩
        · exact a
        · exact absurd b hj'
      rw [(mnew i ei hi').1, mold j ej hj]
      rcases x.fresh i hi' ei with ⟨c, d, e⟩ | c
      · rw [e]
        exact h.inj i j d.1 ej hi hj how hne
      · have := h.lt ej hj
        omega
    · have ej := memE' j hsj hj'
      have ei : E.S i := by
        rcases hs with ⟨a, _⟩ | ⟨_, b⟩
        · exact a
        · exact absurd b hi'
      rw [(mnew j ej hj').1, mold i ei hi]
      rcases x.fresh j hj' ej with ⟨c, d, e⟩ | c
      · rw [e]
        exact h.inj i j ei d.1 hi hj how hne
      · have := h.lt ei hi
        omega
    · have ei : E.S i := by
        rcases hs with ⟨a, _⟩ | ⟨_, b⟩
        · exact a
        · exact absurd b hi'
      have ej : E.S j := by
        rcases hsj with ⟨a, _⟩ | ⟨_, b⟩
        · exact a
        · exact absurd b hj'
      rw [mold i ei hi, mold j ej hj]
      exact h.inj i j ei ej hi hj how hne

end
end Go.Abs

/- Regions that draw their order: the run in the text's order is one that is; one operation, in any order. -/
namespace Go.Abs
open Go

section
variable {P : Program} {sp : Specs} {ops : Array Oper}

theorem wp_exists {o : Oper} {a : Act} {w : World} {K : Act → World → Prop} (h : o.wp P a w K (fun _ _ _ => False)) : ∃ a' w', K a' w' := by
  unfold Oper.wp at h
  generalize (execOp a.eval o).run P w = r at h
  cases r with
  | ok x w' =>
    cases x <;> simp only [Oper.upon] at h
    case value v => exact ⟨_, _, h⟩
    case skip => exact ⟨_, _, h⟩
    case defer d => exact ⟨_, _, h⟩
    case enter f args =>
      obtain ⟨e, w'', fr, h, _⟩ := h []
      cases e with
      | returned v => exact ⟨_, _, h⟩
      | panicked c => exact h.elim
      | outgrown => obtain ⟨_, _, h⟩ := h; exact h.elim
    case row r args =>
      obtain ⟨v, w'', h, _⟩ := h (Frame.enter P 0 #[] .normal) []
      exact ⟨_, _, h⟩
    all_goals exact h.elim
  | halt x w' => cases x <;> simp only [Oper.upon] at h

theorem want_ok {o : Oper} {fr : List AVal} {b : Bool} (h : WantA ops o fr b) {E : Env} {a : Act} (hf : RelF E fr a) : Region.wanted o (yielded ops a.tmps) = b := by
  rcases h with ⟨h1, rfl⟩ | ⟨t, want, h1, ⟨c, h2, rfl⟩ | ⟨h2, rfl⟩⟩
  · exact wanted_none h1 _
  · exact wanted_guard hf h1 h2
  · exact wanted_skip hf h1 h2

theorem looks_names {o : Oper} {t : Nat} (h : t ∈ o.looksAt ops) : t ∈ namesOf ops o := List.mem_append_right _ h

theorem want_slot {o : Oper} {fr fr' : List AVal} {b : Bool} (h : WantA ops o fr b) (hs : ∀ t ∈ namesOf ops o, fr'.getD t .undef = fr.getD t .undef) : WantA ops o fr' b := by
  rcases h with h | ⟨t, want, h1, h2⟩
  · exact .inl h
  · refine .inr ⟨t, want, h1, ?_⟩
    rw [hs t ?_]
    · exact h2
    refine looks_names ?_
    unfold guardSlot at h1
    unfold Oper.looksAt
    split at h1
    · cases h1
    · rename_i j want' hg
      rw [hg]
      split at h1
      · rename_i t' ht
        simp only [Option.some.injEq, Prod.mk.injEq] at h1
        obtain ⟨rfl, rfl⟩ := h1
        simp [ht]
      · cases h1

theorem eval_slot {o : Oper} {fr fr' : List AVal} (hs : ∀ t ∈ namesOf ops o, fr'.getD t .undef = fr.getD t .undef) : ∀ x ∈ o.op.operands.toList, evalA fr' x = evalA fr x := by
  intro x hx
  cases x with
  | tmp t =>
    simp only [evalA]
    refine hs t (looks_names ?_)
    unfold Oper.looksAt
    exact List.mem_append_left _ (List.mem_filterMap.2 ⟨_, hx, rfl⟩)
  | const v => rfl
  | global g => rfl
  | func f => rfl

theorem RelL.of_get {E : Env} : ∀ {xs : List AVal} {l : List Value}, xs.length = l.length → (∀ (i : Nat) (x : AVal) (y : Value), xs[i]? = some x → l[i]? = some y → RelV E x y) → RelL E xs l
  | [], [], _, _ => RelGL.nil
  | [], _ :: _, h, _ => by simp at h
  | _ :: _, [], h, _ => by simp at h
  | x :: xs, y :: ys, h, hg => RelGL.cons (hg 0 x y (by simp) (by simp)) (RelL.of_get (by simpa using h) fun i x y hx hy => hg (i + 1) x y (by simpa using hx) (by simpa using hy))

theorem list_eq_getD {l l' : List AVal} (hl : l.length = l'.length) (h : ∀ t, l.getD t .undef = l'.getD t .undef) : l = l' := by
  refine List.ext_getElem hl fun i h1 h2 => ?_
  have := h i
  simpa [List.getD, h1, h2] using this

/-- All that is known of the run in the text's order. -/
structure Tr (P : Program) (sp : Specs) (ops : Array Oper) (E0 : Env) (w0 : World) (L : List Oper) (frs : Nat → List AVal) (Hs : Nat → AHeap) (vs : Nat → AVal) : Prop where
  T : Trace P sp ops L frs Hs vs
  zero : E0.H = Hs 0
  run : ∀ k, k ≤ L.length → ∃ E w a, RelW E w ∧ RelF E (frs k) a ∧ E.H = Hs k ∧ Ext E0 w0 E w
  mono : ∀ k, k < L.length → (Hs k).length ≤ (Hs (k + 1)).length
  pre : ∀ j o, L[j]? = some o → heapKind P sp o.op ≠ 2 → Hs j <+: Hs (j + 1)
  none : ∀ j o, L[j]? = some o → heapKind P sp o.op = 0 → Hs (j + 1) = Hs j

theorem tr_of (hsp : SpecsOk P sp) {E0 : Env} {w0 : World} {a0 : Act} {L : List Oper} {frs : Nat → List AVal} {Hs : Nat → AHeap} {vs : Nat → AVal} (T : Trace P sp ops L frs Hs vs)
    (hH : E0.H = Hs 0) (hw : RelW E0 w0) (hf : RelF E0 (frs 0) a0) : Tr P sp ops E0 w0 L frs Hs vs := by
  have one : ∀ k, k < L.length → ∀ E w a, RelW E w → RelF E (frs k) a → E.H = Hs k → Ext E0 w0 E w →
      ∃ E' w' a', RelW E' w' ∧ RelF E' (frs (k + 1)) a' ∧ E'.H = Hs (k + 1) ∧ Ext E0 w0 E' w' ∧ (Hs k).length ≤ (Hs (k + 1)).length := by
    intro k hk E w a h1 h2 h3 h4
    have ho : L[k]? = some L[k] := List.getElem?_eq_getElem hk
    rw [T.put k _ ho]
    rcases T.step k _ ho with ⟨_, hs⟩ | ⟨_, hv, hs⟩
    · obtain ⟨a', w', u, E', rfl, g1, g2, g3, g4⟩ := wp_exists (op_sound hsp hs h3 h1 h2 (fun _ _ _ => False))
      exact ⟨E', w', _, g2, RelF.put (RelF.ext g4 h2) _ g1, g3, h4.trans g4, by rw [← h3, ← g3]; exact g4.len⟩
    · exact ⟨E, w, _, h1, RelF.put h2 _ (u := undef) (by rw [hv]; simp only [RelG]; exact ⟨[], rfl, RelGL.nil⟩), by rw [hs]; exact h3, h4, by rw [hs]; exact Nat.le_refl _⟩
  have run : ∀ k, k ≤ L.length → ∃ E w a, RelW E w ∧ RelF E (frs k) a ∧ E.H = Hs k ∧ Ext E0 w0 E w := by
    intro k
    induction k with
    | zero => intro _; exact ⟨E0, w0, a0, hw, hf, hH, Ext.refl _ _⟩
    | succ k ih =>
      intro hk
      obtain ⟨E, w, a, h1, h2, h3, h4⟩ := ih (by omega)
      obtain ⟨E', w', a', g1, g2, g3, g4, _⟩ := one k hk E w a h1 h2 h3 h4
      exact ⟨E', w', a', g1, g2, g3, g4⟩
  refine ⟨T, hH, run, fun k hk => ?_, fun j o hj hk => ?_, fun j o hj hk => ?_⟩
  · obtain ⟨E, w, a, h1, h2, h3, h4⟩ := run k (by omega)
    obtain ⟨_, _, _, _, _, _, _, g⟩ := one k hk E w a h1 h2 h3 h4
    exact g
  · rcases T.step j o hj with ⟨_, hs⟩ | ⟨_, _, hs⟩
    · have hle := heapKind_le (P := P) (sp := sp) o.op
      have : heapKind P sp o.op = 0 ∨ heapKind P sp o.op = 1 := by omega
      rcases this with hk | hk
      · rw [(kind0_P hk hs (Hs j)).1]; exact List.prefix_refl _
      · exact kind1 hsp.quiet hk (fun k => rfl) hs
    · rw [hs]; exact List.prefix_refl _
  · rcases T.step j o hj with ⟨_, hs⟩ | ⟨_, _, hs⟩
    · exact (kind0_P hk hs (Hs j)).1
    · exact hs

section tr
variable {E0 : Env} {w0 : World} {L : List Oper} {frs : Nat → List AVal} {Hs : Nat → AHeap} {vs : Nat → AVal} (R : Tr P sp ops E0 w0 L frs Hs vs)
include R

theorem Tr.mono' : ∀ i j, i ≤ j → j ≤ L.length → (Hs i).length ≤ (Hs j).length := by
  intro i j hij
  induction j with
  | zero => intro _; have : i = 0 := by omega
            rw [this]; exact Nat.le_refl _
  | succ j ih =>
    intro hj
    by_cases e : i = j + 1
    · rw [e]; exact Nat.le_refl _
    · exact Nat.le_trans (ih (by omega) (by omega)) (R.mono j (by omega))

theorem Tr.pre' : ∀ i j, i ≤ j → j ≤ L.length → (∀ k o, i ≤ k → k < j → L[k]? = some o → heapKind P sp o.op ≠ 2) → Hs i <+: Hs j := by
  intro i j hij
  induction j with
  | zero => intro _ _; have : i = 0 := by omega
            rw [this]; exact List.prefix_refl _
  | succ j ih =>
    intro hj hk
    by_cases e : i = j + 1
    · rw [e]; exact List.prefix_refl _
    · have ho : L[j]? = some L[j] := List.getElem?_eq_getElem (by omega)
      exact (ih (by omega) (by omega) fun k o h1 h2 h3 => hk k o h1 (by omega) h3).trans (R.pre j _ ho (hk j _ (by omega) (by omega) ho))

omit R in
theorem next_write (L : List Oper) (j : Nat) (hj : j ≤ L.length) : ∃ e, j ≤ e ∧ e ≤ L.length ∧ (∀ k o, j ≤ k → k < e → L[k]? = some o → heapKind P sp o.op ≠ 2) ∧ (∀ o, L[e]? = some o → heapKind P sp o.op = 2) := by
  generalize hd : L.length - j = d
  induction d generalizing j with
  | zero => exact ⟨j, Nat.le_refl _, hj, fun k o h1 h2 => by omega, fun o ho => by have := lt_of_getElem? ho; omega⟩
  | succ d ih =>
    have ho : L[j]? = some L[j] := List.getElem?_eq_getElem (by omega)
    by_cases hk : heapKind P sp L[j].op = 2
    · exact ⟨j, Nat.le_refl _, hj, fun k o h1 h2 => by omega, fun o ho' => by rw [ho] at ho'; cases ho'; exact hk⟩
    · obtain ⟨e, h1, h2, h3, h4⟩ := ih (j + 1) (by omega) (by omega)
      refine ⟨e, by omega, h2, fun k o g1 g2 g3 => ?_, h4⟩
      by_cases e' : k = j
      · subst e'; rw [ho] at g3; cases g3; exact hk
      · exact h3 k o (by omega) g2 g3
where
  lt_of_getElem? {L : List Oper} {e : Nat} {o : Oper} (h : L[e]? = some o) : e < L.length := (List.getElem?_eq_some_iff.1 h).1

/-- Where a run stands that has done the operations of D. -/
structure St (P : Program) (sp : Specs) (E0 : Env) (w0 : World) (L : List Oper) (frs : Nat → List AVal) (Hs : Nat → AHeap) (vs : Nat → AVal) (D : Nat → Bool) (e : Nat) (E : Env) (w : World) (a : Act) : Prop where
  rel : RelW E w
  fr : RelF E (frD L vs (frs 0) D L.length) a
  defers : a.defers = []
  ext : Ext0 E0 w0 E w
  le : e ≤ L.length
  heap : E.H = Hs e
  done : ∀ i o, i < e → L[i]? = some o → heapKind P sp o.op = 2 → D i = true
  here : ∀ o, L[e]? = some o → heapKind P sp o.op = 2 ∧ D e = false
  news : ∀ x, E.S x → x < E.H.length → (x < E0.H.length ∧ E0.S x) ∨ ∃ i, i < L.length ∧ D i = true ∧ (Hs i).length ≤ x ∧ x < (Hs (i + 1)).length
  full : ∀ i x, i < L.length → D i = true → (Hs i).length ≤ x → x < (Hs (i + 1)).length → E.S x ∧ x < E.H.length

variable {D D' : Nat → Bool} {e j : Nat} {E : Env} {w : World} {a : Act} {oj : Oper}

/-- What is known where an operation is about to be done. -/
structure At (P : Program) (sp : Specs) (ops : Array Oper) (L : List Oper) (D D' : Nat → Bool) (j : Nat) (oj : Oper) : Prop where
  hj : L[j]? = some oj
  hD : D j = false
  hD' : ∀ i, D' i = (D i || Nat.beq i j)
  before : ∀ i o, i < j → L[i]? = some o → D i = true ∨ Indep P sp ops o oj
  after : ∀ i o, j < i → L[i]? = some o → D i = false ∨ Indep P sp ops oj o

omit R in
theorem At.lt (A : At P sp ops L D D' j oj) : j < L.length := (List.getElem?_eq_some_iff.1 A.hj).1
omit R in
theorem At.self (A : At P sp ops L D D' j oj) : D' j = true := by rw [A.hD']; simp
omit R in
theorem At.ne (A : At P sp ops L D D' j oj) {i : Nat} (h : i ≠ j) : D' i = D i := by rw [A.hD']; simp [h]
omit R in
theorem At.up (A : At P sp ops L D D' j oj) {i : Nat} (h : D i = true) : D' i = true := by rw [A.hD', h]; rfl

theorem At.slot (A : At P sp ops L D D' j oj) : ∀ t ∈ namesOf ops oj, (frD L vs (frs 0) D L.length).getD t .undef = (frs j).getD t .undef := by
  intro t ht
  refine frD_eq R.T D t j (Nat.le_of_lt A.lt) (fun i o hi ho hDi hd => ?_) (fun i o hi ho hDi hd => ?_)
  · rcases A.before i o hi ho with h | h
    · rw [h] at hDi; cases hDi
    · exact h.d1 t hd ht
  · by_cases hij : i = j
    · subst hij; rw [A.hD] at hDi; cases hDi
    · rcases A.after i o (by omega) ho with h | h
      · rw [h] at hDi; cases hDi
      · exact h.d2 t hd ht

omit R in
theorem At.frame (A : At P sp ops L D D' j oj) : frD L vs (frs 0) D' L.length = putA (frD L vs (frs 0) D L.length) oj.dst (vs j) := by
  refine list_eq_getD (by rw [frD_len, putA_len, frD_len]) fun t => frD_add A.hj A.hD A.hD' (fun i o d hi ho hDi hd hd' => ?_) t
  rcases A.after i o hi ho with h | h
  · rw [h] at hDi; cases hDi
  · exact h.d1 d hd (List.mem_append_left _ (by rw [hd']; simp))

/-- An operation that writes nothing. -/
theorem fin_quiet (A : At P sp ops L D D' j oj) (s : St P sp E0 w0 L frs Hs vs D e E w a) (hk : heapKind P sp oj.op ≠ 2) {E1 : Env} {w1 : World} {u : Value} (h1 : RelW E1 w1) (h2 : Ext0 E w E1 w1) (h3 : RelV E1 (vs j) u)
    (h4 : E1.H = E.H) (h5 : ∀ x, E1.S x → x < E1.H.length → (E.S x ∧ x < E.H.length) ∨ ((Hs j).length ≤ x ∧ x < (Hs (j + 1)).length)) (h6 : ∀ x, (Hs j).length ≤ x → x < (Hs (j + 1)).length → E1.S x ∧ x < E1.H.length) :
    ∃ e' E' , St P sp E0 w0 L frs Hs vs D' e' E' w1 (a.put oj.dst u) := by
  have hej : e ≠ j := fun h => hk (s.here oj (by rw [h]; exact A.hj)).1
  have _ := R
  refine ⟨e, E1, h1, ?_, by cases oj.dst <;> simpa [Act.put] using s.defers, s.ext.trans h2, s.le, by rw [h4]; exact s.heap, fun i o hi ho hko => A.up (s.done i o hi ho hko), fun o ho => ?_, fun x hx hxl => ?_, fun i x hi hDi hx1 hx2 => ?_⟩
  · rw [A.frame]
    exact RelF.put (RelL.ext0 h2.toSub s.fr) oj.dst h3
  · obtain ⟨g1, g2⟩ := s.here o ho
    exact ⟨g1, by rw [A.ne hej]; exact g2⟩
  · rcases h5 x hx hxl with ⟨g1, g2⟩ | g
    · rcases s.news x g1 g2 with g | ⟨i, g, g', g''⟩
      · exact .inl g
      · exact .inr ⟨i, g, A.up g', g''⟩
    · exact .inr ⟨j, A.lt, A.self, g⟩
  · by_cases hij : i = j
    · subst hij; exact h6 x hx1 hx2
    · rw [A.ne hij] at hDi
      obtain ⟨g1, g2⟩ := s.full i x hi hDi hx1 hx2
      exact ⟨h2.S x g2 g1, by rw [h4]; exact g2⟩

omit R in
theorem at_here (A : At P sp ops L D D' j oj) (s : St P sp E0 w0 L frs Hs vs D e E w a) (hk : heapKind P sp oj.op = 2) : j = e := by
  have h1 : ¬ j < e := fun h => by
    have := s.done j oj h A.hj hk
    rw [A.hD] at this; cases this
  by_cases h2 : e < j
  · exfalso
    have hel : e < L.length := Nat.lt_trans h2 A.lt
    have ho : L[e]? = some L[e] := List.getElem?_eq_getElem hel
    obtain ⟨g1, g2⟩ := s.here _ ho
    rcases A.before e _ h2 ho with h | h
    · rw [h] at g2; cases g2
    · exact h.loud.1 ⟨g1, by rw [hk]; decide⟩
  · omega

/-- An operation that may write. -/
theorem fin_loud (A : At P sp ops L D D' j oj) (s : St P sp E0 w0 L frs Hs vs D e E w a) (hk : heapKind P sp oj.op = 2) {E1 : Env} {w1 : World} {u : Value} (h1 : RelW E1 w1) (h2 : Ext E w E1 w1) (h3 : RelV E1 (vs j) u)
    (h4 : E1.H = Hs (j + 1)) : ∃ e' E' , St P sp E0 w0 L frs Hs vs D' e' E' w1 (a.put oj.dst u) := by
  have hje := at_here A s hk
  subst hje
  obtain ⟨e', n1, n2, n3, n4⟩ := next_write (P := P) (sp := sp) L (j + 1) A.lt
  have hp : E1.H <+: Hs e' := by rw [h4]; exact R.pre' (j + 1) e' n1 n2 n3
  have x := adv_ext (w := w1) hp
  refine ⟨e', E1.adv (Hs e'), adv_rel h1 hp, ?_, by cases oj.dst <;> simpa [Act.put] using s.defers, (s.ext.trans h2.toExt0).trans x, n2, rfl, fun i o hi ho hko => ?_, fun o ho => ⟨n4 o ho, ?_⟩, fun y hy hyl => ?_, fun i y hi hDi hy1 hy2 => ?_⟩
  · rw [A.frame]
    exact RelF.put (RelL.ext0 x.toSub (RelL.ext h2 s.fr)) oj.dst (RelV.ext0 x.toSub h3)
  · by_cases hij : i = j
    · subst hij; exact A.self
    · by_cases hlt : i < j
      · exact A.up (s.done i o hlt ho hko)
      · exact absurd hko (n3 i o (by omega) hi ho)
  · rw [A.ne (by omega)]
    rcases A.after e' o (by omega) ho with h | h
    · exact h
    · exact absurd ⟨hk, by rw [n4 o ho]; decide⟩ h.loud.1
  · obtain ⟨g1, g2⟩ := hy
    rcases h2.news y g1 g2 with ⟨g3, g4⟩ | g3
    · rcases s.news y g4 g3 with g | ⟨i, g, g', g''⟩
      · exact .inl g
      · exact .inr ⟨i, g, A.up g', g''⟩
    · exact .inr ⟨j, A.lt, A.self, by rw [← s.heap]; exact g3, by rw [← h4]; exact g2⟩
  · have key : E1.S y ∧ y < E1.H.length := by
      by_cases hij : i = j
      · subst hij
        rw [← h4] at hy2
        rw [← s.heap] at hy1
        exact ⟨h2.full y hy1 hy2, hy2⟩
      · rw [A.ne hij] at hDi
        obtain ⟨g1, g2⟩ := s.full i y hi hDi hy1 hy2
        exact ⟨h2.S y g2 g1, Nat.lt_of_lt_of_le g2 h2.len⟩
    exact ⟨key, Nat.lt_of_lt_of_le key.2 hp.length_le⟩

/-- An operation's slots, and nothing else. -/
def maskF (names : List Nat) (fr : List AVal) : List AVal := (List.range fr.length).map fun t => if t ∈ names then fr.getD t .undef else .undef

omit R in
theorem maskF_getD {names : List Nat} {fr : List AVal} {t : Nat} (h : t ∈ names) : (maskF names fr).getD t .undef = fr.getD t .undef := by
  unfold maskF
  by_cases hl : t < fr.length
  · simp [List.getD, hl, h]
  · have e1 : (List.range fr.length)[t]? = none := List.getElem?_eq_none (by simpa using Nat.le_of_not_lt hl)
    have e2 : fr[t]? = none := List.getElem?_eq_none (Nat.le_of_not_lt hl)
    simp only [List.getD, List.getElem?_map, e1, e2, Option.map_none]

theorem st_step (hsp : SpecsOk P sp) (A : At P sp ops L D D' j oj) (s : St P sp E0 w0 L frs Hs vs D e E w a) (Q : Exit → Act → World → Prop) :
    (Region.wanted oj (yielded ops a.tmps) = true → oj.wp P a w (fun a' w' => ∃ e' E', St P sp E0 w0 L frs Hs vs D' e' E' w' a') Q) ∧
    (Region.wanted oj (yielded ops a.tmps) = false → ∃ e' E', St P sp E0 w0 L frs Hs vs D' e' E' w (a.put oj.dst undef)) := by
  have slot := A.slot R
  rcases R.T.step j oj A.hj with ⟨hwant, hs⟩ | ⟨hwant, hv, hs⟩
  · have hw := want_ok (want_slot hwant slot) s.fr
    refine ⟨fun _ => ?_, fun h => by rw [hw] at h; cases h⟩
    by_cases hk2 : heapKind P sp oj.op = 2
    · have hje := at_here A s hk2
      subst hje
      rw [← aopP_congr oj.op (eval_slot slot) (Hs j)] at hs
      refine Oper.wp_mono (K := After E w a oj.dst (vs j) (Hs (j + 1))) (fun a' w' ha => ?_) (op_sound hsp hs s.heap s.rel s.fr Q)
      obtain ⟨u, E1, rfl, g1, g2, g3, g4⟩ := ha
      exact fin_loud R A s hk2 g2 g4 g1 g3
    · by_cases hk0 : heapKind P sp oj.op = 0
      · have hHj := R.none j oj A.hj hk0
        have hs' := (kind0_P hk0 hs E.H).2
        rw [← aopP_congr oj.op (eval_slot slot) E.H] at hs'
        refine Oper.wp_mono (K := After E w a oj.dst (vs j) E.H) (fun a' w' ha => ?_) (op_sound hsp hs' rfl s.rel s.fr Q)
        obtain ⟨u, E1, rfl, g1, g2, g3, g4⟩ := ha
        refine fin_quiet R A s hk2 g2 g4.toExt0 g1 g3 (fun x hx hxl => ?_) (fun x hx1 hx2 => by rw [hHj] at hx2; omega)
        rcases g4.news x hx hxl with ⟨q1, q2⟩ | q
        · exact .inl ⟨q2, q1⟩
        · rw [g3] at hxl; omega
      · have hk1 : heapKind P sp oj.op = 1 := by have := heapKind_le (P := P) (sp := sp) oj.op; omega
        have hje : j < e := by
          refine Classical.byContradiction fun hh => ?_
          have hne : e ≠ j := fun h => hk2 (s.here oj (by rw [h]; exact A.hj)).1
          have hlt : e < j := by omega
          have hel : e < L.length := Nat.lt_trans hlt A.lt
          have ho : L[e]? = some L[e] := List.getElem?_eq_getElem hel
          obtain ⟨q1, q2⟩ := s.here _ ho
          rcases A.before e _ hlt ho with h | h
          · rw [h] at q2; cases q2
          · exact h.loud.1 ⟨q1, by rw [hk1]; decide⟩
        have nowr : ∀ k o, j ≤ k → k < e → L[k]? = some o → heapKind P sp o.op ≠ 2 := by
          intro k o hjk hke ho hko
          by_cases hkj : k = j
          · subst hkj; rw [A.hj] at ho; cases ho; exact hk2 hko
          · have := s.done k o hke ho hko
            rcases A.after k o (by omega) ho with h | h
            · rw [h] at this; cases this
            · exact h.loud.2 ⟨by rw [hk1]; decide, hko⟩
        have pj : Hs j <+: Hs e := R.pre' j e (Nat.le_of_lt hje) s.le nowr
        have pj1 : Hs j <+: Hs (j + 1) := R.pre j oj A.hj hk2
        have pje : Hs (j + 1) <+: Hs e := R.pre' (j + 1) e hje s.le fun k o h1 h2 h3 => nowr k o (by omega) h2 h3
        obtain ⟨F, wF, aF, f1, f2, f3, f4⟩ := R.run j (Nat.le_of_lt A.lt)
        have pF : F.H <+: E.H := by rw [f3, s.heap]; exact pj
        have hl0 : E0.H.length ≤ (Hs j).length := by rw [R.zero]; exact R.mono' 0 j (Nat.zero_le _) (Nat.le_of_lt A.lt)
        have hSF : ∀ x, x < F.H.length → E.S x → F.S x := by
          intro x hx hSx
          by_cases h0 : x < E0.H.length
          · rcases s.news x hSx (Nat.lt_of_lt_of_le hx pF.length_le) with ⟨q1, q2⟩ | ⟨i, q1, q2, q3, q4⟩
            · exact f4.S x q1 q2
            · have := R.mono' 0 i (Nat.zero_le _) (Nat.le_of_lt q1)
              rw [← R.zero] at this
              omega
          · exact f4.full x (by omega) hx
        have hcut := cut_rel s.rel f1 pF hSF
        have hfr : RelF (E.cut F.H) (maskF (namesOf ops oj) (frD L vs (frs 0) D L.length)) a := by
          refine RelL.of_get (by simp [maskF, s.fr.length]) fun i x y hx hy => ?_
          simp only [maskF, List.getElem?_map] at hx
          have hil : i < a.tmps.toList.length := (List.getElem?_eq_some_iff.1 hy).1
          have hil' : i < (frD L vs (frs 0) D L.length).length := by rw [s.fr.length]; exact hil
          rw [List.getElem?_range hil'] at hx
          simp only [Option.map_some, Option.some.injEq] at hx
          subst hx
          by_cases hin : i ∈ namesOf ops oj
          · rw [if_pos hin]
            have r1 := s.fr.getD i undef
            have r2 := f2.getD i undef
            rw [← slot i hin] at r2
            have hy' : a.tmps.toList.getD i undef = y := by simp only [List.getD, hy, Option.getD_some]
            rw [hy'] at r1
            exact RelV.cut pF r1 r2
          · rw [if_neg hin]; simp only [RelG]
        have hs' : aopP P sp oj.op (evalA (maskF (namesOf ops oj) (frD L vs (frs 0) D L.length))) (Hs j) (vs j) (Hs (j + 1)) := by
          rw [aopP_congr oj.op (eval_slot fun t ht => (maskF_getD ht).trans (slot t ht)) (Hs j)]
          exact hs
        refine Oper.wp_mono (K := After (E.cut F.H) w a oj.dst (vs j) (Hs (j + 1))) (fun a' w' ha => ?_) (op_sound hsp hs' (by rw [← f3]; rfl) hcut hfr Q)
        obtain ⟨u, E1, rfl, g1, g2, g3, g4⟩ := ha
        have p1 : F.H <+: E1.H := by rw [f3, g3]; exact pj1
        have p2 : E1.H <+: E.H := by rw [g3, s.heap]; exact pje
        have hn : ∀ i, F.H.length ≤ i → i < E1.H.length → ¬ E.S i := by
          intro x hx1 hx2 hSx
          rw [f3] at hx1
          rcases s.news x hSx (Nat.lt_of_lt_of_le hx2 p2.length_le) with ⟨q1, q2⟩ | ⟨i, q1, q2, q3, q4⟩
          · omega
          · rw [g3] at hx2
            have hij : i ≠ j := fun h => by subst h; rw [A.hD] at q2; cases q2
            by_cases hlt : i < j
            · have := R.mono' (i + 1) j hlt (Nat.le_of_lt A.lt)
              omega
            · have := R.mono' (j + 1) i (by omega) (Nat.le_of_lt q1)
              omega
        obtain ⟨k1, k2, k3⟩ := join_all s.rel g2 g4 p1 p2 hn
        have hr : ∀ x, (F.H.length ≤ x ∧ x < E1.H.length) ↔ ((Hs j).length ≤ x ∧ x < (Hs (j + 1)).length) := by intro x; rw [f3, g3]
        refine fin_quiet R A s hk2 k2 k1 (RelV.ext0 k3 g1) rfl (fun x hx hxl => ?_) (fun x hx1 hx2 => ?_)
        · rcases hx with q | q
          · exact .inl q
          · exact .inr ((hr x).1 q)
        · exact ⟨Or.inr ((hr x).2 ⟨hx1, hx2⟩), Nat.lt_of_lt_of_le hx2 (by rw [← g3]; exact p2.length_le)⟩
  · have hw := want_ok (want_slot hwant slot) s.fr
    refine ⟨fun h => (by rw [hw] at h; cases h), fun _ => ?_⟩
    have hvr : ∀ E : Env, RelV E (vs j) undef := fun E => by rw [hv]; simp only [RelG]; exact ⟨[], rfl, RelGL.nil⟩
    by_cases hk2 : heapKind P sp oj.op = 2
    · have hje := at_here A s hk2
      subst hje
      exact fin_loud R A s hk2 s.rel (Ext.refl _ _) (hvr E) (by rw [hs]; exact s.heap)
    · exact fin_quiet R A s hk2 s.rel (Ext0.refl _ _) (hvr E) rfl (fun x hx hxl => .inl ⟨hx, hxl⟩) (fun x hx1 hx2 => by rw [hs] at hx2; omega)

end tr
end
end Go.Abs

/- A region that draws its order comes to what it comes to in the text's order. -/
namespace Go.Abs
open Go

section
variable {P : Program} {sp : Specs} {ops : Array Oper}

theorem count_set_true {l : List Bool} : ∀ {i : Nat}, l[i]? = some false → (l.set i true).count false + 1 = l.count false := by
  induction l with
  | nil => intro i h; simp at h
  | cons b l ih =>
    intro i h
    cases i with
    | zero => simp at h; subst h; simp
    | succ i =>
      simp at h
      have := ih h
      simp only [List.set_cons_succ, List.count_cons]
      omega

theorem count_zero {l : List Bool} (h : l.count false = 0) : ∀ i, i < l.length → l[i]? = some true := by
  intro i hi
  have h1 : l[i]? = some l[i] := List.getElem?_eq_getElem hi
  rw [h1]
  cases hb : l[i] with
  | true => rfl
  | false =>
    have hm : false ∈ l := by rw [← hb]; exact List.getElem_mem hi
    have := List.count_pos_iff.2 hm
    omega

section
variable {E0 : Env} {w0 : World} {frs : Nat → List AVal} {Hs : Nat → AHeap} {vs : Nat → AVal} {Q : Exit → Act → World → Prop}

theorem frame_agree {L : List Oper} (T : Trace P sp ops L frs Hs vs) : ∀ k, k ≤ L.length → Agree (L.filterMap (·.dst)) (frs 0) (frs k) := by
  intro k
  induction k with
  | zero => intro _; exact Agree.refl _ _
  | succ k ih =>
    intro hk
    have ho : L[k]? = some L[k] := List.getElem?_eq_getElem (by omega)
    rw [T.put k _ ho]
    exact (ih (by omega)).trans (Agree.put _ _ _ fun d hd => List.mem_filterMap.2 ⟨_, List.getElem_mem (by omega), hd⟩)

theorem frD_none {L : List Oper} {fr : List AVal} {D : Nat → Bool} (h : ∀ i, i < L.length → D i = false) : ∀ k, k ≤ L.length → frD L vs fr D k = fr := by
  intro k
  induction k with
  | zero => intro _; rfl
  | succ k ih => intro hk; simp only [frD, h k (by omega), cond_false]; exact ih (by omega)

theorem range_of {Hs : Nat → AHeap} (n : Nat) : ∀ x, (Hs 0).length ≤ x → x < (Hs n).length → ∃ i, i < n ∧ (Hs i).length ≤ x ∧ x < (Hs (i + 1)).length := by
  induction n with
  | zero => intro x h1 h2; omega
  | succ n ih =>
    intro x h1 h2
    by_cases h : x < (Hs n).length
    · obtain ⟨i, g1, g2⟩ := ih x h1 h; exact ⟨i, by omega, g2⟩
    · exact ⟨n, by omega, by omega, h2⟩

theorem draw_go (hsp : SpecsOk P sp) (hd : drawOk P sp ops = true) (R : Tr P sp ops E0 w0 ops.toList frs Hs vs)
    (hq : ∀ E w a, RelW E w → RelF E (frs ops.toList.length) a → a.defers = [] → Ext E0 w0 E w → E.H = Hs ops.toList.length → Q .normal a w) :
    ∀ (fuel : Nat) (listed : Array Bool) (e : Nat) (E : Env) (w : World) (a : Act), listed.size = ops.size → listed.toList.count false = fuel →
      Closed ops.toList (fun i => listed.getD i false = true) → St P sp E0 w0 ops.toList frs Hs vs (fun i => listed.getD i false) e E w a → wpAny P .any ops Q fuel listed a w := by
  have stop : ∀ (listed : Array Bool) (e : Nat) (E : Env) (w : World) (a : Act), listed.size = ops.size → St P sp E0 w0 ops.toList frs Hs vs (fun i => listed.getD i false) e E w a →
      (∀ i, i < ops.size → listed.getD i false = true) → Q .normal a w := by
    intro listed e E w a hsz s hall
    have hn : ops.toList.length = ops.size := by simp
    have he : e = ops.toList.length := by
      refine Classical.byContradiction fun h => ?_
      have hlt : e < ops.toList.length := by have := s.le; omega
      have := (s.here _ (List.getElem?_eq_getElem hlt)).2
      rw [hall e (by omega)] at this; cases this
    have hfr := s.fr
    rw [frD_all R.T (fun i hi => hall i (by omega))] at hfr
    refine hq E w a s.rel hfr s.defers ⟨s.ext, fun i hs hi => ?_, fun i h1 h2 => ?_⟩ (by rw [s.heap, he])
    · rcases s.news i hs hi with h | ⟨k, g1, g2, g3, g4⟩
      · exact .inl h
      · right
        have := R.mono' 0 k (Nat.zero_le _) (Nat.le_of_lt g1)
        rw [← R.zero] at this
        omega
    · rw [s.heap, he] at h2
      rw [R.zero] at h1
      obtain ⟨k, g1, g2, g3⟩ := range_of (Hs := Hs) _ i h1 h2
      exact (s.full k i g1 (hall k (by omega)) g2 g3).1
  intro fuel
  induction fuel with
  | zero =>
    intro listed e E w a hsz hc _ s
    have hall : ∀ i, i < ops.size → listed.getD i false = true := by
      intro i hi
      have := count_zero hc i (by simpa [hsz] using hi)
      have h2 : listed[i]? = some true := by simpa using this
      simp [h2]
    refine ⟨?_, stop listed e E w a hsz s hall⟩
    refine List.eq_nil_iff_forall_not_mem.2 fun j hj => ?_
    obtain ⟨g1, o, g2, _⟩ := mem_ready.1 hj
    have hjs : j < ops.size := (Array.getElem?_eq_some_iff.1 g2).1
    have := hall j hjs
    have hjl : j < listed.size := by omega
    simp [hjl] at g1 this
    rw [g1] at this; cases this
  | succ fuel ih =>
    intro listed e E w a hsz hc hcl s
    refine ⟨fun hr => ?_, fun j hj => ?_⟩
    · refine stop listed e E w a hsz s fun i hi => ?_
      refine Classical.byContradiction fun hne => ?_
      have key : ∀ n i, i < n → i < ops.size → listed.getD i false = false → False := by
        intro n
        induction n with
        | zero => intro i hi; omega
        | succ n ihn =>
          intro i hi his hf
          have : i ∈ Region.ready .any ops listed := by
            refine mem_ready.2 ⟨?_, ops[i], Array.getElem?_eq_getElem his, fun ed hed hb => ?_⟩
            · have hil : i < listed.size := by omega
              simp [hil] at hf ⊢; exact hf
            · have hlt := drawOk_edges hd i ops[i] (by simp [his]) ed (by simpa using hed) hb
              cases hh : listed.getD ed.on false with
              | true => rfl
              | false => exact (ihn ed.on (by omega) (by omega) hh).elim
          rw [hr] at this; cases this
      exact key (i + 1) i (by omega) hi (by simpa using hne)
    · obtain ⟨g1, o, g2, g3⟩ := mem_ready.1 hj
      have hjs : j < ops.size := (Array.getElem?_eq_some_iff.1 g2).1
      have hjl : j < listed.size := by omega
      have hjf : listed[j]? = some false := by
        simp [hjl] at g1 ⊢; exact g1
      have hjD : listed.getD j false = false := by simp [hjf]
      have ho : ops.toList[j]? = some o := by simpa using g2
      have hD' : ∀ i, (listed.setIfInBounds j true).getD i false = (listed.getD i false || Nat.beq i j) := by
        intro i
        by_cases hij : i = j
        · subst hij
          have : (listed.setIfInBounds i true)[i]? = some true := by simp [hjl]
          simp [this]
        · rw [Go.getD_set_ne false (Ne.symm hij)]; simp [hij]
      have hcl' : Closed ops.toList (fun i => (listed.setIfInBounds j true).getD i false = true) := by
        intro i oi hDi hoi ed hed hb
        simp only [hD', Bool.or_eq_true] at hDi ⊢
        rcases hDi with hDi | hDi
        · exact .inl (hcl i oi hDi hoi ed hed hb)
        · have : i = j := by simpa using hDi
          subst this
          rw [ho] at hoi; cases hoi
          exact .inl (g3 ed (by simpa using hed) hb)
      have A : At P sp ops ops.toList (fun i => listed.getD i false) (fun i => (listed.setIfInBounds j true).getD i false) j o := by
        refine ⟨ho, hjD, hD', fun i oi hi hoi => ?_, fun i oi hi hoi => ?_⟩
        · rcases drawOk_spec hd i j oi o hi hoi ho with h | h
          · have := h _ hcl' (by simp only [hD']; simp)
            simp only [hD', Bool.or_eq_true] at this
            rcases this with h | h
            · exact .inl h
            · have : i = j := by simpa using h
              omega
          · exact .inr h
        · rcases drawOk_spec hd j i o oi hi ho hoi with h | h
          · left
            cases hh : listed.getD i false with
            | false => rfl
            | true =>
              have := h _ hcl hh
              rw [hjD] at this; cases this
          · exact .inr h
      have hc' : (listed.setIfInBounds j true).toList.count false = fuel := by
        have := count_set_true (l := listed.toList) (i := j) (by simpa using hjf)
        rw [Array.toList_setIfInBounds]
        omega
      obtain ⟨k1, k2⟩ := st_step R hsp A s Q
      unfold wpOp
      simp only [g2]
      cases hw : Region.wanted o (yielded ops a.tmps) with
      | true =>
        simp only [if_true]
        left
        refine Oper.wp_mono (fun a' w' ⟨e', E', s'⟩ => ?_) (k1 hw)
        exact ih _ e' E' w' a' (by simpa using hsz) hc' hcl' s'
      | false =>
        simp only [Bool.false_eq_true, if_false]
        obtain ⟨e', E', s'⟩ := k2 hw
        exact ih _ e' E' w _ (by simpa using hsz) hc' hcl' s'
end

theorem draw_any (hsp : SpecsOk P sp) {fr : List AVal} {H : AHeap} {K : List AVal → AHeap → Prop} {E : Env} {w : World} {a : Act} {Q : Exit → Act → World → Prop}
    (hd : drawOk P sp ops = true) (h : evOps P sp ops ops.toList [] fr H K) (hH : E.H = H) (hw : RelW E w) (hf : RelF E fr a) (hdf : a.defers = [])
    (hq : ∀ E' fr' a' w', K fr' E'.H → RelW E' w' → RelF E' fr' a' → a'.defers = [] → Ext E w E' w' → Agree (ops.toList.filterMap (·.dst)) fr fr' → Q .normal a' w') :
    wpAny P .any ops Q ops.size (Array.replicate ops.size false) a { w with drawn := w.drawn + 1 } := by
  obtain ⟨frs, Hs, vs, t1, t2, t3, T⟩ := trace_of ops.toList [] fr H K h
  have hw0 : RelW E { w with drawn := w.drawn + 1 } := ⟨fun i o hs ho => by
    have x : Sub E w E { w with drawn := w.drawn + 1 } := ⟨Nat.le_refl _, fun _ _ _ => Nat.le_refl _, fun _ _ _ h => ⟨h, rfl, fun _ => rfl⟩, fun _ _ _ _ => ⟨rfl, rfl, _root_.id⟩, fun _ _ h => h⟩
    exact RelObj.ext0 x rfl rfl rfl (hw.obj i o hs ho), hw.inj⟩
  have hf0 : RelF E (frs 0) a := by rw [t1]; exact hf
  have R := tr_of hsp T (E0 := E) (by rw [hH, t2]) hw0 hf0
  have x0 : Ext E w E { w with drawn := w.drawn + 1 } :=
    ⟨⟨⟨Nat.le_refl _, fun _ _ _ => Nat.le_refl _, fun _ _ _ h => ⟨h, rfl, fun _ => rfl⟩, fun _ _ _ _ => ⟨rfl, rfl, _root_.id⟩, fun _ _ h => h⟩, fun _ _ _ => rfl,
      fun _ h h' => .inl ⟨h, h', rfl⟩, rfl, rfl, rfl, Nat.le_refl _, fun _ _ _ => rfl⟩, fun _ h h' => .inl ⟨h', h⟩, fun _ h h' => by omega⟩
  obtain ⟨e, n1, n2, n3, n4⟩ := next_write (P := P) (sp := sp) ops.toList 0 (Nat.zero_le _)
  have hp : E.H <+: Hs e := by rw [hH, ← t2]; exact R.pre' 0 e n1 n2 n3
  have x := adv_ext (w := { w with drawn := w.drawn + 1 }) hp
  have hD0 : ∀ i, (Array.replicate ops.size false).getD i false = false := by
    intro i
    by_cases hi : i < ops.size
    · simp [hi]
    · simp [hi]
  refine draw_go hsp hd R (fun E' w' a' h1 h2 h3 h4 h5 => ?_) ops.size (Array.replicate ops.size false) e (E.adv (Hs e)) _ a (by simp) (by simp) (fun j o hj => ?_) ?_
  · refine hq E' (frs ops.toList.length) a' w' (by rw [h5]; exact t3) h1 h2 h3 (x0.trans h4) ?_
    rw [← t1]
    exact frame_agree T _ (Nat.le_refl _)
  · simp only [hD0] at hj; cases hj
  · refine ⟨adv_rel hw0 hp, ?_, hdf, x, n2, rfl, fun i o hi ho hk => absurd hk (n3 i o (Nat.zero_le _) hi ho), fun o ho => ⟨n4 o ho, hD0 e⟩, fun y hy hyl => .inl ⟨hy.2, hy.1⟩, fun i y hi hDi => by simp only [hD0] at hDi; cases hDi⟩
    rw [frD_none (fun i _ => hD0 i) _ (Nat.le_refl _)]
    exact RelL.ext0 x.toSub hf0

/-! ### Orders, one by one -/
/-- An order in which the operations may come (as far as there is fuel). -/
def Legal (ops : Array Oper) : Nat → List Nat → Array Bool → Prop
  | 0, ord, _ => ord = []
  | _ + 1, [], listed => Region.ready .any ops listed = []
  | f + 1, k :: ord, listed => k ∈ Region.ready .any ops listed ∧ Legal ops f ord (listed.setIfInBounds k true)

theorem any_legal {Q : Exit → Act → World → Prop} : ∀ (fuel : Nat) (ord : List Nat) (listed : Array Bool) (a : Act) (w : World), Legal ops fuel ord listed → wpAny P .any ops Q fuel listed a w → wpOps P ops Q ord a w
  | 0, ord, listed, a, w, hl, h => by
    have : ord = [] := hl
    subst this
    exact h.2
  | f + 1, [], listed, a, w, hl, h => h.1 hl
  | f + 1, k :: ord, listed, a, w, hl, h => by
    rw [wpOps_cons]
    exact wpOp_mono (fun a w h => any_legal f ord _ a w hl.2 h) (h.2 k hl.1)

theorem legal_go : ∀ (fuel t : Nat) (listed : Array Bool), Legal ops fuel (Region.linearise.go .any ops fuel t listed []) listed := by
  intro fuel
  induction fuel with
  | zero => intro t listed; simp [Region.linearise.go, Legal]
  | succ fuel ih =>
    intro t listed
    simp only [Region.linearise.go]
    change Legal ops (fuel + 1) (match (Region.ready .any ops listed)[t % (Region.ready .any ops listed).length]? with
      | some i => Region.linearise.go .any ops fuel (t / (Region.ready .any ops listed).length) (listed.setIfInBounds i true) [i]
      | none => [].reverse) listed
    cases hi : (Region.ready .any ops listed)[t % (Region.ready .any ops listed).length]? with
    | none =>
      have hnil : Region.ready .any ops listed = [] := by
        cases hr : Region.ready .any ops listed with
        | nil => rfl
        | cons x xs =>
          rw [hr] at hi
          have hlt : t % (x :: xs).length < (x :: xs).length := Nat.mod_lt _ (by simp)
          simp at hi
          simp at hlt
          omega
      exact hnil
    | some i =>
      simp only []
      rw [linearise_go_acc, List.reverse_singleton, List.singleton_append]
      exact ⟨List.mem_of_getElem? hi, ih _ _⟩

theorem posIn_mem : ∀ {l : List Nat} {x : Nat}, x ∈ l → l[posIn x l]? = some x
  | y :: l, x, h => by
    unfold posIn
    cases hb : Nat.beq x y with
    | true => have := Nat.eq_of_beq_eq_true hb; subst this; rfl
    | false =>
      have hne : x ≠ y := fun e => by subst e; simp at hb
      have := posIn_mem ((List.mem_cons.1 h).resolve_left hne)
      simpa using this
theorem posIn_not : ∀ {l : List Nat} {x : Nat}, x ∉ l → posIn x l = l.length
  | [], _, _ => rfl
  | y :: l, x, h => by
    unfold posIn
    have hb : Nat.beq x y = false := by
      cases hb : Nat.beq x y with
      | false => rfl
      | true => have := Nat.eq_of_beq_eq_true hb; subst this; exact absurd List.mem_cons_self h
    rw [hb]
    have := posIn_not (l := l) (x := x) fun hh => h (List.mem_cons_of_mem _ hh)
    simp [this]
theorem noTwice_pos : ∀ {l : List Nat} {p x : Nat}, noTwice l = true → l[p]? = some x → posIn x l = p
  | y :: l, 0, x, _, h => by
    simp at h; subst h
    simp [posIn]
  | y :: l, p + 1, x, hn, h => by
    simp only [noTwice, Bool.and_eq_true, Bool.not_eq_true'] at hn
    simp at h
    have hm : x ∈ l := List.mem_of_getElem? h
    have hne : Nat.beq x y = false := by
      cases hb : Nat.beq x y with
      | false => rfl
      | true =>
        have e := Nat.eq_of_beq_eq_true hb
        subst e
        have := List.any_eq_false.1 hn.1 x hm
        simp at this
    unfold posIn
    rw [hne]
    simp [noTwice_pos hn.2 h]

structure Perm (n : Nat) (perm : List Nat) : Prop where
  len : perm.length = n
  lt : ∀ k ∈ perm, k < n
  all : ∀ k, k < n → k ∈ perm
  one : noTwice perm = true
theorem perm_of {n : Nat} {perm : List Nat} (h : permOk n perm = true) : Perm n perm := by
  simp only [permOk, Bool.and_eq_true] at h
  refine ⟨Nat.eq_of_beq_eq_true h.1.1.1, fun k hk => ?_, fun k hk => ?_, h.2⟩
  · have := List.all_eq_true.1 h.1.1.2 k hk; simpa using this
  · have := List.all_eq_true.1 h.1.2 k (List.mem_range.2 hk)
    obtain ⟨y, hy, he⟩ := List.any_eq_true.1 this
    have := Nat.eq_of_beq_eq_true he
    subst this; exact hy
theorem range_one : ∀ n : Nat, noTwice (List.range n) = true := by
  have key : ∀ (n s : Nat), noTwice (List.range' s n) = true := by
    intro n
    induction n with
    | zero => intro s; rfl
    | succ n ih =>
      intro s
      simp only [List.range'_succ, noTwice, Bool.and_eq_true, Bool.not_eq_true']
      refine ⟨List.any_eq_false.2 fun x hx hb => ?_, ih _⟩
      have := Nat.eq_of_beq_eq_true hb
      subst this
      have := List.mem_range'_1.1 hx
      omega
  intro n
  rw [List.range_eq_range']
  exact key n 0
theorem perm_range (n : Nat) : Perm n (List.range n) := ⟨List.length_range, fun _ hk => List.mem_range.1 hk, fun _ hk => List.mem_range.2 hk, range_one n⟩

section
variable {perm : List Nat} {i j : Nat}

/-- An operation as it stands in the new order. -/
def reOp (perm : List Nat) (i j k : Nat) (o : Oper) : Oper :=
  { o with after := ((cond (Nat.beq k j) [(⟨i, .data⟩ : Edge)] [] ++ o.after.toList).map fun e => ⟨posIn e.on perm, e.ground⟩).toArray, guard := o.guard.map fun g => (posIn g.1 perm, g.2) }

theorem relabel_size (hp : Perm ops.size perm) : (relabel perm i j ops).size = ops.size := by simp [relabel, hp.len]
theorem relabel_get (hp : Perm ops.size perm) {k : Nat} {o : Oper} (ho : ops[k]? = some o) : (relabel perm i j ops)[posIn k perm]? = some (reOp perm i j k o) := by
  have hk : k < ops.size := (Array.getElem?_eq_some_iff.1 ho).1
  have := posIn_mem (hp.all k hk)
  simp only [relabel, List.getElem?_toArray, List.getElem?_map, this, Option.map_some, ho]
  rfl
theorem relabel_at (hp : Perm ops.size perm) {p : Nat} {o' : Oper} (ho : (relabel perm i j ops)[p]? = some o') : ∃ k o, posIn k perm = p ∧ ops[k]? = some o ∧ o' = reOp perm i j k o := by
  simp only [relabel, List.getElem?_toArray, List.getElem?_map, Option.map_eq_some_iff] at ho
  obtain ⟨k, hk, hh⟩ := ho
  have hlt := hp.lt k (List.mem_of_getElem? hk)
  refine ⟨k, ops[k], noTwice_pos hp.one hk, Array.getElem?_eq_getElem hlt, ?_⟩
  rw [Array.getElem?_eq_getElem hlt] at hh
  exact hh.symm
theorem posIn_lt (hp : Perm ops.size perm) {k : Nat} (hk : k < ops.size) : posIn k perm < ops.size := by
  have := (List.getElem?_eq_some_iff.1 (posIn_mem (hp.all k hk))).1
  rw [hp.len] at this; exact this
theorem posIn_out (hp : Perm ops.size perm) {k : Nat} (hk : ¬ k < ops.size) : posIn k perm = ops.size := by
  rw [posIn_not fun h => hk (hp.lt k h), hp.len]
theorem posIn_inj (hp : Perm ops.size perm) {k l : Nat} (hk : k < ops.size) (h : posIn l perm = posIn k perm) : l = k := by
  have hl : l < ops.size := Classical.byContradiction fun hl => by
    have := posIn_lt hp hk
    rw [← h, posIn_out hp hl] at this; omega
  have h1 := posIn_mem (hp.all k hk)
  have h2 := posIn_mem (hp.all l hl)
  rw [h, h1] at h2
  exact (Option.some.inj h2).symm

/-- The same ones are listed. -/
structure Same (ops : Array Oper) (perm : List Nat) (listed listed' : Array Bool) : Prop where
  s : listed.size = ops.size
  s' : listed'.size = ops.size
  at_ : ∀ k, listed'.getD (posIn k perm) false = listed.getD k false

theorem Same.set (hp : Perm ops.size perm) {listed listed' : Array Bool} (h : Same ops perm listed listed') {k : Nat} (hk : k < ops.size) : Same ops perm (listed.setIfInBounds k true) (listed'.setIfInBounds (posIn k perm) true) := by
  refine ⟨by simp [h.s], by simp [h.s'], fun l => ?_⟩
  by_cases e : l = k
  · subst e
    have h1 := posIn_lt hp hk
    have a1 : posIn l perm < listed'.size := by rw [h.s']; exact h1
    have a2 : l < listed.size := by rw [h.s]; exact hk
    simp [a1, a2]
  · rw [Go.getD_set_ne false (fun e' => e (posIn_inj hp hk e'.symm)), Go.getD_set_ne false (Ne.symm e)]
    exact h.at_ l

theorem reOp_after {k : Nat} {o : Oper} {e' : Edge} : e' ∈ (reOp perm i j k o).after ↔ (k = j ∧ e' = ⟨posIn i perm, .data⟩) ∨ ∃ e ∈ o.after, e' = ⟨posIn e.on perm, e.ground⟩ := by
  simp only [reOp, List.mem_toArray, List.mem_map, List.mem_append, Array.mem_toList_iff]
  constructor
  · rintro ⟨e, he | he, rfl⟩
    · cases hb : Nat.beq k j with
      | true => rw [hb] at he; simp at he; subst he; exact .inl ⟨Nat.eq_of_beq_eq_true hb, rfl⟩
      | false => rw [hb] at he; simp at he
    · exact .inr ⟨e, he, rfl⟩
  · rintro (⟨rfl, rfl⟩ | ⟨e, he, rfl⟩)
    · exact ⟨⟨i, .data⟩, .inl (by simp), rfl⟩
    · exact ⟨e, .inr he, rfl⟩

theorem getD_true {l : Array Bool} {p : Nat} (hp : p < l.size) (b : Bool) : l.getD p true = b ↔ l.getD p false = b := by
  simp [hp]

theorem ready_of (hp : Perm ops.size perm) {listed listed' : Array Bool} (hs : Same ops perm listed listed') {k : Nat} (hk : k ∈ Region.ready .any ops listed) (hj : k = j → listed.getD i false = true) :
    posIn k perm ∈ Region.ready .any (relabel perm i j ops) listed' := by
  obtain ⟨h1, o, h2, h3⟩ := mem_ready.1 hk
  have hlt : k < ops.size := (Array.getElem?_eq_some_iff.1 h2).1
  refine mem_ready.2 ⟨?_, _, relabel_get hp h2, fun e' he hb => ?_⟩
  · rw [getD_true (by rw [hs.s']; exact posIn_lt hp hlt), hs.at_]
    rwa [getD_true (by rw [hs.s]; exact hlt)] at h1
  · rcases reOp_after.1 he with ⟨e1, rfl⟩ | ⟨e, he1, rfl⟩
    · show listed'.getD (posIn i perm) false = true
      rw [hs.at_]; exact hj e1
    · show listed'.getD (posIn e.on perm) false = true
      rw [hs.at_]; exact h3 e he1 hb

theorem ready_none (hp : Perm ops.size perm) {listed listed' : Array Bool} (hs : Same ops perm listed listed') (h : Region.ready .any ops listed = []) : Region.ready .any (relabel perm i j ops) listed' = [] := by
  refine List.eq_nil_iff_forall_not_mem.2 fun p hpm => ?_
  obtain ⟨h1, o', h2, h3⟩ := mem_ready.1 hpm
  obtain ⟨k, o, rfl, ho, rfl⟩ := relabel_at hp h2
  have hlt : k < ops.size := (Array.getElem?_eq_some_iff.1 ho).1
  have : k ∈ Region.ready .any ops listed := by
    refine mem_ready.2 ⟨?_, o, ho, fun e he hb => ?_⟩
    · rw [getD_true (by rw [hs.s]; exact hlt), ← hs.at_]
      rwa [getD_true (by rw [hs.s']; exact posIn_lt hp hlt)] at h1
    · rw [← hs.at_]
      exact h3 _ (reOp_after.2 (.inr ⟨e, he, rfl⟩)) hb
  rw [h] at this; cases this

/-- Which of the two comes first. -/
def iFirst (i j : Nat) : List Nat → Bool
  | [] => true
  | k :: l => cond (Nat.beq k i) true (cond (Nat.beq k j) false (iFirst i j l))
theorem first_or (i j : Nat) (hij : i ≠ j) : ∀ l, iFirst i j l = true ∨ iFirst j i l = true
  | [] => .inl rfl
  | k :: l => by
    unfold iFirst
    cases h1 : Nat.beq k i with
    | true => exact .inl rfl
    | false =>
      cases h2 : Nat.beq k j with
      | true => exact .inr rfl
      | false => exact first_or i j hij l

theorem legal_re (hp : Perm ops.size perm) (hij : i ≠ j) : ∀ (fuel : Nat) (ord : List Nat) (listed listed' : Array Bool), Same ops perm listed listed' → (listed.getD i false = true ∨ iFirst i j ord = true) →
    Legal ops fuel ord listed → Legal (relabel perm i j ops) fuel (ord.map fun k => posIn k perm) listed'
  | 0, ord, _, _, _, _, h => by
    have : ord = [] := h
    subst this; rfl
  | f + 1, [], listed, listed', hs, _, h => ready_none hp hs h
  | f + 1, k :: ord, listed, listed', hs, hc, h => by
    obtain ⟨h1, h2⟩ := h
    obtain ⟨_, o, ho, _⟩ := mem_ready.1 h1
    have hlt : k < ops.size := (Array.getElem?_eq_some_iff.1 ho).1
    refine ⟨ready_of hp hs h1 fun e => ?_, legal_re hp hij f ord _ _ (hs.set hp hlt) ?_ h2⟩
    · rcases hc with hc | hc
      · exact hc
      · subst e
        unfold iFirst at hc
        cases hb : Nat.beq k i with
        | true =>
          exact absurd (Nat.eq_of_beq_eq_true hb).symm hij
        | false => rw [hb] at hc; simp at hc
    · by_cases e : k = i
      · subst e
        left
        have : k < listed.size := by rw [hs.s]; exact hlt
        simp [this]
      · rcases hc with hc | hc
        · left; rw [Go.getD_set_ne false e]; exact hc
        · right
          unfold iFirst at hc
          have hb : Nat.beq k i = false := by
            cases hb : Nat.beq k i with
            | false => rfl
            | true => exact absurd (Nat.eq_of_beq_eq_true hb) e
          rw [hb] at hc
          cases hb2 : Nat.beq k j with
          | true => rw [hb2] at hc; cases hc
          | false => rw [hb2] at hc; exact hc

theorem yielded_re (hp : Perm ops.size perm) (t : Array Value) (g : Nat) : yielded (relabel perm i j ops) t (posIn g perm) = yielded ops t g := by
  unfold yielded
  cases ho : ops[g]? with
  | some o => rw [relabel_get hp ho]; rfl
  | none =>
    have hlt : ¬ g < ops.size := fun h => by rw [Array.getElem?_eq_getElem h] at ho; cases ho
    have : (relabel perm i j ops)[posIn g perm]? = none := Array.getElem?_eq_none (by rw [relabel_size hp, posIn_out hp hlt]; exact Nat.le_refl _)
    rw [this]

theorem wanted_re (hp : Perm ops.size perm) (t : Array Value) (k : Nat) (o : Oper) : Region.wanted (reOp perm i j k o) (yielded (relabel perm i j ops) t) = Region.wanted o (yielded ops t) := by
  unfold Region.wanted
  cases hg : o.guard with
  | none => simp [reOp, hg]
  | some g => simp [reOp, hg, yielded_re hp]

theorem ops_re (hp : Perm ops.size perm) {Q : Exit → Act → World → Prop} : ∀ (ord : List Nat), (∀ k ∈ ord, k < ops.size) → ∀ (a : Act) (w : World), wpOps P (relabel perm i j ops) Q (ord.map fun k => posIn k perm) a w → wpOps P ops Q ord a w
  | [], _, a, w, h => h
  | k :: ord, hk, a, w, h => by
    have ih := ops_re hp (Q := Q) ord fun l hl => hk l (List.mem_cons_of_mem _ hl)
    have ho := Array.getElem?_eq_getElem (hk k List.mem_cons_self)
    rw [List.map_cons, wpOps_cons] at h
    rw [wpOps_cons]
    unfold wpOp at h ⊢
    rw [relabel_get hp ho] at h
    rw [ho]
    simp only [wanted_re hp] at h
    simp only
    split
    · rename_i hw
      rw [if_pos hw] at h
      rcases h with h | h
      · exact .inl (Oper.wp_mono (o := ops[k]'(hk k List.mem_cons_self)) (fun a w h => ih a w h) h)
      · exact .inr h
    · rename_i hw
      rw [if_neg hw] at h
      exact ih _ _ h
end

theorem legal_lt : ∀ (fuel : Nat) (ord : List Nat) (listed : Array Bool), Legal ops fuel ord listed → ∀ k ∈ ord, k < ops.size
  | 0, ord, _, h => by
    have : ord = [] := h
    subst this; intro k hk; cases hk
  | f + 1, [], _, _ => fun k hk => by cases hk
  | f + 1, k :: ord, listed, h => fun l hl => by
    rcases List.mem_cons.1 hl with rfl | hl
    · obtain ⟨_, o, ho, _⟩ := mem_ready.1 h.1
      exact (Array.getElem?_eq_some_iff.1 ho).1
    · exact legal_lt f ord _ h.2 l hl

theorem relabel_dst {perm : List Nat} {i j : Nat} (hp : Perm ops.size perm) {d : Nat} (h : d ∈ (relabel perm i j ops).toList.filterMap (·.dst)) : d ∈ ops.toList.filterMap (·.dst) := by
  obtain ⟨o', ho', hd⟩ := List.mem_filterMap.1 h
  obtain ⟨p, hpp⟩ := List.getElem?_of_mem ho'
  obtain ⟨k, o, _, ho, rfl⟩ := relabel_at hp (p := p) (o' := o') (by simpa using hpp)
  exact List.mem_filterMap.2 ⟨o, List.mem_of_getElem? (i := k) (by simpa using ho), hd⟩

theorem same_start {perm : List Nat} (hp : Perm ops.size perm) : Same ops perm (Array.replicate ops.size false) (Array.replicate (relabel perm 0 0 ops).size false) := by
  refine ⟨by simp, by simp [relabel_size hp], fun k => ?_⟩
  have e : ∀ (n x : Nat), (Array.replicate n false).getD x false = false := by
    intro n x
    by_cases h : x < n
    · simp [h]
    · simp [h]
  rw [e, e]

theorem draw_all (hsp : SpecsOk P sp) {T : Cuts} {id : Nat} {fr : List AVal} {H : AHeap} {K : List AVal → AHeap → Prop} {E : Env} {w : World} {a : Act} {Q : Exit → Act → World → Prop} {W : List Nat}
    (hH : E.H = H) (hw : RelW E w) (hf : RelF E fr a) (hdf : a.defers = [])
    (hq : ∀ E' fr' a' w', K fr' E'.H → RelW E' w' → RelF E' fr' a' → a'.defers = [] → Ext E w E' w' → Agree W fr fr' → Q .normal a' w') :
    ∀ (n p : Nat) (ops : Array Oper), (∀ d ∈ ops.toList.filterMap (·.dst), d ∈ W) → evDraw P sp T id n p ops fr H K → ∀ ord, Legal ops ops.size ord (Array.replicate ops.size false) → wpOps P ops Q ord a { w with drawn := w.drawn + 1 } := by
  have leaf : ∀ (ops : Array Oper), (∀ d ∈ ops.toList.filterMap (·.dst), d ∈ W) → cond (drawOk P sp ops) (evOps P sp ops ops.toList [] fr H K) False → ∀ ord, Legal ops ops.size ord (Array.replicate ops.size false) → wpOps P ops Q ord a { w with drawn := w.drawn + 1 } := by
    intro ops hW h ord hl
    cases hd : drawOk P sp ops with
    | false => rw [hd] at h; exact h.elim
    | true =>
      rw [hd] at h
      exact any_legal _ ord _ a _ hl (draw_any hsp hd h hH hw hf hdf fun E' fr' a' w' h1 h2 h3 h4 h5 h6 => hq E' fr' a' w' h1 h2 h3 h4 h5 (h6.mono hW))
  intro n
  induction n with
  | zero => intro p ops hW h; exact leaf ops hW h
  | succ n ih =>
    intro p ops hW h ord hl
    unfold evDraw at h
    split at h
    · exact leaf ops hW h ord hl
    · rename_i cut _
      cases hb : (permOk ops.size cut.outs && !Nat.beq (cut.ins.getD 0 0) (cut.ins.getD 1 0)) with
      | false => rw [hb] at h; exact h.elim
      | true =>
        rw [hb] at h
        simp only [Bool.and_eq_true, Bool.not_eq_true'] at hb
        have hne : cut.ins.getD 0 0 ≠ cut.ins.getD 1 0 := fun e => by rw [e] at hb; simp at hb
        generalize cut.ins.getD 0 0 = i at *
        generalize cut.ins.getD 1 0 = j at *
        obtain ⟨hA, hB⟩ := h
        have go : ∀ (perm : List Nat) (i j q : Nat), Perm ops.size perm → i ≠ j → evDraw P sp T id n q (relabel perm i j ops) fr H K → iFirst i j ord = true → wpOps P ops Q ord a { w with drawn := w.drawn + 1 } := by
          intro perm i j q hp hij hev hf1
          have hs : Same ops perm (Array.replicate ops.size false) (Array.replicate (relabel perm i j ops).size false) := by
            have := same_start hp
            rw [relabel_size hp] at this ⊢
            exact this
          have hlg := legal_re hp hij ops.size ord _ _ hs (.inr hf1) hl
          refine ops_re hp (i := i) (j := j) ord (legal_lt _ _ _ hl) a _ ?_
          refine ih q (relabel perm i j ops) (fun d hd => hW d (relabel_dst hp hd)) hev _ ?_
          rw [relabel_size hp] at hlg ⊢
          exact hlg
        rcases first_or i j hne ord with hf1 | hf1
        · exact go _ i j _ (perm_range _) hne hA hf1
        · exact go _ j i _ (perm_of hb.1) (Ne.symm hne) hB hf1

theorem draw_sound (hsp : SpecsOk P sp) (hm : P.follows .mixedOrders = true) : DrawSound P sp := by
  intro T id ops fr H K E w a Q h hH hw hf hdf hq
  refine wp_region_draw fun t => ?_
  simp only [Region.schedule, hm, Bool.true_or, if_true]
  exact draw_all hsp hH hw hf hdf hq 4 1 ops (fun _ h => h) h _ (legal_go _ _ _)
end
end Go.Abs

/- A function, whole; and what may be left out of what it leaves. -/
namespace Go.Abs
open Go

section
variable {P : Program} {E : Env} {w : World} {sp : Specs}

theorem result_one (hw : RelW E w) {fr : List AVal} {a : Act} (hf : RelF E fr a) {r : ResultVar} {v : AVal} (h : resultA P fr E.H r = some v) :
    ∃ u, ((match r with | .tmp t => pure (a.tmps.getD t undef) | .cell p t => do loadVar t (← asAddr (a.tmps.getD p undef)) : Sem Value)).run P w = .ok u w ∧ RelV E v u := by
  cases r with
  | tmp t =>
    simp only [resultA, Option.some.injEq] at h; subst h
    exact ⟨_, rfl, eval_sound hf (.tmp t)⟩
  | cell p ty =>
    simp only [resultA] at h
    split at h
    · rename_i i d hi hd
      have hp := eval_sound hf (.tmp p)
      obtain ⟨u, w', E', h1, h2, h3, h4, h5⟩ := loadVar_sound hw hi hd hp h
      have hpt : ∃ q, a.eval (.tmp p) = .pointer (some q) := by
        have h := h
        unfold aLoad at h
        split at h
        · rename_i q hq
          have := hp
          simp only [evalA] at this
          rw [hq] at this
          simp only [RelG] at this
          obtain ⟨x, hx, _⟩ := this
          exact ⟨x, hx⟩
        · cases h
      obtain ⟨q, hq⟩ := hpt
      have hq' : a.tmps.getD p undef = .pointer (some q) := hq
      have hrun : (do loadVar ty (← asAddr (a.tmps.getD p undef)) : Sem Value).run P w = (Instr.loadAt ty (a.eval (.tmp p))).run P w := by
        rw [hq', hq]; simp [asAddr, Instr.loadAt, Instr.sureAddr]
      have hsame : w' = w ∧ RelV E v u := by
        have h := h
        have hp2 := hp
        unfold aLoad at h
        split at h
        · rename_i r hr
          simp only [evalA] at hp2
          rw [hr] at hp2
          simp only [RelG] at hp2
          obtain ⟨x, hx, hx1, hx2, hx3, hx4⟩ := hp2
          split at h
          · rename_i cs hrd
            obtain ⟨g1, g2, vs, g3, g4, g5, _⟩ := rd_sound hw hrd hx1
            have hadr := hx4 g2
            rw [hx] at h1
            cases hag : aggB d with
            | true =>
              simp only [hag, cond_true, Option.some.injEq] at h hrd g4
              subst h
              have hl := run_loadCells_of (P := P) (w := w) x _ _ hadr vs g5
              rw [g4] at hl
              simp [Instr.loadAt, Instr.sureAddr, loadVar, run_agg hd, hag, run_size hi, hl] at h1
              obtain ⟨rfl, rfl⟩ := h1
              exact ⟨rfl, by simp only [RelG]; exact ⟨vs, rfl, g3⟩⟩
            | false =>
              simp only [hag, cond_false] at h g4
              cases vs with
              | nil => simp at g4
              | cons y ys =>
                cases cs with
                | nil => simp at h
                | cons c cs =>
                  simp only [List.head?_cons, Option.some.injEq] at h
                  subst h
                  have hc := g5 0 y (by simp)
                  simp only [Nat.add_zero] at hc
                  rw [← hadr] at hc
                  simp [Instr.loadAt, Instr.sureAddr, loadVar, run_agg hd, hag, hc] at h1
                  obtain ⟨rfl, rfl⟩ := h1
                  exact ⟨rfl, (RelGL.cons_iff.1 g3).1⟩
          · cases h
        · cases h
      obtain ⟨rfl, hv⟩ := hsame
      exact ⟨u, by rw [← h1]; exact hrun, hv⟩
    · cases h

theorem results_list (hw : RelW E w) {fr : List AVal} {a : Act} (hf : RelF E fr a) : ∀ (rs : List ResultVar) {vs : List AVal}, resultsL P fr E.H rs = some vs →
    ∃ us : List Value, (rs.mapM (fun r => match r with | .tmp t => pure (a.tmps.getD t undef) | .cell p t => do loadVar t (← asAddr (a.tmps.getD p undef)) : ResultVar → Sem Value)).run P w = .ok us w ∧ RelL E vs us
  | [], vs, h => by
    simp only [resultsL, Option.some.injEq] at h; subst h
    exact ⟨[], by simp, RelGL.nil⟩
  | r :: rs, vs, h => by
    simp only [resultsL] at h
    split at h
    · rename_i v vs' h1 h2
      simp only [Option.some.injEq] at h; subst h
      obtain ⟨u, g1, g2⟩ := result_one (P := P) hw hf h1
      obtain ⟨us, g3, g4⟩ := results_list hw hf rs h2
      refine ⟨u :: us, ?_, RelGL.cons g2 g4⟩
      rw [List.mapM_cons]
      simp only [Sem.run_bind, g1, Result.andThen_ok, g3, Sem.run_pure]
    · cases h

theorem results_sound (hw : RelW E w) {fr : List AVal} {a : Act} (hf : RelF E fr a) {fn : Func} {v : AVal} (h : resultsA P fr E.H fn.results.toList = some v) :
    ∃ u, (results fn a.tmps).run P w = .ok u w ∧ RelV E v u := by
  unfold resultsA at h
  have main : ∀ vs, resultsL P fr E.H fn.results.toList = some vs → ∃ us : List Value, RelL E vs us ∧
      (results fn a.tmps).run P w = .ok (if h : us.toArray.size = 1 then us.toArray[0] else .tuple us.toArray) w := by
    intro vs hvs
    obtain ⟨us, g1, g2⟩ := results_list (P := P) hw hf fn.results.toList hvs
    refine ⟨us, g2, ?_⟩
    unfold results
    rw [Array.mapM_eq_mapM_toList]
    simp only [Sem.run_bind, Sem.run_map]
    refine (congrArg (fun z : Result (List Value) => (z.andThen fun a w' => Result.ok a.toArray w').andThen fun a w' => (pure (if h : a.size = 1 then a[0] else .tuple a) : Sem Value).run P w') g1).trans ?_
    simp
  split at h
  · rename_i v' hv
    simp only [Option.some.injEq] at h; subst h
    obtain ⟨us, g1, g2⟩ := main _ hv
    simp only [RelGL] at g1
    obtain ⟨u, us', rfl, g3, rfl⟩ := g1
    exact ⟨u, by rw [g2]; simp, g3⟩
  · rename_i vs hne hv
    simp only [Option.some.injEq] at h; subst h
    obtain ⟨us, g1, g2⟩ := main _ hv
    refine ⟨.tuple us.toArray, ?_, by simp only [RelG]; exact ⟨us, rfl, g1⟩⟩
    rw [g2]
    have hl := g1.length
    have : ¬ us.toArray.size = 1 := by
      intro e
      have : vs.length = 1 := by rw [hl]; simpa using e
      match vs, this with
      | [x], _ => exact hne x rfl
    rw [dif_neg this]
  · cases h

theorem frame0_rel {args : List AVal} {vs : List Value} (h : RelL E args vs) (n : Nat) : RelF E (frame0 args n) { tmps := vs.toArray ++ Array.replicate (n - vs.toArray.size) undef, defers := [] } := by
  unfold RelF frame0
  simp only [Array.toList_append, Array.toList_replicate, List.size_toArray]
  rw [← h.length]
  exact RelGL.append h (RelGL.replicate_undef _ _ (by simp))

theorem fn_calls (hsp : SpecsOk P sp) (hdr : DrawSound P sp) {T : Cuts} {f : FuncId} {fn : Func} (hf : P.funcs[f]? = some fn) {args : List AVal} {H : AHeap} {K : AVal → AHeap → Prop}
    (h : evFn P sp T fn args H K) {vs : List Value} (hH : E.H = H) (hw : RelW E w) (ha : RelL E args vs) :
    Calls P f vs.toArray w fun e w' => ∃ v r E', e = .returned v ∧ K r E'.H ∧ RelV E' r v ∧ RelW E' w' ∧ Ext E w E' w' := by
  unfold evFn at h
  split at h
  · rename_i c hc
    refine calls_of_wp hf hc (Code.wp_mono (fun e a' w' hp => ?_) (code_sound hsp hdr T c (frame0 args fn.ntmps) H _ E w _ h hH hw (frame0_rel ha fn.ntmps) rfl))
    obtain ⟨E', fr', e', rfl, hk, hw', hf', hd', hx, hag⟩ := hp
    obtain ⟨he, hk⟩ := hk
    split at hk
    · rename_i vs hvs
      rw [rvs_ok] at hvs
      obtain ⟨v, hv, hk⟩ : ∃ v, resultsA P fr' E'.H fn.results.toList = some v ∧ K v E'.H := by
        refine ⟨tup1 vs, ?_, hk⟩
        unfold resultsA
        rw [hvs]
        match vs with
        | [] => rfl
        | [x] => rfl
        | x :: y :: l => rfl
      obtain ⟨u, g1, g2⟩ := results_sound (P := P) hw' hf' hv
      rcases he with rfl | rfl
      · exact ⟨hd', u, g1, u, v, E', rfl, hk, g2, hw', hx⟩
      · exact ⟨hd', u, g1, u, v, E', rfl, hk, g2, hw', hx⟩
    · exact hk.elim
  · exact h.elim
end
end Go.Abs

/- What a function leaves, told with its rubbish left out. -/
namespace Go.Abs
open Go

mutual
/-- The one value is the other one, its places renamed. -/
def Ren (ρ σ : Nat → Nat) (n : Nat) : AVal → AVal → Prop
  | .ptr r, y => r.id < n ∧ y = .ptr ⟨ρ r.id, r.ver + σ r.id, r.off⟩
  | .slice r k c, y => r.id < n ∧ y = .slice ⟨ρ r.id, r.ver + σ r.id, r.off⟩ k c
  | .map i, y => i < n ∧ y = .map (ρ i)
  | .func fn f c, y => ∃ f' c', y = .func fn f' c' ∧ RenL ρ σ n f f' ∧ RenL ρ σ n c c'
  | .iface t x, y => ∃ x', y = .iface t x' ∧ Ren ρ σ n x x'
  | .agg cs, y => ∃ cs', y = .agg cs' ∧ RenL ρ σ n cs cs'
  | .tup cs, y => ∃ cs', y = .tup cs' ∧ RenL ρ σ n cs cs'
  | .undef, _ => True
  | .bool b, y => y = .bool b
  | .int k i, y => y = .int k i
  | .float k i, y => y = .float k i
  | .cplx k a b, y => y = .cplx k a b
  | .str s, y => y = .str s
  | .nilp, y => y = .nilp
  | .nils, y => y = .nils
  | .nilm, y => y = .nilm
  | .nilf, y => y = .nilf
  | .nili, y => y = .nili
def RenL (ρ σ : Nat → Nat) (n : Nat) : List AVal → List AVal → Prop
  | [], l => l = []
  | x :: xs, l => ∃ y ys, l = y :: ys ∧ Ren ρ σ n x y ∧ RenL ρ σ n xs ys
end

section
variable {RP RP' : Ref → Addr → Prop} {RS RS' : Ref → Nat → Cap → Addr → Nat → Prop} {RM RM' : Nat → Nat → Prop} {ρ σ : Nat → Nat} {n : Nat}
mutual
theorem Ren.rel (hp : ∀ r a, r.id < n → RP ⟨ρ r.id, r.ver + σ r.id, r.off⟩ a → RP' r a) (hs : ∀ r k c a m, r.id < n → RS ⟨ρ r.id, r.ver + σ r.id, r.off⟩ k c a m → RS' r k c a m) (hm : ∀ i b, i < n → RM (ρ i) b → RM' i b) :
    ∀ (x y : AVal) (v : Value), Ren ρ σ n x y → RelG RP RS RM y v → RelG RP' RS' RM' x v
  | .ptr r, _, _, h, h' => by
    simp only [Ren] at h; obtain ⟨h1, rfl⟩ := h
    simp only [RelG] at h' ⊢; obtain ⟨a, h2, h3⟩ := h'; exact ⟨a, h2, hp _ _ h1 h3⟩
  | .slice r k c, _, _, h, h' => by
    simp only [Ren] at h; obtain ⟨h1, rfl⟩ := h
    simp only [RelG] at h' ⊢; obtain ⟨a, m, h2, h3⟩ := h'; exact ⟨a, m, h2, hs _ _ _ _ _ h1 h3⟩
  | .map i, _, _, h, h' => by
    simp only [Ren] at h; obtain ⟨h1, rfl⟩ := h
    simp only [RelG] at h' ⊢; obtain ⟨a, h2, h3⟩ := h'; exact ⟨a, h2, hm _ _ h1 h3⟩
  | .func fn f c, _, _, h, h' => by
    simp only [Ren] at h; obtain ⟨f', c', rfl, h1, h2⟩ := h
    simp only [RelG] at h' ⊢; obtain ⟨f2, c2, h3, h4, h5⟩ := h'
    exact ⟨f2, c2, h3, RenL.rel hp hs hm f f' f2 h1 h4, RenL.rel hp hs hm c c' c2 h2 h5⟩
  | .iface t x, _, _, h, h' => by
    simp only [Ren] at h; obtain ⟨x', rfl, h1⟩ := h
    simp only [RelG] at h' ⊢; obtain ⟨y, h2, h3⟩ := h'; exact ⟨y, h2, Ren.rel hp hs hm x x' y h1 h3⟩
  | .agg cs, _, _, h, h' => by
    simp only [Ren] at h; obtain ⟨cs', rfl, h1⟩ := h
    simp only [RelG] at h' ⊢; obtain ⟨l, h2, h3⟩ := h'; exact ⟨l, h2, RenL.rel hp hs hm cs cs' l h1 h3⟩
  | .tup cs, _, _, h, h' => by
    simp only [Ren] at h; obtain ⟨cs', rfl, h1⟩ := h
    simp only [RelG] at h' ⊢; obtain ⟨l, h2, h3⟩ := h'; exact ⟨l, h2, RenL.rel hp hs hm cs cs' l h1 h3⟩
  | .undef, _, _, _, _ => by simp only [RelG]
  | .bool b, _, _, h, h' => by simp only [Ren] at h; subst h; simpa only [RelG] using h'
  | .int k i, _, _, h, h' => by simp only [Ren] at h; subst h; simpa only [RelG] using h'
  | .float k i, _, _, h, h' => by simp only [Ren] at h; subst h; simpa only [RelG] using h'
  | .cplx k a b, _, _, h, h' => by simp only [Ren] at h; subst h; simpa only [RelG] using h'
  | .str s, _, _, h, h' => by simp only [Ren] at h; subst h; simpa only [RelG] using h'
  | .nilp, _, _, h, h' => by simp only [Ren] at h; subst h; simpa only [RelG] using h'
  | .nils, _, _, h, h' => by simp only [Ren] at h; subst h; simpa only [RelG] using h'
  | .nilm, _, _, h, h' => by simp only [Ren] at h; subst h; simpa only [RelG] using h'
  | .nilf, _, _, h, h' => by simp only [Ren] at h; subst h; simpa only [RelG] using h'
  | .nili, _, _, h, h' => by simp only [Ren] at h; subst h; simpa only [RelG] using h'
theorem RenL.rel (hp : ∀ r a, r.id < n → RP ⟨ρ r.id, r.ver + σ r.id, r.off⟩ a → RP' r a) (hs : ∀ r k c a m, r.id < n → RS ⟨ρ r.id, r.ver + σ r.id, r.off⟩ k c a m → RS' r k c a m) (hm : ∀ i b, i < n → RM (ρ i) b → RM' i b) :
    ∀ (xs ys : List AVal) (l : List Value), RenL ρ σ n xs ys → RelGL RP RS RM ys l → RelGL RP' RS' RM' xs l
  | [], _, _, h, h' => by simp only [RenL] at h; subst h; simpa only [RelGL] using h'
  | x :: xs, _, _, h, h' => by
    simp only [RenL] at h; obtain ⟨y, ys, rfl, h1, h2⟩ := h
    simp only [RelGL] at h' ⊢; obtain ⟨v, vs, h3, h4, h5⟩ := h'
    exact ⟨v, vs, h3, Ren.rel hp hs hm x y v h1 h4, RenL.rel hp hs hm xs ys vs h2 h5⟩
end

theorem RenL.len : ∀ {xs ys : List AVal}, RenL ρ σ n xs ys → xs.length = ys.length
  | [], _, h => by simp only [RenL] at h; subst h; rfl
  | x :: xs, _, h => by
    simp only [RenL] at h; obtain ⟨y, ys, rfl, _, h2⟩ := h
    simp [RenL.len h2]
end

/-- No place in it. -/
def AVal.plain : AVal → Bool
  | .undef | .bool _ | .int _ _ | .float _ _ | .cplx _ _ _ | .str _ | .nilp | .nils | .nilm | .nilf | .nili => true
  | _ => false

theorem Ren.plain {ρ σ : Nat → Nat} {n : Nat} {x : AVal} (h : x.plain = true) : Ren ρ σ n x x := by
  cases x <;> simp only [AVal.plain] at h <;> first | (cases h; done) | simp only [Ren]

theorem RenL.plain {ρ σ : Nat → Nat} {n : Nat} : ∀ {l : List AVal}, (∀ x ∈ l, x.plain = true) → RenL ρ σ n l l
  | [], _ => by simp only [RenL]
  | x :: xs, h => by
    simp only [RenL]
    exact ⟨x, xs, rfl, Ren.plain (h x (List.mem_cons_self ..)), RenL.plain fun y hy => h y (List.mem_cons_of_mem _ hy)⟩

def RenObj (ρ σ : Nat → Nat) (n s : Nat) : AObj → AObj → Prop
  | .cells v kd cs, o => ∃ cs', o = .cells (v + s) kd cs' ∧ RenL ρ σ n cs cs'
  | .map v es, o => ∃ es', o = .map (v + s) es' ∧ RenL ρ σ n (es.map (·.1)) (es'.map (·.1)) ∧ RenL ρ σ n (es.map (·.2)) (es'.map (·.2))
  | _, _ => False

structure Ways (H : AHeap) (r1 : AVal) (H1 : AHeap) (r : AVal) (H' : AHeap) (ρ σ : Nat → Nat) : Prop where
  low : ∀ i, i < H.length → ρ i = i ∧ σ i = 0
  len : H.length ≤ H'.length
  high : ∀ i, H.length ≤ i → i < H'.length → H.length ≤ ρ i
  inj : ∀ i j, i < H'.length → j < H'.length → ρ i = ρ j → i = j
  obj : ∀ i, i < H'.length → (i < H.length ∧ H1[i]? = H[i]? ∧ H'[i]? = H[i]?) ∨ ∃ o o1, H'[i]? = some o ∧ H1[ρ i]? = some o1 ∧ RenObj ρ σ H'.length (σ i) o o1
  val : Ren ρ σ H'.length r r1

def Weak (H : AHeap) (r1 : AVal) (H1 : AHeap) (r : AVal) (H' : AHeap) : Prop := ∃ ρ σ, Ways H r1 H1 r H' ρ σ

section
variable {E E' : Env} {w w' : World}

/-- What an old object's places come to. -/
theorem RelObj.both {E F E2 : Env} {w wF : World} (c : ∀ i, i < F.H.length → E.S i → E2.m i = E.m i ∧ E2.sz i = E.sz i ∧ E2.S i ∧ i < E2.H.length ∧ verOf E2.H i = verOf E.H i ∧ opnAt E2.H i = opnAt E.H i ∧ isMapAt E2.H i = isMapAt E.H i ∧ verOf F.H i ≤ verOf E.H i)
    (l : F.H.length ≤ E.H.length) {i : Nat} {o : AObj} (hi : i < F.H.length) (hS : E.S i) (h : RelObj E w i o) (h' : RelObj F wF i o) : RelObj E2 w i o := by
  have cref : ∀ r a a', RelRef E r a → RelRef F r a' → RelRef E2 r a := by
    intro r a a' ⟨h1, h2, h3, h4⟩ ⟨_, k2, _, _⟩
    obtain ⟨c1, c2, c3, c4, c5, c6, c7, c8⟩ := c r.id k2 h1
    exact ⟨c3, c4, by rw [c5]; exact h3, fun e => by rw [c1]; exact h4 (by rw [← c5]; exact e)⟩
  have csl : ∀ r n cp a k a' k', RelSl E r n cp a k → RelSl F r n cp a' k' → RelSl E2 r n cp a k := by
    intro r n cp a k a' k' ⟨h1, h2, h3, h4⟩ ⟨_, k2, _, _⟩
    obtain ⟨c1, c2, c3, c4, c5, c6, c7, c8⟩ := c r.id k2 h1
    refine ⟨c3, c4, by rw [c5]; exact h3, fun e => ?_⟩
    have h5 := h4 (by rw [← c5]; exact e)
    cases cp with
    | ex q => simp only [c1] at h5 ⊢; exact h5
    | op es => simp only [c1, c2, c6] at h5 ⊢; exact h5
  have cmp : ∀ i b b', RelMp E i b → RelMp F i b' → RelMp E2 i b := by
    intro i b b' ⟨h1, h2, h3, h4⟩ ⟨_, k2, _, _⟩
    obtain ⟨c1, c2, c3, c4, c5, c6, c7, c8⟩ := c i k2 h1
    exact ⟨c3, c4, by rw [c7]; exact h3, by rw [c1]; exact h4⟩
  have cl : ∀ {xs : List AVal} {v v' : List Value}, RelL E xs v → RelL F xs v' → RelL E2 xs v := fun {xs v v'} h h' => RelGL.both cref csl cmp xs v v' h h'
  obtain ⟨m1, m2, _⟩ := c i hi hS
  cases o with
  | cells v kd cs =>
    obtain ⟨c, e, fz, h1, h2, h3, h4, h5, h6⟩ := h
    obtain ⟨c', e', fz', _, _, k3, _⟩ := h'
    exact ⟨c, e, fz, by rw [m1]; exact h1, by rw [m2]; exact h2, cl h3 k3, h4, h5, h6⟩
  | map v es =>
    obtain ⟨ents, clock, h1, h2, h3, h4⟩ := h
    obtain ⟨ents', clock', _, _, k3, k4⟩ := h'
    exact ⟨ents, clock, by rw [m1]; exact h1, h2, cl h3 k3, cl h4 k4⟩
  | strIter s pos => show _ = _; rw [m1]; exact h
  | mapIter mp left cur =>
    cases mp with
    | none =>
      obtain ⟨h0, a, b, d, h1⟩ := h
      exact ⟨h0, a, b, d, by rw [m1]; exact h1⟩
    | some jv =>
      obtain ⟨j, v⟩ := jv
      obtain ⟨h1, h2, h3, h4, since, seen, h5, h6⟩ := h
      obtain ⟨_, k2, _, k4, _, _, _, k6⟩ := h'
      obtain ⟨c1, c2, c3, c4, c5, c6, c7, c8⟩ := c j k2 h1
      refine ⟨c3, c4, by rw [c7]; exact h3, by rw [c5]; exact h4, since, seen, by rw [m1, c1]; exact h5, fun e => ?_⟩
      rw [c5] at e
      obtain ⟨ents, g1, g2, g3, g4, g5⟩ := h6 e
      obtain ⟨ents', _, _, f3, f4, f5⟩ := k6 (by omega)
      refine ⟨ents, by rw [c1]; exact g1, g2, cl g3 f3, cl g4 f4, ?_⟩
      cases cur with
      | none => trivial
      | some c =>
        obtain ⟨e, m1, m2, m3, m4⟩ := g5
        obtain ⟨e', _, _, n3, n4⟩ := f5
        exact ⟨e, m1, m2, RelG.both cref csl cmp _ _ _ m3 n3, RelG.both cref csl cmp _ _ _ m4 n4⟩

theorem weak_ok {H' : AHeap} {r r1 : AVal} {u : Value} (hw : RelW E w) (hw' : RelW E' w') (x : Ext E w E' w') (k : Weak E.H r1 E'.H r H') (hv : RelV E' r1 u) :
    ∃ E2, RelV E2 r u ∧ RelW E2 w' ∧ E2.H = H' ∧ Ext E w E2 w' := by
  obtain ⟨ρ, σ, k⟩ := k
  let E2 : Env := ⟨fun i => E'.m (ρ i), fun i => E'.sz (ρ i), fun i => E'.S (ρ i) ∧ i < H'.length, H'⟩
  -- an object and what it was
  have ob : ∀ i, i < H'.length → ρ i < E'.H.length ∧ verOf E'.H (ρ i) = verOf H' i + σ i ∧ opnAt E'.H (ρ i) = opnAt H' i ∧ isMapAt E'.H (ρ i) = isMapAt H' i ∧ ownAt E'.H (ρ i) = ownAt H' i := by
    intro i hi
    rcases k.obj i hi with ⟨h1, h2, h3⟩ | ⟨o, o1, h1, h2, h3⟩
    · obtain ⟨e1, e2⟩ := k.low i h1
      rw [e1, e2]
      have e : E'.H[i]? = H'[i]? := h2.trans h3.symm
      refine ⟨lt_of_some (h2.trans (List.getElem?_eq_getElem h1)), ?_, ?_, ?_, ?_⟩
      · simp only [verOf, e, Nat.add_zero]
      · simp only [opnAt, e]
      · unfold isMapAt; rw [e]
      · simp only [ownAt, e]
    · refine ⟨lt_of_some h2, ?_⟩
      rw [verOf_some h1, verOf_some h2, opnAt_some h1, opnAt_some h2, isMapAt_some h1, isMapAt_some h2, ownAt_some h1, ownAt_some h2]
      cases o with
      | cells v kd cs =>
        obtain ⟨cs', rfl, _⟩ := h3
        cases kd <;> exact ⟨rfl, rfl, rfl, rfl⟩
      | map v es => obtain ⟨es', rfl, _⟩ := h3; exact ⟨rfl, rfl, rfl, rfl⟩
      | strIter s p => exact h3.elim
      | mapIter mp l cur => exact h3.elim
  have low : ∀ i, i < E.H.length → ρ i = i ∧ verOf E'.H i = verOf H' i ∧ opnAt E'.H i = opnAt H' i ∧ isMapAt E'.H i = isMapAt H' i ∧ ownAt E'.H i = ownAt H' i := by
    intro i hi
    obtain ⟨e1, e2⟩ := k.low i hi
    obtain ⟨_, o2, o3, o4, o5⟩ := ob i (Nat.lt_of_lt_of_le hi k.len)
    rw [e1] at o2 o3 o4 o5
    rw [e2] at o2
    exact ⟨e1, o2, o3, o4, o5⟩
  have hp : ∀ r a, r.id < H'.length → RelRef E' ⟨ρ r.id, r.ver + σ r.id, r.off⟩ a → RelRef E2 r a := by
    intro r a hi ⟨h1, h2, h3, h4⟩
    obtain ⟨_, o2, _⟩ := ob r.id hi
    simp only at h1 h2 h3 h4
    rw [o2] at h3 h4
    exact ⟨⟨h1, hi⟩, hi, Nat.le_of_add_le_add_right h3, fun e => h4 (by have e : r.ver = verOf H' r.id := e
                                                                        rw [e])⟩
  have hs : ∀ r n c a m, r.id < H'.length → RelSl E' ⟨ρ r.id, r.ver + σ r.id, r.off⟩ n c a m → RelSl E2 r n c a m := by
    intro r n c a m hi ⟨h1, h2, h3, h4⟩
    obtain ⟨_, o2, o3, _⟩ := ob r.id hi
    simp only at h1 h2 h3 h4
    rw [o2] at h3 h4
    rw [o3] at h4
    exact ⟨⟨h1, hi⟩, hi, Nat.le_of_add_le_add_right h3, fun e => h4 (by have e : r.ver = verOf H' r.id := e
                                                                        rw [e])⟩
  have hm : ∀ i b, i < H'.length → RelMp E' (ρ i) b → RelMp E2 i b := by
    intro i b hi ⟨h1, h2, h3, h4⟩
    obtain ⟨_, _, _, o4, _⟩ := ob i hi
    exact ⟨⟨h1, hi⟩, hi, by rw [o4] at h3; exact h3, h4⟩
  have rl : ∀ {xs ys : List AVal} {l : List Value}, RenL ρ σ H'.length xs ys → RelL E' ys l → RelL E2 xs l := fun {xs ys l} h h' => RenL.rel hp hs hm xs ys l h h'
  refine ⟨E2, Ren.rel hp hs hm r r1 u k.val hv, ⟨fun i o hi ho => ?_, fun i j hi hj hil hjl how hne => ?_⟩, rfl, ⟨⟨⟨k.len, fun i hi hS => ?_, fun i hi hS hmp => ?_, fun i hi hS hvv => ?_, fun i hi hS => ?_⟩,
    fun i hi hS => ?_, fun i hi hS => ?_, x.tape, x.os, x.output, x.size, x.frame⟩, fun i hS hi => ?_, fun i h1 h2 => ?_⟩⟩
  · have ho : H'[i]? = some o := ho
    rcases k.obj i hi.2 with ⟨h1, h2, h3⟩ | ⟨o', o1, h1, h2, h3⟩
    · obtain ⟨e1, _⟩ := k.low i h1
      have hSi : E'.S i := by have := hi.1; rw [e1] at this; exact this
      have hSE : E.S i := by
        rcases x.news i hSi (Nat.lt_of_lt_of_le h1 x.len) with ⟨_, q⟩ | q
        · exact q
        · omega
      have g1 := hw'.obj i o hSi (by rw [h2, ← h3]; exact ho)
      have g2 := hw.obj i o hSE (by rw [← h3]; exact ho)
      refine RelObj.both (E := E') (F := E) (E2 := E2) (fun q hq hSq => ?_) x.len h1 hSi g1 g2
      obtain ⟨l1, l2, l3, l4, l5⟩ := low q hq
      have hSEq : E.S q := by
        rcases x.news q hSq (Nat.lt_of_lt_of_le hq x.len) with ⟨_, q⟩ | q
        · exact q
        · omega
      refine ⟨by show E'.m (ρ q) = _; rw [l1], by show E'.sz (ρ q) = _; rw [l1], ⟨by rw [l1]; exact hSq, Nat.lt_of_lt_of_le hq k.len⟩, Nat.lt_of_lt_of_le hq k.len, l2.symm, l3.symm, l4.symm, x.ver q hq hSEq⟩
    · rw [ho] at h1; cases h1
      have g1 := hw'.obj (ρ i) o1 hi.1 h2
      cases o with
      | cells v kd cs =>
        obtain ⟨cs', rfl, hr⟩ := h3
        obtain ⟨c, e, fz, q1, q2, q3, q4, q5, q6⟩ := g1
        rw [← RenL.len hr] at q3 q4 q5
        exact ⟨c, e, fz, q1, q2, rl hr q3, q4, q5, q6⟩
      | map v es =>
        obtain ⟨es', rfl, hr1, hr2⟩ := h3
        obtain ⟨ents, clock, q1, q2, q3, q4⟩ := g1
        exact ⟨ents, clock, q1, q2, rl hr1 q3, rl hr2 q4⟩
      | strIter s p => exact h3.elim
      | mapIter mp l cur => exact h3.elim
  · obtain ⟨o1, _, _, _, o5⟩ := ob i hi.2
    obtain ⟨p1, _⟩ := ob j hj.2
    exact hw'.inj (ρ i) (ρ j) hi.1 hj.1 o1 p1 (by rw [o5]; exact how) fun e => hne (k.inj i j hi.2 hj.2 e)
  · obtain ⟨_, l2, _⟩ := low i hi
    show verOf E.H i ≤ verOf H' i
    rw [← l2]; exact x.ver i hi hS
  · obtain ⟨l1, l2, _, l4, _⟩ := low i hi
    obtain ⟨q1, q2, q3⟩ := x.mp i hi hS hmp
    exact ⟨by show isMapAt H' i = true; rw [← l4]; exact q1, by show E'.m (ρ i) = _; rw [l1]; exact q2, fun e => q3 (by rw [l2]; exact e)⟩
  · obtain ⟨l1, l2, l3, _⟩ := low i hi
    obtain ⟨q1, q2, q3⟩ := x.same i hi hS (by rw [l2]; exact hvv)
    exact ⟨by show E'.m (ρ i) = _; rw [l1]; exact q1, by show E'.sz (ρ i) = _; rw [l1]; exact q2, fun e => q3 (by rw [l3]; exact e)⟩
  · exact ⟨by rw [(low i hi).1]; exact x.S i hi hS, Nat.lt_of_lt_of_le hi k.len⟩
  · obtain ⟨_, _, _, _, l5⟩ := low i hi
    show ownAt H' i = _
    rw [← l5]; exact x.own i hi hS
  · obtain ⟨o1, _⟩ := ob i hi
    rcases x.fresh (ρ i) o1 hS.1 with ⟨q1, q2, q3⟩ | q
    · by_cases hlo : i < E.H.length
      · have l1 := (low i hlo).1
        rw [l1] at q1 q2 q3
        exact .inl ⟨q1, q2, by show E'.m (ρ i) = _; rw [l1]; exact q3⟩
      · have := k.high i (by omega) hi
        omega
    · exact .inr q
  · by_cases hlo : i < E.H.length
    · left
      refine ⟨hlo, ?_⟩
      have h1 := hS.1
      rw [(low i hlo).1] at h1
      rcases x.news i h1 (Nat.lt_of_lt_of_le hlo x.len) with ⟨_, q⟩ | q
      · exact q
      · omega
    · right; omega
  · exact ⟨x.full (ρ i) (k.high i h1 h2) (ob i h2).1, h2⟩

/-- A function whose code comes to what is told. -/
theorem fn_ok {P : Program} {sp : Specs} (hsp : SpecsOk P sp) (hm : P.follows .mixedOrders = true) {T : Cuts} {f : FuncId} {fn : Func} {g : Spec} (hf : P.funcs[f]? = some fn)
    (he : ∀ (args : Array Value) (w : World), (callFunc f args).run P w = .ok (.enter f args) w)
    (h : ∀ args H r H', g args H r H' → evFn P sp T fn args H fun r1 H1 => Weak H r1 H1 r H') : FnOk P f g where
  enters := he
  does args H r H' hg E w vs hH hw ha := by
    refine Calls.mono (fn_calls hsp (draw_sound hsp hm) hf (h args H r H' hg) hH hw ha) ?_
    rintro e w' ⟨v, r1, E', rfl, hk, hv, hw', hx⟩
    subst hH
    obtain ⟨E2, k1, k2, k3, k4⟩ := weak_ok hw hw' hx hk hv
    exact ⟨v, E2, rfl, k1, k2, k3, k4⟩
end
end Go.Abs
