/- The evaluator is sound, but for regions that draw their order. -/
import Derived.Test.YtgcjchcmnlifmaaAbs16
import Derived.Tactics
namespace Go.Abs
open Go

def AExit.toExit : AExit → Exit
  | .normal => .normal
  | .exit id => .exit id
  | .goto l => .goto l
  | .ret => .ret

structure Agree (W : List Nat) (fr fr' : List AVal) : Prop where
  len : fr'.length = fr.length
  same : ∀ i, i ∉ W → fr'.getD i .undef = fr.getD i .undef

theorem Agree.refl (W : List Nat) (fr : List AVal) : Agree W fr fr := ⟨rfl, fun _ _ => rfl⟩
theorem Agree.trans {W : List Nat} {a b c : List AVal} (h : Agree W a b) (k : Agree W b c) : Agree W a c :=
  ⟨k.len.trans h.len, fun i hi => (k.same i hi).trans (h.same i hi)⟩
theorem Agree.mono {W W' : List Nat} {a b : List AVal} (h : Agree W a b) (hs : ∀ i, i ∈ W → i ∈ W') : Agree W' a b :=
  ⟨h.len, fun i hi => h.same i fun x => hi (hs i x)⟩

theorem getD_set_ne {l : List AVal} {i j : Nat} {v : AVal} (h : i ≠ j) : (l.set i v).getD j .undef = l.getD j .undef := by
  simp [List.getD, List.getElem?_set_ne h]
theorem getD_set_eq {l : List AVal} {i : Nat} {v : AVal} (h : i < l.length) : (l.set i v).getD i .undef = v := by
  simp [List.getD, h]

theorem Agree.put {W : List Nat} (fr : List AVal) (dst : Option Tmp) (v : AVal) (h : ∀ d, dst = some d → d ∈ W) : Agree W fr (putA fr dst v) := by
  cases dst with
  | none => exact Agree.refl _ _
  | some d =>
    refine ⟨by simp [putA], fun i hi => ?_⟩
    have : d ≠ i := fun e => hi (e ▸ h d rfl)
    exact getD_set_ne this

section
variable {P : Program} {E : Env} {w : World} {sp : Specs}

theorem RelF.put {fr : List AVal} {a : Act} (h : RelF E fr a) (dst : Option Tmp) {v : AVal} {u : Value} (hv : RelV E v u) : RelF E (putA fr dst v) (a.put dst u) := by
  cases dst with
  | none => exact h
  | some d =>
    unfold RelF putA Act.put
    simp only [Array.toList_setIfInBounds]
    exact RelGL.set h d hv

theorem RelF.ext {E' : Env} {w' : World} (x : Ext E w E' w') {fr : List AVal} {a : Act} (h : RelF E fr a) : RelF E' fr a := RelL.ext x h

theorem RelF.bool {fr : List AVal} {a : Act} (h : RelF E fr a) {t : Nat} {b : Bool} (ht : fr.getD t .undef = .bool b) : a.tmps[t]? = some (.bool b) := by
  have hx : fr[t]? = some (.bool b) := by
    cases hf : fr[t]? with
    | none => simp [List.getD, hf] at ht
    | some x => simp [List.getD, hf] at ht; rw [ht]
  obtain ⟨y, hy, hr⟩ := RelGL.get h hx
  simp only [RelG] at hr; subst hr
  simpa using hy

theorem set_same {fr : List AVal} {t : Nat} {b : Bool} (ht : fr.getD t .undef = .bool b) : fr.set t (.bool b) = fr := by
  have hx : fr[t]? = some (.bool b) := by
    cases hf : fr[t]? with
    | none => simp [List.getD, hf] at ht
    | some x => simp [List.getD, hf] at ht; rw [ht]
  obtain ⟨h1, h2⟩ := List.getElem?_eq_some_iff.1 hx
  rw [← h2]; exact List.set_getElem_self h1

theorem wanted_guard {ops : Array Oper} {o : Oper} {fr : List AVal} {a : Act} (h : RelF E fr a) {t : Nat} {want b : Bool} (hg : guardSlot ops o = some (some (t, want)))
    (ht : fr.getD t .undef = .bool b) : Region.wanted o (yielded ops a.tmps) = (b == want) := by
  unfold guardSlot at hg
  split at hg
  · cases hg
  · rename_i j w' hgo
    split at hg
    · rename_i t' ht'
      simp only [Option.some.injEq, Prod.mk.injEq] at hg
      obtain ⟨rfl, rfl⟩ := hg
      simp only [Region.wanted, hgo, yielded, ht', Option.bind_some, h.bool ht]
      cases b <;> cases w' <;> rfl
    · cases hg

theorem wanted_none {ops : Array Oper} {o : Oper} (hg : guardSlot ops o = some none) (y : Nat → Option Bool) : Region.wanted o y = true := by
  unfold guardSlot at hg
  split at hg
  · rename_i h; simp [Region.wanted, h]
  · split at hg <;> cases hg

/-- The operations of a region in the order of the text. -/
theorem ops_sound (hsp : SpecsOk P sp) {ops : Array Oper} {Q : Exit → Act → World → Prop} (W : List Nat) :
    ∀ (l : List Oper) (fr : List AVal) (H : AHeap) (K : List AVal → AHeap → Prop) (E : Env) (w : World) (a : Act), evOps P sp ops l fr H K → E.H = H → RelW E w → RelF E fr a → a.defers = [] →
      (∀ o ∈ l, ∀ d, o.dst = some d → d ∈ W) →
      (∀ E' fr' a' w', K fr' E'.H → RelW E' w' → RelF E' fr' a' → a'.defers = [] → Ext E w E' w' → Agree W fr fr' → Q .normal a' w') → wpList P ops Q l a w
  | [], fr, H, K, E, w, a, h, hH, hw, hf, hd, _, hq => by
    subst hH
    exact hq E fr a w h hw hf hd (Ext.refl _ _) (Agree.refl _ _)
  | o :: rest, fr, H, K, E, w, a, h, hH, hw, hf, hd, hW, hq => by
    have hWr : ∀ o ∈ rest, ∀ d, o.dst = some d → d ∈ W := fun o' ho' => hW o' (List.mem_cons_of_mem _ ho')
    have hWo : ∀ d, o.dst = some d → d ∈ W := hW o (List.mem_cons_self ..)
    have step : ∀ fr0, fr0 = fr → stepA P sp o fr0 H (fun fr H => evOps P sp ops rest fr H K) → o.wp P a w (wpList P ops Q rest) Q := by
      intro fr0 h0 hs
      subst h0
      obtain ⟨v, H1, ho, hs⟩ := stepA_some hs
      · refine Oper.wp_mono (K := After E w a o.dst v H1) (fun a' w' ha => ?_) (op_sound hsp ho hH hw hf Q)
        obtain ⟨u, E', rfl, h1, h2, h3, h4⟩ := ha
        refine ops_sound hsp W rest _ H1 K E' w' _ hs h3 h2 (RelF.put (RelF.ext h4 hf) o.dst h1) (by cases o.dst <;> simpa [Act.put] using hd) hWr fun E'' fr'' a'' w'' hk hw'' hf'' hd'' hx hag => ?_
        exact hq E'' fr'' a'' w'' hk hw'' hf'' hd'' (h4.trans hx) ((Agree.put fr0 o.dst v hWo).trans hag)
    have skipO : ∀ fr0, fr0 = fr → evOps P sp ops rest (putA fr0 o.dst .undef) H K → wpList P ops Q rest (a.put o.dst undef) w := by
      intro fr0 h0 hs
      subst h0
      refine ops_sound hsp W rest _ H K E w _ hs hH hw (RelF.put hf o.dst (by simp only [RelG])) (by cases o.dst <;> simpa [Act.put] using hd) hWr fun E'' fr'' a'' w'' hk hw'' hf'' hd'' hx hag => ?_
      exact hq E'' fr'' a'' w'' hk hw'' hf'' hd'' hx ((Agree.put fr0 o.dst .undef hWo).trans hag)
    unfold evOps at h
    unfold wpList
    split at h
    · exact h.elim
    · rename_i hg
      rw [if_pos (wanted_none hg _)]
      exact .inl (step fr rfl h)
    · rename_i t want hg
      obtain ⟨b, hb, h⟩ := isB_some h
      rw [wanted_guard hf hg hb]
      cases b <;> cases want <;> simp only [cond_true, cond_false] at h <;> rw [set_same hb] at h
      · rw [if_pos (by rfl)]; exact .inl (step fr rfl h)
      · rw [if_neg (by decide)]; exact skipO fr rfl h
      · rw [if_neg (by decide)]; exact skipO fr rfl h
      · rw [if_pos (by rfl)]; exact .inl (step fr rfl h)

/-- What stands behind a piece of code. -/
def Post (E : Env) (w : World) (W : List Nat) (fr : List AVal) (K : AExit → List AVal → AHeap → Prop) : Exit → Act → World → Prop :=
  fun e a' w' => ∃ E' fr' e', e = AExit.toExit e' ∧ K e' fr' E'.H ∧ RelW E' w' ∧ RelF E' fr' a' ∧ a'.defers = [] ∧ Ext E w E' w' ∧ Agree W fr fr'

theorem wipe_len (W : List Nat) (fr : List AVal) : (wipe W fr).length = fr.length := by
  unfold wipe
  induction W generalizing fr with
  | nil => rfl
  | cons i W ih => simp only [List.foldl_cons]; rw [ih]; simp
theorem wipe_out (W : List Nat) (fr : List AVal) {i : Nat} (h : i ∉ W) : (wipe W fr).getD i .undef = fr.getD i .undef := by
  unfold wipe
  induction W generalizing fr with
  | nil => rfl
  | cons j W ih =>
    simp only [List.mem_cons, not_or] at h
    simp only [List.foldl_cons]
    rw [ih _ h.2, getD_set_ne (Ne.symm h.1)]
theorem wipe_in (W : List Nat) (fr : List AVal) {i : Nat} (h : i ∈ W) : (wipe W fr).getD i .undef = .undef := by
  unfold wipe
  induction W generalizing fr with
  | nil => simp at h
  | cons j W ih =>
    simp only [List.foldl_cons]
    by_cases hw : i ∈ W
    · exact ih _ hw
    · have : i = j := by simpa [hw] using h
      subst this
      have := wipe_out W (fr.set i .undef) hw
      unfold wipe at this
      rw [this]
      by_cases hl : i < fr.length
      · exact getD_set_eq hl
      · simp [List.getD, List.getElem?_eq_none (show (fr.set i AVal.undef).length ≤ i by simp; omega)]

theorem lay_len : ∀ (is : List Nat) (k : Nat) (vs fr : List AVal), (laySlots is k vs fr).length = fr.length
  | [], _, _, _ => rfl
  | i :: is, k, vs, fr => by simp only [laySlots]; rw [lay_len]; simp
theorem lay_get (g : Nat → AVal) : ∀ (is : List Nat) (k : Nat) (vs fr : List AVal), (∀ j i, is[j]? = some i → vs.getD (k + j) .undef = g i) → ∀ i,
    (laySlots is k vs fr).getD i .undef = if i ∈ is ∧ i < fr.length then g i else fr.getD i .undef
  | [], _, _, _, _, i => by simp [laySlots]
  | j :: is, k, vs, fr, hg, i => by
    simp only [laySlots]
    rw [lay_get g is (k + 1) vs _ (fun m i' hm => by have := hg (m + 1) i' (by simpa using hm); rwa [show k + (m + 1) = k + 1 + m by omega] at this)]
    have h0 : vs.getD k .undef = g j := by simpa using hg 0 j (by simp)
    simp only [List.length_set, List.mem_cons]
    by_cases hi : i < fr.length
    · by_cases hm : i ∈ is
      · simp [hm, hi]
      · by_cases hj : i = j
        · subst hj; rw [if_neg (by simp [hm]), if_pos (by simp [hi]), getD_set_eq hi, h0]
        · rw [if_neg (by simp [hm]), if_neg (by simp [hm, hj]), getD_set_ne (Ne.symm hj)]
    · simp [hi, List.getElem?_eq_none (Nat.le_of_not_lt hi), List.getElem?_eq_none (show (fr.set j (vs.getD k .undef)).length ≤ i by simp; omega)]

theorem lay_pick (is : List Nat) (fr' base : List AVal) (i : Nat) :
    (laySlots is 0 (pickSlots is fr') base).getD i .undef = if i ∈ is ∧ i < base.length then fr'.getD i .undef else base.getD i .undef := by
  refine lay_get (fun i => fr'.getD i .undef) is 0 _ base (fun j i hj => ?_) i
  simp [pickSlots, List.getD, hj]

theorem RelF.of_get {fr : List AVal} {a : Act} (hl : fr.length = a.tmps.size) (h : ∀ i, RelV E (fr.getD i .undef) (a.tmps.toList.getD i undef)) : RelF E fr a := by
  unfold RelF
  have key : ∀ (xs : List AVal) (ys : List Value), xs.length = ys.length → (∀ i, RelV E (xs.getD i .undef) (ys.getD i undef)) → RelL E xs ys := by
    intro xs
    induction xs with
    | nil => intro ys hl _; cases ys with | nil => exact RelGL.nil | cons _ _ => simp at hl
    | cons x xs ih =>
      intro ys hl hh
      cases ys with
      | nil => simp at hl
      | cons y ys =>
        refine RelGL.cons (by simpa using hh 0) (ih ys (by simpa using hl) fun i => by simpa using hh (i + 1))
  exact key _ _ (by simpa using hl) h

theorem RelF.len {fr : List AVal} {a : Act} (h : RelF E fr a) : fr.length = a.tmps.size := by simpa using RelGL.length h
theorem RelF.get {fr : List AVal} {a : Act} (h : RelF E fr a) (i : Nat) : RelV E (fr.getD i .undef) (a.tmps.toList.getD i undef) := RelGL.getD h i undef

theorem onExits_of {e : AExit} {K : AExit → Prop} : ∀ {l : List AExit}, onExits e K l → K e
  | [], h => h.elim
  | x :: l, h => by
    unfold onExits onE at h
    split at h
    · rename_i he; subst he; exact h
    · exact onExits_of h

/-- A frame rebuilt out of what was kept of it. -/
theorem rebuilt {W is : List Nat} {fr head fr' : List AVal} {a : Act} (hf : RelF E fr' a) (hag : Agree W head fr') (hlen : head.length = fr.length) (hh : ∀ i, i ∉ W → head.getD i .undef = fr.getD i .undef) :
    RelF E (laySlots is 0 (pickSlots is fr') (wipe W fr)) a ∧ (∀ i, i ∉ W → (laySlots is 0 (pickSlots is fr') (wipe W fr)).getD i .undef = fr.getD i .undef) ∧ (laySlots is 0 (pickSlots is fr') (wipe W fr)).length = fr.length := by
  have hl : (laySlots is 0 (pickSlots is fr') (wipe W fr)).length = fr.length := by rw [lay_len, wipe_len]
  refine ⟨RelF.of_get (by rw [hl, ← hlen, ← hag.len, hf.len]) fun i => ?_, fun i hi => ?_, hl⟩
  · rw [lay_pick]
    split
    · exact hf.get i
    · by_cases hi : i ∈ W
      · rw [wipe_in W fr hi]; simp only [RelG]
      · rw [wipe_out W fr hi, ← hh i hi, ← hag.same i hi]; exact hf.get i
  · rw [lay_pick]
    split
    · rw [hag.same i hi, hh i hi]
    · exact wipe_out W fr hi

def DrawSound (P : Program) (sp : Specs) : Prop :=
  ∀ (id : Nat) (ops : Array Oper) (fr : List AVal) (H : AHeap) (K : List AVal → AHeap → Prop) (E : Env) (w : World) (a : Act) (Q : Exit → Act → World → Prop),
    drawOk P sp ops = true → evOps P sp ops ops.toList fr H K → E.H = H → RelW E w → RelF E fr a → a.defers = [] →
    (∀ E' fr' a' w', K fr' E'.H → RelW E' w' → RelF E' fr' a' → a'.defers = [] → Ext E w E' w' → Agree (ops.toList.filterMap (·.dst)) fr fr' → Q .normal a' w') →
    (Code.region id ops true).wp P Q a w

theorem code_sound (hsp : SpecsOk P sp) (hdr : DrawSound P sp) (T : Cuts) : ∀ (c : Code) (fr : List AVal) (H : AHeap) (K : AExit → List AVal → AHeap → Prop) (E : Env) (w : World) (a : Act), evC P sp T c fr H K → E.H = H → RelW E w → RelF E fr a → a.defers = [] →
    c.wp P (Post E w (writesOf c) fr K) a w
  | .skip, fr, H, K, E, w, a, h, hH, hw, hf, hd => by
    subst hH
    exact wp_skip ⟨E, fr, .normal, rfl, h, hw, hf, hd, Ext.refl _ _, Agree.refl _ _⟩
  | .label l, fr, H, K, E, w, a, h, hH, hw, hf, hd => by
    subst hH
    exact wp_label ⟨E, fr, .normal, rfl, h, hw, hf, hd, Ext.refl _ _, Agree.refl _ _⟩
  | .exit id, fr, H, K, E, w, a, h, hH, hw, hf, hd => by
    subst hH
    exact wp_exit ⟨E, fr, .exit id, rfl, h, hw, hf, hd, Ext.refl _ _, Agree.refl _ _⟩
  | .goto l, fr, H, K, E, w, a, h, hH, hw, hf, hd => by
    subst hH
    exact wp_goto ⟨E, fr, .goto l, rfl, h, hw, hf, hd, Ext.refl _ _, Agree.refl _ _⟩
  | .ret, fr, H, K, E, w, a, h, hH, hw, hf, hd => by
    subst hH
    exact wp_ret ⟨E, fr, .ret, rfl, h, hw, hf, hd, Ext.refl _ _, Agree.refl _ _⟩
  | .region id ops draw, fr, H, K, E, w, a, h, hH, hw, hf, hd => by
    have reg : ∀ K0 : List AVal → AHeap → Prop, cond (draw && !drawOk P sp ops) False (evOps P sp ops ops.toList fr H K0) →
        (Code.region id ops draw).wp P (Post E w (writesOf (.region id ops draw)) fr fun e fr H => e = .normal ∧ K0 fr H) a w := by
      intro K0 h
      cases draw with
      | false =>
        simp only [Bool.false_and, cond_false] at h
        refine wp_region_list (ops_sound hsp (writesOf (.region id ops false)) ops.toList fr H _ E w a h hH hw hf hd (fun o ho d hod => ?_) fun E' fr' a' w' hk hw' hf' hd' hx hag => ⟨E', fr', .normal, rfl, ⟨rfl, hk⟩, hw', hf', hd', hx, hag⟩)
        exact List.mem_filterMap.2 ⟨o, ho, hod⟩
      | true =>
        simp only [Bool.true_and] at h
        cases hdo : drawOk P sp ops with
        | false => rw [hdo] at h; exact h.elim
        | true =>
          rw [hdo] at h
          simp only [Bool.not_true, cond_false] at h
          exact hdr id ops fr H _ E w a _ hdo h hH hw hf hd fun E' fr' a' w' hk hw' hf' hd' hx hag => ⟨E', fr', .normal, rfl, ⟨rfl, hk⟩, hw', hf', hd', hx, hag⟩
    unfold evC at h
    split at h
    · refine Code.wp_mono (fun e a' w' hp => ?_) (reg _ h)
      obtain ⟨E', fr', e', rfl, ⟨rfl, hk⟩, hw', hf', hd', hx, hag⟩ := hp
      exact ⟨E', fr', .normal, rfl, hk, hw', hf', hd', hx, hag⟩
    · rename_i cut _
      obtain ⟨Q, h, hQ⟩ := h
      refine Code.wp_mono (fun e a' w' hp => ?_) (reg _ h)
      obtain ⟨E', fr', e', rfl, ⟨rfl, hk⟩, hw', hf', hd', hx, hag⟩ := hp
      have hk2 := onExits_of (hQ _ _ _ hk)
      obtain ⟨o1, o2, o3⟩ := rebuilt (is := cut.outs) (fr := fr) hf' hag rfl (fun _ _ => rfl)
      exact ⟨E', _, .normal, rfl, hk2, hw', o1, hd', hx, ⟨o3, o2⟩⟩
  | .seq x y, fr, H, K, E, w, a, h, hH, hw, hf, hd => by
    unfold evC at h
    have rest : ∀ (E' : Env) (fr' : List AVal) (e' : AExit) (a' : Act) (w' : World), exitA K (fun fr H => evC P sp T y fr H K) e' fr' E'.H → RelW E' w' → RelF E' fr' a' → a'.defers = [] → Ext E w E' w' →
        Agree (writesOf (.seq x y)) fr fr' → Exit.then (y.wp P (Post E w (writesOf (.seq x y)) fr K)) (Post E w (writesOf (.seq x y)) fr K) (AExit.toExit e') a' w' := by
      intro E' fr' e' a' w' hk hw' hf' hd' hx hag'
      cases e' with
      | normal =>
        refine Code.wp_mono (fun e a'' w'' hp => ?_) (code_sound hsp hdr T y fr' E'.H K E' w' a' hk rfl hw' hf' hd')
        obtain ⟨E'', fr'', e'', rfl, hk, hw'', hf'', hd'', hx', hag2⟩ := hp
        exact ⟨E'', fr'', e'', rfl, hk, hw'', hf'', hd'', hx.trans hx', hag'.trans (hag2.mono fun i hi => List.mem_append_right _ hi)⟩
      | exit id => exact ⟨E', fr', .exit id, rfl, hk, hw', hf', hd', hx, hag'⟩
      | goto l => exact ⟨E', fr', .goto l, rfl, hk, hw', hf', hd', hx, hag'⟩
      | ret => exact ⟨E', fr', .ret, rfl, hk, hw', hf', hd', hx, hag'⟩
    split at h
    · refine wp_seq (Code.wp_mono (fun e a' w' hp => ?_) (code_sound hsp hdr T x fr H _ E w a h hH hw hf hd))
      obtain ⟨E', fr', e', rfl, hk, hw', hf', hd', hx, hag⟩ := hp
      exact rest E' fr' e' a' w' hk hw' hf' hd' hx (hag.mono fun i hi => List.mem_append_left _ hi)
    · rename_i cut _
      obtain ⟨Q, h, hQ⟩ := h
      refine wp_seq (Code.wp_mono (fun e a' w' hp => ?_) (code_sound hsp hdr T x fr H _ E w a h hH hw hf hd))
      obtain ⟨E', fr', e', rfl, hk, hw', hf', hd', hx, hag⟩ := hp
      have hk2 := onExits_of (hQ _ _ _ hk)
      obtain ⟨o1, o2, o3⟩ := rebuilt (is := cut.outs) (fr := fr) hf' hag rfl (fun _ _ => rfl)
      have hag2 : Agree (writesOf (.seq x y)) fr (laySlots cut.outs 0 (pickSlots cut.outs fr') (wipe (writesOf x) fr)) := ⟨o3, fun i hi => o2 i fun hh => hi (List.mem_append_left _ hh)⟩
      exact rest E' _ e' a' w' hk2 hw' o1 hd' hx hag2
  | .cond c x y, fr, H, K, E, w, a, h, hH, hw, hf, hd => by
    unfold evC at h
    obtain ⟨t, ht, h⟩ := isB_some h
    · have hv := eval_sound hf c
      rw [ht] at hv
      simp only [RelG] at hv
      cases t with
      | true =>
        refine wp_cond hv (Code.wp_mono (fun e a' w' hp => ?_) (code_sound hsp hdr T x fr H K E w a h hH hw hf hd))
        obtain ⟨E', fr', e', rfl, hk, hw', hf', hd', hx, hag⟩ := hp
        exact ⟨E', fr', e', rfl, hk, hw', hf', hd', hx, hag.mono fun i hi => List.mem_append_left _ hi⟩
      | false =>
        refine wp_cond hv (Code.wp_mono (fun e a' w' hp => ?_) (code_sound hsp hdr T y fr H K E w a h hH hw hf hd))
        obtain ⟨E', fr', e', rfl, hk, hw', hf', hd', hx, hag⟩ := hp
        exact ⟨E', fr', e', rfl, hk, hw', hf', hd', hx, hag.mono fun i hi => List.mem_append_right _ hi⟩
  | .block id c, fr, H, K, E, w, a, h, hH, hw, hf, hd => by
    unfold evC at h
    refine wp_block (Code.wp_mono (fun e a' w' hp => ?_) (code_sound hsp hdr T c fr H _ E w a h hH hw hf hd))
    obtain ⟨E', fr', e', rfl, hk, hw', hf', hd', hx, hag⟩ := hp
    unfold onE at hk
    cases e' with
    | normal => exact ⟨E', fr', .normal, rfl, by simpa using hk, hw', hf', hd', hx, hag⟩
    | exit id' =>
      show (if id' = id then Post E w (writesOf (.block id c)) fr K .normal a' w' else Post E w (writesOf (.block id c)) fr K (.exit id') a' w')
      by_cases hid : id' = id
      · subst hid
        rw [if_pos rfl]
        exact ⟨E', fr', .normal, rfl, by simpa using hk, hw', hf', hd', hx, hag⟩
      · rw [if_neg hid]
        exact ⟨E', fr', .exit id', rfl, by simpa [hid] using hk, hw', hf', hd', hx, hag⟩
    | goto l => exact ⟨E', fr', .goto l, rfl, by simpa using hk, hw', hf', hd', hx, hag⟩
    | ret => exact ⟨E', fr', .ret, rfl, by simpa using hk, hw', hf', hd', hx, hag⟩
  | .loop c, fr, H, K, E, w, a, h, hH, hw, hf, hd => by
    unfold evC at h
    split at h
    case h_2 => exact h.elim
    rename_i cut _
    obtain ⟨n, h⟩ := h
    intro b k cs
    have key : ∀ (n : Nat) (vs : List AVal) (H' : AHeap) (E1 : Env) (w1 : World) (a1 : Act),
        LoopN (fun vs H Kn Ke => evC P sp T c (laySlots cut.ins 0 vs (wipe (writesOf c) fr)) H (exitA (fun e fr H => Ke e (pickSlots cut.outs fr) H) (fun fr H => Kn (pickSlots cut.ins fr) H)))
          (fun e vs H => onExits e (fun e => K e (laySlots cut.outs 0 vs (wipe (writesOf c) fr)) H) cut.exits) n vs H' →
        E1.H = H' → RelW E1 w1 → RelF E1 (laySlots cut.ins 0 vs (wipe (writesOf c) fr)) a1 → a1.defers = [] → Ext E w E1 w1 →
        (∀ i, i ∉ writesOf c → (laySlots cut.ins 0 vs (wipe (writesOf c) fr)).getD i .undef = fr.getD i .undef) →
        ∃ e a' w', Post E w (writesOf (.loop c)) fr K e a' w' ∧ Arrives P (lone (b.at a1 (.code c :: .inLoop c :: k)) cs w1) b k cs e a' w' := by
      intro n
      induction n with
      | zero => intro vs H' E1 w1 a1 h; exact h.elim
      | succ n ih =>
        intro vs H' E1 w1 a1 h hH1 hw1 hf1 hd1 hx1 hinv
        have hl1 : (laySlots cut.ins 0 vs (wipe (writesOf c) fr)).length = fr.length := by rw [lay_len, wipe_len]
        obtain ⟨e, a2, w2, hp, harr⟩ := code_sound hsp hdr T c _ H' _ E1 w1 a1 h hH1 hw1 hf1 hd1 b (.inLoop c :: k) cs
        obtain ⟨E2, fr2, e2, rfl, hk, hw2, hf2, hd2, hx2, hag⟩ := hp
        have out : ∀ is, RelF E2 (laySlots is 0 (pickSlots is fr2) (wipe (writesOf c) fr)) a2 ∧ (∀ i, i ∉ writesOf c → (laySlots is 0 (pickSlots is fr2) (wipe (writesOf c) fr)).getD i .undef = fr.getD i .undef) ∧ (laySlots is 0 (pickSlots is fr2) (wipe (writesOf c) fr)).length = fr.length :=
          fun is => rebuilt (is := is) hf2 hag hl1 hinv
        have leave : ∀ e2 : AExit, e2 ≠ .normal → onExits e2 (fun e => K e (laySlots cut.outs 0 (pickSlots cut.outs fr2) (wipe (writesOf c) fr)) E2.H) cut.exits → Post E w (writesOf (.loop c)) fr K e2.toExit a2 w2 := by
          intro e2 _ hk
          obtain ⟨o1, o2, o3⟩ := out cut.outs
          exact ⟨E2, _, e2, rfl, onExits_of hk, hw2, o1, hd2, hx1.trans hx2, ⟨o3, o2⟩⟩
        cases e2 with
        | normal =>
          obtain ⟨o1, o2, o3⟩ := out cut.ins
          obtain ⟨e, a3, w3, hp3, harr3⟩ := ih (pickSlots cut.ins fr2) E2.H E2 w2 a2 hk rfl hw2 o1 hd2 (hx1.trans hx2) o2
          exact ⟨e, a3, w3, hp3, .of_steps (Steps.trans harr (.one step_inLoop)) harr3⟩
        | exit id => exact ⟨_, a2, w2, leave (.exit id) (by simp) hk, .pass (x := .inLoop c) rfl (fun _ _ => .inl (by simp [AExit.toExit])) harr⟩
        | goto l => exact ⟨_, a2, w2, leave (.goto l) (by simp) hk, .pass (x := .inLoop c) rfl (fun _ _ => .inl (by simp [AExit.toExit])) harr⟩
        | ret => exact ⟨_, a2, w2, leave .ret (by simp) hk, .pass (x := .inLoop c) rfl (fun _ _ => .inl (by simp [AExit.toExit])) harr⟩
    obtain ⟨r1, r2, r3⟩ := rebuilt (E := E) (W := writesOf c) (is := cut.ins) (fr := fr) (head := fr) (fr' := fr) hf (Agree.refl _ _) rfl (fun _ _ => rfl)
    obtain ⟨e, a', w', hp, harr⟩ := key n _ H E w a h hH hw r1 hd (Ext.refl _ _) r2
    exact ⟨e, a', w', hp, .of_steps (.one step_loop) harr⟩
  | .rangeFunc _ _ _ _, _, _, _, _, _, _, h, _, _, _, _ => by unfold evC at h; exact h.elim
  | .scope _, _, _, _, _, _, _, h, _, _, _, _ => by unfold evC at h; exact h.elim
  | .refuse _, _, _, _, _, _, _, h, _, _, _, _ => by unfold evC at h; exact h.elim
end
end Go.Abs
