/- One text of these: Abs14, Abs15. -/
import Derived.Test.YtgcjchcmnlifmaaAbsA

/- One operation of the translation over abstract values, and its soundness. -/
namespace Go.Abs
open Go

/-- What a Go function comes to. -/
abbrev Spec := List AVal → AHeap → AVal → AHeap → Prop

/-- Which functions may be called: whether they leave all that was there as it was, and what they come to. -/
abbrev Specs := FuncId → Option (Bool × Spec)

def evalA (fr : List AVal) : Operand → AVal
  | .tmp t => fr.getD t .undef
  | .const v => toA v
  | .global _ => .undef
  | .func f => .func (.func f) [] []

def keep (H : AHeap) (r : Option AVal) : Option (AVal × AHeap) :=
  match r with
  | some v => some (v, H)
  | none => none

def skip (r : Option AHeap) : Option (AVal × AHeap) :=
  match r with
  | some H => some (.undef, H)
  | none => none

def zeroA (P : Program) (t : TypeId) : Option (List AVal) := ((P.info? t).bind (·.zero)).map fun z => z.cells.toList.map toA

def scalarT (P : Program) (t : TypeId) : Bool := match P.underlying t with | some (.int _) | some .string => true | _ => false

def aBuiltin (P : Program) (b : Builtin) (ts : Array TypeId) (args : List AVal) (H : AHeap) : Option (AVal × AHeap) :=
  match b, args with
  | .len, [x] =>
    match (ts[0]?).bind P.underlying with
    | some .string => keep H (lenSt x)
    | some (.slice _) => keep H (lenSl x)
    | some (.map _ _) => keep H (lenMp H x)
    | _ => none
  | .append, [s, x] =>
    match (ts[0]?).bind P.underlying with
    | some (.slice e) =>
      (match P.info? e with
       | some i =>
         (match i.zero with
          | some z =>
            bif z.cells.size == i.size then
              (match (ts[1]?).bind P.underlying with
               | some (.slice _) => aAppendS H i.size i.bytes s x
               | some .string => bif i.size == 1 then aAppend H i.size i.bytes s x else none
               | _ => none)
            else none
          | none => none)
       | none => none)
    | _ => none
  | .copy, [d, x] =>
    match (ts[0]?).bind P.underlying with
    | some (.slice e) =>
      (match P.info? e with
       | some i =>
         (match (ts[1]?).bind P.underlying with
          | some (.slice _) => aCopyS H i.size d x
          | some .string => bif i.size == 1 then aCopy H i.size d x else none
          | _ => none)
       | none => none)
    | _ => none
  | .delete, [m, k] =>
    match (ts[0]?).bind P.underlying with
    | some (.map kt _) => (match ktOf P kt with | some l => aDelete H l m k | none => none)
    | _ => none
  | .min, x :: l => keep H (aFold aMin2 x l)
  | .max, x :: l => keep H (aFold aMax2 x l)
  | _, _ => none

def aop (P : Program) (op : Op) (ρ : Operand → AVal) (H : AHeap) : Option (AVal × AHeap) :=
  match op with
  | .move x => some (ρ x, H)
  | .assign x => some (ρ x, H)
  | .pick c a b => keep H (aPick (ρ c) (ρ a) (ρ b))
  | .alloc t => match zeroA P t with | some z => aAlloc H z | none => none
  | .box _ x => aBox H (ρ x)
  | .build t ps =>
    match P.underlying t, zeroA P t with
    | some (.array _ e), some z =>
      (match P.info? e with
       | some i => keep H (aBuild z (fun k => some (k * i.size, i.size)) (ps.toList.map fun p => (p.1, ρ p.2)))
       | none => none)
    | some (.struct fs), some z =>
      (match fs.toList.mapM (fun f => (P.info? f.type).map fun i => (f.offset, i.size)) with
       | some pl => keep H (aBuild z (fun k => pl[k]?) (ps.toList.map fun p => (p.1, ρ p.2)))
       | none => none)
    | _, _ => none
  | .buildSlice t n ps =>
    match P.underlying t with
    | some (.slice e) =>
      (match P.info? e, zeroA P e with
       | some i, some z => bif (z.length == i.size) && Nat.ble (n * i.size) (2 ^ 24) then aBuildSlice H i.size z n (ps.toList.map fun p => (p.1, ρ p.2)) else none
       | _, _ => none)
    | _ => none
  | .load t a =>
    match P.info? t, P.underlying t with
    | some i, some d => keep H (aLoad H (aggB d) i.size (ρ a))
    | _, _ => none
  | .store t a x =>
    match P.info? t with
    | some i => skip (aStore H i.size (ρ a) (ρ x))
    | none => none
  | .nilCheck x => keep H (aNilCheck (ρ x))
  | .binOp op t x y _ =>
    bif scalarT P t then keep H (aBin op (ρ x) (ρ y)) else
    (match op with
     | .eql => (match ekOf P t with | some ek => keep H (aEql false ek H (ρ x) (ρ y)) | none => none)
     | .neq => (match ekOf P t with | some ek => keep H (aEql true ek H (ρ x) (ρ y)) | none => none)
     | _ => none)
  | .unOp op _ x => keep H (aUn op (ρ x))
  | .convert s d x =>
    match P.underlying s, P.underlying d with
    | some _, some (.int k) => keep H (aInt2 k (ρ x))
    | some .string, some .string => keep H (aStr2 (ρ x))
    | some (.slice e), some .string =>
      (match P.underlying e with
       | some (.int .u8) => keep H (aBytes2Str H (ρ x))
       | _ => none)
    | some .string, some (.slice e) =>
      (match P.underlying e with
       | some (.int .u8) => aStr2Bytes H (ρ x)
       | _ => none)
    | some (.slice _), some (.slice e) =>
      bif Nat.beq s d then
        (match P.underlying e with
         | some (.int .u8) => keep H (aMark H (ρ x))
         | _ => none)
      else none
    | _, _ => none
  | .makeMap _ none => aMakeMap H
  | .lookup t x k ok =>
    match P.underlying t with
    | some (.map kt et) => (match ktOf P kt, zeroV P et with | some l, some z => keep H (aLookup H l z ok (ρ x) (ρ k)) | _, _ => none)
    | _ => none
  | .mapUpdate t m k x =>
    match P.underlying t with
    | some (.map kt _) => (match ktOf P kt with | some l => skip (aMapUpdate H l (ρ m) (ρ k) (ρ x)) | none => none)
    | _ => none
  | .makeFunc fn first cap => some (.func fn (first.toList.map ρ) (cap.toList.map ρ), H)
  | .makeSlice t l c =>
    match P.underlying t with
    | some (.slice e) =>
      (match P.info? e, zeroA P e with
       | some i, some z => bif z.length == i.size then aMakeSlice H i.bytes z (ρ l) (ρ c) else none
       | _, _ => none)
    | _ => none
  | .slice t x lo hi mx =>
    bif mx.isSome && !hi.isSome then none else
    (match P.underlying t with
     | some .string => bif mx.isSome then none else keep H (aSliceStr (ρ x) (lo.map ρ) (hi.map ρ))
     | some (.slice e) => (match P.info? e with | some i => keep H (aSlice H i.size (ρ x) (lo.map ρ) (hi.map ρ) (mx.map ρ)) | none => none)
     | some (.array n e) => (match P.info? e with | some i => keep H (aSliceArr n i.size (ρ x) (lo.map ρ) (hi.map ρ) (mx.map ρ)) | none => none)
     | _ => none)
  | .fieldAddr t x k =>
    match P.underlying t with
    | some (.struct fs) =>
      (match fs[k]? with
       | some f => (match P.info? f.type with | some i => bif i.size == 0 then none else keep H (aFieldAddr f.offset (ρ x)) | none => none)
       | none => none)
    | _ => none
  | .field t x k =>
    match P.underlying t with
    | some (.struct fs) =>
      (match fs[k]? with
       | some f => (match P.info? f.type, P.underlying f.type with | some i, some d => keep H (aField (aggB d) i.size f.offset (ρ x)) | _, _ => none)
       | none => none)
    | _ => none
  | .indexAddr t x i =>
    match P.underlying t with
    | some (.slice e) => (match P.info? e with | some inf => keep H (aIndexAddr inf.size (ρ x) (ρ i)) | none => none)
    | some (.array n e) => (match P.info? e with | some inf => keep H (aIndexAddrArr n inf.size (ρ x) (ρ i)) | none => none)
    | _ => none
  | .index t x i =>
    match P.underlying t with
    | some .string => keep H (aIndexStr (ρ x) (ρ i))
    | some (.array n e) =>
      (match P.info? e, P.underlying e with
       | some inf, some d => keep H (aIndexArr n (aggB d) inf.size (ρ x) (ρ i))
       | _, _ => none)
    | _ => none
  | .extract x i => keep H (aExtract (ρ x) i)
  | .call c =>
    match c.callee with
    | .builtin b => aBuiltin P b c.argTypes (c.args.toList.map ρ) H
    | _ => none
  | _ => none

/-- A call of a function value. -/
def callP (sp : Specs) (f : AVal) (args : List AVal) (H : AHeap) (v : AVal) (H' : AHeap) : Prop :=
  match f with
  | .func (.func k) first cap => (match sp k with | some (_, g) => g (first ++ args ++ cap) H v H' | none => False)
  | _ => False

def aopP (P : Program) (sp : Specs) (op : Op) (ρ : Operand → AVal) (H : AHeap) (v : AVal) (H' : AHeap) : Prop :=
  match op with
  | .call ⟨.value f, args, _⟩ => callP sp (ρ f) (args.toList.map ρ) H v H'
  | op => aop P op ρ H = some (v, H')

/-- What a function comes to, against the model. -/
structure FnOk (P : Program) (f : FuncId) (g : Spec) : Prop where
  enters : ∀ (args : Array Value) (w : World), (callFunc f args).run P w = .ok (.enter f args) w
  does : ∀ (args : List AVal) (H : AHeap) (r : AVal) (H' : AHeap), g args H r H' → ∀ (E : Env) (w : World) (vs : List Value), E.H = H → RelW E w → RelL E args vs →
    Calls P f vs.toArray w fun e w' => ∃ v E', e = .returned v ∧ RelV E' r v ∧ RelW E' w' ∧ E'.H = H' ∧ Ext E w E' w'

structure SpecsOk (P : Program) (sp : Specs) : Prop where
  ok : ∀ f q g, sp f = some (q, g) → FnOk P f g
  quiet : ∀ f g, sp f = some (true, g) → ∀ args H r H', g args H r H' → H <+: H'

section
variable {P : Program} {E : Env} {w : World} {sp : Specs}

def RelF (E : Env) (fr : List AVal) (a : Act) : Prop := RelL E fr a.tmps.toList

theorem eval_sound {fr : List AVal} {a : Act} (h : RelF E fr a) (x : Operand) : RelV E (evalA fr x) (a.eval x) := by
  cases x with
  | tmp t =>
    have := h.getD t undef
    simp only [evalA, Act.eval]
    have e : a.tmps.getD t undef = a.tmps.toList.getD t undef := by simp [Array.getD_eq_getD_getElem?, List.getD]
    rw [e]; exact this
  | const v => exact toA_rel v
  | global g => simp only [evalA, RelG]
  | func f => simp only [evalA, Act.eval, RelG]; exact ⟨[], [], rfl, RelGL.nil, RelGL.nil⟩

theorem evals_sound {fr : List AVal} {a : Act} (h : RelF E fr a) (l : List Operand) : RelL E (l.map (evalA fr)) (l.map a.eval) := by
  induction l with
  | nil => exact RelGL.nil
  | cons x l ih => exact RelGL.cons (eval_sound h x) ih

theorem evalO_sound {fr : List AVal} {a : Act} (h : RelF E fr a) (x : Option Operand) : RelO E (x.map (evalA fr)) (x.map a.eval) := by
  cases x with
  | none => trivial
  | some x => exact eval_sound h x

theorem parts_sound {fr : List AVal} {a : Act} (h : RelF E fr a) (l : List (Nat × Operand)) : RelParts E (l.map fun p => (p.1, evalA fr p.2)) (l.map fun p => (p.1, a.eval p.2)) := by
  induction l with
  | nil => simp [RelParts]
  | cons p l ih => simp only [List.map_cons, RelParts]; exact ⟨_, _, rfl, eval_sound h p.2, ih⟩

/-- What stands behind one operation. -/
def After (E : Env) (w : World) (a : Act) (dst : Option Tmp) (v : AVal) (H' : AHeap) (a' : Act) (w' : World) : Prop :=
  ∃ u E', a' = a.put dst u ∧ RelV E' v u ∧ RelW E' w' ∧ E'.H = H' ∧ Ext E w E' w'

theorem upon_value {o : Oper} {a : Act} {Q : Exit → Act → World → Prop} {v : AVal} {H' : AHeap} {s : Sem Value}
    (he : (execOp a.eval o) = (do pure (.value (← s)) : Sem Next)) (h : Runs P E w s v H') : o.wp P a w (After E w a o.dst v H') Q := by
  obtain ⟨u, w', E', h1, h2, h3, h4, h5⟩ := h
  unfold Oper.wp
  rw [he]
  simp only [Sem.run_bind, h1, Result.andThen, Sem.run_pure, Oper.upon]
  exact ⟨u, E', rfl, h2, h3, h4, h5⟩

theorem upon_keep {o : Oper} {a : Act} {Q : Exit → Act → World → Prop} {v : AVal} {H' : AHeap} {s : Sem Value} {r : Option AVal} (hw : RelW E w) (hk : keep E.H r = some (v, H'))
    (he : (execOp a.eval o) = (do pure (.value (← s)) : Sem Next)) (h : r = some v → ∃ u, s.run P w = .ok u w ∧ RelV E v u) : o.wp P a w (After E w a o.dst v H') Q := by
  cases r with
  | none => simp [keep] at hk
  | some x =>
    simp only [keep, Option.some.injEq, Prod.mk.injEq] at hk
    obtain ⟨rfl, rfl⟩ := hk
    obtain ⟨u, h1, h2⟩ := h rfl
    exact upon_value he (Runs.pure hw h1 h2)

theorem zeroA_some {t : TypeId} {z : List AVal} (h : zeroA P t = some z) : ∃ i zv, P.info? t = some i ∧ i.zero = some zv ∧ z = zv.cells.toList.map toA := by
  unfold zeroA at h
  cases hi : P.info? t with
  | none => simp [hi] at h
  | some i =>
    cases hz : i.zero with
    | none => simp [hi, hz] at h
    | some zv => simp [hi, hz] at h; exact ⟨i, zv, rfl, hz, h.symm⟩

def isSc : Value → Bool
  | .int _ _ | .string _ => true
  | _ => false

theorem guard_scalar {op : BinOp} {t : TypeId} {x y : Operand} {a b : Value} (h : isSc a = true) : (eqGuard op t x y a b).run P w = .ok () w := by
  cases a <;> simp only [isSc] at h <;> first | (cases h; done) | skip
  all_goals cases op <;> cases b <;> simp [eqGuard]

theorem aBin_left {op : BinOp} {x y v : AVal} (h : aBin op x y = some v) {a : Value} (hx : RelV E x a) : isSc a = true := by
  unfold aBin at h
  split at h <;> first | (simp only [RelG] at hx; subst hx; rfl) | cases h

theorem map_arr {α β : Type} (f : α → β) (l : Array α) : l.map f = (l.toList.map f).toArray := by
  apply Array.ext'; simp

theorem upon_builtin {o : Oper} {a : Act} {Q : Exit → Act → World → Prop} {v : AVal} {H' : AHeap} {b : Builtin} {args : Array Operand} {ts : Array TypeId} {s : Sem Value}
    (ho : o.op = .call ⟨.builtin b, args, ts⟩) (hb : ∀ cs, builtin b ts o.type cs (args.map a.eval) = (do pure (.value (← s)) : Sem Next)) (h : Runs P E w s v H') : o.wp P a w (After E w a o.dst v H') Q := by
  obtain ⟨dst, op, type, pos, after, guard⟩ := o
  simp only at ho; subst ho
  obtain ⟨u, w', E', h1, h2, h3, h4, h5⟩ := h
  unfold Oper.wp
  simp only [execOp, resolve, Sem.run_bind, Sem.run_pure, Result.andThen, invoke, hb, h1, Oper.upon]
  exact ⟨u, E', rfl, h2, h3, h4, h5⟩

theorem args_one {l : List AVal} {m : List Value} {x : AVal} (h : RelL E l m) (hl : l = [x]) : ∃ a, m = [a] ∧ RelV E x a := by
  subst hl
  simp only [RelGL] at h
  obtain ⟨y, ys, rfl, h1, rfl⟩ := h
  exact ⟨y, rfl, h1⟩
theorem args_two {l : List AVal} {m : List Value} {x y : AVal} (h : RelL E l m) (hl : l = [x, y]) : ∃ a b, m = [a, b] ∧ RelV E x a ∧ RelV E y b := by
  subst hl
  simp only [RelGL] at h
  obtain ⟨p, ps, rfl, h1, q, qs, rfl, h2, rfl⟩ := h
  exact ⟨p, q, rfl, h1, h2⟩

theorem some_get {ts : Array TypeId} {k : Nat} {d : TypeDesc} (h : (ts[k]?).bind P.underlying = some d) : ∃ t, ts[k]? = some t ∧ P.underlying t = some d := by
  cases ht : ts[k]? with
  | none => simp [ht] at h
  | some t => exact ⟨t, rfl, by simpa [ht] using h⟩

theorem keep_some {H H' : AHeap} {r : Option AVal} {v : AVal} (h : keep H r = some (v, H')) : r = some v ∧ H' = H := by
  cases r with
  | none => simp [keep] at h
  | some x => simp only [keep, Option.some.injEq, Prod.mk.injEq] at h; exact ⟨by rw [h.1], h.2.symm⟩

theorem len_arg {ts : Array TypeId} {t : TypeId} (ht : ts[0]? = some t) (ty : TypeId) (x : Value) : Builtin.len_ ts ty #[x] = Builtin.len_ #[t] ty #[x] := by
  simp [Builtin.len_, ht]

theorem bltin_sound {o : Oper} {fr : List AVal} {a : Act} {b : Builtin} {args : Array Operand} {ts : Array TypeId} (hw : RelW E w) (hf : RelF E fr a)
    (ho : o.op = .call ⟨.builtin b, args, ts⟩) {v : AVal} {H' : AHeap} (h : aBuiltin P b ts (args.toList.map (evalA fr)) E.H = some (v, H'))
    (Q : Exit → Act → World → Prop) : o.wp P a w (After E w a o.dst v H') Q := by
  have hr := evals_sound hf args.toList
  have harr : args.map a.eval = (args.toList.map a.eval).toArray := map_arr _ _
  unfold aBuiltin at h
  split at h
  · rename_i x hx
    obtain ⟨y, hy, ry⟩ := args_one hr hx
    rw [hy] at harr
    have fin : ∀ {t : TypeId} {d : TypeDesc}, ts[0]? = some t → P.underlying t = some d → aLen E.H x = some v → H' = E.H →
        lenFits d x →
        o.wp P a w (After E w a o.dst v H') Q := by
      intro t d ht hd hl hH hk
      subst hH
      obtain ⟨u, g1, g2⟩ := aLen_sound (P := P) hw ry hd hk hl o.type
      exact upon_builtin ho (s := Builtin.len_ ts o.type #[y]) (fun cs => by rw [harr]; rfl) (Runs.pure hw (by rw [len_arg ht]; exact g1) g2)
    split at h
    · rename_i hd
      obtain ⟨t, ht, hd⟩ := some_get hd
      obtain ⟨hk', hH⟩ := keep_some h
      unfold lenSt at hk'
      split at hk'
      · exact fin ht hd hk' hH trivial
      · cases hk'
    · rename_i e hd
      obtain ⟨t, ht, hd⟩ := some_get hd
      obtain ⟨hk', hH⟩ := keep_some h
      unfold lenSl at hk'
      split at hk'
      · exact fin ht hd hk' hH trivial
      · exact fin ht hd hk' hH trivial
      · cases hk'
    · rename_i e e' hd
      obtain ⟨t, ht, hd⟩ := some_get hd
      obtain ⟨hk', hH⟩ := keep_some h
      unfold lenMp at hk'
      split at hk'
      · exact fin ht hd hk' hH trivial
      · exact fin ht hd (by unfold aLen; exact hk') hH trivial
      · cases hk'
    · cases h
  · rename_i s x hx
    obtain ⟨y, z, hy, ry, rz⟩ := args_two hr hx
    rw [hy] at harr
    split at h
    case h_2 => cases h
    rename_i e hd0
    obtain ⟨t0, ht0, hd0⟩ := some_get hd0
    split at h
    case h_2 => cases h
    rename_i i hi
    split at h
    case h_2 => cases h
    rename_i zv hz
    cases hc : (zv.cells.size == i.size) with
    | false => rw [hc] at h; cases h
    | true =>
      rw [hc] at h
      simp only [cond_true] at h
      simp only [beq_iff_eq] at hc
      have fin : ∀ {d1 : TypeDesc}, (ts[1]?).bind P.underlying = some d1 → (∀ k, d1 ≠ .int k) → ((∃ s, x = .str s) → i.size = 1) → aAppend E.H i.size i.bytes s x = some (v, H') → o.wp P a w (After E w a o.dst v H') Q := by
        intro d1 hd1 hnk hes happ
        obtain ⟨t1, ht1, hd1⟩ := some_get hd1
        have T : AppTy P ts e i zv := ⟨⟨t0, ht0, hd0⟩, ⟨t1, d1, ht1, hd1, hnk⟩, hi, hz, hc⟩
        exact upon_builtin ho (s := Builtin.append_ ts o.type #[y, z]) (fun cs => by rw [harr]; rfl) (aAppend_sound hw T ry rz hes happ o.type)
      split at h
      · rename_i e1 hd1
        unfold aAppendS at h
        split at h
        · cases h
        · rename_i hns
          exact fin hd1 (fun k hk => by cases hk) (fun ⟨q, hq⟩ => absurd hq (hns q)) h
      · rename_i hd1
        cases hc1 : (i.size == 1) with
        | false => rw [hc1] at h; cases h
        | true =>
          rw [hc1] at h
          exact fin hd1 (fun k hk => by cases hk) (fun _ => by simpa using hc1) h
      · cases h
  · rename_i d x hx
    obtain ⟨y, z, hy, ry, rz⟩ := args_two hr hx
    rw [hy] at harr
    split at h
    case h_2 => cases h
    rename_i e hd0
    obtain ⟨t0, ht0, hd0⟩ := some_get hd0
    split at h
    case h_2 => cases h
    rename_i i hi
    have fin : ((∃ s, x = .str s) → i.size = 1) → aCopy E.H i.size d x = some (v, H') → o.wp P a w (After E w a o.dst v H') Q := by
      intro hes happ
      exact upon_builtin ho (s := Builtin.copy_ ts o.type #[y, z]) (fun cs => by rw [harr]; rfl) (aCopy_sound hw hd0 hi ry rz hes happ ts ht0 o.type)
    split at h
    · unfold aCopyS at h
      split at h
      · cases h
      · rename_i hns
        exact fin (fun ⟨q, hq⟩ => absurd hq (hns q)) h
    · cases hc1 : (i.size == 1) with
      | false => rw [hc1] at h; cases h
      | true =>
        rw [hc1] at h
        exact fin (fun _ => by simpa using hc1) h
    · cases h
  · rename_i m k hx
    obtain ⟨y, z, hy, ry, rz⟩ := args_two hr hx
    rw [hy] at harr
    split at h
    case h_2 => cases h
    rename_i kt et hd0
    obtain ⟨t0, ht0, hd0⟩ := some_get hd0
    split at h
    case h_2 => cases h
    rename_i l hl
    exact upon_builtin ho (s := Builtin.delete_ ts o.type #[y, z]) (fun cs => by rw [harr]; rfl) (delete_sound hw hd0 hl ry rz h ts ht0)
  · rename_i x l hx
    rw [hx] at hr
    simp only [RelGL] at hr
    obtain ⟨y, ys, hy, ry, rys⟩ := hr
    rw [hy] at harr
    obtain ⟨hk', rfl⟩ := keep_some h
    obtain ⟨u, g1, g2⟩ := fold2_sound (P := P) (w := w) (E := E) (g := Builtin.min2) (fun x y v a b => aMin2_sound x y v a b) l x y ys ry rys hk'
    exact upon_builtin ho (s := Builtin.min_ ts o.type (y :: ys).toArray) (fun cs => by rw [harr]; rfl) (Runs.pure hw (by simpa [Builtin.min_] using g1) g2)
  · rename_i x l hx
    rw [hx] at hr
    simp only [RelGL] at hr
    obtain ⟨y, ys, hy, ry, rys⟩ := hr
    rw [hy] at harr
    obtain ⟨hk', rfl⟩ := keep_some h
    obtain ⟨u, g1, g2⟩ := fold2_sound (P := P) (w := w) (E := E) (g := Builtin.max2) (fun x y v a b => aMax2_sound x y v a b) l x y ys ry rys hk'
    exact upon_builtin ho (s := Builtin.max_ ts o.type (y :: ys).toArray) (fun cs => by rw [harr]; rfl) (Runs.pure hw (by simpa [Builtin.max_] using g1) g2)
  · cases h

end
end Go.Abs

/- Each operation is sound. -/
namespace Go.Abs
open Go
section
variable {P : Program} {E : Env} {w : World} {sp : Specs}

set_option maxHeartbeats 4000000 in
theorem op_sound (hsp : SpecsOk P sp) {o : Oper} {fr : List AVal} {H H' : AHeap} {v : AVal} (ho : aopP P sp o.op (evalA fr) H v H') (hH : E.H = H) (hw : RelW E w) {a : Act} (hf : RelF E fr a)
    (Q : Exit → Act → World → Prop) : o.wp P a w (After E w a o.dst v H') Q := by
  subst hH
  obtain ⟨dst, op, type, pos, after, guard⟩ := o
  cases op
  case call c =>
    obtain ⟨callee, args, ts⟩ := c
    cases callee with
    | invoke r m => simp only [aopP, aop] at ho; cases ho
    | value f =>
      simp only [aopP] at ho
      unfold callP at ho
      split at ho
      · rename_i k first cap hfv
        split at ho
        · rename_i q g hg
          have hfo := hsp.ok k q g hg
          have hrf := eval_sound hf f
          rw [hfv] at hrf
          simp only [RelG] at hrf
          obtain ⟨f', c', he, h1, h2⟩ := hrf
          have hargs := (h1.append (evals_sound hf args.toList)).append h2
          have hcall := hfo.does _ _ _ _ ho E w _ rfl hw hargs
          unfold Oper.wp
          have harr : (f' ++ List.map a.eval args.toList ++ c').toArray = f'.toArray ++ args.map a.eval ++ c'.toArray := by simp
          rw [harr] at hcall
          simp only [execOp, resolve, he, Deferred.ofValue, Sem.run_bind, Sem.run_pure, Result.andThen, invoke, hfo.enters, Oper.upon]
          refine hcall.mono fun e w' hh => ?_
          obtain ⟨v, E', rfl, g1, g2, g3, g4⟩ := hh
          exact ⟨v, E', rfl, g1, g2, g3, g4⟩
        · exact ho.elim
      · exact ho.elim
    | builtin b =>
      simp only [aopP, aop] at ho
      exact bltin_sound (o := ⟨dst, .call ⟨.builtin b, args, ts⟩, type, pos, after, guard⟩) hw hf rfl ho Q
  all_goals simp only [aopP, aop] at ho
  all_goals try (cases ho; done)
  case move x =>
    simp only [Option.some.injEq, Prod.mk.injEq] at ho; obtain ⟨rfl, rfl⟩ := ho
    exact upon_value (s := pure (a.eval x)) (by simp [execOp]) (Runs.pure hw (by simp) (eval_sound hf x))
  case assign x =>
    simp only [Option.some.injEq, Prod.mk.injEq] at ho; obtain ⟨rfl, rfl⟩ := ho
    exact upon_value (s := pure (a.eval x)) (by simp [execOp]) (Runs.pure hw (by simp) (eval_sound hf x))
  case pick c x y =>
    refine upon_keep (s := do pure (if ← asBool (a.eval c) then a.eval x else a.eval y)) hw ho (by simp [execOp]) fun hr => ?_
    obtain ⟨t, h1, h2⟩ := aPick_sound (eval_sound hf c) (eval_sound hf x) (eval_sound hf y) hr
    exact ⟨_, by simp [h1, asBool], h2⟩
  case alloc t =>
    split at ho
    · rename_i z hz
      obtain ⟨i, zv, h1, h2, rfl⟩ := zeroA_some hz
      exact upon_value (s := Instr.alloc t true (.tuple #[])) rfl (alloc_sound hw h1 h2 ho)
    · cases ho
  case box t x => exact upon_value (s := Instr.box t (a.eval x)) rfl (box_sound hw (eval_sound hf x) ho)
  case build t ps =>
    have hp : RelParts E (ps.toList.map fun p => (p.1, evalA fr p.2)) (ps.map fun p => (p.1, a.eval p.2)).toList := by
      rw [Array.toList_map]; exact parts_sound hf _
    split at ho
    · rename_i n e z hu hz
      obtain ⟨it, zv, h1, h2, rfl⟩ := zeroA_some hz
      split at ho
      · rename_i i hi
        refine upon_keep (s := Instr.build t (ps.map fun (i, x) => (i, a.eval x))) hw ho rfl fun hr => aBuildArr_sound hu h1 h2 hi hp hr
      · cases ho
    · rename_i fs z hu hz
      obtain ⟨it, zv, h1, h2, rfl⟩ := zeroA_some hz
      split at ho
      · rename_i pl hpl
        refine upon_keep (s := Instr.build t (ps.map fun (i, x) => (i, a.eval x))) hw ho rfl fun hr => aBuildStr_sound hu h1 h2 hpl hp hr
      · cases ho
    · cases ho
  case buildSlice t n ps =>
    have hp : RelParts E (ps.toList.map fun p => (p.1, evalA fr p.2)) (ps.map fun p => (p.1, a.eval p.2)).toList := by
      rw [Array.toList_map]; exact parts_sound hf _
    split at ho
    · rename_i e hu
      split at ho
      · rename_i i z hi hz
        obtain ⟨it, zv, h1, h2, rfl⟩ := zeroA_some hz
        rw [hi] at h1; cases h1
        cases hc : ((List.map toA zv.cells.toList).length == i.size && Nat.ble (n * i.size) (2 ^ 24)) with
        | false => rw [hc] at ho; cases ho
        | true =>
          rw [hc] at ho
          simp only [cond_true] at ho
          simp only [List.length_map, Array.length_toList, Bool.and_eq_true, beq_iff_eq, Nat.ble_eq] at hc
          exact upon_value (s := Instr.buildSlice t n (ps.map fun (i, x) => (i, a.eval x))) rfl (aBuildSlice_sound hw hu hi h2 hc.1 hc.2 hp ho)
      · cases ho
    · cases ho
  case load t x =>
    split at ho
    · rename_i i d hi hd
      cases hr : aLoad E.H (aggB d) i.size (evalA fr x) with
      | none => rw [hr] at ho; cases ho
      | some u =>
        rw [hr] at ho
        simp only [keep, Option.some.injEq, Prod.mk.injEq] at ho
        obtain ⟨rfl, rfl⟩ := ho
        exact upon_value (s := Instr.loadAt t (a.eval x)) rfl (loadVar_sound hw hi hd (eval_sound hf x) hr)
    · cases ho
  case store t x y =>
    split at ho
    · rename_i i hi
      cases hr : aStore E.H i.size (evalA fr x) (evalA fr y) with
      | none => rw [hr] at ho; cases ho
      | some H1 =>
        rw [hr] at ho
        simp only [skip, Option.some.injEq, Prod.mk.injEq] at ho
        obtain ⟨rfl, rfl⟩ := ho
        obtain ⟨w', E', g1, g2, g3, g4⟩ := storeVar_sound (P := P) hw hi (eval_sound hf x) (eval_sound hf y) hr
        unfold Oper.wp
        simp only [execOp, Sem.run_bind, g1, Result.andThen, Sem.run_pure, Oper.upon]
        exact ⟨undef, E', rfl, by simp only [RelG], g2, g3, g4⟩
    · cases ho
  case nilCheck x =>
    cases hr : aNilCheck (evalA fr x) with
    | none => rw [hr] at ho; cases ho
    | some u =>
      rw [hr] at ho
      simp only [keep, Option.some.injEq, Prod.mk.injEq] at ho
      obtain ⟨rfl, rfl⟩ := ho
      rcases aNilCheck_sound (eval_sound hf x) hr with ⟨g1, p, g2⟩ | ⟨g1, f, l, k, g2⟩
      · exact upon_value (s := pure (a.eval x)) (by simp [execOp, g2]) (Runs.pure hw (by simp) g1)
      · exact upon_value (s := pure (a.eval x)) (by simp [execOp, g2]) (Runs.pure hw (by simp) g1)
  case binOp bop t x y t2 =>
    have hx := eval_sound hf x
    have hy := eval_sound hf y
    cases hs : scalarT P t with
    | true =>
      rw [hs] at ho
      simp only [cond_true] at ho
      refine upon_keep (s := do eqGuard bop t x y (a.eval x) (a.eval y); binOp bop t (a.eval x) (a.eval y)) hw ho rfl fun hr => ?_
      obtain ⟨u, h1, h2⟩ := aBin_sound (P := P) (w := w) (t := t) hx hy hr
      refine ⟨u, ?_, h2⟩
      rw [Sem.run_bind, guard_scalar (aBin_left hr hx), Result.andThen_ok, h1]
    | false =>
      rw [hs] at ho
      simp only [cond_false] at ho
      split at ho
      · split at ho
        · rename_i ek hk
          refine upon_keep (s := do eqGuard .eql t x y (a.eval x) (a.eval y); binOp .eql t (a.eval x) (a.eval y)) hw ho rfl fun hr => ?_
          exact aEql_sound (neq := false) hk hx hy hr x y
        · cases ho
      · split at ho
        · rename_i ek hk
          refine upon_keep (s := do eqGuard .neq t x y (a.eval x) (a.eval y); binOp .neq t (a.eval x) (a.eval y)) hw ho rfl fun hr => ?_
          exact aEql_sound (neq := true) hk hx hy hr x y
        · cases ho
      · cases ho
  case unOp uop t x =>
    refine upon_keep (s := Op.unary uop (a.eval x)) hw ho rfl fun hr => aUn_sound (eval_sound hf x) hr
  case convert s d x =>
    split at ho
    · rename_i ds k hs hd
      exact upon_keep (s := convert s d (a.eval x)) hw ho rfl fun hr => aInt2_sound (eval_sound hf x) hs hd hr
    · rename_i hs hd
      exact upon_keep (s := convert s d (a.eval x)) hw ho rfl fun hr => aStr2_sound (eval_sound hf x) hs hd hr
    · rename_i e hs hd
      split at ho
      · rename_i he
        exact upon_keep (s := convert s d (a.eval x)) hw ho rfl fun hr => aBytes2Str_sound hw (eval_sound hf x) hs he hd hr
      · cases ho
    · rename_i e hs hd
      split at ho
      · rename_i he
        exact upon_value (s := convert s d (a.eval x)) rfl (aStr2Bytes_sound hw (eval_sound hf x) hs hd he ho)
      · cases ho
    · rename_i e0 e hs hd
      cases hc : Nat.beq s d with
      | false => rw [hc] at ho; cases ho
      | true =>
        rw [hc] at ho
        simp only [cond_true] at ho
        split at ho
        · rename_i he
          obtain ⟨hk, rfl⟩ := keep_some ho
          exact upon_value (s := convert s d (a.eval x)) rfl (mark_sound hw hs hd he (Nat.eq_of_beq_eq_true hc) (eval_sound hf x) hk)
        · cases ho
    · cases ho
  case makeMap t r =>
    cases r with
    | some r => cases ho
    | none => exact upon_value (s := Instr.makeMap t none) rfl (makeMap_sound hw ho t)
  case lookup t x k ok =>
    split at ho
    · rename_i kt et ht
      split at ho
      · rename_i l z hl hz
        exact upon_keep (s := Instr.lookup t (a.eval x) (a.eval k) ok) hw ho rfl fun hr => lookup_sound hw ht hl hz (eval_sound hf x) (eval_sound hf k) hr
      · cases ho
    · cases ho
  case mapUpdate t m k x =>
    split at ho
    · rename_i kt et ht
      split at ho
      · rename_i l hl
        cases hr : aMapUpdate E.H l (evalA fr m) (evalA fr k) (evalA fr x) with
        | none => rw [hr] at ho; cases ho
        | some H1 =>
          rw [hr] at ho
          simp only [skip, Option.some.injEq, Prod.mk.injEq] at ho
          obtain ⟨rfl, rfl⟩ := ho
          obtain ⟨w', E', g1, g2, g3, g4⟩ := mapUpdate_sound (P := P) hw ht hl (eval_sound hf m) (eval_sound hf k) (eval_sound hf x) hr
          unfold Oper.wp
          simp only [execOp, Sem.run_bind, g1, Result.andThen, Sem.run_pure, Oper.upon]
          exact ⟨undef, E', rfl, by simp only [RelG], g3, g2, g4⟩
      · cases ho
    · cases ho
  case makeFunc fn first cap =>
    simp only [Option.some.injEq, Prod.mk.injEq] at ho; obtain ⟨rfl, rfl⟩ := ho
    refine upon_value (s := Instr.makeFunc fn (first.map a.eval) (cap.map a.eval)) rfl (Runs.pure hw (by simp [Instr.makeFunc]; rfl) ?_)
    simp only [RelG]
    exact ⟨first.toList.map a.eval, cap.toList.map a.eval, by rw [map_arr, map_arr], evals_sound hf _, evals_sound hf _⟩
  case makeSlice t l c =>
    split at ho
    · rename_i e hu
      split at ho
      · rename_i i z hi hz
        obtain ⟨it, zv, h1, h2, rfl⟩ := zeroA_some hz
        rw [hi] at h1; cases h1
        cases hc : ((List.map toA zv.cells.toList).length == i.size) with
        | false => rw [hc] at ho; cases ho
        | true =>
          rw [hc] at ho
          simp only [cond_true] at ho
          simp only [List.length_map, Array.length_toList, beq_iff_eq] at hc
          exact upon_value (s := Instr.makeSlice t (a.eval l) (a.eval c)) rfl (aMakeSlice_sound hw hu hi h2 hc (eval_sound hf l) (eval_sound hf c) ho)
      · cases ho
    · cases ho
  case slice t x lo hi mx =>
    cases hc : (mx.isSome && !hi.isSome) with
    | true => rw [hc] at ho; cases ho
    | false =>
      rw [hc] at ho
      simp only [cond_false] at ho
      have hmx : (mx.map (evalA fr)).isSome = true → (hi.map (evalA fr)).isSome = true := by
        cases mx <;> cases hi <;> simp_all
      split at ho
      · rename_i hu
        cases mx with
        | some m => simp at ho
        | none =>
          simp only [Option.isSome_none, cond_false] at ho
          exact upon_keep (s := Instr.sliceAt t (a.eval x) (lo.map a.eval) (hi.map a.eval) none) hw ho rfl fun hr => aSliceStr_sound (eval_sound hf x) hu (evalO_sound hf lo) (evalO_sound hf hi) hr
      · rename_i e hu
        split at ho
        · rename_i i hi'
          exact upon_keep (s := Instr.sliceAt t (a.eval x) (lo.map a.eval) (hi.map a.eval) (mx.map a.eval)) hw ho rfl fun hr => aSlice_sound (eval_sound hf x) hu hi' (evalO_sound hf lo) (evalO_sound hf hi) (evalO_sound hf mx) hr hmx
        · cases ho
      · rename_i n e hu
        split at ho
        · rename_i i hi'
          exact upon_keep (s := Instr.sliceAt t (a.eval x) (lo.map a.eval) (hi.map a.eval) (mx.map a.eval)) hw ho rfl fun hr => aSliceArr_sound (eval_sound hf x) hu hi' (evalO_sound hf lo) (evalO_sound hf hi) (evalO_sound hf mx) hr hmx
        · cases ho
      · cases ho
  case fieldAddr t x k =>
    split at ho
    · rename_i fs hu
      split at ho
      · rename_i f hfk
        split at ho
        · rename_i i hi
          cases hz : (i.size == 0) with
          | true => rw [hz] at ho; cases ho
          | false =>
            rw [hz] at ho
            simp only [cond_false] at ho
            refine upon_keep (s := Instr.fieldAt t (a.eval x) k) hw ho rfl fun hr => aFieldAddr_sound (eval_sound hf x) hu hfk (fun w p => ?_) hr
            have : i.size ≠ 0 := by simpa using hz
            simp [fieldPlace, run_size hi, this]
        · cases ho
      · cases ho
    · cases ho
  case field t x k =>
    split at ho
    · rename_i fs hu
      split at ho
      · rename_i f hfk
        split at ho
        · rename_i i d hi hd
          exact upon_keep (s := Instr.field t (a.eval x) k) hw ho rfl fun hr => aField_sound (eval_sound hf x) hu hfk hi hd hr
        · cases ho
      · cases ho
    · cases ho
  case indexAddr t x i =>
    split at ho
    · rename_i e hu
      split at ho
      · rename_i inf hi
        exact upon_keep (s := Instr.indexAt t (a.eval x) (a.eval i)) hw ho rfl fun hr => aIndexAddr_sound (eval_sound hf x) (eval_sound hf i) hu hi hr
      · cases ho
    · rename_i n e hu
      split at ho
      · rename_i inf hi
        exact upon_keep (s := Instr.indexAt t (a.eval x) (a.eval i)) hw ho rfl fun hr => aIndexAddrArr_sound (eval_sound hf x) (eval_sound hf i) hu hi hr
      · cases ho
    · cases ho
  case index t x i =>
    split at ho
    · rename_i hu
      exact upon_keep (s := Instr.index t (a.eval x) (a.eval i)) hw ho rfl fun hr => aIndexStr_sound (eval_sound hf x) (eval_sound hf i) hu hr
    · rename_i n e hu
      split at ho
      · rename_i inf d hi hd
        exact upon_keep (s := Instr.index t (a.eval x) (a.eval i)) hw ho rfl fun hr => aIndexArr_sound (eval_sound hf x) (eval_sound hf i) hu hi hd hr
      · cases ho
    · cases ho
  case extract x i =>
    exact upon_keep (s := Instr.extract (a.eval x) i) hw ho rfl fun hr => aExtract_sound (eval_sound hf x) hr
end
end Go.Abs
