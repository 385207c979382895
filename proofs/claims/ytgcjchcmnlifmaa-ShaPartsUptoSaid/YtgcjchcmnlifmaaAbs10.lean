/- Append. -/
import Derived.Test.YtgcjchcmnlifmaaAbs9
namespace Go.Abs
open Go

theorem growBy_le (need : Nat) : ∀ (r c : Nat), c < need ∨ c ≤ need + (need + 768) / 4 → Builtin.growBy need r c ≤ need + (need + 768) / 4
  | 0, c, h => by simp only [Builtin.growBy]; omega
  | r + 1, c, h => by
    simp only [Builtin.growBy]
    split
    · omega
    · exact growBy_le need r _ (by omega)

theorem nextcap_le {need cap : Nat} (h : cap < need) : Builtin.nextslicecap need cap ≤ 2 * need := by
  unfold Builtin.nextslicecap
  split
  · omega
  · split
    · omega
    · have := growBy_le need 4 cap (.inl h)
      omega

section
variable {P : Program} {E : Env} {w : World}

/-- The bare facts of an append's types. -/
structure AppTy (P : Program) (ts : Array TypeId) (et : TypeId) (i : TypeInfo) (z : Value) : Prop where
  t0 : ∃ t, ts[0]? = some t ∧ P.underlying t = some (.slice et)
  t1 : ∃ t d, ts[1]? = some t ∧ P.underlying t = some d ∧ (∀ k, d ≠ .int k)
  info : P.info? et = some i
  zero : i.zero = some z
  size : z.cells.size = i.size

theorem append_fit {ts : Array TypeId} {et : TypeId} {i : TypeInfo} {z : Value} (T : AppTy P ts et i z) {base : Option Addr} {k c n : Nat} {x : Value} (ty : TypeId)
    (hl : (Builtin.lenOf x).run P w = .ok n w) {vs : Array Value} (hv : (Builtin.firstCells i.size n x).run P w = .ok vs w) (hfit : k + n ≤ c) {w' : World}
    (hs : ∀ a, base = some a → (storeCells (a.add (k * i.size)) vs.toList).run P w = .ok () w') (hn : base = none → w' = w) :
    (Builtin.append_ ts ty #[.slice base k c, x]).run P w = .ok (.slice base (k + n) c) w' := by
  obtain ⟨t, ht, hd⟩ := T.t0
  obtain ⟨t1, d1, ht1, hd1, hint⟩ := T.t1
  have hz : (match d1 with | .int _ => true | _ => false) = false := by
    cases d1 <;> first | rfl | exact absurd rfl (hint _)
  simp only [Builtin.append_, ht, ht1, Sem.run_bind, run_under hd, run_under hd1, Result.andThen, run_size T.info]
  simp only [List.size_toArray, List.length_cons, List.length_nil, Nat.reduceAdd, Nat.lt_add_one, getElem?_pos, List.getElem_toArray, List.getElem_cons_zero, List.getElem_cons_succ, Nat.zero_lt_succ]
  simp only [Sem.run_bind, run_under hd, run_under hd1, Result.andThen, run_size T.info, Sem.run_pure, hz, Bool.false_eq_true, if_false, hl, Bool.not_false, if_true, hfit, hv]
  cases base with
  | none => have := hn rfl; subst this; rfl
  | some a => simp only [Sem.run_bind, hs a rfl, Result.andThen, Sem.run_pure]

theorem append_grow {ts : Array TypeId} {et : TypeId} {i : TypeInfo} {z : Value} (T : AppTy P ts et i z) {base : Option Addr} {k c n : Nat} {x : Value} (ty : TypeId)
    (hl : ∀ w' : World, w'.heap = w.heap → (Builtin.lenOf x).run P w' = .ok n w') {vs olds : Array Value} (hv : ∀ w' : World, w'.heap = w.heap → (Builtin.firstCells i.size n x).run P w' = .ok vs w')
    (ho : ∀ w' : World, w'.heap = w.heap → (Builtin.firstCells i.size k (.slice base k c)).run P w' = .ok olds w')
    (hfit : c < k + n) (hb : (k + n) * i.bytes ≤ room) (hk : k + n ≤ room) :
    ∃ nc : Nat, k + n ≤ nc ∧ ∃ w' : World, (Builtin.append_ ts ty #[.slice base k c, x]).run P w = .ok (.slice (some ⟨w.heap.size, 0, none⟩) (k + n) nc) w' ∧
      w'.heap = w.heap.push (.cells (olds ++ vs ++ ((Array.range ((nc - (k + n)) * i.size)).map (z.cells[· % i.size]!))) et) ∧ w'.tape = w.tape ∧ w'.os = w.os ∧ w'.output = w.output := by
  obtain ⟨t, ht, hd⟩ := T.t0
  obtain ⟨t1, d1, ht1, hd1, hint⟩ := T.t1
  have hz : (match d1 with | .int _ => true | _ => false) = false := by
    cases d1 <;> first | rfl | exact absurd rfl (hint _)
  have hr : room = 35184372088832 := rfl
  have n1 : ¬ (((k + n : Nat) : Int) > IntKind.i64.max ∧ ((false = true) ∨ i.bytes = 0)) := by
    simp only [IntKind.max, IntKind.signed, IntKind.bits]; simp; omega
  have n2 : ¬ (Builtin.nextslicecap (k + n) c * i.bytes > 2 ^ 48) := by
    have h1 := nextcap_le hfit
    have h2 : Builtin.nextslicecap (k + n) c * i.bytes ≤ 2 * (k + n) * i.bytes := Nat.mul_le_mul_right _ h1
    have h3 : 2 * (k + n) * i.bytes = 2 * ((k + n) * i.bytes) := Nat.mul_assoc _ _ _
    omega
  refine ⟨(Question.appendCap (k + n) c et).cut (w.tape w.drawn (.appendCap (k + n) c et)), by simp only [Question.cut]; omega,
    (w.drew).alloc (.cells (olds ++ vs ++ ((Array.range (((Question.appendCap (k + n) c et).cut (w.tape w.drawn (.appendCap (k + n) c et)) - (k + n)) * i.size)).map (z.cells[· % i.size]!))) et), ?_, rfl, rfl, rfl, rfl⟩
  simp only [Builtin.append_, ht, ht1, Sem.run_bind, run_under hd, run_under hd1, Result.andThen, run_size T.info]
  simp only [List.size_toArray, List.length_cons, List.length_nil, Nat.reduceAdd, Nat.lt_add_one, getElem?_pos, List.getElem_toArray, List.getElem_cons_zero, List.getElem_cons_succ, Nat.zero_lt_succ]
  simp only [Sem.run_bind, run_under hd, run_under hd1, Result.andThen, run_size T.info, run_info T.info, Sem.run_pure, hz, Bool.false_eq_true, if_false, hl w rfl, Bool.not_false, if_true, if_neg (show ¬ (k + n ≤ c) by omega), false_or, n2, run_choose, Question.forced, run_askRoom]
  simp only [Bool.false_eq_true, false_or] at n1
  rw [if_neg n1]
  simp only [Sem.run_bind, run_info T.info, Result.andThen, if_neg n2, run_choose, Question.forced, Bool.false_eq_true, if_false, run_askRoom, World.drew_eq,
    ho w.drew rfl, hv w.drew rfl, run_zero T.info T.zero, newRow, run_newObj, Sem.run_pure, World.size_drew, Builtin.zeroCells, T.size]
  rfl

/-- What is read does not hang on the draws. -/
theorem RelW.heap {w' : World} (h : RelW E w) (hh : w'.heap = w.heap) : RelW E w' := by
  refine ⟨fun i o hs ho => ?_, h.inj⟩
  have := h.obj i o hs ho
  cases o with
  | cells v kd cs => simpa only [RelObj, RelCells, hh] using this
  | map v es => simpa only [RelObj, RelMapObj, hh] using this
  | strIter s pos => simpa only [RelObj, hh] using this
  | mapIter mp left => simpa only [RelObj, RelIter, hh] using this

theorem wr_ver {H : AHeap} {r : Ref} {o : Nat} {xs : List AVal} {H' : AHeap} (hw : wrCells H { r with off := o } xs = some H') : r.ver = verOf H r.id := by
  unfold wrCells at hw
  split at hw
  · rename_i vv kd cs h0
    split at hw
    · rename_i hc; rw [verOf_some h0]; exact hc.1.symm
    · cases hw
  · cases hw

theorem open_new (h : RelW E w) {w' : World} {xs : List AVal} {vs : List Value} {rest : Array Value} {t : TypeId} {es n nc : Nat} (hx : RelL E xs vs)
    (hsz : vs.length + rest.size = nc * es) (hle : n ≤ nc)
    (hh : w'.heap = w.heap.push (.cells (vs.toArray ++ rest) t)) (ht : w'.tape = w.tape) (ho : w'.os = w.os) (hp : w'.output = w.output) :
    ∃ E', RelW E' w' ∧ Ext E w E' w' ∧ E'.H = E.H ++ [.cells 0 .opn xs] ∧ RelV E' (.slice ⟨E.H.length, 0, 0⟩ n (.op es)) (.slice (some ⟨w.heap.size, 0, none⟩) n nc) := by
  have hl := hx.length
  obtain ⟨E', h1, h2, h3, h4, h5, h6⟩ := new_cells h (w' := w') .opn (cs := xs) (c := vs.toArray ++ rest) (t := t) (fz := (0, 0))
    (by rw [hl]; simp; exact hx) (by simp; omega) (fun e => by cases e) (fun _ => .inl (Nat.le_refl _)) hh ht ho hp
  refine ⟨E', h1, h2, h3, ?_⟩
  simp only [RelG]
  exact ⟨_, _, rfl, h6, by simp [h3], Nat.zero_le _, fun _ => ⟨h4.symm, rfl, hle, .inl ⟨rfl, fun _ => by rw [h5]; simp; omega⟩⟩⟩

theorem aAppend_sound (h : RelW E w) {ts : Array TypeId} {et : TypeId} {i : TypeInfo} {z : Value} (T : AppTy P ts et i z) {s x : AVal} {a b : Value}
    (hs : RelV E s a) (hx : RelV E x b) (hes : (∃ s, x = .str s) → i.size = 1) {v : AVal} {H' : AHeap}
    (ha : aAppend E.H i.size i.bytes s x = some (v, H')) (ty : TypeId) : Runs P E w (Builtin.append_ ts ty #[a, b]) v H' := by
  unfold aAppend at ha
  split at ha
  case h_2 => cases ha
  rename_i n hl
  split at ha
  case h_2 => cases ha
  rename_i xs hc
  obtain ⟨hlen, vs, hfc, hxs, hvl⟩ := src_sound (P := P) h hx hl (Nat.le_refl n) hc hes
  unfold aAppendTo at ha
  split at ha
  · -- a nil slice
    simp only [RelG] at hs; subst hs
    split at ha
    · rename_i hn
      simp only [Option.some.injEq, Prod.mk.injEq] at ha
      obtain ⟨rfl, rfl⟩ := ha
      subst hn
      exact Runs.pure h (append_fit T (base := none) (k := 0) (c := 0) (n := 0) ty (hlen w) (hfc w rfl) (Nat.le_refl _) (fun a e => by cases e) (fun _ => rfl)) (by simp only [RelG])
    · split at ha
      · rename_i hn hc2
        simp only [Option.some.injEq, Prod.mk.injEq] at ha
        obtain ⟨rfl, rfl⟩ := ha
        obtain ⟨nc, hnc, w', g1, g2, g3, g4, g5⟩ := append_grow T (w := w) (base := none) (k := 0) (c := 0) (n := n) (x := b) ty (fun w' _ => hlen w') hfc
          (olds := #[]) (fun w' _ => by simp [Builtin.firstCells]) (by omega) (by simpa using hc2.1) (by simpa using hc2.2)
        simp only [Nat.zero_add] at g1 g2 hnc
        obtain ⟨E', q1, q2, q3, q4⟩ := open_new (n := n) (nc := nc) (es := i.size) h hxs (rest := (Array.range ((nc - n) * i.size)).map (z.cells[· % i.size]!)) (t := et) (w' := w')
          (by simp [hvl, ← Nat.add_mul]; congr 1; omega) hnc (by rw [g2]; simp) g3 g4 g5
        exact ⟨_, w', E', g1, q4, q1, q3, q2⟩
      · cases ha
  · -- a slice of a known capacity
    rename_i r k c
    simp only [RelG] at hs
    obtain ⟨p, c', rfl, h1, h2, h3, h4⟩ := hs
    split at ha
    · rename_i hn
      split at ha
      · rename_i hv
        simp only [Option.some.injEq, Prod.mk.injEq] at ha
        obtain ⟨rfl, rfl⟩ := ha
        obtain ⟨hp, rfl⟩ := h4 hv.1
        subst hn
        have : vs = [] := by simpa using hvl
        subst this
        exact Runs.pure h (append_fit T (base := some p) (n := 0) ty (hlen w) (hfc w rfl) hv.2 (fun a _ => rfl) (fun e => by cases e)) (by simp only [RelG]; exact ⟨_, _, rfl, h1, h2, h3, h4⟩)
      · cases ha
    · rename_i hn
      split at ha
      · rename_i hfit
        split at ha
        · rename_i H1 hw
          simp only [Option.some.injEq, Prod.mk.injEq] at ha
          obtain ⟨rfl, rfl⟩ := ha
          have hver : r.ver = verOf E.H r.id := wr_ver hw
          obtain ⟨hp, rfl⟩ := h4 hver
          obtain ⟨w', E', g1, g2, g3, g4⟩ := wr_sound (P := P) h hw h1 hxs
          refine ⟨.slice (some p) (k + n) c', w', E', ?_, ?_, g3, g2, g4⟩
          · exact append_fit T (base := some p) ty (hlen w) (hfc w rfl) hfit (fun a e => by cases e; rw [hp, add_none]; simpa using g1) (fun e => by cases e)
          · simp only [RelG]
            exact ⟨_, _, rfl, RelSl.ext g4 ⟨h1, h2, h3, h4⟩⟩
        · cases ha
      · rename_i hfit
        split at ha
        · rename_i hroom
          split at ha
          · rename_i olds hrd
            simp only [Option.some.injEq, Prod.mk.injEq] at ha
            obtain ⟨rfl, rfl⟩ := ha
            obtain ⟨e1, e2, us, e3, e4, e5, _⟩ := rd_sound h hrd h1
            obtain ⟨hp, rfl⟩ := h4 e2
            have ho : ∀ w' : World, w'.heap = w.heap → (Builtin.firstCells i.size k (.slice (some p) k c')).run P w' = .ok us.toArray w' := fun w' hh => by
              have := run_loadCells_of (P := P) (w := w') p _ _ hp us (fun j v hj => by rw [World.cell?, hh]; exact e5 j v hj)
              rw [e4] at this
              simp [Builtin.firstCells, this]
            obtain ⟨nc, hnc, w', g1, g2, g3, g4, g5⟩ := append_grow T (w := w) (base := some p) (k := k) (c := c') (n := n) (x := b) ty (fun w' _ => hlen w') hfc ho (by omega) hroom.1 hroom.2
            obtain ⟨E', q1, q2, q3, q4⟩ := open_new (n := k + n) (nc := nc) (es := i.size) h (e3.append hxs) (rest := (Array.range ((nc - (k + n)) * i.size)).map (z.cells[· % i.size]!)) (t := et) (w' := w')
              (by simp [hvl, e4, ← Nat.add_mul]; congr 1; omega) hnc (by rw [g2]; simp) g3 g4 g5
            exact ⟨_, w', E', g1, q4, q1, q3, q2⟩
          · cases ha
        · cases ha
  · -- a slice whose capacity is open
    rename_i r k es'
    simp only [RelG] at hs
    obtain ⟨p, c', rfl, h1, h2, h3, h4⟩ := hs
    split at ha
    · rename_i hn
      split at ha
      · rename_i hv
        simp only [Option.some.injEq, Prod.mk.injEq] at ha
        obtain ⟨rfl, rfl⟩ := ha
        obtain ⟨_, _, hk, _⟩ := h4 hv
        subst hn
        have : vs = [] := by simpa using hvl
        subst this
        exact Runs.pure h (append_fit T (base := some p) (n := 0) ty (hlen w) (hfc w rfl) hk (fun a _ => rfl) (fun e => by cases e)) (by simp only [RelG]; exact ⟨_, _, rfl, h1, h2, h3, h4⟩)
      · cases ha
    · rename_i hn
      split at ha
      case isFalse => cases ha
      rename_i hco
      obtain ⟨rfl, hes0, hr1, hr2⟩ := hco
      split at ha
      case h_2 => cases ha
      rename_i v0 cs h0
      split at ha
      case isFalse => cases ha
      rename_i hcv
      obtain ⟨hv, hall⟩ := hcv
      have hver : r.ver = verOf E.H r.id := by rw [verOf_some h0]; exact hv.symm
      obtain ⟨q1, q2, q3, q4⟩ := h4 hver
      have hopn : opnAt E.H r.id = true := by rw [opnAt_some h0]; rfl
      obtain ⟨c, e, fz, b1, b2, b3, b4, b5, b6⟩ := h.obj r.id _ h1 h0
      have hxl := hxs.length
      split at ha
      · rename_i hfr
        obtain ⟨hoff, hcl⟩ := hfr
        simp only [Option.some.injEq, Prod.mk.injEq] at ha
        obtain ⟨rfl, rfl⟩ := ha
        by_cases hfit : k + n ≤ c'
        · -- there is room
          have hq : p.off = r.off ∧ r.off + c' * i.size = E.sz r.id := by
            rcases q4 with ⟨q4, q5⟩ | ⟨q4, q5, _⟩
            · exact ⟨q4, q5 hopn⟩
            · omega
          have hp : p = ⟨E.m r.id, 0, none⟩ := by
            obtain ⟨pb, po, ps⟩ := p; simp only at q1 q2 hq; subst q1; subst q2; rw [hq.1, hoff]
          have hmul : (k + n) * i.size ≤ c' * i.size := Nat.mul_le_mul_right _ hfit
          rw [Nat.add_mul] at hmul
          obtain ⟨w', g1, g2, g3, g4, g5, g6, g7⟩ := run_storeCells_own (P := P) (E.m r.id) e fz (k * i.size) vs 0 w c b1 (b6 (by simp)) (by omega) (oneCells_of hall hxs)
          have f : Follows (AObj.cells v0 .opn cs) (.cells (v0 + 1) .opn (cs ++ xs)) := ⟨rfl, rfl, by simp [AObj.ver], fun _ _ => rfl, fun e => by cases e⟩
          have hx' := rel_put h h1 h0 f g3 g4 g5 g6 g7 (fun x => by
            refine ⟨_, e, fz, g2, ?_, ?_, ?_, fun e => (by cases e), ?_⟩
            · simp only [List.size_toArray, Nat.add_zero]; rw [splice_length (by simp; omega)]; exact b2
            · have e1 : (splice c.toList (k * i.size + 0) vs).toArray.toList.take (cs ++ xs).length = c.toList.take cs.length ++ vs := by
                simp only [Nat.add_zero, splice, List.length_append, hcl, hxl]
                rw [List.take_append_of_le_length (by simp; omega), List.take_of_length_le (by simp; omega)]
              rw [e1]
              exact RelL.ext x (b3.append hxs)
            · simp only [List.size_toArray, Nat.add_zero, List.length_append]; rw [splice_length (by simp; omega)]; simp; omega
            · intro _; simp only [List.size_toArray, Nat.add_zero]; rw [splice_length (by simp; omega)]; simpa using b6 (by simp))
          refine ⟨.slice (some p) (k + n) c', w', _, ?_, ?_, hx'.1, rfl, hx'.2⟩
          · exact append_fit T (base := some p) ty (hlen w) (hfc w rfl) hfit (fun a e => by cases e; rw [hp, add_none]; simpa using g1) (fun e => by cases e)
          · simp only [RelG]
            have hl' : r.id < E.H.length := lt_of_some h0
            refine ⟨_, _, rfl, h1, by simpa [Env.put] using hl', ?_, fun _ => ⟨q1, q2, hfit, .inl ⟨by rw [hp], fun _ => ?_⟩⟩⟩
            · show v0 + 1 ≤ verOf (E.H.set r.id _) r.id
              rw [verOf_some (set_get h0)]; exact Nat.le_refl _
            · show 0 + c' * i.size = E.sz r.id
              rw [← hq.2, hoff]
        · -- a new block
          have ho : ∀ w' : World, w'.heap = w.heap → (Builtin.firstCells i.size k (.slice (some p) k c')).run P w' = .ok (c.toList.take cs.length).toArray w' := fun w' hh => by
            by_cases hk0 : k * i.size = 0
            · have : cs.length = 0 := by omega
              simp [Builtin.firstCells, hk0, this, loadCells, loadCellsFrom]
            · have hp : p = ⟨E.m r.id, 0, none⟩ := by
                rcases q4 with ⟨q4, q5⟩ | ⟨q4, q5, _⟩
                · obtain ⟨pb, po, ps⟩ := p; simp only at q1 q2 q4; subst q1; subst q2; rw [q4, hoff]
                · subst q4; simp at hk0
              have := run_loadCells_of (P := P) (w := w') p _ _ hp (c.toList.take cs.length) (fun j v hj => by
                rw [World.cell?, hh, b1]
                have hjl := (List.getElem?_eq_some_iff.1 hj).1
                simp only [List.length_take] at hjl
                rw [List.getElem?_take_of_lt (by omega)] at hj
                simpa using hj)
              have hl4 : (c.toList.take cs.length).length = k * i.size := by simp; omega
              rw [hl4] at this
              simp [Builtin.firstCells, this]
          obtain ⟨nc, hnc, w', g1, g2, g3, g4, g5⟩ := append_grow T (w := w) (base := some p) (k := k) (c := c') (n := n) (x := b) ty (fun w' _ => hlen w') hfc ho (by omega) hr1 hr2
          have f : Follows (AObj.cells v0 .opn cs) (.cells (v0 + 1) .opn (cs ++ xs)) := ⟨rfl, rfl, by simp [AObj.ver], fun _ _ => rfl, fun e => by cases e⟩
          have hx' := rel_swap (nc * i.size) h h1 h0 f (by simp [AObj.ver]) rfl g2 g3 g4 g5 (fun x => by
            refine ⟨(c.toList.take cs.length).toArray ++ vs.toArray ++ ((Array.range ((nc - (k + n)) * i.size)).map (z.cells[· % i.size]!)), et, (0, 0), by show w'.heap[if r.id = r.id then _ else _]? = _; rw [if_pos rfl, g2]; simp, ?_, ?_, ?_, fun e => (by cases e), fun _ => .inl (Nat.le_refl _)⟩
            · simp [Env.swap, hvl, hcl]
              rw [Nat.min_eq_left (by omega), ← Nat.add_mul, ← Nat.add_mul]; congr 1; omega
            · have e1 : ((c.toList.take cs.length).toArray ++ vs.toArray ++ ((Array.range ((nc - (k + n)) * i.size)).map (z.cells[· % i.size]!))).toList.take (cs ++ xs).length = c.toList.take cs.length ++ vs := by
                simp only [List.append_toArray, Array.toList_append, List.length_append]
                rw [List.take_append_of_le_length (by simp; omega), List.take_of_length_le (by simp; omega)]
              rw [e1]
              exact RelL.ext x (b3.append hxs)
            · simp; omega)
          refine ⟨_, w', _, g1, ?_, hx'.1, rfl, hx'.2⟩
          simp only [RelG]
          have hl' : r.id < E.H.length := lt_of_some h0
          refine ⟨_, _, rfl, h1, by simpa [Env.swap] using hl', ?_, fun _ => ⟨by simp [Env.swap], rfl, hnc, .inl ⟨rfl, fun _ => by simp [Env.swap]⟩⟩⟩
          show v0 + 1 ≤ verOf (E.H.set r.id _) r.id
          rw [verOf_some (set_get h0)]; exact Nat.le_refl _
      · split at ha
        · rename_i hroom
          simp only [Option.some.injEq, Prod.mk.injEq] at ha
          obtain ⟨rfl, rfl⟩ := ha
          have hn0 : 0 < n := by omega
          have hne : 0 < n * i.size := Nat.mul_pos hn0 hes0
          have hq : p.off = r.off ∧ r.off + c' * i.size = E.sz r.id := by
            rcases q4 with ⟨q4, q5⟩ | ⟨q4, q5, q6⟩
            · exact ⟨q4, q5 hopn⟩
            · have := q6 hopn
              rw [Nat.add_mul] at hroom; omega
          have hp : p = ⟨E.m r.id, r.off, none⟩ := by
            obtain ⟨pb, po, ps⟩ := p; simp only at q1 q2 hq; subst q1; subst q2; rw [hq.1]
          have hfit : k + n ≤ c' := by
            have : (k + n) * i.size ≤ c' * i.size := by omega
            exact Nat.le_of_mul_le_mul_right this hes0
          rw [Nat.add_mul] at hroom
          have hw : wrCells E.H { r with off := r.off + k * i.size } xs = some (E.H.set r.id (.cells v0 .opn (splice cs (r.off + k * i.size) xs))) := by
            simp only [wrCells, h0]
            rw [if_pos ⟨hv, by simp, by omega, hall⟩]
          obtain ⟨w', E', g1, g2, g3, g4⟩ := wr_sound (P := P) h hw h1 hxs
          refine ⟨.slice (some p) (k + n) c', w', E', ?_, ?_, g3, g2, g4⟩
          · exact append_fit T (base := some p) ty (hlen w) (hfc w rfl) hfit (fun a e => by cases e; rw [hp, add_none]; simpa using g1) (fun e => by cases e)
          · simp only [RelG]
            exact ⟨_, _, rfl, RelSl.ext g4 ⟨h1, h2, h3, fun _ => ⟨q1, q2, hfit, .inl ⟨hq.1, fun _ => hq.2⟩⟩⟩⟩
        · cases ha
  · cases ha
end
end Go.Abs
