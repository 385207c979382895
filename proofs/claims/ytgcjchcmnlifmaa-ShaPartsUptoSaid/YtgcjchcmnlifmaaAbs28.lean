/- From a function's law to its row: what came in reads behind the call as before, what comes out is 'true'. -/
import Derived.Test.YtgcjchcmnlifmaaAbs27
namespace Go.Abs
open Go Go.RowKit Go.ChangeShapes
section
variable {H : Type} {enc : TypeId × Value → H} {P : Program} {W : World} {b0 : Nat}

theorem below_of_ext {E E' : Env} {w w' : World} (x : Ext E w E' w') (ho : ∀ i, ownAt E.H i = false) : Below w.heap.size w w' :=
  ⟨x.os, x.tape, x.output, x.size, fun k hk => x.frame k hk fun i _ _ h => by rw [ho] at h; cases h⟩

theorem trodAll_stays {W' : World} (hl : laidOutB P = true) (hb : Below W.heap.size W W') {sp : Nat → Bool} : ∀ {ts : List TypeId} {vs : List Value} {ds : List (DataW H)} {ps : List MemPlace},
    (∀ t ∈ ts, P.readableRec t = true ∧ t < P.types.size) → DataW.TrodAll enc P W 0 (fun _ => true) true ts vs ds ps → (∀ p ∈ ps, p.block < W.heap.size) → (∀ p ∈ ps, sp p.block = true) →
    DataW.TrodAll enc P W' 0 sp true ts vs ds ps
  | [], _, _, _, _, h, _, _ => by obtain ⟨rfl, rfl, rfl⟩ := trodAll_nil h; exact trodAll_mk0
  | t :: ts, _, _, _, ht, h, hlt, hs => by
    obtain ⟨v, vs1, d, ds1, a, b, rfl, rfl, rfl, h1, h2⟩ := trodAll_cons h
    have k := ht t (List.mem_cons_self)
    refine ⟨a, b, WideElems.Trod_stays hl k.1 k.2 h1 (fun p hp => hb.same (hlt p (List.mem_append_left _ hp))) (fun p hp => hs p (List.mem_append_left _ hp)), ?_, rfl⟩
    exact trodAll_stays hl hb (fun t m => ht t (List.mem_cons_of_mem _ m)) h2 (fun p hp => hlt p (List.mem_append_right _ hp)) (fun p hp => hs p (List.mem_append_right _ hp))

/-- One argument. -/
def ArgV (P : Program) (B : AHeap) (t : TypeId) (a : AVal) (d : DataW H) : Prop :=
  match P.underlying t with
  | some (.struct _) | some (.array _ _) => ∃ cs, a = .agg cs ∧ Arg P B true t cs d
  | _ => Arg P B true t [a] d

def ArgAll (P : Program) (B : AHeap) : List TypeId → List AVal → List (DataW H) → Prop
  | [], as, ds => as = [] ∧ ds = []
  | t :: ts, as, ds => ∃ a as' d ds', as = a :: as' ∧ ds = d :: ds' ∧ ArgV P B t a d ∧ ArgAll P B ts as' ds'

theorem ArgAll.length : ∀ {ts : List TypeId} {B : AHeap} {as : List AVal} {ds : List (DataW H)}, ArgAll P B ts as ds → ds.length = ts.length
  | [], _, _, _, h => by rw [h.2]; rfl
  | t :: ts, _, _, _, h => by
    obtain ⟨_, _, _, _, _, rfl, _, h⟩ := h
    simp [ArgAll.length h]

theorem based_cell {b1 : Nat} {t : TypeId} {a : Addr} {len cap : Nat} (h : Cell.okWide P W .any b1 t (.slice (some a) len cap)) : a.spot = none ∧ isCells W a.block := by
  unfold Cell.okWide at h
  split at h <;> try (rename_i hv; cases hv)
  all_goals try contradiction
  unfold Cell.ok at h
  split at h <;> try contradiction
  all_goals rename_i hv; try cases hv
  obtain ⟨_, _, h⟩ := h
  obtain ⟨_, hs, row, cells, hsh, _⟩ := h
  refine ⟨hs, ?_⟩
  unfold World.shape? at hsh
  split at hsh
  · rename_i c e fz hb; exact ⟨c, e, fz, hb⟩
  · cases hsh

theorem argV_of {t : TypeId} {v : Value} {d : DataW H} {ps : List MemPlace} {b1 m : Nat} (hb0 : (∃ b, isCells W b) → isCells W b0) (hp : plainT P m t = true) (hval : Value.okWide P W .any b1 t v) (h : DataW.Trod enc P W 0 (fun _ => true) true t v d ps) :
    ArgV P (absHeap W b0) t (absTop W b0 v) d := by
  obtain ⟨n, hn⟩ := h
  have hb : Based W b0 true v.cells.toList := by
    intro a len cap hm
    show a.spot = none ∧ isCells W a.block
    unfold Value.okWide at hval
    split at hval
    · obtain ⟨cs, rfl, _, ts, _, _, hrow⟩ := hval
      have hm' : Value.slice (some a) len cap ∈ cs.toList := hm
      obtain ⟨i, hi⟩ := List.getElem?_of_mem hm'
      obtain ⟨u, _, hu⟩ := hrow i _ (by simpa using hi)
      exact based_cell hu
    · obtain ⟨cs, rfl, _, ts, _, _, hrow⟩ := hval
      have hm' : Value.slice (some a) len cap ∈ cs.toList := hm
      obtain ⟨i, hi⟩ := List.getElem?_of_mem hm'
      obtain ⟨u, _, hu⟩ := hrow i _ (by simpa using hi)
      exact based_cell hu
    · cases v with
      | agg cs => 
        exfalso
        unfold Cell.okWide at hval
        split at hval <;> try (rename_i hv; cases hv)
        all_goals try contradiction
        unfold Cell.ok at hval
        split at hval <;> first | contradiction | (rename_i hv; cases hv)
      | _ => 
        simp only [Value.cells, List.mem_cons, List.not_mem_nil, or_false] at hm
        first
          | (cases hm; exact based_cell hval)
          | cases hm
  have key := arg_of_trod (b0 := b0) hb0 n m t _ _ true hp hn hb
  unfold ArgV
  unfold Value.okWide at hval
  split at hval
  · rename_i ht
    rw [ht]
    obtain ⟨cs, rfl, _, _⟩ := hval
    exact ⟨_, rfl, key⟩
  · rename_i ht
    rw [ht]
    obtain ⟨cs, rfl, _, _⟩ := hval
    exact ⟨_, rfl, key⟩
  · have : [absTop W b0 v] = v.cells.toList.map (absV W b0) := by
      cases v with
      | agg cs => 
        exfalso
        unfold Cell.okWide at hval
        split at hval <;> try (rename_i hv; cases hv)
        all_goals try contradiction
        unfold Cell.ok at hval
        split at hval <;> first | contradiction | (rename_i hv; cases hv)
      | _ => rfl
    rw [← this] at key
    split
    · rename_i h2; exact (‹∀ fields, P.underlying t = some (.struct fields) → False› _ h2).elim
    · rename_i h2; exact (‹∀ len elem, P.underlying t = some (.array len elem) → False› _ _ h2).elim
    · exact key

theorem argAll_of {b1 m : Nat} (hb0 : (∃ b, isCells W b) → isCells W b0) : ∀ {ts : List TypeId} {vs : List Value} {ds : List (DataW H)} {ps : List MemPlace}, (∀ t ∈ ts, plainT P m t = true) →
    (∀ (j : Nat) t v, ts[j]? = some t → vs[j]? = some v → Value.okWide P W .any b1 t v) → DataW.TrodAll enc P W 0 (fun _ => true) true ts vs ds ps → ArgAll P (absHeap W b0) ts (vs.map (absTop W b0)) ds
  | [], _, _, _, _, _, h => by obtain ⟨rfl, rfl, rfl⟩ := trodAll_nil h; exact ⟨rfl, rfl⟩
  | t :: ts, _, _, _, hp, hv, h => by
    obtain ⟨v, vs1, d, ds1, a, b, rfl, rfl, rfl, h1, h2⟩ := trodAll_cons h
    exact ⟨_, _, _, _, rfl, rfl, argV_of hb0 (hp t List.mem_cons_self) (hv 0 t v rfl rfl) h1, argAll_of hb0 (fun t m => hp t (List.mem_cons_of_mem _ m)) (fun j t v hj hk => hv (j + 1) t v (by simpa using hj) (by simpa using hk)) h2⟩

/-- The row's step: what the law says of the function is what the row asks. -/
theorem row_calls {f : FuncId} {fn : Func} {g : Abs.Spec} (ok : FnOk P f g) {s : ChangeSpec} {apart fresh handsOn again : Bool} {base m tb : Nat} {args : Array Value} {ds gs : List (DataW H)} {before : List MemPlace}
    (hl : laidOutB P = true) (hpl : fn.params.toList.all (fun t => plainT P m t && (P.readableRec t && decide (t < P.types.size))) = true) (hrt : fn.resultTypes = #[tb]) (htb : P.underlying tb = some .bool) (hvs : s.vars = [])
    (hfn0 : ∀ ds : List (DataW H), ds.length = fn.params.toList.length → s.fn H ds = { results := [.lit (.bool true)], args := ds })
    (hval : ∀ (j : Nat) t v, fn.params[j]? = some t → args[j]? = some v → Value.okWide P W .any base t v)
    (hW : DataW.Whole enc P fn.params.toList s.vars apart W args.toList ds gs before)
    (law : ∀ B as, ArgAll P B fn.params.toList as ds → ∃ H', g as B (.bool true) H') :
    Calls P f args W fun e W' => ∃ v, e = .returned v ∧ s.post enc P fn apart fresh handsOn again W args v W' := by
  have hW' := hW
  obtain ⟨p, q, hA, hV, rfl, hfz, hnd⟩ := hW
  rw [hvs] at hV
  obtain ⟨rfl, rfl⟩ := trodVars_none hV
  simp only [List.append_nil] at hW'
  rw [List.all_eq_true] at hpl
  have hpl' : ∀ t ∈ fn.params.toList, plainT P m t = true ∧ P.readableRec t = true ∧ t < P.types.size := fun t ht => by
    have := hpl t ht
    simpa only [Bool.and_eq_true, decide_eq_true_eq] using this
  obtain ⟨b0, hb0⟩ : ∃ b0, (∃ b, isCells W b) → isCells W b0 := by
    by_cases h : ∃ b, isCells W b
    · obtain ⟨b, hb⟩ := h; exact ⟨b, fun _ => hb⟩
    · exact ⟨0, fun h' => absurd h' h⟩
  have hal := argAll_of (b0 := b0) hb0 (fun t ht => (hpl' t ht).1) (fun j t v hj hk => hval j t v (by simpa using hj) (by simpa using hk)) hA
  obtain ⟨H', hg⟩ := law _ _ hal
  have hfn := hfn0 ds hal.length
  have := ok.does _ _ _ _ hg (absEnv W b0) W args.toList rfl absW_rel (absTop_rels _)
  rw [show args.toList.toArray = args by simp] at this
  refine this.mono ?_
  rintro e W' ⟨v, E', rfl, hv, hw', hE', hx⟩
  simp only [RelG] at hv
  subst hv
  have hbl : Below W.heap.size W W' := below_of_ext hx absHeap_own
  have hlt : ∀ x ∈ p, x.block < W.heap.size := fun x hx => by simpa using hW'.lt x hx
  have hold : ∀ x ∈ p, (fun b => decide (b < W.heap.size)) x.block = true := fun x hx => by simpa using hlt x hx
  have hres : ∀ (b : Nat) (sp : Nat → Bool) (hd : Bool), DataW.TrodAll enc P W' b sp hd fn.resultTypes.toList ((Value.bool true).resultList fn.resultTypes.size) [.lit (.bool true)] [] := by
    intro b sp hd
    rw [hrt]
    exact trodAll_cons_mk (shut_bool htb true) trodAll_mk0
  have hargs : ∀ sp : Nat → Bool, (∀ x ∈ p, sp x.block = true) → DataW.TrodAll enc P W' 0 sp true fn.params.toList args.toList ds p := fun sp hs => trodAll_stays hl hbl (fun t ht => (hpl' t ht).2) hA hlt hs
  have hok : ∀ (j : Nat) (t : TypeId) (r : Value), fn.resultTypes[j]? = some t → ((Value.bool true).resultList fn.resultTypes.size)[j]? = some r → Value.okWide P W' .any 0 t r := by
    refine ok_one hrt rfl ?_
    unfold Value.okWide
    rw [htb]
    unfold Cell.okWide
    rw [htb]
    unfold Cell.ok
    rw [htb]
    trivial
  have hv0 : ∀ sp : Nat → Bool, DataW.TrodVars enc P W' sp s.vars (s.fn H (ds ++ [])).vars [] := fun sp => by rw [hvs, List.append_nil, hfn]; exact rfl
  refine ⟨_, rfl, ds, [], p, [], p, [], hW', ?_, ?_, hv0 _, World.keptBut_mono (fun x hx => ⟨hx, .inr (by simpa using hx)⟩) (hbl.frame _), fun _ => ⟨hok, _, _, p, ⟨p, [], trodAll_append (hargs _ fun _ _ => rfl) (hres _ _ _), hv0 _, by simp, ?_, ?_⟩, fun x hx _ => by simpa using hx⟩⟩
  · rw [List.append_nil, hfn]; exact hres _ _ _
  · rw [List.append_nil, hfn]; exact hargs _ hold
  · intro b off hx
    rw [hbl.frozen (hlt _ hx)]
    exact hfz b off (by simpa using hx)
  · intro ha
    simpa using hnd ha
end
end Go.Abs
