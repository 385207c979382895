/- Arguments: how what came in is laid into an abstract heap of blocks that may be looked at alone. -/
import Derived.Test.YtgcjchcmnlifmaaAbs20
import Derived.ChangeArms
import Derived.OpenShut
import Derived.ProofKit
import Derived.Carry
import Derived.JoinedCond
namespace Go.Abs
open Go
section
open Classical

def isCells (W : World) (b : Nat) : Prop := ∃ c e fz, W.heap[b]? = some (.cells c e fz)

/-- One cell, as it is seen. A slice that has no block is an old one (of a block b0 that is there). -/
noncomputable def absV (W : World) (b0 : Nat) : Value → AVal
  | .bool b => .bool b
  | .int k n => .int k n
  | .string s => .str s.data.toList
  | .pointer none => .nilp
  | .slice none 0 0 => .nils
  | .slice (some a) len cap => if a.spot = none ∧ isCells W a.block then .slice ⟨a.block, 1, a.off⟩ len (.ex cap) else if len = 0 ∧ isCells W b0 then .slice ⟨b0, 0, 0⟩ 0 (.ex 0) else .undef
  | _ => .undef
noncomputable def absTop (W : World) (b0 : Nat) : Value → AVal
  | .agg a => .agg (a.toList.map (absV W b0))
  | v => absV W b0 v
noncomputable def absObj (W : World) (b0 : Nat) : Obj → AObj
  | .cells c _ _ => .cells 1 .ro (c.toList.map (absV W b0))
  | _ => .cells 1 .ro []
noncomputable def absHeap (W : World) (b0 : Nat) : AHeap := W.heap.toList.map (absObj W b0)
noncomputable def absEnv (W : World) (b0 : Nat) : Env := ⟨fun i => i, fun i => ((W.heap[i]?).map fun o => match o with | .cells c _ _ => c.size | _ => 0).getD 0, isCells W, absHeap W b0⟩

variable {H : Type} {enc : TypeId × Value → H} {P : Program} {W : World} {b0 : Nat}

theorem absHeap_get {i : Nat} {c : Array Value} {e : TypeId} {fz : Nat × Nat} (h : W.heap[i]? = some (.cells c e fz)) : (absHeap W b0)[i]? = some (.cells 1 .ro (c.toList.map (absV W b0))) := by
  unfold absHeap
  rw [List.getElem?_map, Array.getElem?_toList, h]; rfl
theorem absHeap_len : (absHeap W b0).length = W.heap.size := by simp [absHeap]
theorem absHeap_ver {i : Nat} (h : isCells W i) : verOf (absHeap W b0) i = 1 := by
  obtain ⟨c, e, fz, h⟩ := h
  rw [verOf_some (absHeap_get h)]; rfl
theorem isCells.lt {i : Nat} (h : isCells W i) : i < (absHeap W b0).length := by
  obtain ⟨c, e, fz, h⟩ := h
  exact lt_of_some (absHeap_get h)
theorem absHeap_own (i : Nat) : ownAt (absHeap W b0) i = false := by
  unfold ownAt absHeap
  rw [List.getElem?_map]
  cases W.heap.toList[i]? with
  | none => rfl
  | some o => cases o <;> rfl

theorem absV_rel (v : Value) : RelV (absEnv W b0) (absV W b0 v) v := by
  unfold absV
  split
  · simp only [RelG]
  · simp only [RelG]
  · simp only [RelG]
  · simp only [RelG]
  · simp only [RelG]
  · rename_i a len cap
    split
    · rename_i h
      simp only [RelG]
      refine ⟨a, cap, rfl, h.2, h.2.lt, by rw [show (absEnv W b0).H = absHeap W b0 from rfl, absHeap_ver h.2]; exact Nat.le_refl _, fun _ => ⟨?_, rfl⟩⟩
      cases a; simp at h; simp [absEnv, h]
    · split
      · rename_i h
        simp only [RelG]
        obtain ⟨rfl, h⟩ := h
        refine ⟨a, cap, rfl, h, h.lt, Nat.zero_le _, fun hv => ?_⟩
        rw [show (absEnv W b0).H = absHeap W b0 from rfl, absHeap_ver h] at hv
        cases hv
      · simp only [RelG]
  · simp only [RelG]

theorem absV_rels (l : List Value) : RelL (absEnv W b0) (l.map (absV W b0)) l := by
  induction l with
  | nil => exact RelGL.nil
  | cons v l ih => exact RelGL.cons (absV_rel v) ih

theorem absTop_rel (v : Value) : RelV (absEnv W b0) (absTop W b0 v) v := by
  unfold absTop
  split
  · rename_i a
    simp only [RelG]
    exact ⟨a.toList, by simp, absV_rels _⟩
  · exact absV_rel _
theorem absTop_rels (l : List Value) : RelL (absEnv W b0) (l.map (absTop W b0)) l := by
  induction l with
  | nil => exact RelGL.nil
  | cons v l ih => exact RelGL.cons (absTop_rel v) ih

theorem absW_rel : RelW (absEnv W b0) W where
  obj i o hs ho := by
    obtain ⟨c, e, fz, h⟩ := hs
    have := absHeap_get (b0 := b0) h
    rw [show (absEnv W b0).H = absHeap W b0 from rfl, this] at ho
    cases ho
    refine ⟨c, e, fz, h, ?_, ?_, by simp, nofun, fun h => absurd rfl h⟩
    · simp [absEnv, h]
    · rw [List.take_of_length_le (by simp)]; exact absV_rels _
  inj i j _ _ _ _ ho := by
    rw [show (absEnv W b0).H = absHeap W b0 from rfl, absHeap_own] at ho; cases ho
end

/-- What is told by a list of cells, of a type. top: the list's own slices have a block. -/
inductive Arg (P : Program) (B : AHeap) {H : Type} : Bool → TypeId → List AVal → DataW H → Prop
  | bool {top t b} (ht : P.underlying t = some .bool) : Arg P B top t [.bool b] (.lit (.bool b))
  | int {top t k n} (ht : P.underlying t = some (.int k)) (hw : (Lit.int k n).wf = true) : Arg P B top t [.int k n] (.lit (.int k n))
  | str {top t s} (ht : P.underlying t = some .string) (hl : s.length ≤ maxLen) : Arg P B top t [.str s] (.lit (.string s))
  | nils {top t e} (ht : P.underlying t = some (.slice e)) : Arg P B top t [.nils] .nil
  | empty {t e i} (ht : P.underlying t = some (.slice e)) : Arg P B false t [.slice ⟨i, 0, 0⟩ 0 (.ex 0)] (.slice [] [])
  | slice {top t e i off len cap cs elems spare} (ht : P.underlying t = some (.slice e)) (h : B[i]? = some (.cells 1 .ro cs)) (hc : len ≤ cap) (hm : cap ≤ maxLen)
      (he : elems.length = len) (hs : spare.length = cap - len)
      (hl : ∀ (k : Nat) d, (elems ++ spare)[k]? = some d → off + (k + 1) * P.cellsOf e ≤ cs.length)
      (ha : ∀ (k : Nat) d, (elems ++ spare)[k]? = some d → Arg P B false e ((cs.drop (off + k * P.cellsOf e)).take (P.cellsOf e)) d) : Arg P B top t [.slice ⟨i, 1, off⟩ len (.ex cap)] (.slice elems spare)
  | struct {top t fs cs ds} (ht : P.underlying t = some (.struct fs)) (hl : cs.length = P.cellsOf t) (hd : ds.length = fs.size)
      (ha : ∀ (i : Nat) f d, fs[i]? = some f → ds[i]? = some d → Arg P B top f.type ((cs.drop f.offset).take (P.cellsOf f.type)) d) : Arg P B top t cs (.agg ds)
  | array {top t n e cs ds} (ht : P.underlying t = some (.array n e)) (hl : cs.length = P.cellsOf t) (hd : ds.length = n)
      (ha : ∀ (i : Nat) d, ds[i]? = some d → Arg P B top e ((cs.drop (i * P.cellsOf e)).take (P.cellsOf e)) d) : Arg P B top t cs (.agg ds)

def plainT (P : Program) : Nat → TypeId → Bool
  | 0, _ => false
  | n + 1, t => match P.underlying t with
    | some .bool | some (.int _) | some .string => true
    | some (.slice e) => decide (0 < P.cellsOf e) && plainT P n e
    | some (.array _ e) => plainT P n e
    | some (.struct fs) => fs.toList.all fun f => plainT P n f.type
    | _ => false

section
variable {H : Type} {enc : TypeId × Value → H} {P : Program} {W : World} {b0 : Nat}

/-- The slices among these cells have a block. -/
def Based (W : World) (b0 : Nat) (top : Bool) (cs : List Value) : Prop :=
  ∀ a len cap, Value.slice (some a) len cap ∈ cs → if top then a.spot = none ∧ isCells W a.block else isCells W b0

theorem Based.sub {top : Bool} {cs ds : List Value} (h : Based W b0 top cs) (k : ∀ x ∈ ds, x ∈ cs) : Based W b0 top ds := fun a l c m => h a l c (k _ m)

theorem cells?_of {a : Addr} {n : Nat} {l : List Value} (h : W.cells? 0 a n = some l) (hn : 0 < n) : a.spot = none ∧ ∃ c e fz, W.heap[a.block]? = some (.cells c e fz) ∧ a.off + n ≤ c.size ∧ l = (c.toList.drop a.off).take n := by
  unfold World.cells? at h
  rw [if_pos (Nat.zero_le _)] at h
  have hl := mapM_some_length h
  have hg : ∀ i, i < n → W.cell? (a.add i) = l[i]? := fun i hi => mapM_some_get h i i (by simp [hi])
  simp at hl
  have h0 := hg 0 hn
  rw [List.getElem?_eq_getElem (by omega)] at h0
  unfold World.cell? at h0
  split at h0
  case h_2 => cases h0
  rename_i c e fz hb
  have hb0 : (a.add 0).block = a.block := rfl
  rw [hb0] at hb
  split at h0
  · cases h0
  rename_i hsp
  have hsp' : a.spot = none := by
    cases hs : a.spot with
    | none => rfl
    | some z => exfalso; apply hsp; simp [Addr.add, hs]
  have hadd : ∀ i, a.add i = ⟨a.block, a.off + i, none⟩ := by
    intro i; cases a; simp at hsp'; subst hsp'; exact add_none _ _ _
  have hcell : ∀ i, i < n → c[a.off + i]? = l[i]? := by
    intro i hi
    rw [← hg i hi, hadd, cell_of hb]
  have hsz : a.off + n ≤ c.size := by
    have := hcell (n - 1) (by omega)
    rw [List.getElem?_eq_getElem (by omega)] at this
    have := (Array.getElem?_eq_some_iff.1 this).1
    omega
  refine ⟨hsp', c, e, fz, hb, hsz, ?_⟩
  apply List.ext_getElem?
  intro i
  by_cases hi : i < n
  · rw [List.getElem?_take_of_lt hi, List.getElem?_drop, ← hcell i hi, Array.getElem?_toList]
  · rw [List.getElem?_eq_none (by omega), List.getElem?_eq_none (by simp; omega)]

theorem absV_slice {a : Addr} {len cap : Nat} (h : a.spot = none) (h' : isCells W a.block) : absV W b0 (.slice (some a) len cap) = .slice ⟨a.block, 1, a.off⟩ len (.ex cap) := by
  simp only [absV]; rw [if_pos ⟨h, h'⟩]

theorem arg_of_trod (hb0 : (∃ b, isCells W b) → isCells W b0) : ∀ (n m : Nat) (t : TypeId) (cs : List Value) (x : DataW H × List MemPlace) (top : Bool), plainT P m t = true → DataW.trod enc P W 0 (fun _ => true) true n t cs = some x → Based W b0 top cs →
    Arg P (absHeap W b0) top t (cs.map (absV W b0)) x.1 := by
  intro n
  induction n with
  | zero => intro m t cs x top _ h; simp [DataW.trod] at h
  | succ n ih =>
    intro m t cs x top hp h hb
    cases m with
    | zero => cases hp
    | succ m =>
      unfold plainT at hp
      split at hp
      · rename_i ht; obtain ⟨b, rfl, rfl⟩ := DataW.trod_bool ht h; exact .bool ht
      · rename_i ht; obtain ⟨b, rfl, rfl, hw⟩ := DataW.trod_int ht h; exact .int ht hw
      · rename_i ht; obtain ⟨b, rfl, rfl, hw⟩ := DataW.trod_string ht h
        refine .str ht ?_
        rw [Array.length_toList]; exact hw
      · rename_i e ht
        simp only [Bool.and_eq_true, decide_eq_true_eq] at hp
        obtain ⟨hpos, hp⟩ := hp
        rcases DataW.trod_slice ht h with ⟨rfl, rfl⟩ | ⟨a, len, cap, elems, rest, n', hn', rfl, rfl, _, hc, hm, hle, hel, hsp, _⟩
        · exact .nils ht
        · cases hn'
          obtain ⟨hrl, hrest⟩ := hsp rfl
          have each : ∀ (k : Nat) (y : DataW H × List MemPlace), (elems ++ rest)[k]? = some y → (W.cells? 0 (a.add (k * P.cellsOf e)) (P.cellsOf e)).bind (DataW.trod enc P W 0 (fun _ => true) true n e) = some y := by
            intro k y hk
            by_cases hlt : k < len
            · rw [hel k hlt, ← hk, List.getElem?_append_left (by omega)]
            · have hk2 := (List.getElem?_eq_some_iff.1 hk).1
              simp at hk2
              rw [List.getElem?_append_right (by omega)] at hk
              have := hrest (k - len) (by omega)
              rw [show len + (k - len) = k by omega] at this
              rw [this, ← hk, hle]
          by_cases hz : cap = 0
          · subst hz
            have e1 : elems = [] := List.length_eq_zero_iff.1 (by omega)
            have e2 : rest = [] := List.length_eq_zero_iff.1 (by omega)
            have e3 : len = 0 := by omega
            subst e1 e2 e3
            have hb1 := hb a 0 0 (by simp)
            by_cases hq : a.spot = none ∧ isCells W a.block
            · simp only [List.map_cons, List.map_nil]
              rw [absV_slice hq.1 hq.2]
              obtain ⟨c, e', fz, hcl⟩ := hq.2
              exact .slice ht (absHeap_get hcl) (Nat.le_refl _) (Nat.zero_le _) rfl rfl (fun k d hk => by simp at hk) (fun k d hk => by simp at hk)
            · cases top with
              | true => exact absurd (by simpa using hb1) hq
              | false =>
                simp only [List.map_cons, List.map_nil]
                simp only [absV]
                rw [if_neg hq, if_pos ⟨rfl, by simpa using hb1⟩]
                exact .empty ht
          · have facts : ∀ (k : Nat) (y : DataW H × List MemPlace), (elems ++ rest)[k]? = some y → ∃ l, W.cells? 0 (a.add (k * P.cellsOf e)) (P.cellsOf e) = some l ∧ DataW.trod enc P W 0 (fun _ => true) true n e l = some y := by
              intro k y hk
              have := each k y hk
              simpa only [Option.bind_eq_some_iff] using this
            have h0 : (elems ++ rest)[0]? = some ((elems ++ rest)[0]'(by simp; omega)) := List.getElem?_eq_getElem _
            obtain ⟨l0, hl0, _⟩ := facts 0 _ h0
            obtain ⟨hs0, c, e', fz, hcl, _, _⟩ := cells?_of hl0 hpos
            have hs : a.spot = none := by
              cases a with
              | mk b o s => simp [Addr.add] at hs0; exact hs0
            have hbk : ∀ k, (a.add k).block = a.block := by
              intro k; cases a with | mk b o s => simp at hs; subst hs; rw [add_none]
            have hcl' : W.heap[a.block]? = some (.cells c e' fz) := by rw [← hbk]; exact hcl
            simp only [List.map_cons, List.map_nil]
            rw [absV_slice hs ⟨c, e', fz, hcl'⟩]
            have hoff : ∀ k, (a.add k).off = a.off + k := by
              intro k; cases a with | mk b o s => simp at hs; subst hs; rw [add_none]
            have key : ∀ (k : Nat) (y : DataW H × List MemPlace), (elems ++ rest)[k]? = some y → a.off + (k + 1) * P.cellsOf e ≤ c.size ∧ Arg P (absHeap W b0) false e (((c.toList.map (absV W b0)).drop (a.off + k * P.cellsOf e)).take (P.cellsOf e)) y.1 := by
              intro k y hk
              obtain ⟨l, hl, hd⟩ := facts k y hk
              obtain ⟨_, c2, e2, fz2, hcl2, hsz, rfl⟩ := cells?_of hl hpos
              have hcl2' : W.heap[a.block]? = some (.cells c2 e2 fz2) := by rw [← hbk]; exact hcl2
              rw [hcl'] at hcl2'
              cases hcl2'
              rw [hoff] at hsz hd
              refine ⟨by rw [Nat.succ_mul]; omega, ?_⟩
              rw [← List.map_drop, ← List.map_take]
              refine ih m e _ y false hp hd ?_
              intro a' l' c' hmem
              exact hb0 ⟨a.block, c, e', fz, hcl'⟩
            refine .slice ht (absHeap_get hcl') hc hm (by simpa using hle) (by simpa using hrl) ?_ ?_
            · intro k d hk
              rw [← List.map_append, List.getElem?_map, Option.map_eq_some_iff] at hk
              obtain ⟨y, hy, rfl⟩ := hk
              simpa using (key k y hy).1
            · intro k d hk
              rw [← List.map_append, List.getElem?_map, Option.map_eq_some_iff] at hk
              obtain ⟨y, hy, rfl⟩ := hk
              exact (key k y hy).2
      · rename_i k e ht
        obtain ⟨xs, n', hn', rfl, hl, hxl, hx⟩ := DataW.trod_array ht h
        cases hn'
        refine .array ht (by simpa using hl) (by simpa using hxl) ?_
        intro i d hd
        rw [List.getElem?_map, Option.map_eq_some_iff] at hd
        obtain ⟨y, hy, rfl⟩ := hd
        have hi := (List.getElem?_eq_some_iff.1 hy).1
        rw [← List.map_drop, ← List.map_take]
        exact ih m e _ y top hp ((hx i (by omega)).trans hy) (hb.sub fun x hx => List.mem_of_mem_drop (List.mem_of_mem_take hx))
      · rename_i fs ht
        obtain ⟨xs, n', hn', rfl, hl, hxl, hx⟩ := DataW.trod_struct ht h
        cases hn'
        refine .struct ht (by simpa using hl) (by simpa using hxl) ?_
        intro i f d hf hd
        rw [List.getElem?_map, Option.map_eq_some_iff] at hd
        obtain ⟨y, hy, rfl⟩ := hd
        rw [← List.map_drop, ← List.map_take]
        rw [List.all_eq_true] at hp
        exact ih m f.type _ y top (hp f (by rw [Array.mem_toList_iff]; exact Array.mem_of_getElem? hf)) ((hx i f hf).trans hy) (hb.sub fun x hx => List.mem_of_mem_drop (List.mem_of_mem_take hx))
      · cases hp
end
end Go.Abs
