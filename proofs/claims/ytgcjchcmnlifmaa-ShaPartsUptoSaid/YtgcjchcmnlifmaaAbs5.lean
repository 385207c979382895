/- The operations one by one: what the model runs stands for what is reckoned over abstract values. -/
import Derived.Test.YtgcjchcmnlifmaaAbs4
namespace Go.Abs
open Go

section
variable {P : Program} {E : Env} {w : World}

/-- A run of the model that ends in what stands for v over the heap H'. -/
def Runs (P : Program) (E : Env) (w : World) (s : Sem Value) (v : AVal) (H' : AHeap) : Prop :=
  ∃ u w' E', s.run P w = .ok u w' ∧ RelV E' v u ∧ RelW E' w' ∧ E'.H = H' ∧ Ext E w E' w'

theorem Runs.pure {s : Sem Value} {v : AVal} {u : Value} (h : RelW E w) (hr : s.run P w = .ok u w) (hv : RelV E v u) : Runs P E w s v E.H :=
  ⟨u, w, E, hr, hv, h, rfl, Ext.refl E w⟩

theorem toA_rel (v : Value) : RelV E (toA v) v := by
  unfold toA
  split <;> simp only [RelG] <;> first | trivial | rfl

theorem toA_relL (l : List Value) : RelL E (l.map toA) l := by
  induction l with
  | nil => exact RelGL.nil
  | cons v l ih => exact RelGL.cons (toA_rel v) ih

theorem defd_ne {x : AVal} (h : x.defd = true) : x ≠ .undef := by rintro rfl; cases h

theorem RelV.cells {x : AVal} {v : Value} (h : RelV E x v) (hu : x ≠ .undef) : RelL E x.cells v.cells.toList := by
  cases x <;> simp only [RelG] at h <;> first
    | (exact absurd rfl hu)
    | (subst h; exact RelGL.cons (by simp only [RelG]) RelGL.nil)
    | (obtain ⟨l, rfl, h⟩ := h; exact h)
    | skip
  case ptr r => obtain ⟨a, rfl, h⟩ := h; exact RelGL.cons (by simp only [RelG]; exact ⟨a, rfl, h⟩) RelGL.nil
  case slice r n c => obtain ⟨a, k, rfl, h⟩ := h; exact RelGL.cons (by simp only [RelG]; exact ⟨a, k, rfl, h⟩) RelGL.nil
  case map i => obtain ⟨a, rfl, h⟩ := h; exact RelGL.cons (by simp only [RelG]; exact ⟨a, rfl, h⟩) RelGL.nil
  case func f a b => obtain ⟨a', b', rfl, h, h'⟩ := h; exact RelGL.cons (by simp only [RelG]; exact ⟨a', b', rfl, h, h'⟩) RelGL.nil
  case iface t y => obtain ⟨a, rfl, h⟩ := h; exact RelGL.cons (by simp only [RelG]; exact ⟨a, rfl, h⟩) RelGL.nil
  case tup l => obtain ⟨a, rfl, h⟩ := h; exact RelGL.cons (by simp only [RelG]; exact ⟨a, rfl, h⟩) RelGL.nil

theorem new_cells (h : RelW E w) {w' : World} (kd : Kd) {cs : List AVal} {c : Array Value} {t : TypeId} {fz : Nat × Nat}
    (hc : RelL E cs (c.toList.take cs.length)) (hl : cs.length ≤ c.size) (hex : kd = .exact → cs.length = c.size) (hfz : kd ≠ .ro → fz.2 ≤ fz.1 ∨ c.size ≤ fz.1)
    (hh : w'.heap = w.heap.push (.cells c t fz)) (ht : w'.tape = w.tape) (ho : w'.os = w.os) (hp : w'.output = w.output) :
    ∃ E', RelW E' w' ∧ Ext E w E' w' ∧ E'.H = E.H ++ [.cells 0 kd cs] ∧ E'.m E.H.length = w.heap.size ∧ E'.sz E.H.length = c.size ∧ E'.S E.H.length := by
  have x := ext_new (E := E) h (.cells 0 kd cs) c.size hh ht ho hp
  have hm : (E.push (.cells 0 kd cs) w.heap.size c.size).m E.H.length = w.heap.size := by simp [Env.push]
  have hs : (E.push (.cells 0 kd cs) w.heap.size c.size).sz E.H.length = c.size := by simp [Env.push]
  refine ⟨_, rel_new h (.cells 0 kd cs) c.size hh ht ho hp ?_, x, rfl, hm, hs, .inr rfl⟩
  exact ⟨c, t, fz, by rw [hm, hh]; simp, hs.symm, RelL.ext x hc, hl, hex, hfz⟩

theorem new_ref {E' : Env} {kd : Kd} {cs : List AVal} (hH : E'.H = E.H ++ [.cells 0 kd cs]) (hS : E'.S E.H.length) {b : Nat} (hm : E'.m E.H.length = b) :
    RelRef E' ⟨E.H.length, 0, 0⟩ ⟨b, 0, none⟩ := by
  refine ⟨hS, by simp [hH], Nat.zero_le _, fun _ => by simp [hm]⟩

theorem run_zero {t : TypeId} {i : TypeInfo} {z : Value} (hi : P.info? t = some i) (hz : i.zero = some z) : (zeroValue t).run P w = .ok z w := by
  simp [zeroValue, typeInfo, hi, hz]
theorem run_size {t : TypeId} {i : TypeInfo} (hi : P.info? t = some i) : (sizeOf t).run P w = .ok i.size w := by
  simp [sizeOf, typeInfo, hi]
theorem run_info {t : TypeId} {i : TypeInfo} (hi : P.info? t = some i) : (typeInfo t).run P w = .ok i w := by
  simp [typeInfo, hi]
theorem run_under {t : TypeId} {d : TypeDesc} (hd : P.underlying t = some d) : (underlying t).run P w = .ok d w := by
  simp [underlying, hd]
def aggB : TypeDesc → Bool
  | .struct _ | .array _ _ => true
  | _ => false
theorem run_agg {t : TypeId} {d : TypeDesc} (hd : P.underlying t = some d) : (isAgg t).run P w = .ok (aggB d) w := by
  simp only [isAgg, Sem.run_bind, run_under hd, Result.andThen]
  cases d <;> rfl

theorem alloc_sound (h : RelW E w) {t : TypeId} {i : TypeInfo} {z : Value} (hi : P.info? t = some i) (hz : i.zero = some z) {v : AVal} {H' : AHeap}
    (ha : aAlloc E.H (z.cells.toList.map toA) = some (v, H')) : Runs P E w (Instr.alloc t true (.tuple #[])) v H' := by
  simp only [aAlloc, Option.some.injEq, Prod.mk.injEq] at ha
  obtain ⟨rfl, rfl⟩ := ha
  obtain ⟨E', h1, h2, h3, h4, h5, h6⟩ := new_cells h (w' := w.alloc (.cells z.cells t)) .exact (cs := z.cells.toList.map toA) (c := z.cells) (t := t) (fz := (0, 0))
    (by rw [List.take_of_length_le (by simp)]; exact toA_relL _) (by simp) (fun _ => by simp) (fun _ => .inl (Nat.le_refl _)) rfl rfl rfl rfl
  refine ⟨.pointer (some ⟨w.heap.size, 0, none⟩), _, E', ?_, ?_, h1, h3, h2⟩
  · simp [Instr.alloc, run_zero hi hz, newVar, newRow]
  · simp only [RelG]; exact ⟨_, rfl, new_ref h3 h6 h4⟩

theorem box_sound (h : RelW E w) {t : TypeId} {x : AVal} {u : Value} (hx : RelV E x u) {v : AVal} {H' : AHeap}
    (ha : aBox E.H x = some (v, H')) : Runs P E w (Instr.box t u) v H' := by
  unfold aBox at ha
  split at ha
  case isFalse => cases ha
  rename_i hu
  have hu := defd_ne hu
  simp only [Option.some.injEq, Prod.mk.injEq] at ha
  obtain ⟨rfl, rfl⟩ := ha
  have hc := RelV.cells hx hu
  have hl := hc.length
  obtain ⟨E', h1, h2, h3, h4, h5, h6⟩ := new_cells h (w' := w.alloc (.cells u.cells t)) .exact (cs := x.cells) (c := u.cells) (t := t) (fz := (0, 0))
    (by rw [List.take_of_length_le (by simpa using Nat.le_of_eq hl.symm)]; exact hc) (by simpa using Nat.le_of_eq hl) (fun _ => by simpa using hl) (fun _ => .inl (Nat.le_refl _)) rfl rfl rfl rfl
  refine ⟨.pointer (some ⟨w.heap.size, 0, none⟩), _, E', ?_, ?_, h1, h3, h2⟩
  · simp [Instr.box, newVar, newRow]
  · simp only [RelG]; exact ⟨_, rfl, new_ref h3 h6 h4⟩

theorem loadVar_sound (h : RelW E w) {t : TypeId} {i : TypeInfo} {d : TypeDesc} (hi : P.info? t = some i) (hd : P.underlying t = some d) {x : AVal} {u : Value} (hx : RelV E x u)
    {v : AVal} (ha : aLoad E.H (aggB d) i.size x = some v) : Runs P E w (Instr.loadAt t u) v E.H := by
  unfold aLoad at ha
  split at ha
  · rename_i r
    simp only [RelG] at hx
    obtain ⟨a, rfl, hr1, hr2, hr3, hr4⟩ := hx
    split at ha
    · rename_i cs hrd
      obtain ⟨g1, g2, vs, g3, g4, g5, _⟩ := rd_sound h hrd hr1
      have ha' := hr4 g2
      cases hag : aggB d with
      | true =>
        simp only [hag, cond_true, Option.some.injEq] at ha hrd g4
        subst ha
        refine Runs.pure h (u := .agg vs.toArray) ?_ (by simp only [RelG]; exact ⟨vs, rfl, g3⟩)
        have := run_loadCells_of (P := P) (w := w) a _ _ ha' vs g5
        simp [Instr.loadAt, Instr.sureAddr, loadVar, run_agg hd, hag, run_size hi]
        rw [← g4]; simp [this]
      | false =>
        simp only [hag, cond_false] at ha g4
        cases vs with
        | nil => simp at g4
        | cons y ys =>
          cases cs with
          | nil => simp at ha
          | cons c cs =>
            simp only [List.head?_cons, Option.some.injEq] at ha
            subst ha
            refine Runs.pure h (u := y) ?_ (RelGL.cons_iff.1 g3).1
            have hc := g5 0 y (by simp)
            simp only [Nat.add_zero] at hc
            rw [← ha'] at hc
            simp [Instr.loadAt, Instr.sureAddr, loadVar, run_agg hd, hag, hc]
    · cases ha
  · cases ha

theorem storeVar_sound (h : RelW E w) {t : TypeId} {i : TypeInfo} (hi : P.info? t = some i) {x v : AVal} {u y : Value} (hx : RelV E x u) (hv : RelV E v y)
    {H' : AHeap} (ha : aStore E.H i.size x v = some H') :
    ∃ w' E', (Instr.storeAt t u y).run P w = .ok () w' ∧ RelW E' w' ∧ E'.H = H' ∧ Ext E w E' w' := by
  unfold aStore at ha
  split at ha
  · rename_i r
    simp only [RelG] at hx
    obtain ⟨a, rfl, hr1, hr2, hr3, hr4⟩ := hx
    split at ha
    · rename_i hlen
      have hver : r.ver = verOf E.H r.id ∧ v ≠ .undef := by
        unfold wrCells at ha
        split at ha
        · rename_i vv kd cs h0
          split at ha
          · rename_i hc
            refine ⟨by rw [verOf_some h0]; exact hc.1.symm, ?_⟩
            rintro rfl
            have := hc.2.2.2
            simp [AVal.cells, AVal.isCell] at this
          · cases ha
        · cases ha
      have hcl := RelV.cells hv hver.2
      obtain ⟨w', E', g1, g2, g3, g4⟩ := wr_sound (P := P) h ha hr1 hcl
      refine ⟨w', E', ?_, g3, g2, g4⟩
      have hl := hcl.length
      rw [← hr4 hver.1] at g1
      have : y.cells.size = i.size := by rw [← hlen, hl]; simp
      simp [Instr.storeAt, Instr.sureAddr, storeVar, run_size hi, this, g1]
    · cases ha
  · cases ha
end
end Go.Abs
