/- Parts of slices; results that change what was there. -/
import Derived.Test.YtgcjchcmnlifmaaAbs25
namespace Go.Abs
open Go

theorem bnd_none (d : Nat) : bnd d none = some d := rfl
theorem bnd_int {d : Nat} {k : IntKind} {n : Int} (h : 0 ≤ n) : bnd d (some (.int k n)) = some n.toNat := by simp [bnd, h]

theorem View.vera {B : AHeap} {i v : Nat} {kd : Kd} {cs : List AVal} (h : B[i]? = some (.cells v kd cs)) : verOf B i = v := by rw [verOf_some h]; rfl

theorem slice_view {B : AHeap} {sv : AVal} {es n : Nat} {cs : List AVal} {l h : Option AVal} {lo hi : Nat} (o : View B sv es n cs) (hl : bnd 0 l = some lo) (hh : bnd n h = some hi) (h1 : lo ≤ hi) (h2 : hi ≤ n) :
    ∃ sv', aSlice B es sv l h none = some sv' ∧ View B sv' es (hi - lo) ((cs.drop (lo * es)).take ((hi - lo) * es)) ∧ (slId sv' = slId sv) := by
  obtain ⟨hc, o⟩ := o
  have hle : lo * es + (hi - lo) * es ≤ n * es := by rw [← Nat.add_mul]; exact Nat.mul_le_mul_right _ (by omega)
  have hlen : ((cs.drop (lo * es)).take ((hi - lo) * es)).length = (hi - lo) * es := by
    rw [List.length_take, List.length_drop]; omega
  rcases o with ⟨rfl, rfl⟩ | ⟨i, v, off, c, kd, cs', rfl, g1, g2, g3, g4⟩
  · have e1 : lo = 0 := by omega
    have e2 : hi = 0 := by omega
    subst e1; subst e2
    exact ⟨.nils, by simp only [aSlice, hl, hh, bnd_none], ⟨by simp, .inl ⟨rfl, rfl⟩⟩, rfl⟩
  · have hv := View.vera g1
    have hsub : (cs.drop (lo * es)).take ((hi - lo) * es) = (cs'.drop (off + lo * es)).take ((hi - lo) * es) := by
      rw [g3, List.drop_take, List.take_take, List.drop_drop]
      congr 1; omega
    cases c with
    | ex c =>
      have g4 : n ≤ c := g4
      refine ⟨.slice ⟨i, v, if c = lo then off else off + lo * es⟩ (hi - lo) (.ex (c - lo)), ?_, ⟨hlen, .inr ⟨i, v, _, _, kd, cs', rfl, g1, ?_, ?_, ?_⟩⟩, rfl⟩
      · simp only [aSlice, hl, hh, bnd_none]
        rw [if_pos ⟨hv.symm, h1, by omega, Nat.le_refl _⟩]
      · by_cases e : c = lo
        · rw [if_pos e]
          have : hi - lo = 0 := by omega
          rw [this]; omega
        · rw [if_neg e]; omega
      · by_cases e : c = lo
        · have : hi - lo = 0 := by omega
          rw [this]; simp
        · rw [if_neg e, hsub]
      · show hi - lo ≤ c - lo; omega
    | op e =>
      have g4 : e = es := g4
      refine ⟨.slice ⟨i, v, off + lo * es⟩ (hi - lo) (.op es), ?_, ⟨hlen, .inr ⟨i, v, _, _, kd, cs', rfl, g1, by omega, hsub, rfl⟩⟩, rfl⟩
      simp only [aSlice, hl, hh]
      rw [if_pos ⟨hv.symm, g4, h1, h2⟩]

/-- s[:h:h] -/
theorem slice_full {B : AHeap} {sv : AVal} {es n : Nat} {cs : List AVal} {h m : Option AVal} {hi : Nat} (o : View B sv es n cs) (hh : ∀ d, bnd d h = some hi) (hm : ∀ d, bnd d m = some hi) (hms : m.isSome = true) (h2 : hi ≤ n) (h0 : 0 < n ∨ sv = .nils) :
    ∃ sv', aSlice B es sv none h m = some sv' ∧ View B sv' es hi (cs.take (hi * es)) ∧ (slId sv' = slId sv) ∧ (sv' = .nils ∨ ∃ r, sv' = .slice r hi (.ex hi)) := by
  obtain ⟨hc, o⟩ := o
  have hle : hi * es ≤ n * es := Nat.mul_le_mul_right _ h2
  have hlen : (cs.take (hi * es)).length = hi * es := by rw [List.length_take]; omega
  rcases o with ⟨rfl, rfl⟩ | ⟨i, v, off, c, kd, cs', rfl, g1, g2, g3, g4⟩
  · have e2 : hi = 0 := by omega
    subst e2
    exact ⟨.nils, by simp only [aSlice, hh, hm, bnd_none], ⟨by simp, .inl ⟨rfl, rfl⟩⟩, rfl, .inl rfl⟩
  · have hv := View.vera g1
    have hsub : cs.take (hi * es) = (cs'.drop off).take (hi * es) := by rw [g3, List.take_take, Nat.min_eq_left hle]
    replace h0 : 0 < n := by
      rcases h0 with h0 | h0
      · exact h0
      · cases h0
    have eo : (if hi = 0 then off else off + 0 * es) = off := by split <;> omega
    have out : View B (.slice ⟨i, v, if hi = 0 then off else off + 0 * es⟩ (hi - 0) (.ex (hi - 0))) es hi (cs.take (hi * es)) :=
      ⟨hlen, .inr ⟨i, v, _, _, kd, cs', rfl, g1, by rw [eo]; omega, by rw [eo]; exact hsub, by show hi ≤ hi - 0; omega⟩⟩
    cases c with
    | ex c =>
      have g4 : n ≤ c := g4
      refine ⟨_, ?_, out, rfl, .inr ⟨_, rfl⟩⟩
      simp only [aSlice, hh, hm, bnd_none]
      rw [if_pos ⟨hv.symm, Nat.zero_le _, Nat.le_refl _, by omega⟩]
    | op e =>
      have g4 : e = es := g4
      refine ⟨_, ?_, out, rfl, .inr ⟨_, rfl⟩⟩
      cases m with
      | none => cases hms
      | some m =>
        simp only [aSlice, hh, hm, bnd_none]
        rw [if_pos ⟨hv.symm, Nat.zero_le _, Nat.le_refl _, h2, h0⟩]

/-- append to what is full: a new block, or nothing. -/
theorem append_full {B : AHeap} {sv : AVal} {es bytes n m : Nat} {cs xs : List AVal} (o : View B sv es n cs) (hf : sv = .nils ∨ ∃ r, sv = .slice r n (.ex n)) (hx : xs.length = m * es) (h1 : (n + m) * bytes ≤ room) (h2 : n + m ≤ room) :
    ∃ sv' B', aAppendTo B es bytes sv m xs = some (sv', B') ∧ View B' sv' es (n + m) (cs ++ xs) ∧ B <+: B' ∧ (slId sv' = slId sv ∨ slId sv' = some B.length) := by
  obtain ⟨hl, o⟩ := o
  by_cases hm : m = 0
  · subst hm
    have : xs = [] := List.eq_nil_of_length_eq_zero (by simpa using hx)
    subst this
    refine ⟨sv, B, ?_, ⟨by simpa using hl, by simpa using o⟩, List.prefix_refl _, .inl rfl⟩
    rcases hf with rfl | ⟨r, rfl⟩
    · simp [aAppendTo]
    · rcases o with ⟨h, _⟩ | ⟨i, v, off, c, kd, cs', h, g1, _⟩
      · cases h
      · cases h
        simp [aAppendTo, View.vera g1]
  · have hl2 : (cs ++ xs).length = (n + m) * es := by rw [List.length_append, hl, hx, Nat.add_mul]
    rcases o with ⟨rfl, rfl⟩ | ⟨i, v, off, c, kd, cs', rfl, g1, g2, g3, g4⟩
    · refine ⟨.slice ⟨B.length, 0, 0⟩ m (.op es), B ++ [.cells 0 .opn xs], ?_, ⟨hl2, .inr ⟨B.length, 0, 0, .op es, .opn, xs, by simp, by simp, by simp [hx], ?_, rfl⟩⟩, ⟨_, rfl⟩, .inr rfl⟩
      · simp only [aAppendTo]
        rw [if_neg hm, if_pos ⟨by simpa using h1, by simpa using h2⟩]
      · have : cs = [] := List.eq_nil_of_length_eq_zero (by simpa using hl)
        subst this
        simp [← hx]
    · rcases hf with hf | ⟨r, hf⟩
      · cases hf
      cases hf
      refine ⟨.slice ⟨B.length, 0, 0⟩ (n + m) (.op es), B ++ [.cells 0 .opn (cs ++ xs)], ?_, ⟨hl2, .inr ⟨B.length, 0, 0, _, .opn, cs ++ xs, rfl, by simp, by rw [hl2]; omega, by rw [← hl2, List.drop_zero, List.take_length], rfl⟩⟩, ⟨_, rfl⟩, .inr rfl⟩
      simp only [aAppendTo]
      rw [if_neg hm, if_neg (by omega), if_pos ⟨h1, h2⟩, rd_of (r := ⟨i, v, off⟩) g1 rfl (pos_mul g2), ← g3]

theorem eqCells_byte : ∀ (n : Nat) (l k : List UInt8), l.length = n → k.length = n → eqCells (List.replicate n .int) (l.map ofByte) (k.map ofByte) = some (decide (l = k))
  | 0, [], [], _, _ => rfl
  | n + 1, x :: l, y :: k, h, h' => by
    simp only [List.replicate_succ, List.map_cons, eqCells]
    rw [eqCells_byte n l k (by simpa using h) (by simpa using h')]
    have e : eqCell .int (ofByte x) (ofByte y) = some (decide (x = y)) := by
      simp only [eqCell, ofByte, if_true, Option.some.injEq]
      by_cases hxy : x = y
      · subst hxy; simp
      · have : (x.toNat : Int) ≠ y.toNat := fun e => hxy (UInt8.toNat.inj (by omega))
        rw [decide_eq_false hxy]; simpa using this
    rw [e]
    simp only [List.cons.injEq, Bool.decide_and]
theorem eqCells_U : ∀ (n : Nat) (l k : List (BitVec 32)), l.length = n → k.length = n → eqCells (List.replicate n .int) (l.map U) (k.map U) = some (decide (l = k))
  | 0, [], [], _, _ => rfl
  | n + 1, x :: l, y :: k, h, h' => by
    simp only [List.replicate_succ, List.map_cons, eqCells]
    rw [eqCells_U n l k (by simpa using h) (by simpa using h')]
    have e : eqCell .int (U x) (U y) = some (decide (x = y)) := by
      simp only [eqCell, U, if_true, Option.some.injEq]
      by_cases hxy : x = y
      · subst hxy; simp
      · have : (x.toNat : Int) ≠ y.toNat := fun e => hxy (BitVec.eq_of_toNat_eq (by omega))
        rw [decide_eq_false hxy]; simpa using this
    rw [e]
    simp only [List.cons.injEq, Bool.decide_and]
theorem e_eqBytes {n : Nat} {H : AHeap} {l k : List UInt8} (h : l.length = n) (h' : k.length = n) : aEql false (.agg (List.replicate n .int)) H (.agg (l.map ofByte)) (.agg (k.map ofByte)) = some (.bool (decide (l = k))) := by
  simp only [aEql, aEq, eqCells_byte n l k h h', Bool.bne_false]
theorem e_neBytes {n : Nat} {H : AHeap} {l k : List UInt8} (h : l.length = n) (h' : k.length = n) : aEql true (.agg (List.replicate n .int)) H (.agg (l.map ofByte)) (.agg (k.map ofByte)) = some (.bool (decide (l ≠ k))) := by
  simp only [aEql, aEq, eqCells_byte n l k h h']
  by_cases e : l = k <;> simp [e]

/-- append([]T(nil), x...) -/
theorem append_nils {B : AHeap} {x : AVal} {es bytes m : Nat} {xs : List AVal} (hx : View B x es m xs) (h1 : m * bytes ≤ room) (h2 : m ≤ room) {K : AVal → AHeap → Prop} (k0 : m = 0 → K .nils B)
    (k1 : 0 < m → K (.slice ⟨B.length, 0, 0⟩ m (.op es)) (B ++ [.cells 0 .opn xs])) : hb (aAppendS B es bytes .nils x) K := by
  obtain ⟨s1, s2, s3⟩ := src_view hx
  rw [aAppendS_eq s3, aAppend, s1]
  simp only [s2, aAppendTo]
  by_cases hm : m = 0
  · rw [if_pos hm]; exact k0 hm
  · rw [if_neg hm, if_pos ⟨h1, h2⟩]; exact k1 (by omega)

theorem View.set {B : AHeap} {sv : AVal} {es n : Nat} {cs : List AVal} (h : View B sv es n cs) {i : Nat} (hne : slId sv ≠ some i) (o : AObj) : View (B.set i o) sv es n cs := by
  refine ⟨h.1, ?_⟩
  rcases h.2 with h1 | ⟨j, v, off, c, kd, cs', rfl, h2, h3⟩
  · exact .inl h1
  · have : i ≠ j := fun e => hne (by rw [e]; rfl)
    exact .inr ⟨j, v, off, c, kd, cs', rfl, by rw [List.getElem?_set_ne this]; exact h2, h3⟩
theorem Own.set {B : AHeap} {sv : AVal} {es n : Nat} {cs : List AVal} (h : Own B sv es n cs) {i : Nat} (hne : slId sv ≠ some i) (o : AObj) : Own (B.set i o) sv es n cs := by
  refine ⟨h.1, ?_⟩
  rcases h.2 with h1 | ⟨j, v, rfl, h2⟩ | ⟨j, v, rfl, h2⟩
  · exact .inl h1
  · exact .inr (.inl ⟨j, v, rfl, by rw [List.getElem?_set_ne (fun e => hne (by rw [e]; rfl))]; exact h2⟩)
  · exact .inr (.inr ⟨j, v, rfl, by rw [List.getElem?_set_ne (fun e => hne (by rw [e]; rfl))]; exact h2⟩)

/-- One old object is another one now. -/
theorem Weak.chg {H H1 : AHeap} {i : Nat} {o o1 : AObj} {r r1 : AVal} (hi : i < H.length) (ho : H1[i]? = some o1) (hr : RenObj (fun i => i) (fun _ => 0) H.length 0 o o1) (keep : ∀ k, k < H.length → k ≠ i → H1[k]? = H[k]?)
    (hv : Ren (fun i => i) (fun _ => 0) H.length r r1) : Weak H r1 H1 r (H.set i o) := by
  refine ⟨fun i => i, fun _ => 0, fun i _ => ⟨rfl, rfl⟩, by simp, fun i h1 h2 => h1, fun i j _ _ h => h, fun k hk => ?_, by simpa using hv⟩
  simp at hk
  by_cases e : k = i
  · subst e
    exact .inr ⟨o, o1, by rw [List.getElem?_set_self hi], ho, by simpa using hr⟩
  · exact .inl ⟨hk, keep k hk e, by rw [List.getElem?_set_ne (Ne.symm e)]⟩

/-- One old object is another one now, and there is a new block. -/
theorem Weak.chgNew {H H1 : AHeap} {i q w : Nat} {kd : Kd} {cs : List AVal} {o o1 : AObj} {r r1 : AVal} (hi : i < H.length) (ho : H1[i]? = some o1) (hq : H.length ≤ q) (hb : H1[q]? = some (.cells w kd cs)) (hc : ∀ x ∈ cs, x.plain = true)
    (hr : RenObj (fun i => if i = H.length then q else i) (fun i => if i = H.length then w else 0) (H.length + 1) 0 o o1) (keep : ∀ k, k < H.length → k ≠ i → H1[k]? = H[k]?)
    (hv : Ren (fun i => if i = H.length then q else i) (fun i => if i = H.length then w else 0) (H.length + 1) r r1) : Weak H r1 H1 r ((H ++ [AObj.cells 0 kd cs]).set i o) := by
  refine ⟨fun i => if i = H.length then q else i, fun i => if i = H.length then w else 0, fun i hi => ⟨if_neg (by omega), if_neg (by omega)⟩, by simp, fun i h1 h2 => ?_, fun i j hi hj e => ?_, fun k hk => ?_, by simpa using hv⟩
  · simp at h2
    have : i = H.length := by omega
    simp only [this, if_true]; exact hq
  · simp at hi hj
    by_cases e1 : i = H.length <;> by_cases e2 : j = H.length
    · rw [e1, e2]
    · simp only [e1, e2, if_true, if_false] at e; omega
    · simp only [e1, e2, if_true, if_false] at e; omega
    · simp only [e1, e2, if_false] at e; exact e
  · simp at hk
    by_cases e : k = i
    · subst e
      have e1 : k ≠ H.length := by omega
      refine .inr ⟨o, o1, by rw [List.getElem?_set_self (by simp; omega)], by simp only [e1, if_false]; exact ho, ?_⟩
      simp only [e1, if_false, List.length_set, List.length_append, List.length_cons, List.length_nil, Nat.zero_add]
      exact hr
    · rw [List.getElem?_set_ne (Ne.symm e)]
      by_cases e1 : k = H.length
      · right
        subst e1
        refine ⟨.cells 0 kd cs, .cells w kd cs, by simp, by simp [hb], ?_⟩
        simp only [if_true]
        exact ⟨cs, by simp, RenL.plain hc⟩
      · have hk' : k < H.length := by omega
        exact .inl ⟨hk', keep k hk' e, List.getElem?_append_left hk'⟩
end Go.Abs
