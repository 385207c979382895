/- Arguments of the common types, opened. -/
import Derived.Test.YtgcjchcmnlifmaaAbs29
import Derived.Test.YtgcjchcmnlifmaaAbs26
namespace Go.Abs
open Go
section
variable {H : Type} {P : Program} {B : AHeap} {top : Bool} {t e : TypeId}

theorem Arg.bool_inv {cs : List AVal} {d : DataW H} (ht : P.underlying t = some .bool) (h : Arg P B top t cs d) : ∃ b, cs = [.bool b] ∧ d = .lit (.bool b) := by
  cases h with
  | bool _ => exact ⟨_, rfl, rfl⟩
  | int h => rw [h] at ht; cases ht
  | str h => rw [h] at ht; cases ht
  | nils h => rw [h] at ht; cases ht
  | empty h => rw [h] at ht; cases ht
  | slice h => rw [h] at ht; cases ht
  | struct h => rw [h] at ht; cases ht
  | array h => rw [h] at ht; cases ht
theorem Arg.int_inv {cs : List AVal} {d : DataW H} {k : IntKind} (ht : P.underlying t = some (.int k)) (h : Arg P B top t cs d) : ∃ n, cs = [.int k n] ∧ d = .lit (.int k n) ∧ k.min ≤ n ∧ n ≤ k.max := by
  cases h with
  | int h hw => rw [h] at ht; cases ht; exact ⟨_, rfl, rfl, by simpa [Lit.wf] using hw⟩
  | bool h => rw [h] at ht; cases ht
  | str h => rw [h] at ht; cases ht
  | nils h => rw [h] at ht; cases ht
  | empty h => rw [h] at ht; cases ht
  | slice h => rw [h] at ht; cases ht
  | struct h => rw [h] at ht; cases ht
  | array h => rw [h] at ht; cases ht
theorem Arg.str_inv {cs : List AVal} {d : DataW H} (ht : P.underlying t = some .string) (h : Arg P B top t cs d) : ∃ s, cs = [.str s] ∧ d = .lit (.string s) ∧ s.length ≤ maxLen := by
  cases h with
  | str _ hl => exact ⟨_, rfl, rfl, hl⟩
  | int h => rw [h] at ht; cases ht
  | bool h => rw [h] at ht; cases ht
  | nils h => rw [h] at ht; cases ht
  | empty h => rw [h] at ht; cases ht
  | slice h => rw [h] at ht; cases ht
  | struct h => rw [h] at ht; cases ht
  | array h => rw [h] at ht; cases ht
theorem Arg.array_inv {cs : List AVal} {d : DataW H} {n : Nat} (ht : P.underlying t = some (.array n e)) (h : Arg P B top t cs d) : ∃ ds, d = .agg ds ∧ ds.length = n ∧ cs.length = P.cellsOf t ∧
    ∀ (i : Nat) d, ds[i]? = some d → Arg P B top e ((cs.drop (i * P.cellsOf e)).take (P.cellsOf e)) d := by
  cases h with
  | array h hl hd ha => rw [h] at ht; cases ht; exact ⟨_, rfl, hd, hl, ha⟩
  | str h => rw [h] at ht; cases ht
  | int h => rw [h] at ht; cases ht
  | bool h => rw [h] at ht; cases ht
  | nils h => rw [h] at ht; cases ht
  | empty h => rw [h] at ht; cases ht
  | slice h => rw [h] at ht; cases ht
  | struct h => rw [h] at ht; cases ht
theorem Arg.struct_inv {cs : List AVal} {d : DataW H} {fs : Array Field} (ht : P.underlying t = some (.struct fs)) (h : Arg P B top t cs d) : ∃ ds, d = .agg ds ∧ ds.length = fs.size ∧ cs.length = P.cellsOf t ∧
    ∀ (i : Nat) f d, fs[i]? = some f → ds[i]? = some d → Arg P B top f.type ((cs.drop f.offset).take (P.cellsOf f.type)) d := by
  cases h with
  | struct h hl hd ha => rw [h] at ht; cases ht; exact ⟨_, rfl, hd, hl, ha⟩
  | array h => rw [h] at ht; cases ht
  | str h => rw [h] at ht; cases ht
  | int h => rw [h] at ht; cases ht
  | bool h => rw [h] at ht; cases ht
  | nils h => rw [h] at ht; cases ht
  | empty h => rw [h] at ht; cases ht
  | slice h => rw [h] at ht; cases ht
theorem Arg.slice_inv {cs : List AVal} {d : DataW H} (ht : P.underlying t = some (.slice e)) (h : Arg P B top t cs d) :
    (cs = [.nils] ∧ d = .nil) ∨ (top = false ∧ ∃ i, cs = [.slice ⟨i, 0, 0⟩ 0 (.ex 0)] ∧ d = .slice [] []) ∨
    (∃ i off len cap cs' elems spare, cs = [.slice ⟨i, 1, off⟩ len (.ex cap)] ∧ d = .slice elems spare ∧ B[i]? = some (.cells 1 .ro cs') ∧ len ≤ cap ∧ cap ≤ maxLen ∧ elems.length = len ∧ spare.length = cap - len ∧
      (∀ (k : Nat) d, (elems ++ spare)[k]? = some d → off + (k + 1) * P.cellsOf e ≤ cs'.length) ∧
      (∀ (k : Nat) d, (elems ++ spare)[k]? = some d → Arg P B false e ((cs'.drop (off + k * P.cellsOf e)).take (P.cellsOf e)) d)) := by
  cases h with
  | nils _ => exact .inl ⟨rfl, rfl⟩
  | empty h => exact .inr (.inl ⟨rfl, _, rfl, rfl⟩)
  | slice h hb hc hm he hs hl ha => rw [h] at ht; cases ht; exact .inr (.inr ⟨_, _, _, _, _, _, _, rfl, rfl, hb, hc, hm, he, hs, hl, ha⟩)
  | array h => rw [h] at ht; cases ht
  | str h => rw [h] at ht; cases ht
  | int h => rw [h] at ht; cases ht
  | bool h => rw [h] at ht; cases ht
  | struct h => rw [h] at ht; cases ht

theorem ArgV.plain {a : AVal} {d : DataW H} (h : ArgV P B t a d) (hn : ∀ n e, P.underlying t ≠ some (.array n e)) (hs : ∀ fs, P.underlying t ≠ some (.struct fs)) : Arg P B true t [a] d := by
  unfold ArgV at h
  split at h
  · rename_i ht; exact absurd ht (hs _)
  · rename_i ht; exact absurd ht (hn _ _)
  · exact h
theorem ArgV.str {a : AVal} {d : DataW H} (ht : P.underlying t = some .string) (h : ArgV P B t a d) : ∃ s, a = .str s ∧ d = .lit (.string s) ∧ s.length ≤ maxLen := by
  obtain ⟨s, hs, k⟩ := Arg.str_inv ht (h.plain (by simp [ht]) (by simp [ht])); cases hs; exact ⟨s, rfl, k⟩
theorem ArgV.int {a : AVal} {d : DataW H} {k : IntKind} (ht : P.underlying t = some (.int k)) (h : ArgV P B t a d) : ∃ n, a = .int k n ∧ d = .lit (.int k n) ∧ k.min ≤ n ∧ n ≤ k.max := by
  obtain ⟨s, hs, k⟩ := Arg.int_inv ht (h.plain (by simp [ht]) (by simp [ht])); cases hs; exact ⟨s, rfl, k⟩
theorem ArgV.bool {a : AVal} {d : DataW H} (ht : P.underlying t = some .bool) (h : ArgV P B t a d) : ∃ b, a = .bool b ∧ d = .lit (.bool b) := by
  obtain ⟨s, hs, k⟩ := Arg.bool_inv ht (h.plain (by simp [ht]) (by simp [ht])); cases hs; exact ⟨s, rfl, k⟩
theorem ArgV.array {a : AVal} {d : DataW H} {n : Nat} (ht : P.underlying t = some (.array n e)) (h : ArgV P B t a d) : ∃ cs, a = .agg cs ∧ Arg P B true t cs d := by
  unfold ArgV at h
  rw [ht] at h
  exact h
theorem ArgV.struct {a : AVal} {d : DataW H} {fs : Array Field} (ht : P.underlying t = some (.struct fs)) (h : ArgV P B t a d) : ∃ cs, a = .agg cs ∧ Arg P B true t cs d := by
  unfold ArgV at h
  rw [ht] at h
  exact h

theorem take1_drop {l : List AVal} {i : Nat} (x : AVal) (h : (l.drop i).take 1 = [x]) : l[i]? = some x := by
  have := congrArg (·[0]?) h
  simpa [List.getElem?_take, List.getElem?_drop] using this

/-- All cells of a form. -/
theorem cells_map {β : Type} {cs : List AVal} {n : Nat} (f : β → AVal) (hl : cs.length = n) (h : ∀ i, i < n → ∃ b, cs[i]? = some (f b)) : ∃ l : List β, cs = l.map f ∧ l.length = n := by
  subst hl
  induction cs with
  | nil => exact ⟨[], rfl, rfl⟩
  | cons x cs ih =>
    obtain ⟨b, hb⟩ := h 0 (by simp)
    obtain ⟨l, h1, h2⟩ := ih fun i hi => by have := h (i + 1) (by simpa using hi); simpa using this
    simp at hb
    exact ⟨b :: l, by rw [hb, h1]; rfl, by simp [h2]⟩

theorem byte_of {n : Int} (h1 : IntKind.u8.min ≤ n) (h2 : n ≤ IntKind.u8.max) : ∃ b : UInt8, AVal.int .u8 n = ofByte b := by
  have e1 : IntKind.u8.min = 0 := by decide
  have e2 : IntKind.u8.max = 255 := by decide
  rw [e1] at h1; rw [e2] at h2
  refine ⟨UInt8.ofNat n.toNat, ?_⟩
  unfold ofByte
  rw [UInt8.toNat_ofNat']
  congr 1
  omega

theorem Arg.bytes {cs : List AVal} {d : DataW H} {n : Nat} (ht : P.underlying t = some (.array n e)) (he : P.underlying e = some (.int .u8)) (hc : P.cellsOf e = 1) (hn : P.cellsOf t = n) (h : Arg P B top t cs d) :
    ∃ l : List UInt8, cs = l.map ofByte ∧ l.length = n := by
  obtain ⟨ds, rfl, hd, hl, ha⟩ := Arg.array_inv ht h
  refine cells_map ofByte (hl.trans hn) fun i hi => ?_
  obtain ⟨m, hm, _, h1, h2⟩ := Arg.int_inv he (ha i _ (List.getElem?_eq_getElem (by omega)))
  rw [hc, Nat.mul_one] at hm
  obtain ⟨b, hb⟩ := byte_of h1 h2
  exact ⟨b, by rw [← hb]; exact take1_drop _ hm⟩

theorem word_of {n : Int} (h1 : IntKind.u32.min ≤ n) (h2 : n ≤ IntKind.u32.max) : ∃ b : BitVec 32, AVal.int .u32 n = U b := by
  have e1 : IntKind.u32.min = 0 := by decide
  have e2 : IntKind.u32.max = 4294967295 := by decide
  rw [e1] at h1; rw [e2] at h2
  refine ⟨BitVec.ofNat 32 n.toNat, ?_⟩
  unfold U
  rw [BitVec.toNat_ofNat]
  congr 1
  omega

theorem Arg.words {cs : List AVal} {d : DataW H} {n : Nat} (ht : P.underlying t = some (.array n e)) (he : P.underlying e = some (.int .u32)) (hc : P.cellsOf e = 1) (hn : P.cellsOf t = n) (h : Arg P B top t cs d) :
    ∃ l : List (BitVec 32), cs = l.map U ∧ l.length = n := by
  obtain ⟨ds, rfl, hd, hl, ha⟩ := Arg.array_inv ht h
  refine cells_map U (hl.trans hn) fun i hi => ?_
  obtain ⟨m, hm, _, h1, h2⟩ := Arg.int_inv he (ha i _ (List.getElem?_eq_getElem (by omega)))
  rw [hc, Nat.mul_one] at hm
  obtain ⟨b, hb⟩ := word_of h1 h2
  exact ⟨b, by rw [← hb]; exact take1_drop _ hm⟩

/-- A slice whose elements' cells are told by f. -/
theorem Arg.view {β : Type} {a : AVal} {d : DataW H} (f : β → List AVal) (hf : ∀ b, (f b).length = P.cellsOf e) (ht : P.underlying t = some (.slice e)) (h : Arg P B true t [a] d)
    (each : ∀ cs (d : DataW H), Arg P B false e cs d → ∃ b, cs = f b) : ∃ l : List β, View B a (P.cellsOf e) l.length (l.map f).flatten ∧ (∀ ds sp, d = .slice ds sp → ds.length = l.length) ∧ (d = .nil → l = []) ∧ l.length ≤ maxLen := by
  have flen : ∀ l : List β, ((l.map f).flatten).length = l.length * P.cellsOf e := by
    intro l
    induction l with
    | nil => simp
    | cons b l ih => simp only [List.map_cons, List.flatten_cons, List.length_append, ih, hf, List.length_cons]; rw [Nat.succ_mul]; omega
  rcases Arg.slice_inv ht h with ⟨h1, h2⟩ | ⟨h1, _⟩ | ⟨i, off, len, cap, cs', elems, spare, h1, rfl, hb, hc, hm, he, hs, hl, ha⟩
  · cases h1; subst h2
    exact ⟨[], ⟨by simp, .inl ⟨rfl, rfl⟩⟩, nofun, fun _ => rfl, Nat.zero_le _⟩
  · cases h1
  · cases h1
    have key : ∀ k, k ≤ len → ∃ l : List β, l.length = k ∧ (cs'.drop off).take (k * P.cellsOf e) = (l.map f).flatten := by
      intro k
      induction k with
      | zero => intro _; exact ⟨[], rfl, by simp⟩
      | succ k ih =>
        intro hk
        obtain ⟨l, h1, h2⟩ := ih (by omega)
        have hk2 : k < (elems ++ spare).length := by simp; omega
        have hx := List.getElem?_eq_getElem hk2
        obtain ⟨b, hbb⟩ := each _ _ (ha k _ hx)
        refine ⟨l ++ [b], by simp [h1], ?_⟩
        rw [Nat.succ_mul, List.take_add, h2, List.drop_drop, List.map_append, List.flatten_append]
        congr 1
        simpa using hbb
    obtain ⟨l, h1, h2⟩ := key len (Nat.le_refl _)
    refine ⟨l, ⟨flen l, .inr ⟨i, 1, off, _, .ro, cs', by rw [h1], hb, ?_, ?_, ?_⟩⟩, ?_, nofun, by omega⟩
    · rw [h1]
      intro hz
      have hx : (elems ++ spare)[len - 1]? = some _ := List.getElem?_eq_getElem (by simp; omega)
      have := hl _ _ hx
      rw [show len - 1 + 1 = len by omega] at this
      exact this
    · rw [h1, h2]
    · rw [h1]; exact hc
    · intro ds sp e; cases e; omega
end
end Go.Abs
