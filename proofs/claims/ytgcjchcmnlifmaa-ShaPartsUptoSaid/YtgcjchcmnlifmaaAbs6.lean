/- The operations one by one, on: arithmetic, comparison, parts. -/
import Derived.Test.YtgcjchcmnlifmaaAbs5
import Derived.Lib.Strings
namespace Go.Abs
open Go

theorem bytes_mk (s : List UInt8) : (⟨s.toArray⟩ : ByteArray).toList = s := by rw [Lib.toList_data]
theorem bytes_size (s : List UInt8) : (⟨s.toArray⟩ : ByteArray).size = s.length := by simp [ByteArray.size]
theorem bytes_append (s t : List UInt8) : (⟨s.toArray⟩ : ByteArray) ++ ⟨t.toArray⟩ = ⟨(s ++ t).toArray⟩ := by
  apply ByteArray.ext
  simp
theorem bytes_extract (s : List UInt8) (a b : Nat) : (⟨s.toArray⟩ : ByteArray).extract a b = ⟨((s.take b).drop a).toArray⟩ := by
  have h := Lib.extract_data ⟨s.toArray⟩ a b
  apply ByteArray.ext
  apply Array.ext'
  rw [h]
  simp [List.drop_take]

section
variable {P : Program} {E : Env} {w : World}

theorem rel_int {k : IntKind} {n : Int} : RelV E (.int k n) (.int k n) := by simp only [RelG]
theorem rel_bool {b : Bool} : RelV E (.bool b) (.bool b) := by simp only [RelG]
theorem rel_str {s : List UInt8} : RelV E (.str s) (.string ⟨s.toArray⟩) := by simp only [RelG]

theorem aInt_sound {op : BinOp} {k : IntKind} {a b : Int} {t : TypeId} {v : AVal} (hs : op ≠ .shl ∧ op ≠ .shr) (h : aInt op k a b = some v) :
    ∃ u, (binOp op t (.int k a) (.int k b)).run P w = .ok u w ∧ RelV E v u := by
  cases op <;> simp only [aInt] at h <;> first
    | (cases h; done)
    | (exact absurd rfl hs.1)
    | (exact absurd rfl hs.2)
    | (simp only [Option.some.injEq] at h; subst h; exact ⟨_, by simp [binOp, Op.intArith, Op.intBits, Op.intCmp], rel_int⟩)
    | (simp only [Option.some.injEq] at h; subst h; exact ⟨_, by simp [binOp, Op.intArith, Op.intBits, Op.intCmp], rel_bool⟩)
    | (split at h
       · cases h
       · rename_i hb
         simp only [Option.some.injEq] at h; subst h
         exact ⟨_, by simp [binOp, Op.intDiv, hb], rel_int⟩)

theorem aStr_sound {op : BinOp} {a b : List UInt8} {t : TypeId} {v : AVal} (h : aStr op a b = some v) :
    ∃ u, (binOp op t (.string ⟨a.toArray⟩) (.string ⟨b.toArray⟩)).run P w = .ok u w ∧ RelV E v u := by
  cases op <;> simp only [aStr] at h <;> first
    | (cases h; done)
    | (simp only [Option.some.injEq] at h; subst h; exact ⟨_, by simp [binOp, Op.stringOp, bytes_mk], rel_bool⟩)
    | skip
  case add =>
    split at h
    · rename_i hl
      simp only [Option.some.injEq] at h; subst h
      refine ⟨.string ⟨(a ++ b).toArray⟩, ?_, by simp only [RelG]⟩
      have : ¬ ((((⟨a.toArray⟩ : ByteArray).size + (⟨b.toArray⟩ : ByteArray).size : Nat) : Int) > IntKind.i64.max) := by
        rw [bytes_size, bytes_size]; simp only [IntKind.max, IntKind.signed, IntKind.bits]; simp; omega
      simp only [binOp, Op.stringOp]
      rw [if_neg this, bytes_append]; rfl
    · cases h

theorem aBin_sound {op : BinOp} {t : TypeId} {x y : AVal} {a b : Value} (hx : RelV E x a) (hy : RelV E y b) {v : AVal} (h : aBin op x y = some v) :
    ∃ u, (binOp op t a b).run P w = .ok u w ∧ RelV E v u := by
  unfold aBin at h
  split at h
  · simp only [RelG] at hx hy; subst hx; subst hy
    split at h
    · cases h
    · rename_i hb
      simp only [Option.some.injEq] at h; subst h
      exact ⟨_, by simp [binOp, Op.shift, hb], rel_int⟩
  · simp only [RelG] at hx hy; subst hx; subst hy
    split at h
    · cases h
    · rename_i hb
      simp only [Option.some.injEq] at h; subst h
      exact ⟨_, by simp [binOp, Op.shift, hb], rel_int⟩
  · simp only [RelG] at hx hy; subst hx; subst hy
    rename_i h1 h2
    split at h
    · rename_i hk; subst hk
      refine aInt_sound ⟨?_, ?_⟩ h
      · rintro rfl; exact h1 rfl
      · rintro rfl; exact h2 rfl
    · cases h
  · simp only [RelG] at hx hy; subst hx; subst hy
    exact aStr_sound h
  · cases h

theorem aUn_sound {op : UnOp} {x : AVal} {a : Value} (hx : RelV E x a) {v : AVal} (h : aUn op x = some v) :
    ∃ u, (Op.unary op a).run P w = .ok u w ∧ RelV E v u := by
  unfold aUn at h
  split at h
  · simp only [RelG] at hx; subst hx
    simp only [Option.some.injEq] at h; subst h
    exact ⟨_, by simp [Op.unary, Op.intArith], rel_int⟩
  · simp only [RelG] at hx; subst hx
    simp only [aInt, Option.some.injEq] at h; subst h
    exact ⟨_, by simp [Op.unary, Op.intBits], rel_int⟩
  · simp only [RelG] at hx; subst hx
    simp only [Option.some.injEq] at h; subst h
    exact ⟨_, by simp [Op.unary], rel_bool⟩
  · cases h

theorem aPart_sound {cs : List AVal} {l : List Value} (hl : RelL E cs l) {t : TypeId} {i : TypeInfo} {d : TypeDesc} (hi : P.info? t = some i) (hd : P.underlying t = some d)
    {off : Nat} {v : AVal} (h : aPart (aggB d) i.size off cs = some v) : ∃ u, (part t l.toArray off).run P w = .ok u w ∧ RelV E v u := by
  unfold aPart at h
  have hlen := hl.length
  cases hag : aggB d with
  | true =>
    simp only [hag, cond_true] at h
    split at h
    · rename_i hle
      simp only [Option.some.injEq] at h; subst h
      refine ⟨.agg ((l.drop off).take i.size).toArray, ?_, by simp only [RelG]; exact ⟨_, rfl, (hl.drop _).take _⟩⟩
      simp [part, run_agg hd, hag, run_size hi]
    · cases h
  | false =>
    simp only [hag, cond_false] at h
    obtain ⟨y, hy, hr⟩ := hl.get h
    exact ⟨y, by simp [part, run_agg hd, hag, hy], hr⟩

theorem aField_sound {x : AVal} {a : Value} (hx : RelV E x a) {t : TypeId} {fs : Array Field} (hd : P.underlying t = some (.struct fs)) {k : Nat} {f : Field} (hf : fs[k]? = some f)
    {i : TypeInfo} {d : TypeDesc} (hi : P.info? f.type = some i) (hd' : P.underlying f.type = some d) {v : AVal} (h : aField (aggB d) i.size f.offset x = some v) :
    ∃ u, (Instr.field t a k).run P w = .ok u w ∧ RelV E v u := by
  unfold aField at h
  split at h
  · simp only [RelG] at hx
    obtain ⟨l, rfl, hl⟩ := hx
    obtain ⟨u, h1, h2⟩ := aPart_sound (P := P) (w := w) hl hi hd' h
    exact ⟨u, by simp [Instr.field, run_under hd, hf, asAgg, h1], h2⟩
  · cases h

theorem aIndexArr_sound {x y : AVal} {a b : Value} (hx : RelV E x a) (hy : RelV E y b) {t et : TypeId} {n : Nat} (hd : P.underlying t = some (.array n et))
    {i : TypeInfo} {d : TypeDesc} (hi : P.info? et = some i) (hd' : P.underlying et = some d) {v : AVal} (h : aIndexArr n (aggB d) i.size x y = some v) :
    ∃ u, (Instr.index t a b).run P w = .ok u w ∧ RelV E v u := by
  unfold aIndexArr at h
  split at h
  · simp only [RelG] at hx hy
    obtain ⟨l, rfl, hl⟩ := hx
    subst hy
    split at h
    · rename_i hk
      obtain ⟨u, h1, h2⟩ := aPart_sound (P := P) (w := w) hl hi hd' h
      exact ⟨u, by simp [Instr.index, asIntOf, run_under hd, hk, run_size hi, h1], h2⟩
    · cases h
  · cases h

theorem aIndexStr_sound {x y : AVal} {a b : Value} (hx : RelV E x a) (hy : RelV E y b) {t : TypeId} (hd : P.underlying t = some .string)
    {v : AVal} (h : aIndexStr x y = some v) :
    ∃ u, (Instr.index t a b).run P w = .ok u w ∧ RelV E v u := by
  unfold aIndexStr at h
  split at h
  · simp only [RelG] at hx hy
    subst hx; subst hy
    split at h
    · rename_i s _ k hk
      split at h
      · rename_i c hc
        simp only [Option.some.injEq] at h; subst h
        have h0 : (⟨s.toArray⟩ : ByteArray)[k.toNat]? = some c := by
          obtain ⟨hl, he⟩ := List.getElem?_eq_some_iff.1 hc
          rw [getElem?_pos _ _ (by rw [bytes_size]; exact hl)]
          congr 1
        exact ⟨.int .u8 c.toNat, by simp [Instr.index, asIntOf, run_under hd, hk, h0], rel_int⟩
      · cases h
    · cases h
  · cases h

theorem aExtract_sound {x : AVal} {a : Value} (hx : RelV E x a) {i : Nat} {v : AVal} (h : aExtract x i = some v) :
    ∃ u, (Instr.extract a i).run P w = .ok u w ∧ RelV E v u := by
  unfold aExtract at h
  split at h
  · simp only [RelG] at hx
    obtain ⟨l, rfl, hl⟩ := hx
    obtain ⟨y, hy, hr⟩ := hl.get h
    exact ⟨y, by simp [Instr.extract, hy], hr⟩
  · cases h

theorem aNilCheck_sound {x : AVal} {a : Value} (hx : RelV E x a) {v : AVal} (h : aNilCheck x = some v) :
    RelV E v a ∧ (∃ p, a = .pointer (some p)) ∨ (RelV E v a ∧ ∃ f l k, a = .func (.func f) l k) := by
  unfold aNilCheck at h
  split at h
  · simp only [Option.some.injEq] at h; subst h
    left; refine ⟨hx, ?_⟩
    simp only [RelG] at hx; obtain ⟨p, rfl, _⟩ := hx; exact ⟨p, rfl⟩
  · simp only [Option.some.injEq] at h; subst h
    right; refine ⟨hx, ?_⟩
    simp only [RelG] at hx; obtain ⟨p, q, rfl, _⟩ := hx; exact ⟨_, _, _, rfl⟩
  · cases h

theorem RelRef.off {r : Ref} {a : Addr} (h : RelRef E r a) (n : Nat) : RelRef E { r with off := r.off + n } (a.add n) := by
  obtain ⟨h1, h2, h3, h4⟩ := h
  exact ⟨h1, h2, h3, fun hv => by rw [h4 hv, add_none]⟩

theorem aFieldAddr_sound {x : AVal} {a : Value} (hx : RelV E x a) {t : TypeId} {fs : Array Field} (hd : P.underlying t = some (.struct fs)) {k : Nat} {f : Field} (hf : fs[k]? = some f)
    (hz : ∀ w p, (fieldPlace p f).run P w = .ok (p.add f.offset) w) {v : AVal} (h : aFieldAddr f.offset x = some v) :
    ∃ u, (Instr.fieldAt t a k).run P w = .ok u w ∧ RelV E v u := by
  unfold aFieldAddr at h
  split at h
  · simp only [RelG] at hx
    obtain ⟨p, rfl, hp⟩ := hx
    simp only [Option.some.injEq] at h; subst h
    exact ⟨.pointer (some (p.add f.offset)), by simp [Instr.fieldAt, run_under hd, hf, Instr.sureAddr, hz], by simp only [RelG]; exact ⟨_, rfl, hp.off _⟩⟩
  · cases h

theorem aIndexAddr_sound {x y : AVal} {a b : Value} (hx : RelV E x a) (hy : RelV E y b) {t et : TypeId} (hd : P.underlying t = some (.slice et))
    {i : TypeInfo} (hi : P.info? et = some i) {v : AVal} (h : aIndexAddr i.size x y = some v) :
    ∃ u, (Instr.indexAt t a b).run P w = .ok u w ∧ RelV E v u := by
  unfold aIndexAddr at h
  split at h
  · rename_i r n c _ k
    simp only [RelG] at hx hy
    obtain ⟨p, m, rfl, h1, h2, h3, h4⟩ := hx
    subst hy
    split at h
    · rename_i hk
      simp only [Option.some.injEq] at h; subst h
      refine ⟨.pointer (some (p.add (k.toNat * i.size))), by simp [Instr.indexAt, asIntOf, run_under hd, hk, run_size hi], ?_⟩
      simp only [RelG]
      refine ⟨_, rfl, h1, h2, h3, fun hv => ?_⟩
      have h4 := h4 hv
      cases c with
      | ex c => simp only at h4; rw [h4.1, add_none]
      | op es =>
        obtain ⟨g1, g2, g3, g4⟩ := h4
        rcases g4 with ⟨g4, _⟩ | ⟨g4, _⟩
        · obtain ⟨pb, po, ps⟩ := p
          simp only at g1 g2 g4
          subst g1; subst g2; subst g4
          rw [add_none]
        · omega
    · cases h
  · cases h

theorem aIndexAddrArr_sound {x y : AVal} {a b : Value} (hx : RelV E x a) (hy : RelV E y b) {t et : TypeId} {n : Nat} (hd : P.underlying t = some (.array n et))
    {i : TypeInfo} (hi : P.info? et = some i) {v : AVal} (h : aIndexAddrArr n i.size x y = some v) :
    ∃ u, (Instr.indexAt t a b).run P w = .ok u w ∧ RelV E v u := by
  unfold aIndexAddrArr at h
  split at h
  · rename_i r _ k
    simp only [RelG] at hx hy
    obtain ⟨p, rfl, hp⟩ := hx
    subst hy
    split at h
    · rename_i hk
      simp only [Option.some.injEq] at h; subst h
      refine ⟨.pointer (some (p.add (k.toNat * i.size))), by simp [Instr.indexAt, asIntOf, run_under hd, hk, run_size hi, Instr.sureAddr], ?_⟩
      simp only [RelG]
      exact ⟨_, rfl, hp.off _⟩
    · cases h
  · cases h
end
end Go.Abs
