/- Equality of whatever is made of numbers, texts and bools; of pointers, slices, maps, functions. -/
import Derived.Test.YtgcjchcmnlifmaaAbs11
import Derived.Laws.StructEq
import Derived.ChangeKeysEq
namespace Go.Abs
open Go

/-- The cells of a comparable type, in order. -/
def flatFs (F : TypeId → Option (List Ck)) (c : TypeId → Nat) : Nat → List Field → Option (List Ck)
  | _, [] => some []
  | off, f :: fs =>
    if f.name ≠ "_" ∧ f.offset = off then
      match F f.type with
      | some l => if l.length = c f.type then (match flatFs F c (off + l.length) fs with | some r => some (l ++ r) | none => none) else none
      | none => none
    else none

def flatT (P : Program) : Nat → TypeId → Option (List Ck)
  | 0, _ => none
  | d + 1, t =>
    match P.underlying t with
    | some (.int _) => some [.int]
    | some .string => some [.str]
    | some .bool => some [.bool]
    | some (.array n e) =>
      match flatT P d e with
      | some l => if l.length = P.cellsOf e ∧ n * l.length = P.cellsOf t then some (List.replicate n l).flatten else none
      | none => none
    | some (.struct fs) =>
      if P.stoodInHeld t = true then none else
      match flatFs (flatT P d) P.cellsOf 0 fs.toList with
      | some l => if l.length = P.cellsOf t then some l else none
      | none => none
    | _ => none

theorem eqCells_len : ∀ {l : List Ck} {xs ys : List AVal} {b : Bool}, eqCells l xs ys = some b → xs.length = l.length ∧ ys.length = l.length
  | [], [], [], _, _ => ⟨rfl, rfl⟩
  | k :: ks, x :: xs, y :: ys, b, h => by
    simp only [eqCells] at h
    split at h
    · rename_i a c h1 h2
      obtain ⟨g1, g2⟩ := eqCells_len h2
      exact ⟨by simp [g1], by simp [g2]⟩
    · cases h
  | [], [], _ :: _, _, h => by simp [eqCells] at h
  | [], _ :: _, _, _, h => by simp [eqCells] at h
  | _ :: _, [], _, _, h => by simp [eqCells] at h
  | _ :: _, _ :: _, [], _, h => by simp [eqCells] at h

theorem eqCells_append : ∀ {l1 l2 : List Ck} {xs ys : List AVal} {b : Bool}, eqCells (l1 ++ l2) xs ys = some b →
    ∃ b1 b2, eqCells l1 (xs.take l1.length) (ys.take l1.length) = some b1 ∧ eqCells l2 (xs.drop l1.length) (ys.drop l1.length) = some b2 ∧ b = (b1 && b2)
  | [], l2, xs, ys, b, h => ⟨true, b, by simp [eqCells], by simpa using h, by simp⟩
  | k :: l1, l2, xs, ys, b, h => by
    cases xs with
    | nil => simp [eqCells] at h
    | cons x xs =>
      cases ys with
      | nil => simp [eqCells] at h
      | cons y ys =>
        simp only [List.cons_append, eqCells] at h
        split at h
        · rename_i a c h1 h2
          simp only [Option.some.injEq] at h; subst h
          obtain ⟨b1, b2, g1, g2, rfl⟩ := eqCells_append h2
          exact ⟨a && b1, b2, by simp [eqCells, h1, g1], by simpa using g2, by simp [Bool.and_assoc]⟩
        · cases h

section
variable {P : Program} {E : Env} {w : World}

theorem info_under {t : TypeId} {d : TypeDesc} (h : P.underlying t = some d) : ∃ i, P.info? t = some i := info_of_underlying h

def EqOk (P : Program) (E : Env) (w : World) (D : Nat) (t : TypeId) (l : List Ck) : Prop :=
  ∀ (xs ys : List AVal) (X Y : List Value) (off : Nat) (b : Bool), RelL E xs X → RelL E ys Y →
    eqCells l ((xs.drop off).take l.length) ((ys.drop off).take l.length) = some b →
    ∃ u v, (part t X.toArray off).run P w = .ok u w ∧ (part t Y.toArray off).run P w = .ok v w ∧ (Op.equalIn D t u v).run P w = .ok b w

theorem eqCells_one {k : Ck} {xs ys : List AVal} {off : Nat} {b : Bool} (h : eqCells [k] ((xs.drop off).take 1) ((ys.drop off).take 1) = some b) :
    ∃ x y, xs[off]? = some x ∧ ys[off]? = some y ∧ eqCell k x y = some b := by
  have one : ∀ l : List AVal, ∀ z r, (l.drop off).take 1 = z :: r → l[off]? = some z ∧ r = [] := by
    intro l z r hz
    cases hl : l.drop off with
    | nil => rw [hl] at hz; simp at hz
    | cons a as =>
      rw [hl] at hz
      simp at hz
      have : (l.drop off)[0]? = some a := by rw [hl]; rfl
      rw [List.getElem?_drop] at this
      exact ⟨by simpa [hz.1] using this, hz.2⟩
  cases hx : (xs.drop off).take 1 with
  | nil => rw [hx] at h; simp [eqCells] at h
  | cons x r =>
    cases hy : (ys.drop off).take 1 with
    | nil => rw [hx, hy] at h; simp [eqCells] at h
    | cons y r' =>
      obtain ⟨g1, rfl⟩ := one _ _ _ hx
      obtain ⟨g2, rfl⟩ := one _ _ _ hy
      rw [hx, hy] at h
      simp only [eqCells] at h
      split at h
      · rename_i a c h1 h2
        simp only [Option.some.injEq] at h2 h; subst h2; subst h
        exact ⟨x, y, g1, g2, by simpa using h1⟩
      · cases h

theorem eqCell_int {x y : AVal} {b : Bool} (h : eqCell .int x y = some b) : ∃ k a c, x = .int k a ∧ y = .int k c ∧ b = (a == c) := by
  unfold eqCell at h
  split at h
  · split at h
    · rename_i hk; subst hk
      simp only [Option.some.injEq] at h
      exact ⟨_, _, _, rfl, rfl, h.symm⟩
    · cases h
  · rename_i he; cases he
  · rename_i he; cases he
  · cases h
theorem eqCell_str {x y : AVal} {b : Bool} (h : eqCell .str x y = some b) : ∃ a c, x = .str a ∧ y = .str c ∧ b = (a == c) := by
  unfold eqCell at h
  split at h
  · rename_i he; cases he
  · simp only [Option.some.injEq] at h
    exact ⟨_, _, rfl, rfl, h.symm⟩
  · rename_i he; cases he
  · cases h
theorem eqCell_bool {x y : AVal} {b : Bool} (h : eqCell .bool x y = some b) : ∃ a c, x = .bool a ∧ y = .bool c ∧ b = (a == c) := by
  unfold eqCell at h
  split at h
  · rename_i he; cases he
  · rename_i he; cases he
  · simp only [Option.some.injEq] at h
    exact ⟨_, _, rfl, rfl, h.symm⟩
  · cases h

theorem eqItems_ok {D n : Nat} {e : TypeId} {l : List Ck} (hl : l.length = P.cellsOf e) (ih : EqOk P E w D e l) {xs ys : List AVal} {X Y : List Value} (hx : RelL E xs X) (hy : RelL E ys Y) :
    ∀ (m k : Nat) (b : Bool), eqCells (List.replicate m l).flatten ((xs.drop (k * l.length)).take (m * l.length)) ((ys.drop (k * l.length)).take (m * l.length)) = some b →
      (Op.eqItems D e (P.cellsOf e) X.toArray Y.toArray (List.range' k m)).run P w = .ok b w
  | 0, k, b, h => by
    simp [eqCells] at h; subst h
    simp [Op.eqItems]
  | m + 1, k, b, h => by
    simp only [List.replicate_succ, List.flatten_cons] at h
    obtain ⟨b1, b2, g1, g2, rfl⟩ := eqCells_append h
    rw [List.take_take, List.take_take, Nat.min_eq_left (by rw [Nat.add_mul]; omega)] at g1
    have e2 : ∀ zs : List AVal, ((zs.drop (k * l.length)).take ((m + 1) * l.length)).drop l.length = (zs.drop ((k + 1) * l.length)).take (m * l.length) := by
      intro zs
      rw [List.drop_take, List.drop_drop]
      congr 1
      · rw [Nat.add_mul]; omega
      · congr 1; rw [Nat.add_mul]; omega
    rw [e2, e2] at g2
    obtain ⟨u, v, p1, p2, p3⟩ := ih xs ys X Y (k * l.length) b1 hx hy g1
    have hrec := eqItems_ok (n := n) hl ih hx hy m (k + 1) b2 g2
    rw [hl] at p1 p2
    simp only [List.range'_succ, Op.eqItems, Sem.run_bind, p1, p2, p3, Result.andThen_ok]
    cases b1
    · simp
    · simpa using hrec

theorem eqFields_ok {D d : Nat} (ih : ∀ t l, flatT P d t = some l → EqOk P E w D t l) {xs ys : List AVal} {X Y : List Value} (hx : RelL E xs X) (hy : RelL E ys Y) :
    ∀ (fs : List Field) (off : Nat) (l : List Ck) (b : Bool), flatFs (flatT P d) P.cellsOf off fs = some l →
      eqCells l ((xs.drop off).take l.length) ((ys.drop off).take l.length) = some b →
      (Op.eqFields D X.toArray Y.toArray fs).run P w = .ok b w
  | [], off, l, b, hf, h => by
    simp only [flatFs, Option.some.injEq] at hf; subst hf
    simp [eqCells] at h; subst h
    simp [Op.eqFields]
  | f :: fs, off, l, b, hf, h => by
    simp only [flatFs] at hf
    split at hf
    · rename_i hc
      split at hf
      · rename_i l1 hl1
        split at hf
        · split at hf
          · rename_i r hr
            simp only [Option.some.injEq] at hf; subst hf
            obtain ⟨b1, b2, g1, g2, rfl⟩ := eqCells_append h
            rw [List.take_take, List.take_take, List.length_append, Nat.min_eq_left (by omega)] at g1
            have e2 : ∀ zs : List AVal, ((zs.drop off).take (l1 ++ r).length).drop l1.length = (zs.drop (off + l1.length)).take r.length := by
              intro zs
              rw [List.drop_take, List.drop_drop, List.length_append]
              congr 1; omega
            rw [e2, e2] at g2
            obtain ⟨u, v, p1, p2, p3⟩ := ih f.type l1 hl1 xs ys X Y off b1 hx hy g1
            have hrec := eqFields_ok ih hx hy fs (off + l1.length) r b2 hr g2
            rw [← hc.2] at p1 p2
            simp only [Op.eqFields, Sem.run_bind, p1, p2, p3, Result.andThen_ok]
            rw [if_pos hc.1]
            simp only [Sem.run_bind, p1, p2, p3, Result.andThen_ok]
            cases b1
            · simp
            · simpa using hrec
          · cases hf
        · cases hf
      · cases hf
    · cases hf

theorem flat_ok (k : Nat) : ∀ (d : Nat) (t : TypeId) (l : List Ck), flatT P d t = some l → EqOk P E w (k + d) t l
  | 0, t, l, h => by simp [flatT] at h
  | d + 1, t, l, h => by
    intro xs ys X Y off b hx hy he
    unfold flatT at h
    have cell : ∀ (q : Ck) (dd : TypeDesc), P.underlying t = some dd → aggB dd = false → l = [q] →
        (∀ x y u v, eqCell q x y = some b → RelV E x u → RelV E y v → (Op.equalIn (k + (d + 1)) t u v).run P w = .ok b w) →
        ∃ u v, (part t X.toArray off).run P w = .ok u w ∧ (part t Y.toArray off).run P w = .ok v w ∧ (Op.equalIn (k + (d + 1)) t u v).run P w = .ok b w := by
      intro q dd hdd hag hl hq
      subst hl
      obtain ⟨x, y, h1, h2, h3⟩ := eqCells_one he
      obtain ⟨u, hu, ru⟩ := hx.get h1
      obtain ⟨v, hv, rv⟩ := hy.get h2
      exact ⟨u, v, by simp [part, run_agg hdd, hag, hu], by simp [part, run_agg hdd, hag, hv], hq x y u v h3 ru rv⟩
    have wide : ∀ dd, P.underlying t = some dd → aggB dd = true → l.length = P.cellsOf t →
        (∀ xs' ys' X' Y', RelL E xs' X' → RelL E ys' Y' → eqCells l (xs'.take l.length) (ys'.take l.length) = some b → (Op.equalIn (k + (d + 1)) t (.agg X'.toArray) (.agg Y'.toArray)).run P w = .ok b w) →
        ∃ u v, (part t X.toArray off).run P w = .ok u w ∧ (part t Y.toArray off).run P w = .ok v w ∧ (Op.equalIn (k + (d + 1)) t u v).run P w = .ok b w := by
      intro dd hdd hag hlen hq
      obtain ⟨i, hi⟩ := info_under hdd
      have hsz : i.size = l.length := by rw [hlen]; simp [Program.cellsOf, hi]
      refine ⟨.agg ((X.drop off).take l.length).toArray, .agg ((Y.drop off).take l.length).toArray, by simp [part, run_agg hdd, hag, run_size hi, hsz], by simp [part, run_agg hdd, hag, run_size hi, hsz],
        hq _ _ _ _ ((hx.drop off).take _) ((hy.drop off).take _) (by simpa [List.take_take] using he)⟩
    split at h
    · rename_i kk hu
      simp only [Option.some.injEq] at h
      refine cell .int _ hu rfl h.symm fun x y u v hq ru rv => ?_
      obtain ⟨q, a, c, rfl, rfl, rfl⟩ := eqCell_int hq
      simp only [RelG] at ru rv; subst ru; subst rv
      exact run_equalIn_int w (k + d) t _ kk _ _ hu
    · rename_i hu
      simp only [Option.some.injEq] at h
      refine cell .str _ hu rfl h.symm fun x y u v hq ru rv => ?_
      obtain ⟨a, c, rfl, rfl, rfl⟩ := eqCell_str hq
      simp only [RelG] at ru rv; subst ru; subst rv
      have := run_equalIn_string (P := P) w (k + d) t ⟨a.toArray⟩ ⟨c.toArray⟩ hu
      rw [bytes_mk, bytes_mk] at this
      exact this
    · rename_i hu
      simp only [Option.some.injEq] at h
      refine cell .bool _ hu rfl h.symm fun x y u v hq ru rv => ?_
      obtain ⟨a, c, rfl, rfl, rfl⟩ := eqCell_bool hq
      simp only [RelG] at ru rv; subst ru; subst rv
      exact run_equalIn_bool w (k + d) t _ _ hu
    · rename_i n e hu
      split at h
      · rename_i l1 hl1
        split at h
        · rename_i hc
          simp only [Option.some.injEq] at h; subst h
          refine wide _ hu rfl (by simp; exact hc.2) fun xs' ys' X' Y' hx' hy' he' => ?_
          have hpe : ∃ i, P.info? e = some i := by
            cases d with
            | zero => simp [flatT] at hl1
            | succ d =>
              unfold flatT at hl1
              cases hue : P.underlying e with
              | none => simp [hue] at hl1
              | some _ => exact info_of_underlying hue
          obtain ⟨i, hi⟩ := hpe
          rw [show k + (d + 1) = (k + d) + 1 from rfl, run_equalIn_array w (k + d) _ _ hu hi, List.range_eq_range']
          refine eqItems_ok (n := n) hc.1 (flat_ok k d e l1 hl1) hx' hy' n 0 b ?_
          simpa using he'
        · cases h
      · cases h
    · rename_i fs hu
      split at h
      · cases h
      · rename_i hst
        split at h
        · rename_i l1 hl1
          split at h
          · rename_i hc
            simp only [Option.some.injEq] at h; subst h
            refine wide _ hu rfl hc fun xs' ys' X' Y' hx' hy' he' => ?_
            have hfs : P.fieldsOf t = fs := by simp [Program.fieldsOf, hu]
            rw [show k + (d + 1) = (k + d) + 1 from rfl, run_equalIn_struct w (k + d) t _ _ (by rw [hfs]; exact hu) (by simpa using hst), hfs]
            exact eqFields_ok (fun t l h => flat_ok k d t l h) hx' hy' fs.toList 0 l1 b hl1 (by simpa using he')
          · cases h
        · cases h
    · cases h
end
end Go.Abs
