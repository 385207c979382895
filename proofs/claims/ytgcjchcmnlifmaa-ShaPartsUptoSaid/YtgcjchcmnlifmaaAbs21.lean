/- Steps of proofs over abstract values: small rules. -/
import Derived.Test.YtgcjchcmnlifmaaAbs20
namespace Go.Abs
open Go

section
variable {K : AVal → Prop} {K2 : AVal → AHeap → Prop} {K3 : AHeap → Prop} {KB : Bool → Prop}
theorem vb_some (v : AVal) : vb (some v) K = K v := rfl
theorem hb_some (v : AVal) (H : AHeap) : hb (some (v, H)) K2 = K2 v H := rfl
theorem sb_some (H : AHeap) : sb (some H) K3 = K3 H := rfl
theorem isB_bool (b : Bool) : isB (.bool b) KB = KB b := rfl
end

theorem cond_decide (p : Prop) [Decidable p] (A B : Prop) : (cond (decide p) A B) = (if p then A else B) := by
  by_cases h : p <;> simp [h]

theorem onE_same (e : AExit) (A B : Prop) : onE e e A B = A := if_pos rfl
theorem onE_nr (A B : Prop) : onE .normal .ret A B = B := if_neg (by decide)
theorem onE_rn (A B : Prop) : onE .ret .normal A B = B := if_neg (by decide)
theorem onE_ne (i : Nat) (A B : Prop) : onE .normal (.exit i) A B = B := if_neg (by simp)
theorem onE_en (i : Nat) (A B : Prop) : onE (.exit i) .normal A B = B := if_neg (by simp)
theorem onE_re (i : Nat) (A B : Prop) : onE .ret (.exit i) A B = B := if_neg (by simp)
theorem onE_er (i : Nat) (A B : Prop) : onE (.exit i) .ret A B = B := if_neg (by simp)
theorem onE_ee {i j : Nat} (h : i ≠ j) (A B : Prop) : onE (.exit i) (.exit j) A B = B := if_neg (by simpa using h)

/-! ### Weak -/
theorem Weak.plain {H H1 : AHeap} {r : AVal} (hr : r.plain = true) (h : H <+: H1) : Weak H r H1 r H := by
  refine ⟨fun i => i, fun _ => 0, fun i _ => ⟨rfl, rfl⟩, Nat.le_refl _, fun i h1 h2 => h1, fun i j _ _ h => h, fun i hi => .inl ⟨hi, ?_, rfl⟩, Ren.plain hr⟩
  exact pre_get h hi

theorem Weak.cells {H H1 : AHeap} {r r1 : AVal} (hr : Ren (fun i => i) (fun _ => 0) H.length r r1) (h : H <+: H1) : Weak H r1 H1 r H := by
  refine ⟨fun i => i, fun _ => 0, fun i _ => ⟨rfl, rfl⟩, Nat.le_refl _, fun i h1 h2 => h1, fun i j _ _ h => h, fun i hi => .inl ⟨hi, ?_, rfl⟩, hr⟩
  exact pre_get h hi

/-- An aggregate (or several results) of plain values. -/
theorem Weak.agg {H H1 : AHeap} {cs : List AVal} (hr : ∀ x ∈ cs, x.plain = true) (h : H <+: H1) : Weak H (.agg cs) H1 (.agg cs) H :=
  Weak.cells (by simp only [Ren]; exact ⟨cs, rfl, RenL.plain hr⟩) h
theorem Weak.tup {H H1 : AHeap} {cs : List AVal} (hr : ∀ x ∈ cs, x.plain = true) (h : H <+: H1) : Weak H (.tup cs) H1 (.tup cs) H :=
  Weak.cells (by simp only [Ren]; exact ⟨cs, rfl, RenL.plain hr⟩) h

/-- One new block is left, wherever it lies. -/
theorem Weak.block {H H1 : AHeap} {k v : Nat} {kd : Kd} {cs : List AVal} {r r1 : AVal} (hc : ∀ x ∈ cs, x.plain = true) (h : H <+: H1) (hk : H.length ≤ k) (ho : H1[k]? = some (.cells v kd cs))
    (hr : Ren (fun i => if i = H.length then k else i) (fun i => if i = H.length then v else 0) (H.length + 1) r r1) : Weak H r1 H1 r (H ++ [.cells 0 kd cs]) := by
  refine ⟨fun i => if i = H.length then k else i, fun i => if i = H.length then v else 0, fun i hi => ⟨if_neg (by omega), if_neg (by omega)⟩, by simp, fun i h1 h2 => ?_, fun i j hi hj e => ?_, fun i hi => ?_, by simpa using hr⟩
  · simp at h2
    have : i = H.length := by omega
    simp only [this, if_true]; exact hk
  · simp at hi hj
    by_cases e1 : i = H.length <;> by_cases e2 : j = H.length
    · rw [e1, e2]
    · simp only [e1, e2, if_true, if_false] at e; omega
    · simp only [e1, e2, if_true, if_false] at e; omega
    · simp only [e1, e2, if_false] at e; exact e
  · simp at hi
    by_cases e1 : i = H.length
    · right
      subst e1
      refine ⟨.cells 0 kd cs, .cells v kd cs, by simp, by simp [ho], ?_⟩
      simp only [if_true]
      exact ⟨cs, by simp, RenL.plain hc⟩
    · left
      have hi' : i < H.length := by omega
      exact ⟨hi', pre_get h hi', by rw [List.getElem?_append_left hi']⟩

/-- Loops with a told state. -/
theorem LoopP.ruleG {α : Type} {B : Body} {K : AExit → List AVal → AHeap → Prop} (st : α → List AVal) (hp : α → AHeap → Prop) (μ : α → Nat) (a : α) {vs : List AVal} {H : AHeap} (hv : vs = st a) (h0 : hp a H)
    (step : ∀ a H (Kn : List AVal → AHeap → Prop), hp a H → (∀ a' H', hp a' H' → μ a' < μ a → Kn (st a') H') → B (st a) H Kn K) : LoopP B vs H K := by
  have key : ∀ n a vs H, vs = st a → hp a H → μ a < n → LoopN B K n vs H := by
    intro n
    induction n with
    | zero => intro a vs H _ _ h; omega
    | succ n ih =>
      intro a vs H hv hI hn
      subst hv
      exact step a H _ hI fun a' H' hI' hlt => ih a' _ H' rfl hI' (by omega)
  exact ⟨μ a + 1, key _ a vs H hv h0 (by omega)⟩

/-! ### Heaps that grow -/
theorem app_get0 (H : AHeap) (l : List AObj) : (H ++ l)[H.length]? = l[0]? := by simp [List.getElem?_append_right]
theorem app_get (H : AHeap) (l : List AObj) (k : Nat) : (H ++ l)[H.length + k]? = l[k]? := by simp [List.getElem?_append_right]
theorem app_set0 (H : AHeap) (l : List AObj) (o : AObj) : (H ++ l).set H.length o = H ++ l.set 0 o := by rw [List.set_append_right _ _ (Nat.le_refl _)]; simp
theorem app_set (H : AHeap) (l : List AObj) (k : Nat) (o : AObj) : (H ++ l).set (H.length + k) o = H ++ l.set k o := by rw [List.set_append_right _ _ (Nat.le_add_right _ _)]; simp
theorem pre_app (H l : AHeap) : H <+: H ++ l := ⟨l, rfl⟩
theorem pre_set {H K : AHeap} (h : H <+: K) {i : Nat} (hi : H.length ≤ i) (o : AObj) : H <+: K.set i o := by
  obtain ⟨L, rfl⟩ := h
  rw [List.set_append_right _ _ hi]; exact ⟨_, rfl⟩
theorem pre_push {H K : AHeap} (h : H <+: K) (l : AHeap) : H <+: K ++ l := h.trans ⟨l, rfl⟩

theorem rd_of {H : AHeap} {r : Ref} {n v : Nat} {kd : Kd} {cs : List AVal} (h : H[r.id]? = some (.cells v kd cs)) (hv : v = r.ver) (hl : 0 < n → r.off + n ≤ cs.length) : rdCells H r n = some ((cs.drop r.off).take n) := by
  simp only [rdCells, h]; rw [if_pos ⟨hv, hl⟩]
theorem wr_of {H : AHeap} {r : Ref} {v : Nat} {kd : Kd} {cs xs : List AVal} (h : H[r.id]? = some (.cells v kd cs)) (hv : v = r.ver) (hk : kd ≠ .ro) (hl : r.off + xs.length ≤ cs.length) (hc : xs.all AVal.isCell = true) :
    wrCells H r xs = some (H.set r.id (.cells v kd (splice cs r.off xs))) := by
  simp only [wrCells, h]; rw [if_pos ⟨hv, hk, hl, hc⟩]

/-! ### Numbers -/
theorem wrap64 {n : Int} (h1 : -9223372036854775808 ≤ n) (h2 : n < 9223372036854775808) : IntKind.wrap .i64 n = n := by
  rw [IntKind.wrap_i64]; omega
theorem wrapU64 {n : Int} (h1 : 0 ≤ n) (h2 : n < 18446744073709551616) : IntKind.wrap .u64 n = n := by
  simp [IntKind.wrap, IntKind.bits, IntKind.signed]; omega

theorem add64 {a b : Int} (h1 : -9223372036854775808 ≤ a + b) (h2 : a + b < 9223372036854775808) : aBin .add (.int .i64 a) (.int .i64 b) = some (.int .i64 (a + b)) := by
  show some (AVal.int .i64 (IntKind.wrap .i64 (a + b))) = _; rw [wrap64 h1 h2]
theorem sub64 {a b : Int} (h1 : -9223372036854775808 ≤ a - b) (h2 : a - b < 9223372036854775808) : aBin .sub (.int .i64 a) (.int .i64 b) = some (.int .i64 (a - b)) := by
  show some (AVal.int .i64 (IntKind.wrap .i64 (a - b))) = _; rw [wrap64 h1 h2]
theorem mul64 {a b : Int} (h1 : -9223372036854775808 ≤ a * b) (h2 : a * b < 9223372036854775808) : aBin .mul (.int .i64 a) (.int .i64 b) = some (.int .i64 (a * b)) := by
  show some (AVal.int .i64 (IntKind.wrap .i64 (a * b))) = _; rw [wrap64 h1 h2]
theorem quo64 {a b : Int} (h0 : 0 ≤ a) (hb : 0 < b) (h2 : a < 9223372036854775808) : aBin .quo (.int .i64 a) (.int .i64 b) = some (.int .i64 (a / b)) := by
  show (if b = 0 then none else some (AVal.int .i64 (IntKind.wrap .i64 (a.tdiv b)))) = _
  rw [if_neg (by omega), Int.tdiv_eq_ediv_of_nonneg h0, wrap64]
  · have := Int.ediv_nonneg h0 (Int.le_of_lt hb); omega
  · have := Int.ediv_le_self b h0; omega
theorem rem64 {a b : Int} (h0 : 0 ≤ a) (hb : 0 < b) : aBin .rem (.int .i64 a) (.int .i64 b) = some (.int .i64 (a % b)) := by
  show (if b = 0 then none else some (AVal.int .i64 (a.tmod b))) = _
  rw [if_neg (by omega), Int.tmod_eq_emod_of_nonneg h0]
theorem lss64 (k : IntKind) (a b : Int) : aBin .lss (.int k a) (.int k b) = some (.bool (decide (a < b))) := by
  cases k <;> rfl
theorem leq64 (k : IntKind) (a b : Int) : aBin .leq (.int k a) (.int k b) = some (.bool (decide (a ≤ b))) := by
  cases k <;> rfl
theorem gtr64 (k : IntKind) (a b : Int) : aBin .gtr (.int k a) (.int k b) = some (.bool (decide (b < a))) := by
  cases k <;> rfl
theorem geq64 (k : IntKind) (a b : Int) : aBin .geq (.int k a) (.int k b) = some (.bool (decide (b ≤ a))) := by
  cases k <;> rfl
theorem eql64 (k : IntKind) (a b : Int) : aBin .eql (.int k a) (.int k b) = some (.bool (decide (a = b))) := by
  have e : (a == b) = decide (a = b) := by by_cases h : a = b <;> simp [h]
  rw [← e]; cases k <;> rfl
theorem neq64 (k : IntKind) (a b : Int) : aBin .neq (.int k a) (.int k b) = some (.bool (decide (a ≠ b))) := by
  have e : (a != b) = decide (a ≠ b) := by by_cases h : a = b <;> simp [h]
  rw [← e]; cases k <;> rfl
theorem adds {x y : List UInt8} (h : x.length + y.length ≤ 4611686018427387904) : aBin .add (.str x) (.str y) = some (.str (x ++ y)) := by
  show (if x.length + y.length ≤ 4611686018427387904 then some (AVal.str (x ++ y)) else none) = _
  rw [if_pos h]
theorem eqls (x y : List UInt8) : aBin .eql (.str x) (.str y) = some (.bool (decide (x = y))) := by
  have e : (x == y) = decide (x = y) := by by_cases h : x = y <;> simp [h]
  rw [← e]; rfl
theorem neqs (x y : List UInt8) : aBin .neq (.str x) (.str y) = some (.bool (decide (x ≠ y))) := by
  have e : (!(x == y)) = decide (x ≠ y) := by by_cases h : x = y <;> simp [h]
  rw [← e]; rfl

/-- A word of 32 bits. -/
def U (x : BitVec 32) : AVal := .int .u32 (x.toNat : Int)

end Go.Abs
