/- One text of these: Abs21, Abs22, Abs23, Abs24, Abs25, Abs26, Abs27, Abs28, Abs29, Abs30, Abs31, Abs32, Abs33, Abs34, Abs35. -/
import Derived.Laws.BitsLemmas
import Derived.ChangeArms
import Derived.OpenShut
import Derived.ProofKit
import Derived.Carry
import Derived.JoinedCond
import Derived.Test.YtchfbhiaboggmaaAbsD

/- Steps of proofs over abstract values: small rules. -/
namespace Go.Abs
open Go

section
variable {K : AVal → Prop} {K2 : AVal → AHeap → Prop} {K3 : AHeap → Prop} {KB : Bool → Prop}
theorem vb_some (v : AVal) : vb (some v) K = K v := rfl
theorem hb_some (v : AVal) (H : AHeap) : hb (some (v, H)) K2 = K2 v H := rfl
theorem sb_some (H : AHeap) : sb (some H) K3 = K3 H := rfl
theorem isB_bool (b : Bool) : isB (.bool b) KB = KB b := rfl
end

theorem onE_same (e : AExit) (A B : Prop) : onE e e A B = A := if_pos rfl
theorem onE_nr (A B : Prop) : onE .normal .ret A B = B := if_neg (by decide)
theorem onE_rn (A B : Prop) : onE .ret .normal A B = B := if_neg (by decide)
theorem onE_ne (i : Nat) (A B : Prop) : onE .normal (.exit i) A B = B := if_neg (by simp)
theorem onE_en (i : Nat) (A B : Prop) : onE (.exit i) .normal A B = B := if_neg (by simp)
theorem onE_re (i : Nat) (A B : Prop) : onE .ret (.exit i) A B = B := if_neg (by simp)
theorem onE_er (i : Nat) (A B : Prop) : onE (.exit i) .ret A B = B := if_neg (by simp)
theorem onE_ee {i j : Nat} (h : i ≠ j) (A B : Prop) : onE (.exit i) (.exit j) A B = B := if_neg (by simpa using h)

/-! ### Weak -/
theorem Weak.plain {H H1 : AHeap} {r : AVal} (hr : r.plain = true) (h : H <+: H1) : Weak H r H1 r H := by
  refine ⟨fun i => i, fun _ => 0, fun i _ => ⟨rfl, rfl⟩, Nat.le_refl _, fun i h1 h2 => h1, fun i j _ _ h => h, fun i hi => .inl ⟨hi, ?_, rfl⟩, Ren.plain hr⟩
  exact pre_get h hi

theorem Weak.cells {H H1 : AHeap} {r r1 : AVal} (hr : Ren (fun i => i) (fun _ => 0) H.length r r1) (h : H <+: H1) : Weak H r1 H1 r H := by
  refine ⟨fun i => i, fun _ => 0, fun i _ => ⟨rfl, rfl⟩, Nat.le_refl _, fun i h1 h2 => h1, fun i j _ _ h => h, fun i hi => .inl ⟨hi, ?_, rfl⟩, hr⟩
  exact pre_get h hi

/-- An aggregate (or several results) of plain values. -/
theorem Weak.agg {H H1 : AHeap} {cs : List AVal} (hr : ∀ x ∈ cs, x.plain = true) (h : H <+: H1) : Weak H (.agg cs) H1 (.agg cs) H :=
  Weak.cells (by simp only [Ren]; exact ⟨cs, rfl, RenL.plain hr⟩) h
/-- One new block is left, wherever it lies. -/
theorem Weak.block {H H1 : AHeap} {k v : Nat} {kd : Kd} {cs : List AVal} {r r1 : AVal} (hc : ∀ x ∈ cs, x.plain = true) (h : H <+: H1) (hk : H.length ≤ k) (ho : H1[k]? = some (.cells v kd cs))
    (hr : Ren (fun i => if i = H.length then k else i) (fun i => if i = H.length then v else 0) (H.length + 1) r r1) : Weak H r1 H1 r (H ++ [.cells 0 kd cs]) := by
  refine ⟨fun i => if i = H.length then k else i, fun i => if i = H.length then v else 0, fun i hi => ⟨if_neg (by omega), if_neg (by omega)⟩, by simp, fun i h1 h2 => ?_, fun i j hi hj e => ?_, fun i hi => ?_, by simpa using hr⟩
  · simp at h2
    have : i = H.length := by omega
    simp only [this, if_true]; exact hk
  · simp at hi hj
    by_cases e1 : i = H.length <;> by_cases e2 : j = H.length
    · rw [e1, e2]
    · simp only [e1, e2, if_true, if_false] at e; omega
    · simp only [e1, e2, if_true, if_false] at e; omega
    · simp only [e1, e2, if_false] at e; exact e
  · simp at hi
    by_cases e1 : i = H.length
    · right
      subst e1
      refine ⟨.cells 0 kd cs, .cells v kd cs, by simp, by simp [ho], ?_⟩
      simp only [if_true]
      exact ⟨cs, by simp, RenL.plain hc⟩
    · left
      have hi' : i < H.length := by omega
      exact ⟨hi', pre_get h hi', by rw [List.getElem?_append_left hi']⟩

/-- Loops with a told state. -/
theorem LoopP.ruleG {α : Type} {B : Body} {K : AExit → List AVal → AHeap → Prop} (st : α → List AVal) (hp : α → AHeap → Prop) (μ : α → Nat) (a : α) {vs : List AVal} {H : AHeap} (hv : vs = st a) (h0 : hp a H)
    (step : ∀ a H (Kn : List AVal → AHeap → Prop), hp a H → (∀ a' H', hp a' H' → μ a' < μ a → Kn (st a') H') → B (st a) H Kn K) : LoopP B vs H K := by
  have key : ∀ n a vs H, vs = st a → hp a H → μ a < n → LoopN B K n vs H := by
    intro n
    induction n with
    | zero => intro a vs H _ _ h; omega
    | succ n ih =>
      intro a vs H hv hI hn
      subst hv
      exact step a H _ hI fun a' H' hI' hlt => ih a' _ H' rfl hI' (by omega)
  exact ⟨μ a + 1, key _ a vs H hv h0 (by omega)⟩

/-! ### Heaps that grow -/
theorem app_get0 (H : AHeap) (l : List AObj) : (H ++ l)[H.length]? = l[0]? := by simp [List.getElem?_append_right]
theorem app_get (H : AHeap) (l : List AObj) (k : Nat) : (H ++ l)[H.length + k]? = l[k]? := by simp [List.getElem?_append_right]
theorem app_set0 (H : AHeap) (l : List AObj) (o : AObj) : (H ++ l).set H.length o = H ++ l.set 0 o := by rw [List.set_append_right _ _ (Nat.le_refl _)]; simp
theorem app_set (H : AHeap) (l : List AObj) (k : Nat) (o : AObj) : (H ++ l).set (H.length + k) o = H ++ l.set k o := by rw [List.set_append_right _ _ (Nat.le_add_right _ _)]; simp
theorem pre_app (H l : AHeap) : H <+: H ++ l := ⟨l, rfl⟩
theorem pre_set {H K : AHeap} (h : H <+: K) {i : Nat} (hi : H.length ≤ i) (o : AObj) : H <+: K.set i o := by
  obtain ⟨L, rfl⟩ := h
  rw [List.set_append_right _ _ hi]; exact ⟨_, rfl⟩
theorem rd_of {H : AHeap} {r : Ref} {n v : Nat} {kd : Kd} {cs : List AVal} (h : H[r.id]? = some (.cells v kd cs)) (hv : v = r.ver) (hl : 0 < n → r.off + n ≤ cs.length) : rdCells H r n = some ((cs.drop r.off).take n) := by
  simp only [rdCells, h]; rw [if_pos ⟨hv, hl⟩]
theorem wr_of {H : AHeap} {r : Ref} {v : Nat} {kd : Kd} {cs xs : List AVal} (h : H[r.id]? = some (.cells v kd cs)) (hv : v = r.ver) (hk : kd ≠ .ro) (hl : r.off + xs.length ≤ cs.length) (hc : xs.all AVal.isCell = true) :
    wrCells H r xs = some (H.set r.id (.cells v kd (splice cs r.off xs))) := by
  simp only [wrCells, h]; rw [if_pos ⟨hv, hk, hl, hc⟩]

/-! ### Numbers -/
theorem wrap64 {n : Int} (h1 : -9223372036854775808 ≤ n) (h2 : n < 9223372036854775808) : IntKind.wrap .i64 n = n := by
  rw [IntKind.wrap_i64]; omega
theorem wrapU64 {n : Int} (h1 : 0 ≤ n) (h2 : n < 18446744073709551616) : IntKind.wrap .u64 n = n := by
  simp [IntKind.wrap, IntKind.bits, IntKind.signed]; omega

theorem add64 {a b : Int} (h1 : -9223372036854775808 ≤ a + b) (h2 : a + b < 9223372036854775808) : aBin .add (.int .i64 a) (.int .i64 b) = some (.int .i64 (a + b)) := by
  show some (AVal.int .i64 (IntKind.wrap .i64 (a + b))) = _; rw [wrap64 h1 h2]
theorem sub64 {a b : Int} (h1 : -9223372036854775808 ≤ a - b) (h2 : a - b < 9223372036854775808) : aBin .sub (.int .i64 a) (.int .i64 b) = some (.int .i64 (a - b)) := by
  show some (AVal.int .i64 (IntKind.wrap .i64 (a - b))) = _; rw [wrap64 h1 h2]
theorem mul64 {a b : Int} (h1 : -9223372036854775808 ≤ a * b) (h2 : a * b < 9223372036854775808) : aBin .mul (.int .i64 a) (.int .i64 b) = some (.int .i64 (a * b)) := by
  show some (AVal.int .i64 (IntKind.wrap .i64 (a * b))) = _; rw [wrap64 h1 h2]
theorem quo64 {a b : Int} (h0 : 0 ≤ a) (hb : 0 < b) (h2 : a < 9223372036854775808) : aBin .quo (.int .i64 a) (.int .i64 b) = some (.int .i64 (a / b)) := by
  show (if b = 0 then none else some (AVal.int .i64 (IntKind.wrap .i64 (a.tdiv b)))) = _
  rw [if_neg (by omega), Int.tdiv_eq_ediv_of_nonneg h0, wrap64]
  · have := Int.ediv_nonneg h0 (Int.le_of_lt hb); omega
  · have := Int.ediv_le_self b h0; omega
theorem rem64 {a b : Int} (h0 : 0 ≤ a) (hb : 0 < b) : aBin .rem (.int .i64 a) (.int .i64 b) = some (.int .i64 (a % b)) := by
  show (if b = 0 then none else some (AVal.int .i64 (a.tmod b))) = _
  rw [if_neg (by omega), Int.tmod_eq_emod_of_nonneg h0]
theorem lss64 (k : IntKind) (a b : Int) : aBin .lss (.int k a) (.int k b) = some (.bool (decide (a < b))) := by
  cases k <;> rfl
theorem leq64 (k : IntKind) (a b : Int) : aBin .leq (.int k a) (.int k b) = some (.bool (decide (a ≤ b))) := by
  cases k <;> rfl
theorem gtr64 (k : IntKind) (a b : Int) : aBin .gtr (.int k a) (.int k b) = some (.bool (decide (b < a))) := by
  cases k <;> rfl
theorem geq64 (k : IntKind) (a b : Int) : aBin .geq (.int k a) (.int k b) = some (.bool (decide (b ≤ a))) := by
  cases k <;> rfl
theorem eql64 (k : IntKind) (a b : Int) : aBin .eql (.int k a) (.int k b) = some (.bool (decide (a = b))) := by
  have e : (a == b) = decide (a = b) := by by_cases h : a = b <;> simp [h]
  rw [← e]; cases k <;> rfl
theorem neq64 (k : IntKind) (a b : Int) : aBin .neq (.int k a) (.int k b) = some (.bool (decide (a ≠ b))) := by
  have e : (a != b) = decide (a ≠ b) := by by_cases h : a = b <;> simp [h]
  rw [← e]; cases k <;> rfl
theorem adds {x y : List UInt8} (h : x.length + y.length ≤ 4611686018427387904) : aBin .add (.str x) (.str y) = some (.str (x ++ y)) := by
  show (if x.length + y.length ≤ 4611686018427387904 then some (AVal.str (x ++ y)) else none) = _
  rw [if_pos h]
theorem eqls (x y : List UInt8) : aBin .eql (.str x) (.str y) = some (.bool (decide (x = y))) := by
  have e : (x == y) = decide (x = y) := by by_cases h : x = y <;> simp [h]
  rw [← e]; rfl
theorem neqs (x y : List UInt8) : aBin .neq (.str x) (.str y) = some (.bool (decide (x ≠ y))) := by
  have e : (!(x == y)) = decide (x ≠ y) := by by_cases h : x = y <;> simp [h]
  rw [← e]; rfl

/-- A word of 32 bits. -/
def U (x : BitVec 32) : AVal := .int .u32 (x.toNat : Int)

end Go.Abs

/- Words, bytes and numbers: what the operations make of them. -/
namespace Go.Abs
open Go

theorem U_plain (x : BitVec 32) : (U x).plain = true := rfl
section
variable (x y : BitVec 32)
theorem ofInt_toNat : BitVec.ofInt (IntKind.bits .u32) (x.toNat : Int) = x := by
  show BitVec.ofInt 32 (x.toNat : Int) = x
  rw [BitVec.ofInt_natCast, BitVec.ofNat_toNat, BitVec.setWidth_eq]
theorem wrap_U (n : Nat) : IntKind.wrap .u32 (n : Int) = ((n % 4294967296 : Nat) : Int) := by
  rw [IntKind.wrap_u32]; omega
theorem wrap_U32 : IntKind.wrap .u32 (x.toNat : Int) = x.toNat := by
  have := x.isLt
  rw [wrap_U, Nat.mod_eq_of_lt (by omega)]

theorem U_add : aBin .add (U x) (U y) = some (U (x + y)) := by
  show some (AVal.int .u32 (IntKind.wrap .u32 ((x.toNat : Int) + y.toNat))) = _
  rw [← Int.natCast_add, wrap_U, U, BitVec.toNat_add]
theorem U_or : aBin .or (U x) (U y) = some (U (x ||| y)) := by
  show some (AVal.int .u32 (IntKind.wrap .u32 ((BitVec.ofInt (IntKind.bits .u32) (x.toNat : Int) ||| BitVec.ofInt (IntKind.bits .u32) (y.toNat : Int)).toNat : Int))) = _
  rw [ofInt_toNat, ofInt_toNat]
  exact congrArg (fun z => some (AVal.int .u32 z)) (wrap_U32 (x ||| y))
theorem U_and : aBin .and (U x) (U y) = some (U (x &&& y)) := by
  show some (AVal.int .u32 (IntKind.wrap .u32 ((BitVec.ofInt (IntKind.bits .u32) (x.toNat : Int) &&& BitVec.ofInt (IntKind.bits .u32) (y.toNat : Int)).toNat : Int))) = _
  rw [ofInt_toNat, ofInt_toNat]
  exact congrArg (fun z => some (AVal.int .u32 z)) (wrap_U32 (x &&& y))
theorem U_xor : aBin .xor (U x) (U y) = some (U (x ^^^ y)) := by
  show some (AVal.int .u32 (IntKind.wrap .u32 ((BitVec.ofInt (IntKind.bits .u32) (x.toNat : Int) ^^^ BitVec.ofInt (IntKind.bits .u32) (y.toNat : Int)).toNat : Int))) = _
  rw [ofInt_toNat, ofInt_toNat]
  exact congrArg (fun z => some (AVal.int .u32 z)) (wrap_U32 (x ^^^ y))
theorem U_not : aUn .xor (U x) = some (U (~~~x)) := by
  have h1 : aUn .xor (U x) = aBin .xor (U (BitVec.allOnes 32)) (U x) := rfl
  rw [h1, U_xor, BitVec.allOnes_xor]
theorem U_shl (k : IntKind) {n : Int} (h0 : 0 ≤ n) (h : n ≤ 32) : aBin .shl (U x) (.int k n) = some (U (x <<< n.toNat)) := by
  show (if n < 0 then none else some (AVal.int .u32 (IntKind.wrap .u32 ((x.toNat : Int) * 2 ^ (min n.toNat 32))))) = _
  rw [if_neg (by omega), Nat.min_eq_left (by omega)]
  have : (x.toNat : Int) * 2 ^ n.toNat = ((x.toNat * 2 ^ n.toNat : Nat) : Int) := by rw [Int.natCast_mul, Int.natCast_pow]; rfl
  rw [this, wrap_U, U, BitVec.toNat_shiftLeft, Nat.shiftLeft_eq]
theorem U_shr (k : IntKind) {n : Int} (h0 : 0 ≤ n) (h : n ≤ 32) : aBin .shr (U x) (.int k n) = some (U (x >>> n.toNat)) := by
  show (if n < 0 then none else some (AVal.int .u32 (((x.toNat : Int)).fdiv (2 ^ (min n.toNat 32))))) = _
  rw [if_neg (by omega), Nat.min_eq_left (by omega), U, BitVec.toNat_ushiftRight, Nat.shiftRight_eq_div_pow]
  have : ((2 : Int) ^ n.toNat) = ((2 ^ n.toNat : Nat) : Int) := by rw [Int.natCast_pow]; rfl
  rw [this, Int.fdiv_eq_ediv_of_nonneg _ (Int.natCast_nonneg _), Int.natCast_ediv]
theorem U_of_byte (b : UInt8) : aInt2 .u32 (ofByte b) = some (U (BitVec.ofNat 32 b.toNat)) := by
  show some (AVal.int .u32 (IntKind.wrap .u32 (b.toNat : Int))) = _
  rw [wrap_U, U, BitVec.toNat_ofNat]
theorem byte_of_U : aInt2 .u8 (U x) = some (ofByte (UInt8.ofNat x.toNat)) := by
  show some (AVal.int .u8 (IntKind.wrap .u8 (x.toNat : Int))) = _
  rw [IntKind.wrap_u8, ofByte, UInt8.toNat_ofNat']
  exact congrArg (fun z => some (AVal.int .u8 z)) (by omega)
theorem int_of_U : aInt2 .i64 (U x) = some (.int .i64 x.toNat) := by
  show some (AVal.int .i64 (IntKind.wrap .i64 (x.toNat : Int))) = _
  have := x.isLt
  rw [wrap64 (by omega) (by omega)]
end

theorem int_of_byte (b : UInt8) : aInt2 .i64 (ofByte b) = some (.int .i64 b.toNat) := by
  show some (AVal.int .i64 (IntKind.wrap .i64 (b.toNat : Int))) = _
  have := b.toNat_lt
  rw [wrap64 (by omega) (by omega)]
theorem byte_of_int (k : IntKind) {n : Int} (h : 0 ≤ n) : aInt2 .u8 (.int k n) = some (ofByte (UInt8.ofNat n.toNat)) := by
  show some (AVal.int .u8 (IntKind.wrap .u8 n)) = _
  rw [IntKind.wrap_u8, ofByte, UInt8.toNat_ofNat']
  exact congrArg (fun z => some (AVal.int .u8 z)) (by omega)
theorem int_of_int {n : Int} (k : IntKind) (h1 : -9223372036854775808 ≤ n) (h2 : n < 9223372036854775808) : aInt2 .i64 (.int k n) = some (.int .i64 n) := by
  show some (AVal.int .i64 (IntKind.wrap .i64 n)) = _
  rw [wrap64 h1 h2]
theorem u64_of_int {n : Int} (k : IntKind) (h1 : 0 ≤ n) (h2 : n < 18446744073709551616) : aInt2 .u64 (.int k n) = some (.int .u64 n) := by
  show some (AVal.int .u64 (IntKind.wrap .u64 n)) = _
  rw [wrapU64 h1 h2]
theorem mulU64 {a b : Int} (h1 : 0 ≤ a * b) (h2 : a * b < 18446744073709551616) : aBin .mul (.int .u64 a) (.int .u64 b) = some (.int .u64 (a * b)) := by
  show some (AVal.int .u64 (IntKind.wrap .u64 (a * b))) = _; rw [wrapU64 h1 h2]
theorem shr_int (k k' : IntKind) {a b : Int} (ha : 0 ≤ a) (hb : 0 ≤ b) (h : b ≤ k.bits) : aBin .shr (.int k a) (.int k' b) = some (.int k (a / 2 ^ b.toNat)) := by
  have e : aBin .shr (.int k a) (.int k' b) = if b < 0 then none else some (AVal.int k (a.fdiv (2 ^ (min b.toNat k.bits)))) := by cases k <;> rfl
  rw [e, if_neg (by omega), Nat.min_eq_left (by omega), Int.fdiv_eq_ediv_of_nonneg _ (Int.le_of_lt (Int.pow_pos (by decide)))]

theorem map_plain {α : Type} {f : α → AVal} (hf : ∀ a, (f a).plain = true) (l : List α) : ∀ x ∈ l.map f, x.plain = true := by
  intro x hx
  obtain ⟨a, _, rfl⟩ := List.mem_map.1 hx
  exact hf a
theorem map_cell {α : Type} {f : α → AVal} (hf : ∀ a, (f a).isCell = true) (l : List α) : (l.map f).all AVal.isCell = true := by
  rw [List.all_eq_true]
  intro x hx
  obtain ⟨a, _, rfl⟩ := List.mem_map.1 hx
  exact hf a
theorem bytesOf_map (l : List UInt8) : bytesOf (l.map ofByte) = some l := by
  induction l with
  | nil => rfl
  | cons b l ih =>
    simp only [List.map_cons, bytesOf, ih]
    have : byteOf (ofByte b) = some b := by
      simp [byteOf, ofByte]
    rw [this]
end Go.Abs

/- One step at a time. -/
namespace Go.Abs
open Go

theorem vb_i {r : Option AVal} {v : AVal} {K : AVal → Prop} (h : r = some v) (k : K v) : vb r K := by subst h; exact k
theorem hb_i {r : Option (AVal × AHeap)} {v : AVal} {H : AHeap} {K : AVal → AHeap → Prop} (h : r = some (v, H)) (k : K v H) : hb r K := by subst h; exact k
theorem sb_i {r : Option AHeap} {H : AHeap} {K : AHeap → Prop} (h : r = some H) (k : K H) : sb r K := by subst h; exact k
theorem cb_i {R : AVal → AHeap → Prop} {K : AVal → AHeap → Prop} (v : AVal) (H : AHeap) (h : R v H) (k : K v H) : cb R K := ⟨v, H, h, k⟩
theorem isB_d {p : Prop} [Decidable p] {K : Bool → Prop} (h1 : p → K true) (h2 : ¬ p → K false) : isB (.bool (decide p)) K := by
  by_cases h : p
  · simpa [isB, h] using h1 h
  · simpa [isB, h] using h2 h
theorem isB_t {p : Prop} [Decidable p] {K : Bool → Prop} (h : p) (k : K true) : isB (.bool (decide p)) K := by simpa [isB, h] using k
theorem isB_f {p : Prop} [Decidable p] {K : Bool → Prop} (h : ¬ p) (k : K false) : isB (.bool (decide p)) K := by simpa [isB, h] using k
theorem fin_ret {rs : List Rv} {H : AHeap} {K : AVal → AHeap → Prop} {vs : List AVal} (h : rvs H rs = some vs) (k : K (tup1 vs) H) : fin .ret rs H K := ⟨.inr rfl, by rw [h]; exact k⟩
theorem fin_normal {rs : List Rv} {H : AHeap} {K : AVal → AHeap → Prop} {vs : List AVal} (h : rvs H rs = some vs) (k : K (tup1 vs) H) : fin .normal rs H K := ⟨.inl rfl, by rw [h]; exact k⟩
theorem JoinP.mk {A : (AExit → List AVal → AHeap → Prop) → Prop} {K : AExit → List AVal → AHeap → Prop} (Q : AExit → List AVal → AHeap → Prop) (h : A Q) (k : ∀ e vs H, Q e vs H → K e vs H) : JoinP A K := ⟨Q, h, k⟩

/-! ### What single operations give -/
theorem e_idxAddrArr {n es : Nat} {r : Ref} {kd : IntKind} {k : Int} (h0 : 0 ≤ k) (h1 : k < n) : aIndexAddrArr n es (.ptr r) (.int kd k) = some (.ptr ⟨r.id, r.ver, r.off + k.toNat * es⟩) := if_pos ⟨h0, h1⟩
theorem e_idxAddr {es n : Nat} {r : Ref} {c : Cap} {kd : IntKind} {k : Int} (h0 : 0 ≤ k) (h1 : k < n) : aIndexAddr es (.slice r n c) (.int kd k) = some (.ptr ⟨r.id, r.ver, r.off + k.toNat * es⟩) := if_pos ⟨h0, h1⟩
theorem e_idxStr {s : List UInt8} {kd : IntKind} {k : Int} (h0 : 0 ≤ k) (h1 : k < s.length) : aIndexStr (.str s) (.int kd k) = some (ofByte (s.getD k.toNat 0)) := by
  have h2 : k.toNat < s.length := by omega
  simp [aIndexStr, h0, h2]
theorem e_fieldAddr (off : Nat) (r : Ref) : aFieldAddr off (.ptr r) = some (.ptr ⟨r.id, r.ver, r.off + off⟩) := rfl
theorem e_idxArr1 {n : Nat} {cs : List AVal} {kd : IntKind} {k : Int} (h0 : 0 ≤ k) (h1 : k < n) (h2 : k < cs.length) : aIndexArr n false 1 (.agg cs) (.int kd k) = some (cs.getD k.toNat .undef) := by
  have h3 : k.toNat < cs.length := by omega
  simp [aIndexArr, aPart, h0, h1, h3, List.getD]
theorem e_lenSt (s : List UInt8) : lenSt (.str s) = some (.int .i64 s.length) := rfl
theorem e_lenSl (r : Ref) (n : Nat) (c : Cap) : lenSl (.slice r n c) = some (.int .i64 n) := rfl
theorem e_lenNil : lenSl .nils = some (.int .i64 0) := rfl
theorem e_alloc (H : AHeap) (z : List AVal) : aAlloc H z = some (.ptr ⟨H.length, 0, 0⟩, H ++ [.cells 0 .exact z]) := rfl
theorem e_box {H : AHeap} {x : AVal} (h : x.defd = true) : aBox H x = some (.ptr ⟨H.length, 0, 0⟩, H ++ [.cells 0 .exact x.cells]) := if_pos h
theorem e_nilCheck (r : Ref) : aNilCheck (.ptr r) = some (.ptr r) := rfl
theorem e_extract (vs : List AVal) (i : Nat) : aExtract (.tup vs) i = vs[i]? := rfl
theorem e_not (b : Bool) : aUn .not (.bool b) = some (.bool !b) := rfl

theorem e_sliceStrTo {s : List UInt8} {kd : IntKind} {h : Int} (h0 : 0 ≤ h) (h1 : h ≤ s.length) : aSliceStr (.str s) none (some (.int kd h)) = some (.str (s.take h.toNat)) := by
  have h2 : h.toNat ≤ s.length := by omega
  simp [aSliceStr, bnd, h0, h2]
theorem e_sliceStrFrom {s : List UInt8} {kd : IntKind} {l : Int} (h0 : 0 ≤ l) (h1 : l ≤ s.length) : aSliceStr (.str s) (some (.int kd l)) none = some (.str (s.drop l.toNat)) := by
  have h2 : l.toNat ≤ s.length := by omega
  simp [aSliceStr, bnd, h0, h2]
theorem e_sliceStr {s : List UInt8} {kd kd' : IntKind} {l h : Int} (h0 : 0 ≤ l) (h1 : l ≤ h) (h2 : h ≤ s.length) : aSliceStr (.str s) (some (.int kd l)) (some (.int kd' h)) = some (.str ((s.take h.toNat).drop l.toNat)) := by
  have h3 : l.toNat ≤ h.toNat ∧ h.toNat ≤ s.length := by omega
  have h4 : 0 ≤ h := by omega
  simp [aSliceStr, bnd, h0, h4, h3]

/-! ### Cells of the heap -/
theorem splice_one {α : Type} (cs : List α) (k : Nat) (x : α) (h : k < cs.length) : splice cs k [x] = cs.set k x := by
  simp only [splice, List.length_cons, List.length_nil]
  rw [List.set_eq_take_append_cons_drop, if_pos h]; simp
theorem e_loadAgg {H : AHeap} {i v off n : Nat} {kd : Kd} {cs : List AVal} (h : H[i]? = some (.cells v kd cs)) (hl : off + n ≤ cs.length) : aLoad H true n (.ptr ⟨i, v, off⟩) = some (.agg ((cs.drop off).take n)) := by
  simp only [aLoad, cond_true, rd_of (r := ⟨i, v, off⟩) h rfl (fun _ => hl)]
/-- A whole array, a whole struct. -/
theorem e_loadAll {H : AHeap} {i v n : Nat} {kd : Kd} {cs : List AVal} (h : H[i]? = some (.cells v kd cs)) (hl : cs.length = n) : aLoad H true n (.ptr ⟨i, v, 0⟩) = some (.agg cs) := by
  rw [e_loadAgg h (by omega)]; simp [← hl]
theorem e_load1 {H : AHeap} {i v off n : Nat} {kd : Kd} {cs : List AVal} (h : H[i]? = some (.cells v kd cs)) (hl : off < cs.length) : aLoad H false n (.ptr ⟨i, v, off⟩) = some (cs.getD off .undef) := by
  simp only [aLoad, cond_false, rd_of (r := ⟨i, v, off⟩) (n := 1) h rfl (fun _ => hl)]
  rw [List.head?_take]
  simp [List.getD, hl]
theorem e_store {H : AHeap} {i v off n : Nat} {kd : Kd} {cs : List AVal} {x : AVal} (h : H[i]? = some (.cells v kd cs)) (hk : kd ≠ .ro) (hn : x.cells.length = n) (hl : off + n ≤ cs.length) (hc : x.cells.all AVal.isCell = true) :
    aStore H n (.ptr ⟨i, v, off⟩) x = some (H.set i (.cells v kd (splice cs off x.cells))) := by
  simp only [aStore, hn, if_true]
  exact wr_of h rfl hk (by simpa [hn] using hl) hc
theorem e_storeAll {H : AHeap} {i v n : Nat} {kd : Kd} {cs xs : List AVal} (h : H[i]? = some (.cells v kd cs)) (hk : kd ≠ .ro) (hn : xs.length = n) (hl : cs.length = n) (hc : xs.all AVal.isCell = true) :
    aStore H n (.ptr ⟨i, v, 0⟩) (.agg xs) = some (H.set i (.cells v kd xs)) := by
  rw [e_store (x := .agg xs) h hk hn (by omega) hc]; simp [splice, AVal.cells, hn, ← hl]
theorem rvs_nil (H : AHeap) : rvs H [] = some [] := rfl
theorem rvs_v {H : AHeap} {x : AVal} {rs : List Rv} {vs : List AVal} (h : rvs H rs = some vs) : rvs H (.v x :: rs) = some (x :: vs) := by simp only [rvs, Rv.get, h]
theorem rvs_c {H : AHeap} {b : Bool} {n : Nat} {p v : AVal} {rs : List Rv} {vs : List AVal} (h1 : aLoad H b n p = some v) (h : rvs H rs = some vs) : rvs H (.c b n p :: rs) = some (v :: vs) := by simp only [rvs, Rv.get, h, h1]
end Go.Abs

/- Steps by rewriting: what the operations give, told so that simp can use it. -/
namespace Go.Abs
open Go

/-- One cell, and nothing but. -/
def AVal.sc : AVal → Bool
  | .undef | .agg _ | .tup _ => false
  | _ => true
theorem sc_cells {x : AVal} (h : x.sc = true) : x.cells = [x] := by cases x <;> simp_all [AVal.sc, AVal.cells]
theorem sc_cell {x : AVal} (h : x.sc = true) : x.isCell = true := by cases x <;> simp_all [AVal.sc, AVal.isCell]
def Kd.rw : Kd → Bool
  | .ro => false
  | _ => true
theorem Kd.rw_ne {k : Kd} (h : k.rw = true) : k ≠ .ro := by cases k <;> simp_all [Kd.rw]

/-! loads -/
def ld1 (o : Option AObj) (v off : Nat) : Option AVal :=
  match o with
  | some (.cells w _ cs) => if w = v ∧ off < cs.length then some (cs.getD off .undef) else none
  | _ => none
def ldN (o : Option AObj) (v off n : Nat) : Option AVal :=
  match o with
  | some (.cells w _ cs) => if w = v ∧ (0 < n → off + n ≤ cs.length) then some (.agg ((cs.drop off).take n)) else none
  | _ => none
theorem x_load1 (H : AHeap) (n i v off : Nat) : aLoad H false n (.ptr ⟨i, v, off⟩) = ld1 H[i]? v off := by
  simp only [aLoad, ld1, rdCells, cond_false]
  cases H[i]? with
  | none => rfl
  | some o =>
    cases o <;> simp only []
    rename_i w kd cs
    by_cases h : w = v ∧ off < cs.length
    · rw [if_pos h, if_pos ⟨h.1, fun _ => by omega⟩]
      simp only [List.head?_take]
      simp [List.getD, h.2]
    · rw [if_neg h, if_neg (fun hh => h ⟨hh.1, by have := hh.2 (by omega); omega⟩)]
theorem x_loadN (H : AHeap) (n i v off : Nat) : aLoad H true n (.ptr ⟨i, v, off⟩) = ldN H[i]? v off n := by
  simp only [aLoad, ldN, rdCells, cond_true]
  cases H[i]? with
  | none => rfl
  | some o =>
    cases o <;> simp only []
    rename_i w kd cs
    by_cases h : w = v ∧ (0 < n → off + n ≤ cs.length)
    · rw [if_pos h, if_pos h]
    · rw [if_neg h, if_neg h]
theorem x_ld1 {v : Nat} {kd : Kd} {cs : List AVal} {off : Nat} (h : off < cs.length) : ld1 (some (.cells v kd cs)) v off = some (cs.getD off .undef) := if_pos ⟨rfl, h⟩
theorem x_ldN {v : Nat} {kd : Kd} {cs : List AVal} {off n : Nat} (h : off + n ≤ cs.length) : ldN (some (.cells v kd cs)) v off n = some (.agg ((cs.drop off).take n)) := if_pos ⟨rfl, fun _ => h⟩
theorem x_ldAll {v : Nat} {kd : Kd} {cs : List AVal} {n : Nat} (h : cs.length = n) : ldN (some (.cells v kd cs)) v 0 n = some (.agg cs) := by
  rw [x_ldN (by omega)]; simp [← h]

/-! stores -/
def st1 (H : AHeap) (i : Nat) (o : Option AObj) (v off : Nat) (x : AVal) : Option AHeap :=
  match o with
  | some (.cells w kd cs) => if w = v ∧ kd.rw = true ∧ off < cs.length then some (H.set i (.cells w kd (cs.set off x))) else none
  | _ => none
def stN (H : AHeap) (i : Nat) (o : Option AObj) (v off : Nat) (xs : List AVal) : Option AHeap :=
  match o with
  | some (.cells w kd cs) => if w = v ∧ kd.rw = true ∧ off + xs.length ≤ cs.length ∧ xs.all AVal.isCell = true then some (H.set i (.cells w kd (splice cs off xs))) else none
  | _ => none
theorem x_store1 {H : AHeap} {i v off : Nat} {x : AVal} (hx : x.sc = true) : aStore H 1 (.ptr ⟨i, v, off⟩) x = st1 H i H[i]? v off x := by
  simp only [aStore, sc_cells hx, List.length_cons, List.length_nil, Nat.zero_add, if_true, wrCells, st1]
  cases H[i]? with
  | none => rfl
  | some o =>
    cases o <;> simp only []
    rename_i w kd cs
    by_cases h : w = v ∧ kd.rw = true ∧ off < cs.length
    · rw [if_pos h, if_pos ⟨h.1, Kd.rw_ne h.2.1, by omega, by simp [sc_cell hx]⟩, splice_one _ _ _ h.2.2]
    · rw [if_neg h, if_neg (fun hh => h ⟨hh.1, by cases kd <;> simp_all [Kd.rw], by omega⟩)]
theorem x_storeN {H : AHeap} {i v off n : Nat} {xs : List AVal} (hx : xs.length = n) : aStore H n (.ptr ⟨i, v, off⟩) (.agg xs) = stN H i H[i]? v off xs := by
  simp only [aStore, AVal.cells, hx, if_true, wrCells, stN]
  cases H[i]? with
  | none => rfl
  | some o =>
    cases o <;> simp only []
    rename_i w kd cs
    by_cases h : w = v ∧ kd.rw = true ∧ off + n ≤ cs.length ∧ xs.all AVal.isCell = true
    · rw [if_pos h, if_pos ⟨h.1, Kd.rw_ne h.2.1, h.2.2⟩]
    · rw [if_neg h, if_neg (fun hh => h ⟨hh.1, by cases kd <;> simp_all [Kd.rw], hh.2.2⟩)]
theorem x_st1 {H : AHeap} {i v off : Nat} {kd : Kd} {cs : List AVal} {x : AVal} (hk : kd.rw = true) (h : off < cs.length) : st1 H i (some (.cells v kd cs)) v off x = some (H.set i (.cells v kd (cs.set off x))) := if_pos ⟨rfl, hk, h⟩
theorem x_stN {H : AHeap} {i v off : Nat} {kd : Kd} {cs xs : List AVal} (hk : kd.rw = true) (h : off + xs.length ≤ cs.length) (hc : xs.all AVal.isCell = true) : stN H i (some (.cells v kd cs)) v off xs = some (H.set i (.cells v kd (splice cs off xs))) := if_pos ⟨rfl, hk, h, hc⟩
theorem x_stAll {H : AHeap} {i v : Nat} {kd : Kd} {cs xs : List AVal} (hk : kd.rw = true) (h : xs.length = cs.length) (hc : xs.all AVal.isCell = true) : stN H i (some (.cells v kd cs)) v 0 xs = some (H.set i (.cells v kd xs)) := by
  rw [x_stN hk (by omega) hc]
  simp [splice, h]

theorem x_alloc (H : AHeap) (z : List AVal) : aAlloc H z = some (.ptr ⟨H.length, 0, 0⟩, H ++ [.cells 0 .exact z]) := rfl
theorem x_boxAgg (H : AHeap) (cs : List AVal) : aBox H (.agg cs) = some (.ptr ⟨H.length, 0, 0⟩, H ++ [.cells 0 .exact cs]) := rfl
theorem x_box1 {H : AHeap} {x : AVal} (h : x.sc = true) : aBox H x = some (.ptr ⟨H.length, 0, 0⟩, H ++ [.cells 0 .exact [x]]) := by
  unfold aBox
  rw [if_pos (by cases x <;> simp_all [AVal.sc, AVal.defd]), sc_cells h]

theorem getD_map {α : Type} {f : α → AVal} {l : List α} {i : Nat} (d : α) (h : i < l.length) : (l.map f).getD i .undef = f (l.getD i d) := by
  simp [List.getD, h]

/-! ### Arrays and structs built -/
def fillO (place : Nat → Option (Nat × Nat)) (cells : List AVal) (v : AVal) (rest : List (Nat × AVal)) : Option (Nat × Nat) → Option (List AVal)
  | none => none
  | some (off, size) => if v.defd = true ∧ v.cells.length = size ∧ off + v.cells.length ≤ cells.length then fillA place (splice cells off v.cells) rest else none
theorem x_fill (place : Nat → Option (Nat × Nat)) (cells : List AVal) (i : Nat) (v : AVal) (rest : List (Nat × AVal)) : fillA place cells ((i, v) :: rest) = fillO place cells v rest (place i) := by
  simp only [fillA]
  cases place i with
  | none => rfl
  | some p => rfl
theorem x_fillNil (place : Nat → Option (Nat × Nat)) (cells : List AVal) : fillA place cells [] = some cells := rfl
theorem x_fill1 {place : Nat → Option (Nat × Nat)} {cells : List AVal} {v : AVal} {rest : List (Nat × AVal)} {off : Nat} (h : v.sc = true) (hl : off < cells.length) :
    fillO place cells v rest (some (off, 1)) = fillA place (cells.set off v) rest := by
  simp only [fillO, sc_cells h]
  rw [if_pos ⟨by cases v <;> simp_all [AVal.sc, AVal.defd], rfl, by simp; omega⟩, splice_one _ _ _ hl]
theorem x_fillN {place : Nat → Option (Nat × Nat)} {cells xs : List AVal} {rest : List (Nat × AVal)} {off n : Nat} (h : xs.length = n) (hl : off + n ≤ cells.length) :
    fillO place cells (.agg xs) rest (some (off, n)) = fillA place (splice cells off xs) rest := by
  have hc : (AVal.agg xs).cells = xs := rfl
  exact if_pos ⟨rfl, by rw [hc]; exact h, by rw [hc]; omega⟩
theorem x_build {zero : List AVal} {place : Nat → Option (Nat × Nat)} {parts : List (Nat × AVal)} : aBuild zero place parts = (fillA place zero parts).map .agg := by
  unfold aBuild; cases fillA place zero parts <;> rfl
theorem x_mapSome {α β : Type} (f : α → β) (x : α) : (some x).map f = some (f x) := rfl
theorem x_buildSlice {H : AHeap} {es len : Nat} {zero : List AVal} {parts : List (Nat × AVal)} :
    aBuildSlice H es zero len parts = (fillA (fun i => some (i * es, es)) (fillCells len zero) parts).map fun cs => (.slice ⟨H.length, 0, 0⟩ len (.ex len), H ++ [.cells 0 .exact cs]) := by
  unfold aBuildSlice
  cases fillA (fun i => some (i * es, es)) (fillCells len zero) parts <;> rfl

theorem sc_U (x : BitVec 32) : (U x).sc = true := rfl
theorem sc_byte (x : UInt8) : (ofByte x).sc = true := rfl
theorem sc_int (k : IntKind) (n : Int) : (AVal.int k n).sc = true := rfl
theorem sc_bool (b : Bool) : (AVal.bool b).sc = true := rfl
theorem sc_str (s : List UInt8) : (AVal.str s).sc = true := rfl
theorem sc_ptr (r : Ref) : (AVal.ptr r).sc = true := rfl
theorem sc_slice (r : Ref) (n : Nat) (c : Cap) : (AVal.slice r n c).sc = true := rfl
theorem sc_nils : AVal.nils.sc = true := rfl
theorem sc_nilp : AVal.nilp.sc = true := rfl
theorem sc_nilm : AVal.nilm.sc = true := rfl
theorem sc_map (i : Nat) : (AVal.map i).sc = true := rfl
theorem rw_exact : Kd.exact.rw = true := rfl
theorem rw_opn : Kd.opn.rw = true := rfl
theorem cells_U (l : List (BitVec 32)) : (l.map U).all AVal.isCell = true := map_cell (fun _ => rfl) l
theorem cells_byte (l : List UInt8) : (l.map ofByte).all AVal.isCell = true := map_cell (fun _ => rfl) l
theorem cells_rep (n : Nat) (k : IntKind) (m : Int) : (List.replicate n (AVal.int k m)).all AVal.isCell = true := by
  rw [List.all_eq_true]; intro x hx; rw [List.eq_of_mem_replicate hx]; rfl
/-- Side conditions. -/
theorem evS : type_of% (And.intro @sc_U <| And.intro @sc_byte <| And.intro @sc_int <| And.intro @sc_bool <| And.intro @sc_str <| And.intro @sc_ptr <| And.intro @sc_slice <| And.intro @sc_nils <| And.intro @sc_nilp <| And.intro @sc_nilm <| And.intro @sc_map <| And.intro @rw_exact <| And.intro @rw_opn <| And.intro @cells_rep <| And.intro @cells_U @cells_byte) := And.intro @sc_U <| And.intro @sc_byte <| And.intro @sc_int <| And.intro @sc_bool <| And.intro @sc_str <| And.intro @sc_ptr <| And.intro @sc_slice <| And.intro @sc_nils <| And.intro @sc_nilp <| And.intro @sc_nilm <| And.intro @sc_map <| And.intro @rw_exact <| And.intro @rw_opn <| And.intro @cells_rep <| And.intro @cells_U @cells_byte
/-- Lengths. -/
theorem len_map {α β : Type} (f : α → β) (l : List α) : (l.map f).length = l.length := List.length_map f
theorem len_set {α : Type} (l : List α) (i : Nat) (x : α) : (l.set i x).length = l.length := List.length_set
theorem len_app {α : Type} (l k : List α) : (l ++ k).length = l.length + k.length := List.length_append
theorem len_rep {α : Type} (n : Nat) (x : α) : (List.replicate n x).length = n := List.length_replicate
theorem len_drop {α : Type} (l : List α) (n : Nat) : (l.drop n).length = l.length - n := List.length_drop
theorem len_cons {α : Type} (x : α) (l : List α) : (x :: l).length = l.length + 1 := rfl
theorem len_nil {α : Type} : ([] : List α).length = 0 := rfl

theorem isB_true {K : Bool → Prop} : isB (.bool true) K = K true := rfl
theorem isB_false {K : Bool → Prop} : isB (.bool false) K = K false := rfl
theorem e_ptrNil (H : AHeap) (r : Ref) : aEql false .ptr H (.ptr r) .nilp = some (.bool false) := rfl
theorem e_ptrNilN (H : AHeap) (r : Ref) : aEql true .ptr H (.ptr r) .nilp = some (.bool true) := rfl
theorem e_nilNil (H : AHeap) : aEql false .ptr H .nilp .nilp = some (.bool true) := rfl
theorem e_nilNilN (H : AHeap) : aEql true .ptr H .nilp .nilp = some (.bool false) := rfl
theorem e_pickT (a b : AVal) : aPick (.bool true) a b = some a := rfl
theorem e_pickF (a b : AVal) : aPick (.bool false) a b = some b := rfl
/-- Control and numbers. -/
theorem ev : type_of% (And.intro @isB_true <| And.intro @isB_false <| And.intro @e_ptrNil <| And.intro @e_ptrNilN <| And.intro @e_nilNil <| And.intro @e_nilNilN <| And.intro @e_pickT <| And.intro @e_pickF <| And.intro @vb_some <| And.intro @hb_some <| And.intro @sb_some <| And.intro @cond_true.{1} <| And.intro @cond_false.{1} <| And.intro @onE_same <| And.intro @onE_nr <| And.intro @onE_rn <| And.intro @onE_ne <| And.intro @onE_en <| And.intro @onE_re <| And.intro @onE_er <| And.intro @onE_ee <| And.intro @lss64 <| And.intro @leq64 <| And.intro @gtr64 <| And.intro @geq64 <| And.intro @eql64 <| And.intro @neq64 <| And.intro @add64 <| And.intro @sub64 <| And.intro @mul64 <| And.intro @quo64 <| And.intro @rem64 <| And.intro @adds <| And.intro @eqls <| And.intro @neqs <| And.intro @int_of_byte <| And.intro @byte_of_int <| And.intro @int_of_int <| And.intro @u64_of_int <| And.intro @mulU64 <| And.intro @e_idxAddrArr <| And.intro @e_idxAddr <| And.intro @e_idxStr <| And.intro @e_fieldAddr <| And.intro @e_idxArr1 <| And.intro @e_lenSt <| And.intro @e_lenSl <| And.intro @e_lenNil <| And.intro @e_nilCheck <| And.intro @e_extract <| And.intro @e_not <| And.intro @e_sliceStrTo <| And.intro @e_sliceStrFrom <| @e_sliceStr) := And.intro @isB_true <| And.intro @isB_false <| And.intro @e_ptrNil <| And.intro @e_ptrNilN <| And.intro @e_nilNil <| And.intro @e_nilNilN <| And.intro @e_pickT <| And.intro @e_pickF <| And.intro @vb_some <| And.intro @hb_some <| And.intro @sb_some <| And.intro @cond_true.{1} <| And.intro @cond_false.{1} <| And.intro @onE_same <| And.intro @onE_nr <| And.intro @onE_rn <| And.intro @onE_ne <| And.intro @onE_en <| And.intro @onE_re <| And.intro @onE_er <| And.intro @onE_ee <| And.intro @lss64 <| And.intro @leq64 <| And.intro @gtr64 <| And.intro @geq64 <| And.intro @eql64 <| And.intro @neq64 <| And.intro @add64 <| And.intro @sub64 <| And.intro @mul64 <| And.intro @quo64 <| And.intro @rem64 <| And.intro @adds <| And.intro @eqls <| And.intro @neqs <| And.intro @int_of_byte <| And.intro @byte_of_int <| And.intro @int_of_int <| And.intro @u64_of_int <| And.intro @mulU64 <| And.intro @e_idxAddrArr <| And.intro @e_idxAddr <| And.intro @e_idxStr <| And.intro @e_fieldAddr <| And.intro @e_idxArr1 <| And.intro @e_lenSt <| And.intro @e_lenSl <| And.intro @e_lenNil <| And.intro @e_nilCheck <| And.intro @e_extract <| And.intro @e_not <| And.intro @e_sliceStrTo <| And.intro @e_sliceStrFrom <| @e_sliceStr
/-- Words of 32 bits. -/
theorem evU : type_of% (And.intro @U_add <| And.intro @U_or <| And.intro @U_and <| And.intro @U_xor <| And.intro @U_not <| And.intro @U_shl <| And.intro @U_shr <| And.intro @U_of_byte <| And.intro @byte_of_U <| @int_of_U) := And.intro @U_add <| And.intro @U_or <| And.intro @U_and <| And.intro @U_xor <| And.intro @U_not <| And.intro @U_shl <| And.intro @U_shr <| And.intro @U_of_byte <| And.intro @byte_of_U <| @int_of_U
/-- Memory. -/
theorem evH : type_of% (And.intro @x_load1 <| And.intro @x_loadN <| And.intro @x_ldAll <| And.intro @x_ld1 <| And.intro @x_store1 <| And.intro @x_storeN <| And.intro @x_stAll <| And.intro @x_st1 <| And.intro @x_alloc <| And.intro @x_boxAgg <| And.intro @x_box1 <| And.intro @app_get0 <| And.intro @app_get <| And.intro @app_set0 <| @app_set) := And.intro @x_load1 <| And.intro @x_loadN <| And.intro @x_ldAll <| And.intro @x_ld1 <| And.intro @x_store1 <| And.intro @x_storeN <| And.intro @x_stAll <| And.intro @x_st1 <| And.intro @x_alloc <| And.intro @x_boxAgg <| And.intro @x_box1 <| And.intro @app_get0 <| And.intro @app_get <| And.intro @app_set0 <| @app_set
/-- Arrays and structs built. -/
theorem evF : type_of% (And.intro @x_build <| And.intro @x_fill <| And.intro @x_fillNil <| And.intro @x_fill1 <| And.intro @x_fillN <| And.intro @x_mapSome @x_buildSlice) := And.intro @x_build <| And.intro @x_fill <| And.intro @x_fillNil <| And.intro @x_fill1 <| And.intro @x_fillN <| And.intro @x_mapSome @x_buildSlice
end Go.Abs

/- Slices of one's own that grow; slices that are looked at. -/
namespace Go.Abs
open Go

def slId : AVal → Option Nat
  | .slice r _ _ => some r.id
  | _ => none

/-- A slice that nobody else changes, whole: so many elements of so many cells each. -/
def Own (B : AHeap) (sv : AVal) (es n : Nat) (cs : List AVal) : Prop :=
  cs.length = n * es ∧ ((sv = .nils ∧ n = 0) ∨ (∃ i v, sv = .slice ⟨i, v, 0⟩ n (.ex n) ∧ B[i]? = some (.cells v .exact cs)) ∨ (∃ i v, sv = .slice ⟨i, v, 0⟩ n (.op es) ∧ B[i]? = some (.cells v .opn cs)))

/-- Room enough. -/
def capOk (es n : Nat) : Cap → Prop
  | .ex k => n ≤ k
  | .op e => e = es

/-- A slice that is read. -/
def View (B : AHeap) (sv : AVal) (es n : Nat) (cs : List AVal) : Prop :=
  cs.length = n * es ∧ ((sv = .nils ∧ n = 0) ∨ (∃ i v off c kd cs', sv = .slice ⟨i, v, off⟩ n c ∧ B[i]? = some (.cells v kd cs') ∧ (0 < n → off + n * es ≤ cs'.length) ∧ cs = (cs'.drop off).take (n * es) ∧ capOk es n c))

theorem pos_mul {n es : Nat} {p : Prop} (h : 0 < n → p) : 0 < n * es → p := fun hp => h (Nat.pos_of_mul_pos_right hp)

theorem Own.view {B : AHeap} {sv : AVal} {es n : Nat} {cs : List AVal} (h : Own B sv es n cs) : View B sv es n cs := by
  obtain ⟨hl, h⟩ := h
  refine ⟨hl, ?_⟩
  rcases h with h | ⟨i, v, h1, h2⟩ | ⟨i, v, h1, h2⟩
  · exact .inl h
  · exact .inr ⟨i, v, 0, _, _, cs, h1, h2, by omega, by simp [← hl], Nat.le_refl _⟩
  · exact .inr ⟨i, v, 0, _, _, cs, h1, h2, by omega, by simp [← hl], rfl⟩

/-- What a change to one slice leaves. -/
structure Keeps (B : AHeap) (sv : AVal) (B' : AHeap) : Prop where
  len : B.length ≤ B'.length
  get : ∀ k, k < B.length → slId sv ≠ some k → B'[k]? = B[k]?

theorem Keeps.refl (B : AHeap) (sv : AVal) : Keeps B sv B := ⟨Nat.le_refl _, fun _ _ _ => rfl⟩
theorem pre_of_get {H B : AHeap} (hl : H.length ≤ B.length) (h : ∀ k, k < H.length → B[k]? = H[k]?) : H <+: B := by
  refine ⟨B.drop H.length, ?_⟩
  refine List.ext_getElem? fun i => ?_
  by_cases hi : i < H.length
  · rw [List.getElem?_append_left hi, h i hi]
  · rw [List.getElem?_append_right (by omega), List.getElem?_drop]
    congr 1; omega
theorem Keeps.pre {H B B' : AHeap} {sv : AVal} (k : Keeps B sv B') (h : H <+: B) (hs : ∀ i, slId sv = some i → H.length ≤ i) : H <+: B' := by
  have hl := h.length_le
  refine pre_of_get (Nat.le_trans hl k.len) fun i hi => ?_
  rw [k.get i (by omega) (fun e => by have := hs i e; omega), pre_get h hi]

theorem Own.lt {B : AHeap} {sv : AVal} {es n : Nat} {cs : List AVal} (h : Own B sv es n cs) {i : Nat} (hi : slId sv = some i) : i < B.length := by
  rcases h.2 with ⟨rfl, _⟩ | ⟨j, v, rfl, h2⟩ | ⟨j, v, rfl, h2⟩
  · cases hi
  · cases hi; exact lt_of_some h2
  · cases hi; exact lt_of_some h2
theorem Own.pre {B B' : AHeap} {sv : AVal} {es n : Nat} {cs : List AVal} (h : Own B sv es n cs) (k : B <+: B') : Own B' sv es n cs := by
  refine ⟨h.1, ?_⟩
  rcases h.2 with h1 | ⟨j, v, rfl, h2⟩ | ⟨j, v, rfl, h2⟩
  · exact .inl h1
  · exact .inr (.inl ⟨j, v, rfl, by rw [pre_get k (lt_of_some h2)]; exact h2⟩)
  · exact .inr (.inr ⟨j, v, rfl, by rw [pre_get k (lt_of_some h2)]; exact h2⟩)
theorem View.pre {B B' : AHeap} {sv : AVal} {es n : Nat} {cs : List AVal} (h : View B sv es n cs) (k : B <+: B') : View B' sv es n cs := by
  refine ⟨h.1, ?_⟩
  rcases h.2 with h1 | ⟨i, v, off, c, kd, cs', h1, h2, h3⟩
  · exact .inl h1
  · exact .inr ⟨i, v, off, c, kd, cs', h1, by rw [pre_get k (lt_of_some h2)]; exact h2, h3⟩
theorem Own.nils (B : AHeap) (es : Nat) : Own B .nils es 0 [] := ⟨by simp, .inl ⟨rfl, rfl⟩⟩

theorem append_to {B : AHeap} {sv : AVal} {es bytes n m : Nat} {cs xs : List AVal} (h : Own B sv es n cs) (he : 0 < es) (hx : xs.length = m * es) (hc : xs.all AVal.isCell = true) (h1 : (n + m) * bytes ≤ room) (h2 : n + m ≤ room) :
    ∃ sv' B', aAppendTo B es bytes sv m xs = some (sv', B') ∧ Own B' sv' es (n + m) (cs ++ xs) ∧ Keeps B sv B' ∧ (slId sv' = slId sv ∨ slId sv' = some B.length) := by
  obtain ⟨hl, h⟩ := h
  by_cases hm : m = 0
  · subst hm
    have : xs = [] := List.eq_nil_of_length_eq_zero (by simpa using hx)
    subst this
    refine ⟨sv, B, ?_, ⟨by simpa using hl, by simpa using h⟩, Keeps.refl _ _, .inl rfl⟩
    rcases h with ⟨rfl, _⟩ | ⟨i, v, rfl, h2⟩ | ⟨i, v, rfl, h2⟩
    · simp [aAppendTo]
    · simp [aAppendTo, verOf_some h2, AObj.ver]
    · simp [aAppendTo, verOf_some h2, AObj.ver]
  · have hl2 : (cs ++ xs).length = (n + m) * es := by rw [List.length_append, hl, hx, Nat.add_mul]
    rcases h with ⟨rfl, rfl⟩ | ⟨i, v, rfl, h3⟩ | ⟨i, v, rfl, h3⟩
    · refine ⟨.slice ⟨B.length, 0, 0⟩ m (.op es), B ++ [.cells 0 .opn xs], ?_, ⟨hl2, .inr (.inr ⟨B.length, 0, by simp, ?_⟩)⟩, ⟨by simp, fun k hk _ => List.getElem?_append_left hk⟩, .inr rfl⟩
      · simp only [aAppendTo]
        rw [if_neg hm, if_pos ⟨by simpa using h1, by simpa using h2⟩]
      · have : cs = [] := List.eq_nil_of_length_eq_zero (by simpa using hl)
        subst this
        simp
    · refine ⟨.slice ⟨B.length, 0, 0⟩ (n + m) (.op es), B ++ [.cells 0 .opn (cs ++ xs)], ?_, ⟨hl2, .inr (.inr ⟨B.length, 0, rfl, by simp⟩)⟩, ⟨by simp, fun k hk _ => List.getElem?_append_left hk⟩, .inr rfl⟩
      simp only [aAppendTo]
      rw [if_neg hm, if_neg (by omega), if_pos ⟨h1, h2⟩, rd_of (r := ⟨i, v, 0⟩) h3 rfl (by simp [hl])]
      simp [← hl]
    · refine ⟨.slice ⟨i, v + 1, 0⟩ (n + m) (.op es), B.set i (.cells (v + 1) .opn (cs ++ xs)), ?_, ⟨hl2, .inr (.inr ⟨i, v + 1, rfl, set_get h3⟩)⟩, ⟨by simp, fun k hk hne => ?_⟩, .inl rfl⟩
      · simp only [aAppendTo]
        rw [if_neg hm, if_pos ⟨trivial, he, h1, h2⟩]
        simp only [h3]
        rw [if_pos ⟨trivial, hc⟩, if_pos ⟨trivial, hl⟩]
      · have : i ≠ k := fun e => hne (by rw [← e]; rfl)
        rw [List.getElem?_set_ne this]

theorem src_view {B : AHeap} {x : AVal} {es m : Nat} {xs : List AVal} (h : View B x es m xs) : srcLen x = some m ∧ srcCells B es m x = some xs ∧ (∀ s, x ≠ .str s) := by
  obtain ⟨hl, h⟩ := h
  rcases h with ⟨rfl, rfl⟩ | ⟨i, v, off, c, kd, cs', rfl, h2, h3, h4, _⟩
  · have : xs = [] := List.eq_nil_of_length_eq_zero (by simpa using hl)
    subst this
    exact ⟨rfl, rfl, fun s e => by cases e⟩
  · refine ⟨rfl, ?_, fun s e => by cases e⟩
    simp only [srcCells]
    by_cases hz : m * es = 0
    · rw [if_pos hz, List.eq_nil_of_length_eq_zero (hl.trans hz)]
    · rw [if_neg hz, rd_of (r := ⟨i, v, off⟩) h2 rfl (pos_mul h3), h4]

theorem aAppendS_eq {H : AHeap} {es bytes : Nat} {s x : AVal} (h : ∀ t, x ≠ .str t) : aAppendS H es bytes s x = aAppend H es bytes s x := by
  unfold aAppendS
  split
  · rename_i t; exact absurd rfl (h t)
  · rfl

/-- append(s, t...) -/
theorem append_view {B : AHeap} {sv x : AVal} {es bytes n m : Nat} {cs xs : List AVal} (h : Own B sv es n cs) (he : 0 < es) (hx : View B x es m xs) (hc : xs.all AVal.isCell = true) (h1 : (n + m) * bytes ≤ room) (h2 : n + m ≤ room)
    {K : AVal → AHeap → Prop} (k : ∀ sv' B', Own B' sv' es (n + m) (cs ++ xs) → Keeps B sv B' → (slId sv' = slId sv ∨ slId sv' = some B.length) → K sv' B') : hb (aAppendS B es bytes sv x) K := by
  obtain ⟨s1, s2, s3⟩ := src_view hx
  obtain ⟨sv', B', a1, a2, a3, a4⟩ := append_to h he hx.1 hc h1 h2
  rw [aAppendS_eq s3, aAppend, s1]
  simp only [s2, a1]
  exact k sv' B' a2 a3 a4

/-- append(s, x), x of one cell -/
theorem push1 {B : AHeap} {sv x z : AVal} {bytes n : Nat} {cs : List AVal} (h : Own B sv 1 n cs) (hx : x.sc = true) (h1 : (n + 1) * bytes ≤ room) (h2 : n + 1 ≤ room)
    {K : AVal → AHeap → Prop} (k : ∀ sv' B', Own B' sv' 1 (n + 1) (cs ++ [x]) → Keeps B sv B' → (slId sv' = slId sv ∨ ∃ i, slId sv' = some i ∧ B.length ≤ i) → K sv' B') :
    hb (aBuildSlice B 1 [z] 1 [(0, x)]) fun t B1 => hb (aAppendS B1 1 bytes sv t) K := by
  refine hb_i (v := .slice ⟨B.length, 0, 0⟩ 1 (.ex 1)) (H := B ++ [.cells 0 .exact [x]]) ?_ ?_
  · simp only [aBuildSlice, fillA, fillCells, List.replicate, List.flatten, sc_cells hx]
    rw [if_pos ⟨by cases x <;> simp_all [AVal.sc, AVal.defd], rfl, by simp⟩]
    rfl
  · have hp : B <+: B ++ [.cells 0 .exact [x]] := ⟨_, rfl⟩
    refine append_view (h.pre hp) (by decide) (m := 1) (xs := [x]) ⟨rfl, .inr ⟨B.length, 0, 0, _, .exact, [x], rfl, by simp, by simp, rfl, Nat.le_refl _⟩⟩ (by simp [sc_cell hx]) h1 h2 fun sv' B' o kk hi => ?_
    refine k sv' B' o ⟨by have := kk.len; simp at this; omega, fun q hq hne => by rw [kk.get q (by simp; omega) hne, pre_get hp hq]⟩ ?_
    rcases hi with hi | hi
    · exact .inl hi
    · exact .inr ⟨_, hi, by simp⟩

/-- The text of bytes. -/
theorem bytes_str {B : AHeap} {sv : AVal} {n : Nat} {l : List UInt8} (h : View B sv 1 n (l.map ofByte)) : aBytes2Str B sv = some (.str l) := by
  obtain ⟨hl, h⟩ := h
  simp only [List.length_map, Nat.mul_one] at hl
  rcases h with ⟨rfl, rfl⟩ | ⟨i, v, off, c, kd, cs', rfl, h2, h3, h4, _⟩
  · have : l = [] := List.eq_nil_of_length_eq_zero hl
    subst this; rfl
  · simp only [aBytes2Str]
    rw [rd_of (r := ⟨i, v, off⟩) h2 rfl (by simpa using h3)]
    simp only [Nat.mul_one] at h4
    simp only [← h4, bytesOf_map]

theorem lenSl_view {B : AHeap} {sv : AVal} {es n : Nat} {cs : List AVal} (h : View B sv es n cs) : lenSl sv = some (.int .i64 n) := by
  rcases h.2 with ⟨rfl, rfl⟩ | ⟨i, v, off, c, kd, cs', rfl, _⟩ <;> rfl
end Go.Abs

/- Parts of slices; results that change what was there. -/
namespace Go.Abs
open Go

theorem bnd_none (d : Nat) : bnd d none = some d := rfl
theorem View.vera {B : AHeap} {i v : Nat} {kd : Kd} {cs : List AVal} (h : B[i]? = some (.cells v kd cs)) : verOf B i = v := by rw [verOf_some h]; rfl

theorem slice_view {B : AHeap} {sv : AVal} {es n : Nat} {cs : List AVal} {l h : Option AVal} {lo hi : Nat} (o : View B sv es n cs) (hl : bnd 0 l = some lo) (hh : bnd n h = some hi) (h1 : lo ≤ hi) (h2 : hi ≤ n) :
    ∃ sv', aSlice B es sv l h none = some sv' ∧ View B sv' es (hi - lo) ((cs.drop (lo * es)).take ((hi - lo) * es)) ∧ (slId sv' = slId sv) := by
  obtain ⟨hc, o⟩ := o
  have hle : lo * es + (hi - lo) * es ≤ n * es := by rw [← Nat.add_mul]; exact Nat.mul_le_mul_right _ (by omega)
  have hlen : ((cs.drop (lo * es)).take ((hi - lo) * es)).length = (hi - lo) * es := by
    rw [List.length_take, List.length_drop]; omega
  rcases o with ⟨rfl, rfl⟩ | ⟨i, v, off, c, kd, cs', rfl, g1, g2, g3, g4⟩
  · have e1 : lo = 0 := by omega
    have e2 : hi = 0 := by omega
    subst e1; subst e2
    exact ⟨.nils, by simp only [aSlice, hl, hh, bnd_none], ⟨by simp, .inl ⟨rfl, rfl⟩⟩, rfl⟩
  · have hv := View.vera g1
    have hsub : (cs.drop (lo * es)).take ((hi - lo) * es) = (cs'.drop (off + lo * es)).take ((hi - lo) * es) := by
      rw [g3, List.drop_take, List.take_take, List.drop_drop]
      congr 1; omega
    cases c with
    | ex c =>
      have g4 : n ≤ c := g4
      refine ⟨.slice ⟨i, v, if c = lo then off else off + lo * es⟩ (hi - lo) (.ex (c - lo)), ?_, ⟨hlen, .inr ⟨i, v, _, _, kd, cs', rfl, g1, ?_, ?_, ?_⟩⟩, rfl⟩
      · simp only [aSlice, hl, hh, bnd_none]
        rw [if_pos ⟨hv.symm, h1, by omega, Nat.le_refl _⟩]
      · by_cases e : c = lo
        · rw [if_pos e]
          have : hi - lo = 0 := by omega
          rw [this]; omega
        · rw [if_neg e]; omega
      · by_cases e : c = lo
        · have : hi - lo = 0 := by omega
          rw [this]; simp
        · rw [if_neg e, hsub]
      · show hi - lo ≤ c - lo; omega
    | op e =>
      have g4 : e = es := g4
      refine ⟨.slice ⟨i, v, off + lo * es⟩ (hi - lo) (.op es), ?_, ⟨hlen, .inr ⟨i, v, _, _, kd, cs', rfl, g1, by omega, hsub, rfl⟩⟩, rfl⟩
      simp only [aSlice, hl, hh]
      rw [if_pos ⟨hv.symm, g4, h1, h2⟩]

theorem eqCells_byte : ∀ (n : Nat) (l k : List UInt8), l.length = n → k.length = n → eqCells (List.replicate n .int) (l.map ofByte) (k.map ofByte) = some (decide (l = k))
  | 0, [], [], _, _ => rfl
  | n + 1, x :: l, y :: k, h, h' => by
    simp only [List.replicate_succ, List.map_cons, eqCells]
    rw [eqCells_byte n l k (by simpa using h) (by simpa using h')]
    have e : eqCell .int (ofByte x) (ofByte y) = some (decide (x = y)) := by
      simp only [eqCell, ofByte, if_true, Option.some.injEq]
      by_cases hxy : x = y
      · subst hxy; simp
      · have : (x.toNat : Int) ≠ y.toNat := fun e => hxy (UInt8.toNat.inj (by omega))
        rw [decide_eq_false hxy]; simpa using this
    rw [e]
    simp only [List.cons.injEq, Bool.decide_and]
theorem e_eqBytes {n : Nat} {H : AHeap} {l k : List UInt8} (h : l.length = n) (h' : k.length = n) : aEql false (.agg (List.replicate n .int)) H (.agg (l.map ofByte)) (.agg (k.map ofByte)) = some (.bool (decide (l = k))) := by
  simp only [aEql, aEq, eqCells_byte n l k h h', Bool.bne_false]
theorem e_neBytes {n : Nat} {H : AHeap} {l k : List UInt8} (h : l.length = n) (h' : k.length = n) : aEql true (.agg (List.replicate n .int)) H (.agg (l.map ofByte)) (.agg (k.map ofByte)) = some (.bool (decide (l ≠ k))) := by
  simp only [aEql, aEq, eqCells_byte n l k h h']
  by_cases e : l = k <;> simp [e]

end Go.Abs

/- Arguments: how what came in is laid into an abstract heap of blocks that may be looked at alone. -/
namespace Go.Abs
open Go
section
open Classical

def isCells (W : World) (b : Nat) : Prop := ∃ c e fz, W.heap[b]? = some (.cells c e fz)

/-- One cell, as it is seen. A slice that has no block is an old one (of a block b0 that is there). -/
noncomputable def absV (W : World) (b0 : Nat) : Value → AVal
  | .bool b => .bool b
  | .int k n => .int k n
  | .string s => .str s.data.toList
  | .pointer none => .nilp
  | .slice none 0 0 => .nils
  | .slice (some a) len cap => if a.spot = none ∧ isCells W a.block then .slice ⟨a.block, 1, a.off⟩ len (.ex cap) else if len = 0 ∧ isCells W b0 then .slice ⟨b0, 0, 0⟩ 0 (.ex 0) else .undef
  | _ => .undef
noncomputable def absTop (W : World) (b0 : Nat) : Value → AVal
  | .agg a => .agg (a.toList.map (absV W b0))
  | v => absV W b0 v
noncomputable def absObj (W : World) (b0 : Nat) : Obj → AObj
  | .cells c _ _ => .cells 1 .ro (c.toList.map (absV W b0))
  | _ => .cells 1 .ro []
noncomputable def absHeap (W : World) (b0 : Nat) : AHeap := W.heap.toList.map (absObj W b0)
noncomputable def absEnv (W : World) (b0 : Nat) : Env := ⟨fun i => i, fun i => ((W.heap[i]?).map fun o => match o with | .cells c _ _ => c.size | _ => 0).getD 0, isCells W, absHeap W b0⟩

variable {H : Type} {enc : TypeId × Value → H} {P : Program} {W : World} {b0 : Nat}

theorem absHeap_get {i : Nat} {c : Array Value} {e : TypeId} {fz : Nat × Nat} (h : W.heap[i]? = some (.cells c e fz)) : (absHeap W b0)[i]? = some (.cells 1 .ro (c.toList.map (absV W b0))) := by
  unfold absHeap
  rw [List.getElem?_map, Array.getElem?_toList, h]; rfl
theorem absHeap_ver {i : Nat} (h : isCells W i) : verOf (absHeap W b0) i = 1 := by
  obtain ⟨c, e, fz, h⟩ := h
  rw [verOf_some (absHeap_get h)]; rfl
theorem isCells.lt {i : Nat} (h : isCells W i) : i < (absHeap W b0).length := by
  obtain ⟨c, e, fz, h⟩ := h
  exact lt_of_some (absHeap_get h)
theorem absHeap_own (i : Nat) : ownAt (absHeap W b0) i = false := by
  unfold ownAt absHeap
  rw [List.getElem?_map]
  cases W.heap.toList[i]? with
  | none => rfl
  | some o => cases o <;> rfl

theorem absV_rel (v : Value) : RelV (absEnv W b0) (absV W b0 v) v := by
  unfold absV
  split
  · simp only [RelG]
  · simp only [RelG]
  · simp only [RelG]
  · simp only [RelG]
  · simp only [RelG]
  · rename_i a len cap
    split
    · rename_i h
      simp only [RelG]
      refine ⟨a, cap, rfl, h.2, h.2.lt, by rw [show (absEnv W b0).H = absHeap W b0 from rfl, absHeap_ver h.2]; exact Nat.le_refl _, fun _ => ⟨?_, rfl⟩⟩
      cases a; simp at h; simp [absEnv, h]
    · split
      · rename_i h
        simp only [RelG]
        obtain ⟨rfl, h⟩ := h
        refine ⟨a, cap, rfl, h, h.lt, Nat.zero_le _, fun hv => ?_⟩
        rw [show (absEnv W b0).H = absHeap W b0 from rfl, absHeap_ver h] at hv
        cases hv
      · simp only [RelG]
  · simp only [RelG]

theorem absV_rels (l : List Value) : RelL (absEnv W b0) (l.map (absV W b0)) l := by
  induction l with
  | nil => exact RelGL.nil
  | cons v l ih => exact RelGL.cons (absV_rel v) ih

theorem absTop_rel (v : Value) : RelV (absEnv W b0) (absTop W b0 v) v := by
  unfold absTop
  split
  · rename_i a
    simp only [RelG]
    exact ⟨a.toList, by simp, absV_rels _⟩
  · exact absV_rel _
theorem absTop_rels (l : List Value) : RelL (absEnv W b0) (l.map (absTop W b0)) l := by
  induction l with
  | nil => exact RelGL.nil
  | cons v l ih => exact RelGL.cons (absTop_rel v) ih

theorem absW_rel : RelW (absEnv W b0) W where
  obj i o hs ho := by
    obtain ⟨c, e, fz, h⟩ := hs
    have := absHeap_get (b0 := b0) h
    rw [show (absEnv W b0).H = absHeap W b0 from rfl, this] at ho
    cases ho
    refine ⟨c, e, fz, h, ?_, ?_, by simp, nofun, fun h => absurd rfl h⟩
    · simp [absEnv, h]
    · rw [List.take_of_length_le (by simp)]; exact absV_rels _
  inj i j _ _ _ _ ho := by
    rw [show (absEnv W b0).H = absHeap W b0 from rfl, absHeap_own] at ho; cases ho
end

/-- What is told by a list of cells, of a type. top: the list's own slices have a block. -/
inductive Arg (P : Program) (B : AHeap) {H : Type} : Bool → TypeId → List AVal → DataW H → Prop
  | bool {top t b} (ht : P.underlying t = some .bool) : Arg P B top t [.bool b] (.lit (.bool b))
  | int {top t k n} (ht : P.underlying t = some (.int k)) (hw : (Lit.int k n).wf = true) : Arg P B top t [.int k n] (.lit (.int k n))
  | str {top t s} (ht : P.underlying t = some .string) (hl : s.length ≤ maxLen) : Arg P B top t [.str s] (.lit (.string s))
  | nils {top t e} (ht : P.underlying t = some (.slice e)) : Arg P B top t [.nils] .nil
  | empty {t e i} (ht : P.underlying t = some (.slice e)) : Arg P B false t [.slice ⟨i, 0, 0⟩ 0 (.ex 0)] (.slice [] [])
  | slice {top t e i off len cap cs elems spare} (ht : P.underlying t = some (.slice e)) (h : B[i]? = some (.cells 1 .ro cs)) (hc : len ≤ cap) (hm : cap ≤ maxLen)
      (he : elems.length = len) (hs : spare.length = cap - len)
      (hl : ∀ (k : Nat) d, (elems ++ spare)[k]? = some d → off + (k + 1) * P.cellsOf e ≤ cs.length)
      (ha : ∀ (k : Nat) d, (elems ++ spare)[k]? = some d → Arg P B false e ((cs.drop (off + k * P.cellsOf e)).take (P.cellsOf e)) d) : Arg P B top t [.slice ⟨i, 1, off⟩ len (.ex cap)] (.slice elems spare)
  | struct {top t fs cs ds} (ht : P.underlying t = some (.struct fs)) (hl : cs.length = P.cellsOf t) (hd : ds.length = fs.size)
      (ha : ∀ (i : Nat) f d, fs[i]? = some f → ds[i]? = some d → Arg P B top f.type ((cs.drop f.offset).take (P.cellsOf f.type)) d) : Arg P B top t cs (.agg ds)
  | array {top t n e cs ds} (ht : P.underlying t = some (.array n e)) (hl : cs.length = P.cellsOf t) (hd : ds.length = n)
      (ha : ∀ (i : Nat) d, ds[i]? = some d → Arg P B top e ((cs.drop (i * P.cellsOf e)).take (P.cellsOf e)) d) : Arg P B top t cs (.agg ds)

def plainT (P : Program) : Nat → TypeId → Bool
  | 0, _ => false
  | n + 1, t => match P.underlying t with
    | some .bool | some (.int _) | some .string => true
    | some (.slice e) => decide (0 < P.cellsOf e) && plainT P n e
    | some (.array _ e) => plainT P n e
    | some (.struct fs) => fs.toList.all fun f => plainT P n f.type
    | _ => false

section
variable {H : Type} {enc : TypeId × Value → H} {P : Program} {W : World} {b0 : Nat}

/-- The slices among these cells have a block. -/
def Based (W : World) (b0 : Nat) (top : Bool) (cs : List Value) : Prop :=
  ∀ a len cap, Value.slice (some a) len cap ∈ cs → if top then a.spot = none ∧ isCells W a.block else isCells W b0

theorem Based.sub {top : Bool} {cs ds : List Value} (h : Based W b0 top cs) (k : ∀ x ∈ ds, x ∈ cs) : Based W b0 top ds := fun a l c m => h a l c (k _ m)

theorem cells?_of {a : Addr} {n : Nat} {l : List Value} (h : W.cells? 0 a n = some l) (hn : 0 < n) : a.spot = none ∧ ∃ c e fz, W.heap[a.block]? = some (.cells c e fz) ∧ a.off + n ≤ c.size ∧ l = (c.toList.drop a.off).take n := by
  unfold World.cells? at h
  rw [if_pos (Nat.zero_le _)] at h
  have hl := mapM_some_length h
  have hg : ∀ i, i < n → W.cell? (a.add i) = l[i]? := fun i hi => mapM_some_get h i i (by simp [hi])
  simp at hl
  have h0 := hg 0 hn
  rw [List.getElem?_eq_getElem (by omega)] at h0
  unfold World.cell? at h0
  split at h0
  case h_2 => cases h0
  rename_i c e fz hb
  have hb0 : (a.add 0).block = a.block := rfl
  rw [hb0] at hb
  split at h0
  · cases h0
  rename_i hsp
  have hsp' : a.spot = none := by
    cases hs : a.spot with
    | none => rfl
    | some z => exfalso; apply hsp; simp [Addr.add, hs]
  have hadd : ∀ i, a.add i = ⟨a.block, a.off + i, none⟩ := by
    intro i; cases a; simp at hsp'; subst hsp'; exact add_none _ _ _
  have hcell : ∀ i, i < n → c[a.off + i]? = l[i]? := by
    intro i hi
    rw [← hg i hi, hadd, cell_of hb]
  have hsz : a.off + n ≤ c.size := by
    have := hcell (n - 1) (by omega)
    rw [List.getElem?_eq_getElem (by omega)] at this
    have := (Array.getElem?_eq_some_iff.1 this).1
    omega
  refine ⟨hsp', c, e, fz, hb, hsz, ?_⟩
  apply List.ext_getElem?
  intro i
  by_cases hi : i < n
  · rw [List.getElem?_take_of_lt hi, List.getElem?_drop, ← hcell i hi, Array.getElem?_toList]
  · rw [List.getElem?_eq_none (by omega), List.getElem?_eq_none (by simp; omega)]

theorem absV_slice {a : Addr} {len cap : Nat} (h : a.spot = none) (h' : isCells W a.block) : absV W b0 (.slice (some a) len cap) = .slice ⟨a.block, 1, a.off⟩ len (.ex cap) := by
  simp only [absV]; rw [if_pos ⟨h, h'⟩]

theorem arg_of_trod (hb0 : (∃ b, isCells W b) → isCells W b0) : ∀ (n m : Nat) (t : TypeId) (cs : List Value) (x : DataW H × List MemPlace) (top : Bool), plainT P m t = true → DataW.trod enc P W 0 (fun _ => true) true n t cs = some x → Based W b0 top cs →
    Arg P (absHeap W b0) top t (cs.map (absV W b0)) x.1 := by
  intro n
  induction n with
  | zero => intro m t cs x top _ h; simp [DataW.trod] at h
  | succ n ih =>
    intro m t cs x top hp h hb
    cases m with
    | zero => cases hp
    | succ m =>
      unfold plainT at hp
      split at hp
      · rename_i ht; obtain ⟨b, rfl, rfl⟩ := DataW.trod_bool ht h; exact .bool ht
      · rename_i ht; obtain ⟨b, rfl, rfl, hw⟩ := DataW.trod_int ht h; exact .int ht hw
      · rename_i ht; obtain ⟨b, rfl, rfl, hw⟩ := DataW.trod_string ht h
        refine .str ht ?_
        rw [Array.length_toList]; exact hw
      · rename_i e ht
        simp only [Bool.and_eq_true, decide_eq_true_eq] at hp
        obtain ⟨hpos, hp⟩ := hp
        rcases DataW.trod_slice ht h with ⟨rfl, rfl⟩ | ⟨a, len, cap, elems, rest, n', hn', rfl, rfl, _, hc, hm, hle, hel, hsp, _⟩
        · exact .nils ht
        · cases hn'
          obtain ⟨hrl, hrest⟩ := hsp rfl
          have each : ∀ (k : Nat) (y : DataW H × List MemPlace), (elems ++ rest)[k]? = some y → (W.cells? 0 (a.add (k * P.cellsOf e)) (P.cellsOf e)).bind (DataW.trod enc P W 0 (fun _ => true) true n e) = some y := by
            intro k y hk
            by_cases hlt : k < len
            · rw [hel k hlt, ← hk, List.getElem?_append_left (by omega)]
            · have hk2 := (List.getElem?_eq_some_iff.1 hk).1
              simp at hk2
              rw [List.getElem?_append_right (by omega)] at hk
              have := hrest (k - len) (by omega)
              rw [show len + (k - len) = k by omega] at this
              rw [this, ← hk, hle]
          by_cases hz : cap = 0
          · subst hz
            have e1 : elems = [] := List.length_eq_zero_iff.1 (by omega)
            have e2 : rest = [] := List.length_eq_zero_iff.1 (by omega)
            have e3 : len = 0 := by omega
            subst e1 e2 e3
            have hb1 := hb a 0 0 (by simp)
            by_cases hq : a.spot = none ∧ isCells W a.block
            · simp only [List.map_cons, List.map_nil]
              rw [absV_slice hq.1 hq.2]
              obtain ⟨c, e', fz, hcl⟩ := hq.2
              exact .slice ht (absHeap_get hcl) (Nat.le_refl _) (Nat.zero_le _) rfl rfl (fun k d hk => by simp at hk) (fun k d hk => by simp at hk)
            · cases top with
              | true => exact absurd (by simpa using hb1) hq
              | false =>
                simp only [List.map_cons, List.map_nil]
                simp only [absV]
                rw [if_neg hq, if_pos ⟨rfl, by simpa using hb1⟩]
                exact .empty ht
          · have facts : ∀ (k : Nat) (y : DataW H × List MemPlace), (elems ++ rest)[k]? = some y → ∃ l, W.cells? 0 (a.add (k * P.cellsOf e)) (P.cellsOf e) = some l ∧ DataW.trod enc P W 0 (fun _ => true) true n e l = some y := by
              intro k y hk
              have := each k y hk
              simpa only [Option.bind_eq_some_iff] using this
            have h0 : (elems ++ rest)[0]? = some ((elems ++ rest)[0]'(by simp; omega)) := List.getElem?_eq_getElem _
            obtain ⟨l0, hl0, _⟩ := facts 0 _ h0
            obtain ⟨hs0, c, e', fz, hcl, _, _⟩ := cells?_of hl0 hpos
            have hs : a.spot = none := by
              cases a with
              | mk b o s => simp [Addr.add] at hs0; exact hs0
            have hbk : ∀ k, (a.add k).block = a.block := by
              intro k; cases a with | mk b o s => simp at hs; subst hs; rw [add_none]
            have hcl' : W.heap[a.block]? = some (.cells c e' fz) := by rw [← hbk]; exact hcl
            simp only [List.map_cons, List.map_nil]
            rw [absV_slice hs ⟨c, e', fz, hcl'⟩]
            have hoff : ∀ k, (a.add k).off = a.off + k := by
              intro k; cases a with | mk b o s => simp at hs; subst hs; rw [add_none]
            have key : ∀ (k : Nat) (y : DataW H × List MemPlace), (elems ++ rest)[k]? = some y → a.off + (k + 1) * P.cellsOf e ≤ c.size ∧ Arg P (absHeap W b0) false e (((c.toList.map (absV W b0)).drop (a.off + k * P.cellsOf e)).take (P.cellsOf e)) y.1 := by
              intro k y hk
              obtain ⟨l, hl, hd⟩ := facts k y hk
              obtain ⟨_, c2, e2, fz2, hcl2, hsz, rfl⟩ := cells?_of hl hpos
              have hcl2' : W.heap[a.block]? = some (.cells c2 e2 fz2) := by rw [← hbk]; exact hcl2
              rw [hcl'] at hcl2'
              cases hcl2'
              rw [hoff] at hsz hd
              refine ⟨by rw [Nat.succ_mul]; omega, ?_⟩
              rw [← List.map_drop, ← List.map_take]
              refine ih m e _ y false hp hd ?_
              intro a' l' c' hmem
              exact hb0 ⟨a.block, c, e', fz, hcl'⟩
            refine .slice ht (absHeap_get hcl') hc hm (by simpa using hle) (by simpa using hrl) ?_ ?_
            · intro k d hk
              rw [← List.map_append, List.getElem?_map, Option.map_eq_some_iff] at hk
              obtain ⟨y, hy, rfl⟩ := hk
              simpa using (key k y hy).1
            · intro k d hk
              rw [← List.map_append, List.getElem?_map, Option.map_eq_some_iff] at hk
              obtain ⟨y, hy, rfl⟩ := hk
              exact (key k y hy).2
      · rename_i k e ht
        obtain ⟨xs, n', hn', rfl, hl, hxl, hx⟩ := DataW.trod_array ht h
        cases hn'
        refine .array ht (by simpa using hl) (by simpa using hxl) ?_
        intro i d hd
        rw [List.getElem?_map, Option.map_eq_some_iff] at hd
        obtain ⟨y, hy, rfl⟩ := hd
        have hi := (List.getElem?_eq_some_iff.1 hy).1
        rw [← List.map_drop, ← List.map_take]
        exact ih m e _ y top hp ((hx i (by omega)).trans hy) (hb.sub fun x hx => List.mem_of_mem_drop (List.mem_of_mem_take hx))
      · rename_i fs ht
        obtain ⟨xs, n', hn', rfl, hl, hxl, hx⟩ := DataW.trod_struct ht h
        cases hn'
        refine .struct ht (by simpa using hl) (by simpa using hxl) ?_
        intro i f d hf hd
        rw [List.getElem?_map, Option.map_eq_some_iff] at hd
        obtain ⟨y, hy, rfl⟩ := hd
        rw [← List.map_drop, ← List.map_take]
        rw [List.all_eq_true] at hp
        exact ih m f.type _ y top (hp f (by rw [Array.mem_toList_iff]; exact Array.mem_of_getElem? hf)) ((hx i f hf).trans hy) (hb.sub fun x hx => List.mem_of_mem_drop (List.mem_of_mem_take hx))
      · cases hp
end
end Go.Abs

/- From a function's law to its row: what came in reads behind the call as before, what comes out is 'true'. -/
namespace Go.Abs
open Go Go.RowKit Go.ChangeShapes
section
variable {H : Type} {enc : TypeId × Value → H} {P : Program} {W : World} {b0 : Nat}

theorem below_of_ext {E E' : Env} {w w' : World} (x : Ext E w E' w') (ho : ∀ i, ownAt E.H i = false) : Below w.heap.size w w' :=
  ⟨x.os, x.tape, x.output, x.size, fun k hk => x.frame k hk fun i _ _ h => by rw [ho] at h; cases h⟩

theorem trodAll_stays {W' : World} (hl : laidOutB P = true) (hb : Below W.heap.size W W') {sp : Nat → Bool} : ∀ {ts : List TypeId} {vs : List Value} {ds : List (DataW H)} {ps : List MemPlace},
    (∀ t ∈ ts, P.readableRec t = true ∧ t < P.types.size) → DataW.TrodAll enc P W 0 (fun _ => true) true ts vs ds ps → (∀ p ∈ ps, p.block < W.heap.size) → (∀ p ∈ ps, sp p.block = true) →
    DataW.TrodAll enc P W' 0 sp true ts vs ds ps
  | [], _, _, _, _, h, _, _ => by obtain ⟨rfl, rfl, rfl⟩ := trodAll_nil h; exact trodAll_mk0
  | t :: ts, _, _, _, ht, h, hlt, hs => by
    obtain ⟨v, vs1, d, ds1, a, b, rfl, rfl, rfl, h1, h2⟩ := trodAll_cons h
    have k := ht t (List.mem_cons_self)
    refine ⟨a, b, WideElems.Trod_stays hl k.1 k.2 h1 (fun p hp => hb.same (hlt p (List.mem_append_left _ hp))) (fun p hp => hs p (List.mem_append_left _ hp)), ?_, rfl⟩
    exact trodAll_stays hl hb (fun t m => ht t (List.mem_cons_of_mem _ m)) h2 (fun p hp => hlt p (List.mem_append_right _ hp)) (fun p hp => hs p (List.mem_append_right _ hp))

/-- One argument. -/
def ArgV (P : Program) (B : AHeap) (t : TypeId) (a : AVal) (d : DataW H) : Prop :=
  match P.underlying t with
  | some (.struct _) | some (.array _ _) => ∃ cs, a = .agg cs ∧ Arg P B true t cs d
  | _ => Arg P B true t [a] d

def ArgAll (P : Program) (B : AHeap) : List TypeId → List AVal → List (DataW H) → Prop
  | [], as, ds => as = [] ∧ ds = []
  | t :: ts, as, ds => ∃ a as' d ds', as = a :: as' ∧ ds = d :: ds' ∧ ArgV P B t a d ∧ ArgAll P B ts as' ds'

theorem ArgAll.length : ∀ {ts : List TypeId} {B : AHeap} {as : List AVal} {ds : List (DataW H)}, ArgAll P B ts as ds → ds.length = ts.length
  | [], _, _, _, h => by rw [h.2]; rfl
  | t :: ts, _, _, _, h => by
    obtain ⟨_, _, _, _, _, rfl, _, h⟩ := h
    simp [ArgAll.length h]

theorem based_cell {b1 : Nat} {t : TypeId} {a : Addr} {len cap : Nat} (h : Cell.okWide P W .any b1 t (.slice (some a) len cap)) : a.spot = none ∧ isCells W a.block := by
  unfold Cell.okWide at h
  split at h <;> try (rename_i hv; cases hv)
  all_goals try contradiction
  unfold Cell.ok at h
  split at h <;> try contradiction
  all_goals rename_i hv; try cases hv
  obtain ⟨_, _, h⟩ := h
  obtain ⟨_, hs, row, cells, hsh, _⟩ := h
  refine ⟨hs, ?_⟩
  unfold World.shape? at hsh
  split at hsh
  · rename_i c e fz hb; exact ⟨c, e, fz, hb⟩
  · cases hsh

theorem argV_of {t : TypeId} {v : Value} {d : DataW H} {ps : List MemPlace} {b1 m : Nat} (hb0 : (∃ b, isCells W b) → isCells W b0) (hp : plainT P m t = true) (hval : Value.okWide P W .any b1 t v) (h : DataW.Trod enc P W 0 (fun _ => true) true t v d ps) :
    ArgV P (absHeap W b0) t (absTop W b0 v) d := by
  obtain ⟨n, hn⟩ := h
  have hb : Based W b0 true v.cells.toList := by
    intro a len cap hm
    show a.spot = none ∧ isCells W a.block
    unfold Value.okWide at hval
    split at hval
    · obtain ⟨cs, rfl, _, ts, _, _, hrow⟩ := hval
      have hm' : Value.slice (some a) len cap ∈ cs.toList := hm
      obtain ⟨i, hi⟩ := List.getElem?_of_mem hm'
      obtain ⟨u, _, hu⟩ := hrow i _ (by simpa using hi)
      exact based_cell hu
    · obtain ⟨cs, rfl, _, ts, _, _, hrow⟩ := hval
      have hm' : Value.slice (some a) len cap ∈ cs.toList := hm
      obtain ⟨i, hi⟩ := List.getElem?_of_mem hm'
      obtain ⟨u, _, hu⟩ := hrow i _ (by simpa using hi)
      exact based_cell hu
    · cases v with
      | agg cs => 
        exfalso
        unfold Cell.okWide at hval
        split at hval <;> try (rename_i hv; cases hv)
        all_goals try contradiction
        unfold Cell.ok at hval
        split at hval <;> first | contradiction | (rename_i hv; cases hv)
      | _ => 
        simp only [Value.cells, List.mem_cons, List.not_mem_nil, or_false] at hm
        first
          | (cases hm; exact based_cell hval)
          | cases hm
  have key := arg_of_trod (b0 := b0) hb0 n m t _ _ true hp hn hb
  unfold ArgV
  unfold Value.okWide at hval
  split at hval
  · rename_i ht
    rw [ht]
    obtain ⟨cs, rfl, _, _⟩ := hval
    exact ⟨_, rfl, key⟩
  · rename_i ht
    rw [ht]
    obtain ⟨cs, rfl, _, _⟩ := hval
    exact ⟨_, rfl, key⟩
  · have : [absTop W b0 v] = v.cells.toList.map (absV W b0) := by
      cases v with
      | agg cs => 
        exfalso
        unfold Cell.okWide at hval
        split at hval <;> try (rename_i hv; cases hv)
        all_goals try contradiction
        unfold Cell.ok at hval
        split at hval <;> first | contradiction | (rename_i hv; cases hv)
      | _ => rfl
    rw [← this] at key
    split
    · rename_i h2; exact (‹∀ fields, P.underlying t = some (.struct fields) → False› _ h2).elim
    · rename_i h2; exact (‹∀ len elem, P.underlying t = some (.array len elem) → False› _ _ h2).elim
    · exact key

theorem argAll_of {b1 m : Nat} (hb0 : (∃ b, isCells W b) → isCells W b0) : ∀ {ts : List TypeId} {vs : List Value} {ds : List (DataW H)} {ps : List MemPlace}, (∀ t ∈ ts, plainT P m t = true) →
    (∀ (j : Nat) t v, ts[j]? = some t → vs[j]? = some v → Value.okWide P W .any b1 t v) → DataW.TrodAll enc P W 0 (fun _ => true) true ts vs ds ps → ArgAll P (absHeap W b0) ts (vs.map (absTop W b0)) ds
  | [], _, _, _, _, _, h => by obtain ⟨rfl, rfl, rfl⟩ := trodAll_nil h; exact ⟨rfl, rfl⟩
  | t :: ts, _, _, _, hp, hv, h => by
    obtain ⟨v, vs1, d, ds1, a, b, rfl, rfl, rfl, h1, h2⟩ := trodAll_cons h
    exact ⟨_, _, _, _, rfl, rfl, argV_of hb0 (hp t List.mem_cons_self) (hv 0 t v rfl rfl) h1, argAll_of hb0 (fun t m => hp t (List.mem_cons_of_mem _ m)) (fun j t v hj hk => hv (j + 1) t v (by simpa using hj) (by simpa using hk)) h2⟩

/-- The row's step: what the law says of the function is what the row asks. -/
theorem row_calls {f : FuncId} {fn : Func} {g : Abs.Spec} (ok : FnOk P f g) {s : ChangeSpec} {apart fresh handsOn again : Bool} {base m tb : Nat} {args : Array Value} {ds gs : List (DataW H)} {before : List MemPlace}
    (hl : laidOutB P = true) (hpl : fn.params.toList.all (fun t => plainT P m t && (P.readableRec t && decide (t < P.types.size))) = true) (hrt : fn.resultTypes = #[tb]) (htb : P.underlying tb = some .bool) (hvs : s.vars = [])
    (hfn0 : ∀ ds : List (DataW H), ds.length = fn.params.toList.length → s.fn H ds = { results := [.lit (.bool true)], args := ds })
    (hval : ∀ (j : Nat) t v, fn.params[j]? = some t → args[j]? = some v → Value.okWide P W .any base t v)
    (hW : DataW.Whole enc P fn.params.toList s.vars apart W args.toList ds gs before)
    (law : ∀ B as, ArgAll P B fn.params.toList as ds → ∃ H', g as B (.bool true) H') :
    Calls P f args W fun e W' => ∃ v, e = .returned v ∧ s.post enc P fn apart fresh handsOn again W args v W' := by
  have hW' := hW
  obtain ⟨p, q, hA, hV, rfl, hfz, hnd⟩ := hW
  rw [hvs] at hV
  obtain ⟨rfl, rfl⟩ := trodVars_none hV
  simp only [List.append_nil] at hW'
  rw [List.all_eq_true] at hpl
  have hpl' : ∀ t ∈ fn.params.toList, plainT P m t = true ∧ P.readableRec t = true ∧ t < P.types.size := fun t ht => by
    have := hpl t ht
    simpa only [Bool.and_eq_true, decide_eq_true_eq] using this
  obtain ⟨b0, hb0⟩ : ∃ b0, (∃ b, isCells W b) → isCells W b0 := by
    by_cases h : ∃ b, isCells W b
    · obtain ⟨b, hb⟩ := h; exact ⟨b, fun _ => hb⟩
    · exact ⟨0, fun h' => absurd h' h⟩
  have hal := argAll_of (b0 := b0) hb0 (fun t ht => (hpl' t ht).1) (fun j t v hj hk => hval j t v (by simpa using hj) (by simpa using hk)) hA
  obtain ⟨H', hg⟩ := law _ _ hal
  have hfn := hfn0 ds hal.length
  have := ok.does _ _ _ _ hg (absEnv W b0) W args.toList rfl absW_rel (absTop_rels _)
  rw [show args.toList.toArray = args by simp] at this
  refine this.mono ?_
  rintro e W' ⟨v, E', rfl, hv, hw', hE', hx⟩
  simp only [RelG] at hv
  subst hv
  have hbl : Below W.heap.size W W' := below_of_ext hx absHeap_own
  have hlt : ∀ x ∈ p, x.block < W.heap.size := fun x hx => by simpa using hW'.lt x hx
  have hold : ∀ x ∈ p, (fun b => decide (b < W.heap.size)) x.block = true := fun x hx => by simpa using hlt x hx
  have hres : ∀ (b : Nat) (sp : Nat → Bool) (hd : Bool), DataW.TrodAll enc P W' b sp hd fn.resultTypes.toList ((Value.bool true).resultList fn.resultTypes.size) [.lit (.bool true)] [] := by
    intro b sp hd
    rw [hrt]
    exact trodAll_cons_mk (shut_bool htb true) trodAll_mk0
  have hargs : ∀ sp : Nat → Bool, (∀ x ∈ p, sp x.block = true) → DataW.TrodAll enc P W' 0 sp true fn.params.toList args.toList ds p := fun sp hs => trodAll_stays hl hbl (fun t ht => (hpl' t ht).2) hA hlt hs
  have hok : ∀ (j : Nat) (t : TypeId) (r : Value), fn.resultTypes[j]? = some t → ((Value.bool true).resultList fn.resultTypes.size)[j]? = some r → Value.okWide P W' .any 0 t r := by
    refine ok_one hrt rfl ?_
    unfold Value.okWide
    rw [htb]
    unfold Cell.okWide
    rw [htb]
    unfold Cell.ok
    rw [htb]
    trivial
  have hv0 : ∀ sp : Nat → Bool, DataW.TrodVars enc P W' sp s.vars (s.fn H (ds ++ [])).vars [] := fun sp => by rw [hvs, List.append_nil, hfn]; exact rfl
  refine ⟨_, rfl, ds, [], p, [], p, [], hW', ?_, ?_, hv0 _, World.keptBut_mono (fun x hx => ⟨hx, .inr (by simpa using hx)⟩) (hbl.frame _), fun _ => ⟨hok, _, _, p, ⟨p, [], trodAll_append (hargs _ fun _ _ => rfl) (hres _ _ _), hv0 _, by simp, ?_, ?_⟩, fun x hx _ => by simpa using hx⟩⟩
  · rw [List.append_nil, hfn]; exact hres _ _ _
  · rw [List.append_nil, hfn]; exact hargs _ hold
  · intro b off hx
    rw [hbl.frozen (hlt _ hx)]
    exact hfz b off (by simpa using hx)
  · intro ha
    simpa using hnd ha
end
end Go.Abs

/- A seat's functions, one by one. -/
namespace Go.Abs
open Go

def spOf : List (Nat × Bool × Abs.Spec) → Specs
  | [] => fun _ => none
  | x :: l => fun f => cond (Nat.beq x.1 f) (some x.2) (spOf l f)

theorem SpecsOk.nil {P : Program} : SpecsOk P (spOf []) := ⟨nofun, nofun⟩
theorem SpecsOk.cons {P : Program} {l : List (Nat × Bool × Abs.Spec)} {f : Nat} {q : Bool} {g : Abs.Spec} (h : SpecsOk P (spOf l)) (k : FnOk P f g) (hq : q = true → ∀ args H r H', g args H r H' → H <+: H') : SpecsOk P (spOf ((f, q, g) :: l)) where
  ok i q' g' hi := by
    unfold spOf at hi
    cases hb : Nat.beq f i with
    | true => rw [hb] at hi; cases hi; rw [← Nat.eq_of_beq_eq_true hb]; exact k
    | false => rw [hb] at hi; exact h.ok i q' g' hi
  quiet i g' hi := by
    unfold spOf at hi
    cases hb : Nat.beq f i with
    | true => rw [hb] at hi; cases hi; exact hq rfl
    | false => rw [hb] at hi; exact h.quiet i g' hi

theorem enters_of {P : Program} {f : FuncId} {fn : Func} (hf : P.funcs[f]? = some fn) (hn : (fn.name == "runtime.NumGoroutine") = false) (hb : fn.body.isNone = false) (args : Array Value) (w : World) :
    (callFunc f args).run P w = .ok (.enter f args) w := by
  have h1 : fn.name ≠ "runtime.NumGoroutine" := by simpa using hn
  have h2 : fn.body ≠ none := by intro h; rw [h] at hb; cases hb
  simp [callFunc, hf, h1, h2, Sem.run]
theorem fn_ok0 {P : Program} {sp : Specs} (hsp : SpecsOk P sp) (hm : P.follows .mixedOrders = true) {T : Cuts} {f : FuncId} {fn : Func} {g : Abs.Spec} {w : AHeap → (AVal → AHeap → Prop) → Prop} (hf : P.funcs[f]? = some fn)
    (he : ∀ (args : Array Value) (w : World), (callFunc f args).run P w = .ok (.enter f args) w)
    (hok : ∀ args H r H', g args H r H' → args = [] ∧ w H fun r1 H1 => Weak H r1 H1 r H')
    (heq : ∀ (H : AHeap) (K : AVal → AHeap → Prop), evFn P sp T fn [] H K = w H K) : FnOk P f g := by
  refine fn_ok hsp hm (T := T) hf he ?_
  intro args H r H' h
  obtain ⟨rfl, hw⟩ := hok args H r H' h
  rw [heq]
  exact hw
theorem fn_ok1 {P : Program} {sp : Specs} (hsp : SpecsOk P sp) (hm : P.follows .mixedOrders = true) {T : Cuts} {f : FuncId} {fn : Func} {g : Abs.Spec} {w : AVal → AHeap → (AVal → AHeap → Prop) → Prop} (hf : P.funcs[f]? = some fn)
    (he : ∀ (args : Array Value) (w : World), (callFunc f args).run P w = .ok (.enter f args) w)
    (hok : ∀ args H r H', g args H r H' → ∃ x0, args = [x0] ∧ w x0 H fun r1 H1 => Weak H r1 H1 r H')
    (heq : ∀ (x0 : AVal) (H : AHeap) (K : AVal → AHeap → Prop), evFn P sp T fn [x0] H K = w x0 H K) : FnOk P f g := by
  refine fn_ok hsp hm (T := T) hf he ?_
  intro args H r H' h
  obtain ⟨x0, rfl, hw⟩ := hok args H r H' h
  rw [heq]
  exact hw
theorem fn_ok2 {P : Program} {sp : Specs} (hsp : SpecsOk P sp) (hm : P.follows .mixedOrders = true) {T : Cuts} {f : FuncId} {fn : Func} {g : Abs.Spec} {w : AVal → AVal → AHeap → (AVal → AHeap → Prop) → Prop} (hf : P.funcs[f]? = some fn)
    (he : ∀ (args : Array Value) (w : World), (callFunc f args).run P w = .ok (.enter f args) w)
    (hok : ∀ args H r H', g args H r H' → ∃ x0 x1, args = [x0, x1] ∧ w x0 x1 H fun r1 H1 => Weak H r1 H1 r H')
    (heq : ∀ (x0 x1 : AVal) (H : AHeap) (K : AVal → AHeap → Prop), evFn P sp T fn [x0, x1] H K = w x0 x1 H K) : FnOk P f g := by
  refine fn_ok hsp hm (T := T) hf he ?_
  intro args H r H' h
  obtain ⟨x0, x1, rfl, hw⟩ := hok args H r H' h
  rw [heq]
  exact hw
theorem fn_ok3 {P : Program} {sp : Specs} (hsp : SpecsOk P sp) (hm : P.follows .mixedOrders = true) {T : Cuts} {f : FuncId} {fn : Func} {g : Abs.Spec} {w : AVal → AVal → AVal → AHeap → (AVal → AHeap → Prop) → Prop} (hf : P.funcs[f]? = some fn)
    (he : ∀ (args : Array Value) (w : World), (callFunc f args).run P w = .ok (.enter f args) w)
    (hok : ∀ args H r H', g args H r H' → ∃ x0 x1 x2, args = [x0, x1, x2] ∧ w x0 x1 x2 H fun r1 H1 => Weak H r1 H1 r H')
    (heq : ∀ (x0 x1 x2 : AVal) (H : AHeap) (K : AVal → AHeap → Prop), evFn P sp T fn [x0, x1, x2] H K = w x0 x1 x2 H K) : FnOk P f g := by
  refine fn_ok hsp hm (T := T) hf he ?_
  intro args H r H' h
  obtain ⟨x0, x1, x2, rfl, hw⟩ := hok args H r H' h
  rw [heq]
  exact hw
/-- The same, where nothing is renamed. -/
theorem fn_okE {P : Program} {sp : Specs} (hsp : SpecsOk P sp) (hm : P.follows .mixedOrders = true) {T : Cuts} {f : FuncId} {fn : Func} {g : Abs.Spec} (hf : P.funcs[f]? = some fn)
    (he : ∀ (args : Array Value) (w : World), (callFunc f args).run P w = .ok (.enter f args) w)
    (h : ∀ args H r H', g args H r H' → evFn P sp T fn args H fun r1 H1 => r1 = r ∧ H1 = H') : FnOk P f g where
  enters := he
  does args H r H' hg E w vs hH hw ha := by
    refine Calls.mono (fn_calls hsp (draw_sound hsp hm) hf (h args H r H' hg) hH hw ha) ?_
    rintro e w' ⟨v, r1, E', rfl, ⟨rfl, hk⟩, hv, hw', hx⟩
    exact ⟨v, E', rfl, hv, hw', hk, hx⟩
theorem fn_ok0E {P : Program} {sp : Specs} (hsp : SpecsOk P sp) (hm : P.follows .mixedOrders = true) {T : Cuts} {f : FuncId} {fn : Func} {g : Abs.Spec} {w : AHeap → (AVal → AHeap → Prop) → Prop} (hf : P.funcs[f]? = some fn)
    (he : ∀ (args : Array Value) (w : World), (callFunc f args).run P w = .ok (.enter f args) w)
    (hok : ∀ args H r H', g args H r H' → args = [] ∧ w H fun r1 H1 => r1 = r ∧ H1 = H')
    (heq : ∀ (H : AHeap) (K : AVal → AHeap → Prop), evFn P sp T fn [] H K = w H K) : FnOk P f g := by
  refine fn_okE hsp hm (T := T) hf he ?_
  intro args H r H' h
  obtain ⟨rfl, hw⟩ := hok args H r H' h
  rw [heq]
  exact hw
theorem fn_ok1E {P : Program} {sp : Specs} (hsp : SpecsOk P sp) (hm : P.follows .mixedOrders = true) {T : Cuts} {f : FuncId} {fn : Func} {g : Abs.Spec} {w : AVal → AHeap → (AVal → AHeap → Prop) → Prop} (hf : P.funcs[f]? = some fn)
    (he : ∀ (args : Array Value) (w : World), (callFunc f args).run P w = .ok (.enter f args) w)
    (hok : ∀ args H r H', g args H r H' → ∃ x0, args = [x0] ∧ w x0 H fun r1 H1 => r1 = r ∧ H1 = H')
    (heq : ∀ (x0 : AVal) (H : AHeap) (K : AVal → AHeap → Prop), evFn P sp T fn [x0] H K = w x0 H K) : FnOk P f g := by
  refine fn_okE hsp hm (T := T) hf he ?_
  intro args H r H' h
  obtain ⟨x0, rfl, hw⟩ := hok args H r H' h
  rw [heq]
  exact hw
theorem fn_ok2E {P : Program} {sp : Specs} (hsp : SpecsOk P sp) (hm : P.follows .mixedOrders = true) {T : Cuts} {f : FuncId} {fn : Func} {g : Abs.Spec} {w : AVal → AVal → AHeap → (AVal → AHeap → Prop) → Prop} (hf : P.funcs[f]? = some fn)
    (he : ∀ (args : Array Value) (w : World), (callFunc f args).run P w = .ok (.enter f args) w)
    (hok : ∀ args H r H', g args H r H' → ∃ x0 x1, args = [x0, x1] ∧ w x0 x1 H fun r1 H1 => r1 = r ∧ H1 = H')
    (heq : ∀ (x0 x1 : AVal) (H : AHeap) (K : AVal → AHeap → Prop), evFn P sp T fn [x0, x1] H K = w x0 x1 H K) : FnOk P f g := by
  refine fn_okE hsp hm (T := T) hf he ?_
  intro args H r H' h
  obtain ⟨x0, x1, rfl, hw⟩ := hok args H r H' h
  rw [heq]
  exact hw
theorem fn_ok3E {P : Program} {sp : Specs} (hsp : SpecsOk P sp) (hm : P.follows .mixedOrders = true) {T : Cuts} {f : FuncId} {fn : Func} {g : Abs.Spec} {w : AVal → AVal → AVal → AHeap → (AVal → AHeap → Prop) → Prop} (hf : P.funcs[f]? = some fn)
    (he : ∀ (args : Array Value) (w : World), (callFunc f args).run P w = .ok (.enter f args) w)
    (hok : ∀ args H r H', g args H r H' → ∃ x0 x1 x2, args = [x0, x1, x2] ∧ w x0 x1 x2 H fun r1 H1 => r1 = r ∧ H1 = H')
    (heq : ∀ (x0 x1 x2 : AVal) (H : AHeap) (K : AVal → AHeap → Prop), evFn P sp T fn [x0, x1, x2] H K = w x0 x1 x2 H K) : FnOk P f g := by
  refine fn_okE hsp hm (T := T) hf he ?_
  intro args H r H' h
  obtain ⟨x0, x1, x2, rfl, hw⟩ := hok args H r H' h
  rw [heq]
  exact hw
theorem fn_ok4E {P : Program} {sp : Specs} (hsp : SpecsOk P sp) (hm : P.follows .mixedOrders = true) {T : Cuts} {f : FuncId} {fn : Func} {g : Abs.Spec} {w : AVal → AVal → AVal → AVal → AHeap → (AVal → AHeap → Prop) → Prop} (hf : P.funcs[f]? = some fn)
    (he : ∀ (args : Array Value) (w : World), (callFunc f args).run P w = .ok (.enter f args) w)
    (hok : ∀ args H r H', g args H r H' → ∃ x0 x1 x2 x3, args = [x0, x1, x2, x3] ∧ w x0 x1 x2 x3 H fun r1 H1 => r1 = r ∧ H1 = H')
    (heq : ∀ (x0 x1 x2 x3 : AVal) (H : AHeap) (K : AVal → AHeap → Prop), evFn P sp T fn [x0, x1, x2, x3] H K = w x0 x1 x2 x3 H K) : FnOk P f g := by
  refine fn_okE hsp hm (T := T) hf he ?_
  intro args H r H' h
  obtain ⟨x0, x1, x2, x3, rfl, hw⟩ := hok args H r H' h
  rw [heq]
  exact hw
end Go.Abs

/- Arguments of the common types, opened. -/
namespace Go.Abs
open Go
section
variable {H : Type} {P : Program} {B : AHeap} {top : Bool} {t e : TypeId}

theorem Arg.bool_inv {cs : List AVal} {d : DataW H} (ht : P.underlying t = some .bool) (h : Arg P B top t cs d) : ∃ b, cs = [.bool b] ∧ d = .lit (.bool b) := by
  cases h with
  | bool _ => exact ⟨_, rfl, rfl⟩
  | int h => rw [h] at ht; cases ht
  | str h => rw [h] at ht; cases ht
  | nils h => rw [h] at ht; cases ht
  | empty h => rw [h] at ht; cases ht
  | slice h => rw [h] at ht; cases ht
  | struct h => rw [h] at ht; cases ht
  | array h => rw [h] at ht; cases ht
theorem Arg.int_inv {cs : List AVal} {d : DataW H} {k : IntKind} (ht : P.underlying t = some (.int k)) (h : Arg P B top t cs d) : ∃ n, cs = [.int k n] ∧ d = .lit (.int k n) ∧ k.min ≤ n ∧ n ≤ k.max := by
  cases h with
  | int h hw => rw [h] at ht; cases ht; exact ⟨_, rfl, rfl, by simpa [Lit.wf] using hw⟩
  | bool h => rw [h] at ht; cases ht
  | str h => rw [h] at ht; cases ht
  | nils h => rw [h] at ht; cases ht
  | empty h => rw [h] at ht; cases ht
  | slice h => rw [h] at ht; cases ht
  | struct h => rw [h] at ht; cases ht
  | array h => rw [h] at ht; cases ht
theorem Arg.str_inv {cs : List AVal} {d : DataW H} (ht : P.underlying t = some .string) (h : Arg P B top t cs d) : ∃ s, cs = [.str s] ∧ d = .lit (.string s) ∧ s.length ≤ maxLen := by
  cases h with
  | str _ hl => exact ⟨_, rfl, rfl, hl⟩
  | int h => rw [h] at ht; cases ht
  | bool h => rw [h] at ht; cases ht
  | nils h => rw [h] at ht; cases ht
  | empty h => rw [h] at ht; cases ht
  | slice h => rw [h] at ht; cases ht
  | struct h => rw [h] at ht; cases ht
  | array h => rw [h] at ht; cases ht
theorem Arg.array_inv {cs : List AVal} {d : DataW H} {n : Nat} (ht : P.underlying t = some (.array n e)) (h : Arg P B top t cs d) : ∃ ds, d = .agg ds ∧ ds.length = n ∧ cs.length = P.cellsOf t ∧
    ∀ (i : Nat) d, ds[i]? = some d → Arg P B top e ((cs.drop (i * P.cellsOf e)).take (P.cellsOf e)) d := by
  cases h with
  | array h hl hd ha => rw [h] at ht; cases ht; exact ⟨_, rfl, hd, hl, ha⟩
  | str h => rw [h] at ht; cases ht
  | int h => rw [h] at ht; cases ht
  | bool h => rw [h] at ht; cases ht
  | nils h => rw [h] at ht; cases ht
  | empty h => rw [h] at ht; cases ht
  | slice h => rw [h] at ht; cases ht
  | struct h => rw [h] at ht; cases ht
theorem Arg.struct_inv {cs : List AVal} {d : DataW H} {fs : Array Field} (ht : P.underlying t = some (.struct fs)) (h : Arg P B top t cs d) : ∃ ds, d = .agg ds ∧ ds.length = fs.size ∧ cs.length = P.cellsOf t ∧
    ∀ (i : Nat) f d, fs[i]? = some f → ds[i]? = some d → Arg P B top f.type ((cs.drop f.offset).take (P.cellsOf f.type)) d := by
  cases h with
  | struct h hl hd ha => rw [h] at ht; cases ht; exact ⟨_, rfl, hd, hl, ha⟩
  | array h => rw [h] at ht; cases ht
  | str h => rw [h] at ht; cases ht
  | int h => rw [h] at ht; cases ht
  | bool h => rw [h] at ht; cases ht
  | nils h => rw [h] at ht; cases ht
  | empty h => rw [h] at ht; cases ht
  | slice h => rw [h] at ht; cases ht
theorem Arg.slice_inv {cs : List AVal} {d : DataW H} (ht : P.underlying t = some (.slice e)) (h : Arg P B top t cs d) :
    (cs = [.nils] ∧ d = .nil) ∨ (top = false ∧ ∃ i, cs = [.slice ⟨i, 0, 0⟩ 0 (.ex 0)] ∧ d = .slice [] []) ∨
    (∃ i off len cap cs' elems spare, cs = [.slice ⟨i, 1, off⟩ len (.ex cap)] ∧ d = .slice elems spare ∧ B[i]? = some (.cells 1 .ro cs') ∧ len ≤ cap ∧ cap ≤ maxLen ∧ elems.length = len ∧ spare.length = cap - len ∧
      (∀ (k : Nat) d, (elems ++ spare)[k]? = some d → off + (k + 1) * P.cellsOf e ≤ cs'.length) ∧
      (∀ (k : Nat) d, (elems ++ spare)[k]? = some d → Arg P B false e ((cs'.drop (off + k * P.cellsOf e)).take (P.cellsOf e)) d)) := by
  cases h with
  | nils _ => exact .inl ⟨rfl, rfl⟩
  | empty h => exact .inr (.inl ⟨rfl, _, rfl, rfl⟩)
  | slice h hb hc hm he hs hl ha => rw [h] at ht; cases ht; exact .inr (.inr ⟨_, _, _, _, _, _, _, rfl, rfl, hb, hc, hm, he, hs, hl, ha⟩)
  | array h => rw [h] at ht; cases ht
  | str h => rw [h] at ht; cases ht
  | int h => rw [h] at ht; cases ht
  | bool h => rw [h] at ht; cases ht
  | struct h => rw [h] at ht; cases ht

theorem ArgV.plain {a : AVal} {d : DataW H} (h : ArgV P B t a d) (hn : ∀ n e, P.underlying t ≠ some (.array n e)) (hs : ∀ fs, P.underlying t ≠ some (.struct fs)) : Arg P B true t [a] d := by
  unfold ArgV at h
  split at h
  · rename_i ht; exact absurd ht (hs _)
  · rename_i ht; exact absurd ht (hn _ _)
  · exact h
theorem byte_of {n : Int} (h1 : IntKind.u8.min ≤ n) (h2 : n ≤ IntKind.u8.max) : ∃ b : UInt8, AVal.int .u8 n = ofByte b := by
  have e1 : IntKind.u8.min = 0 := by decide
  have e2 : IntKind.u8.max = 255 := by decide
  rw [e1] at h1; rw [e2] at h2
  refine ⟨UInt8.ofNat n.toNat, ?_⟩
  unfold ofByte
  rw [UInt8.toNat_ofNat']
  congr 1
  omega

/-- A slice whose elements' cells are told by f. -/
theorem Arg.view {β : Type} {a : AVal} {d : DataW H} (f : β → List AVal) (hf : ∀ b, (f b).length = P.cellsOf e) (ht : P.underlying t = some (.slice e)) (h : Arg P B true t [a] d)
    (each : ∀ cs (d : DataW H), Arg P B false e cs d → ∃ b, cs = f b) : ∃ l : List β, View B a (P.cellsOf e) l.length (l.map f).flatten ∧ (∀ ds sp, d = .slice ds sp → ds.length = l.length) ∧ (d = .nil → l = []) ∧ l.length ≤ maxLen := by
  have flen : ∀ l : List β, ((l.map f).flatten).length = l.length * P.cellsOf e := by
    intro l
    induction l with
    | nil => simp
    | cons b l ih => simp only [List.map_cons, List.flatten_cons, List.length_append, ih, hf, List.length_cons]; rw [Nat.succ_mul]; omega
  rcases Arg.slice_inv ht h with ⟨h1, h2⟩ | ⟨h1, _⟩ | ⟨i, off, len, cap, cs', elems, spare, h1, rfl, hb, hc, hm, he, hs, hl, ha⟩
  · cases h1; subst h2
    exact ⟨[], ⟨by simp, .inl ⟨rfl, rfl⟩⟩, nofun, fun _ => rfl, Nat.zero_le _⟩
  · cases h1
  · cases h1
    have key : ∀ k, k ≤ len → ∃ l : List β, l.length = k ∧ (cs'.drop off).take (k * P.cellsOf e) = (l.map f).flatten := by
      intro k
      induction k with
      | zero => intro _; exact ⟨[], rfl, by simp⟩
      | succ k ih =>
        intro hk
        obtain ⟨l, h1, h2⟩ := ih (by omega)
        have hk2 : k < (elems ++ spare).length := by simp; omega
        have hx := List.getElem?_eq_getElem hk2
        obtain ⟨b, hbb⟩ := each _ _ (ha k _ hx)
        refine ⟨l ++ [b], by simp [h1], ?_⟩
        rw [Nat.succ_mul, List.take_add, h2, List.drop_drop, List.map_append, List.flatten_append]
        congr 1
        simpa using hbb
    obtain ⟨l, h1, h2⟩ := key len (Nat.le_refl _)
    refine ⟨l, ⟨flen l, .inr ⟨i, 1, off, _, .ro, cs', by rw [h1], hb, ?_, ?_, ?_⟩⟩, ?_, nofun, by omega⟩
    · rw [h1]
      intro hz
      have hx : (elems ++ spare)[len - 1]? = some _ := List.getElem?_eq_getElem (by simp; omega)
      have := hl _ _ hx
      rw [show len - 1 + 1 = len by omega] at this
      exact this
    · rw [h1, h2]
    · rw [h1]; exact hc
    · intro ds sp e; cases e; omega
end
end Go.Abs

/- Reading a slice's elements. -/
namespace Go.Abs
open Go

/-- x[k], its cell. -/
theorem View.at1 {B B' : AHeap} {sv : AVal} {n : Nat} {cs : List AVal} (h : View B sv 1 n cs) {k : Int} {kd : IntKind} (h0 : 0 ≤ k) (hk : k < n) (p : B <+: B') : ∃ q, aIndexAddr 1 sv (.int kd k) = some q ∧ aLoad B' false 1 q = some (cs.getD k.toNat .undef) := by
  obtain ⟨hl, h⟩ := h
  rcases h with ⟨rfl, rfl⟩ | ⟨i, v, off, c, kd', cs', rfl, h2, h3, h4, _⟩
  · omega
  · refine ⟨.ptr ⟨i, v, off + k.toNat * 1⟩, if_pos ⟨h0, hk⟩, ?_⟩
    rw [x_load1, pre_get p (lt_of_some h2), h2, x_ld1 (by have := h3 (by omega); omega), h4]
    simp only [List.getD_eq_getElem?_getD]
    rw [List.getElem?_take_of_lt (by omega), List.getElem?_drop, Nat.mul_one]

/-- x[k], an element of many cells. -/
theorem View.atN {B B' : AHeap} {sv : AVal} {es n : Nat} {cs : List AVal} (h : View B sv es n cs) {k : Int} {kd : IntKind} (h0 : 0 ≤ k) (hk : k < n) (p : B <+: B') : ∃ q, aIndexAddr es sv (.int kd k) = some q ∧ aLoad B' true es q = some (.agg ((cs.drop (k.toNat * es)).take es)) := by
  obtain ⟨hl, h⟩ := h
  rcases h with ⟨rfl, rfl⟩ | ⟨i, v, off, c, kd', cs', rfl, h2, h3, h4, _⟩
  · omega
  · have hb : k.toNat * es + es ≤ n * es := by rw [← Nat.succ_mul]; exact Nat.mul_le_mul_right _ (by omega)
    refine ⟨.ptr ⟨i, v, off + k.toNat * es⟩, if_pos ⟨h0, hk⟩, ?_⟩
    rw [x_loadN, pre_get p (lt_of_some h2), h2, x_ldN (by have := h3 (by omega); omega), h4]
    rw [List.drop_take, List.take_take, List.drop_drop]
    congr 3
    omega

theorem flatten_one {β : Type} (f : β → AVal) (l : List β) : (l.map fun s => [f s]).flatten = l.map f := by
  induction l with
  | nil => rfl
  | cons x l ih => simp only [List.map_cons, List.flatten_cons, ih]; rfl

theorem getD_str {l : List (List UInt8)} {k : Nat} : (l.map AVal.str).getD k .undef = if k < l.length then .str (l.getD k []) else .undef := by
  simp only [List.getD_eq_getElem?_getD, List.getElem?_map]
  split
  · rename_i h; rw [List.getElem?_eq_getElem h]; rfl
  · rename_i h; rw [List.getElem?_eq_none (by omega)]; rfl
theorem getD_str' {l : List (List UInt8)} {k : Nat} (h : k < l.length) : (l.map AVal.str).getD k .undef = .str (l.getD k []) := by rw [getD_str, if_pos h]
end Go.Abs

/- More ways to leave rubbish out; appends and maps, as they are used. -/
namespace Go.Abs
open Go

/-- Old objects have changed, to the same ones. -/
theorem Weak.olds {H H1 H' : AHeap} {r r1 : AVal} (hl : H'.length = H.length)
    (h : ∀ k, k < H.length → (H1[k]? = H[k]? ∧ H'[k]? = H[k]?) ∨ ∃ o, H'[k]? = some o ∧ H1[k]? = some o ∧ RenObj (fun i => i) (fun _ => 0) H.length 0 o o)
    (hv : Ren (fun i => i) (fun _ => 0) H.length r r1) : Weak H r1 H1 r H' := by
  refine ⟨fun i => i, fun _ => 0, fun i _ => ⟨rfl, rfl⟩, by omega, fun i h1 h2 => h1, fun i j _ _ h => h, fun k hk => ?_, by rw [hl]; exact hv⟩
  rcases h k (by omega) with ⟨a, b⟩ | ⟨o, a, b, c⟩
  · exact .inl ⟨by omega, a, b⟩
  · exact .inr ⟨o, o, a, b, by rw [hl]; exact c⟩

/-- Old objects have changed, and there is a new block that lies elsewhere. -/
theorem Weak.oldsNew {H H1 H' : AHeap} {q w : Nat} {kd : Kd} {cs : List AVal} {r r1 : AVal} (hl : H'.length = H.length + 1) (hn : H'[H.length]? = some (.cells 0 kd cs)) (hq : H.length ≤ q) (hb : H1[q]? = some (.cells w kd cs)) (hc : ∀ x ∈ cs, x.plain = true)
    (h : ∀ k, k < H.length → (H1[k]? = H[k]? ∧ H'[k]? = H[k]?) ∨ ∃ o o1, H'[k]? = some o ∧ H1[k]? = some o1 ∧ RenObj (fun i => if i = H.length then q else i) (fun i => if i = H.length then w else 0) (H.length + 1) 0 o o1)
    (hv : Ren (fun i => if i = H.length then q else i) (fun i => if i = H.length then w else 0) (H.length + 1) r r1) : Weak H r1 H1 r H' := by
  refine ⟨fun i => if i = H.length then q else i, fun i => if i = H.length then w else 0, fun i hi => ⟨if_neg (by omega), if_neg (by omega)⟩, by omega, fun i h1 h2 => ?_, fun i j hi hj e => ?_, fun k hk => ?_, by rw [hl]; exact hv⟩
  · have : i = H.length := by omega
    simp only [this, if_true]; exact hq
  · by_cases e1 : i = H.length <;> by_cases e2 : j = H.length
    · rw [e1, e2]
    · simp only [e1, e2, if_true, if_false] at e; omega
    · simp only [e1, e2, if_true, if_false] at e; omega
    · simp only [e1, e2, if_false] at e; exact e
  · by_cases e : k = H.length
    · subst e
      refine .inr ⟨_, .cells w kd cs, hn, by simp only [if_true]; exact hb, ?_⟩
      simp only [if_true]
      exact ⟨cs, by simp, RenL.plain hc⟩
    · rcases h k (by omega) with ⟨a, b⟩ | ⟨o, o1, a, b, c⟩
      · exact .inl ⟨by omega, a, b⟩
      · exact .inr ⟨o, o1, a, by simp only [e, if_false]; exact b, by simp only [e, if_false]; rw [hl]; exact c⟩

theorem append_op {H : AHeap} {j u n m es bytes : Nat} {cs xs : List AVal} (h : H[j]? = some (.cells u .opn cs)) (hl : cs.length = n * es) (he : 0 < es) (hm : m ≠ 0) (hc : xs.all AVal.isCell = true) (h1 : (n + m) * bytes ≤ room) (h2 : n + m ≤ room) :
    aAppendTo H es bytes (.slice ⟨j, u, 0⟩ n (.op es)) m xs = some (.slice ⟨j, u + 1, 0⟩ (n + m) (.op es), H.set j (.cells (u + 1) .opn (cs ++ xs))) := by
  simp only [aAppendTo, h]
  rw [if_neg hm, if_pos ⟨trivial, he, h1, h2⟩, if_pos ⟨trivial, hc⟩, if_pos ⟨trivial, hl⟩]
theorem append_nil {H : AHeap} {m es bytes : Nat} {xs : List AVal} (hm : m ≠ 0) (h1 : m * bytes ≤ room) (h2 : m ≤ room) :
    aAppendTo H es bytes .nils m xs = some (.slice ⟨H.length, 0, 0⟩ m (.op es), H ++ [.cells 0 .opn xs]) := by
  simp only [aAppendTo]
  rw [if_neg hm, if_pos ⟨h1, h2⟩]
/-- append(s, x..) where x.. is a new row. -/
theorem append_row {H : AHeap} {q m es bytes : Nat} {s : AVal} {xs : List AVal} (h : H[q]? = some (.cells 0 .exact xs)) (hl : xs.length = m * es) : aAppendS H es bytes s (.slice ⟨q, 0, 0⟩ m (.ex m)) = aAppendTo H es bytes s m xs := by
  simp only [aAppendS, aAppend, srcLen, srcCells]
  by_cases hz : m * es = 0
  · rw [if_pos hz, List.eq_nil_of_length_eq_zero (hl.trans hz)]
  · rw [if_neg hz, rd_of (r := ⟨q, 0, 0⟩) h rfl (fun _ => by simp [hl])]
    simp only [List.drop_zero, ← hl, List.take_length]

theorem splice_whole {α : Type} {l xs : List α} (h : xs.length = l.length) : splice l 0 xs = xs := by
  simp only [splice, List.take_zero, List.nil_append, Nat.zero_add, h, List.drop_length, List.append_nil]
theorem splice_tail {α : Type} {a : α} {l xs : List α} (h : xs.length = l.length) : splice (a :: l) 1 xs = a :: xs := by
  simp only [splice, List.take_succ_cons, List.take_zero, List.cons_append, List.nil_append]
  rw [List.drop_of_length_le (by simp; omega), List.append_nil]

/-- a text, and an array behind it -/
theorem build_two {a0 x : AVal} {z xs : List AVal} {n : Nat} (hx : x.sc = true) (h : xs.length = n) (hz : z.length = n) :
    aBuild (a0 :: z) (fun k => ([(0, 1), (1, n)] : List (Nat × Nat))[k]?) [(0, x), (1, .agg xs)] = some (.agg (x :: xs)) := by
  rw [x_build, x_fill]
  simp only [List.getElem?_cons_zero]
  rw [x_fill1 hx (by simp), x_fill]
  simp only [List.getElem?_cons_succ, List.getElem?_cons_zero, List.set_cons_zero]
  rw [x_fillN h (by simp; omega), x_fillNil, splice_tail (by omega)]
  rfl
/-- a row of one aggregate -/
theorem buildSlice_one {H : AHeap} {z cs : List AVal} {n : Nat} (h : cs.length = n) (hz : z.length = n) :
    aBuildSlice H n z 1 [(0, .agg cs)] = some (.slice ⟨H.length, 0, 0⟩ 1 (.ex 1), H ++ [.cells 0 .exact cs]) := by
  rw [x_buildSlice, x_fill]
  have hf : fillCells 1 z = z := by simp [fillCells]
  rw [hf, Nat.zero_mul, x_fillN h (by omega), x_fillNil, splice_whole (by omega)]
  rfl

/-- An element's cells in a row. -/
theorem flat_at {α β : Type} {f : β → List α} {es : Nat} (hf : ∀ b, (f b).length = es) : ∀ {l : List β} {k : Nat} {b : β}, l[k]? = some b → ∃ L R, (l.map f).flatten = L ++ f b ++ R ∧ L.length = k * es
  | [], k, b, h => by simp at h
  | x :: l, 0, b, h => by simp at h; subst h; exact ⟨[], (l.map f).flatten, by simp, by simp⟩
  | x :: l, k + 1, b, h => by
    obtain ⟨L, R, h1, h2⟩ := flat_at hf (l := l) (k := k) (b := b) (by simpa using h)
    exact ⟨f x ++ L, R, by simp [h1], by rw [List.length_append, hf, h2, Nat.succ_mul]; omega⟩
theorem drop_past {α : Type} {L R : List α} {n o : Nat} (h : L.length = n) : (L ++ R).drop (n + o) = R.drop o := by
  subst h; rw [← List.drop_drop, List.drop_left]
theorem flat_drop {α β : Type} {f : β → List α} {es o n : Nat} (hf : ∀ b, (f b).length = es) {l : List β} {k : Nat} {b : β} (h : l[k]? = some b) (ho : o + n ≤ es) : (((l.map f).flatten).drop (k * es + o)).take n = ((f b).drop o).take n := by
  obtain ⟨L, R, h1, h2⟩ := flat_at hf h
  rw [h1, List.append_assoc, drop_past h2, List.drop_append_of_le_length (by rw [hf]; omega), List.take_append_of_le_length (by simp [hf]; omega)]
/-! ### A set of texts -/
def ents (T : List (List UInt8)) : List (AVal × AVal) := T.map fun t => (.str t, .bool true)
theorem find_in {T : List (List UInt8)} {s : List UInt8} (h : s ∈ T) : ∀ i, ∃ j, findKey .str (.str s) (ents T) i = some (some (j, .bool true)) := by
  induction T with
  | nil => cases h
  | cons t T ih =>
    intro i
    by_cases e : s = t
    · subst e
      exact ⟨i, by simp [ents, findKey, keyEq]⟩
    · obtain ⟨j, hj⟩ := ih (by simpa [e] using h) (i + 1)
      refine ⟨j, ?_⟩
      have hf : (s == t) = false := by simpa using e
      simp only [ents, List.map_cons, findKey, keyEq, hf]
      exact hj
theorem find_out {T : List (List UInt8)} {s : List UInt8} (h : s ∉ T) : ∀ i, findKey .str (.str s) (ents T) i = some none := by
  induction T with
  | nil => intro i; rfl
  | cons t T ih =>
    intro i
    simp only [List.mem_cons, not_or] at h
    have hf : (s == t) = false := by simpa using h.1
    simp only [ents, List.map_cons, findKey, keyEq, hf]
    exact ih h.2 (i + 1)
theorem look_in {H : AHeap} {m mv : Nat} {T : List (List UInt8)} {s : List UInt8} (h : H[m]? = some (.map mv (ents T))) : aLookup H .str (.bool false) false (.map m) (.str s) = some (.bool (decide (s ∈ T))) := by
  simp only [aLookup, keyOk, cond_true, h]
  by_cases e : s ∈ T
  · obtain ⟨j, hj⟩ := find_in e 0
    rw [hj]; simp [e, lookupOut]
  · rw [find_out e 0]; simp [e, lookupOut]
theorem put_out {H : AHeap} {m mv : Nat} {T : List (List UInt8)} {s : List UInt8} (h : H[m]? = some (.map mv (ents T))) (e : s ∉ T) : aMapUpdate H .str (.map m) (.str s) (.bool true) = some (H.set m (.map (mv + 1) (ents (T ++ [s])))) := by
  simp only [aMapUpdate, keyOk, cond_true, h]
  rw [find_out e 0]
  simp [ents]
theorem ents_ren {T : List (List UInt8)} {ρ σ : Nat → Nat} {n v : Nat} : RenObj ρ σ n 0 (.map v (ents T)) (.map v (ents T)) := by
  refine ⟨ents T, rfl, RenL.plain ?_, RenL.plain ?_⟩
  · intro x hx; simp [ents] at hx; obtain ⟨t, _, rfl⟩ := hx; rfl
  · intro x hx; simp [ents] at hx; rw [← hx.2]; rfl
end Go.Abs

/- Branches that are known; results of several values. -/
namespace Go.Abs
open Go

theorem isB_tE {p : Prop} {d : Decidable p} {K : Bool → Prop} (h : p) : isB (.bool (@decide p d)) K = K true := by rw [decide_eq_true h]; rfl
theorem isB_fE {p : Prop} {d : Decidable p} {K : Bool → Prop} (h : ¬ p) : isB (.bool (@decide p d)) K = K false := by rw [decide_eq_false h]; rfl
theorem evB : type_of% (And.intro @List.getD_cons_zero.{0} <| And.intro @List.getD_cons_succ.{0} <| And.intro @List.getElem?_cons_zero.{0} <| And.intro @List.getElem?_cons_succ.{0} <| And.intro @List.set_cons_succ.{0} @List.set_cons_zero.{0}) := And.intro @List.getD_cons_zero.{0} <| And.intro @List.getD_cons_succ.{0} <| And.intro @List.getElem?_cons_zero.{0} <| And.intro @List.getElem?_cons_succ.{0} <| And.intro @List.set_cons_succ.{0} @List.set_cons_zero.{0}

/-- Results. -/
theorem tup_plain {l : List AVal} (h : ∀ x ∈ l, x.plain = true) : ∀ (ρ σ : Nat → Nat) (n : Nat), Ren ρ σ n (.tup l) (.tup l) := fun ρ σ n => by simp only [Ren]; exact ⟨_, rfl, RenL.plain h⟩
theorem agg_plain {l : List AVal} (h : ∀ x ∈ l, x.plain = true) : ∀ (ρ σ : Nat → Nat) (n : Nat), Ren ρ σ n (.agg l) (.agg l) := fun ρ σ n => by simp only [Ren]; exact ⟨_, rfl, RenL.plain h⟩
theorem Weak.any {H H1 : AHeap} {r : AVal} (hr : ∀ ρ σ n, Ren ρ σ n r r) (h : H <+: H1) : Weak H r H1 r H := Weak.cells (hr _ _ _) h
theorem Weak.refl {H : AHeap} {r : AVal} (hr : ∀ ρ σ n, Ren ρ σ n r r) : Weak H r H r H := Weak.cells (hr _ _ _) (List.prefix_refl _)
theorem plain_cons {x : AVal} {l : List AVal} (h : x.plain = true) (k : ∀ y ∈ l, y.plain = true) : ∀ y ∈ x :: l, y.plain = true := by
  intro y hy
  rcases List.mem_cons.1 hy with rfl | hy
  · exact h
  · exact k y hy
theorem plain_nil : ∀ y ∈ ([] : List AVal), y.plain = true := nofun
/-- A tuple of a plain row and a number: (sum, error). -/
theorem ren_pair {a b : AVal} (ha : ∀ ρ σ n, Ren ρ σ n a a) (hb : ∀ ρ σ n, Ren ρ σ n b b) : ∀ (ρ σ : Nat → Nat) (n : Nat), Ren ρ σ n (.tup [a, b]) (.tup [a, b]) := fun ρ σ n => by
  simp only [Ren]; exact ⟨_, rfl, by simp only [RenL]; exact ⟨_, _, rfl, ha _ _ _, _, _, rfl, hb _ _ _, rfl⟩⟩
theorem ren_trip {a b c : AVal} (ha : ∀ ρ σ n, Ren ρ σ n a a) (hb : ∀ ρ σ n, Ren ρ σ n b b) (hc : ∀ ρ σ n, Ren ρ σ n c c) : ∀ (ρ σ : Nat → Nat) (n : Nat), Ren ρ σ n (.tup [a, b, c]) (.tup [a, b, c]) := fun ρ σ n => by
  simp only [Ren]; exact ⟨_, rfl, by simp only [RenL]; exact ⟨_, _, rfl, ha _ _ _, _, _, rfl, hb _ _ _, _, _, rfl, hc _ _ _, rfl⟩⟩
theorem ren_p {a : AVal} (h : a.plain = true) : ∀ (ρ σ : Nat → Nat) (n : Nat), Ren ρ σ n a a := fun _ _ _ => Ren.plain h

/-- A slice of one's own that began as none. -/
def OwnO (B : AHeap) (sv : AVal) (es n : Nat) (cs : List AVal) : Prop :=
  cs.length = n * es ∧ ((sv = .nils ∧ n = 0) ∨ ∃ i v, sv = .slice ⟨i, v, 0⟩ n (.op es) ∧ B[i]? = some (.cells v .opn cs))
theorem OwnO.nils (B : AHeap) (es : Nat) : OwnO B .nils es 0 [] := ⟨by simp, .inl ⟨rfl, rfl⟩⟩
theorem OwnO.own {B : AHeap} {sv : AVal} {es n : Nat} {cs : List AVal} (h : OwnO B sv es n cs) : Own B sv es n cs := ⟨h.1, by
  rcases h.2 with h | ⟨i, v, h1, h2⟩
  · exact .inl h
  · exact .inr (.inr ⟨i, v, h1, h2⟩)⟩
theorem OwnO.view {B : AHeap} {sv : AVal} {es n : Nat} {cs : List AVal} (h : OwnO B sv es n cs) : View B sv es n cs := h.own.view
theorem OwnO.pre {B B' : AHeap} {sv : AVal} {es n : Nat} {cs : List AVal} (h : OwnO B sv es n cs) (k : B <+: B') : OwnO B' sv es n cs := ⟨h.1, by
  rcases h.2 with h | ⟨i, v, h1, h2⟩
  · exact .inl h
  · exact .inr ⟨i, v, h1, by rw [pre_get k (lt_of_some h2)]; exact h2⟩⟩
/-- append(s, x..), x a new row of m elements -/
theorem pushO {B : AHeap} {q m es bytes n : Nat} {sv : AVal} {cs xs : List AVal} (h : OwnO B sv es n cs) (he : 0 < es) (hm : m ≠ 0) (hq : B[q]? = some (.cells 0 .exact xs)) (hx : xs.length = m * es) (hc : xs.all AVal.isCell = true) (h1 : (n + m) * bytes ≤ room) (h2 : n + m ≤ room)
    {K : AVal → AHeap → Prop} (k : ∀ sv' B', OwnO B' sv' es (n + m) (cs ++ xs) → Keeps B sv B' → (slId sv' = slId sv ∨ (sv = .nils ∧ slId sv' = some B.length)) → K sv' B') :
    hb (aAppendS B es bytes sv (.slice ⟨q, 0, 0⟩ m (.ex m))) K := by
  rw [append_row hq hx]
  have hl2 : (cs ++ xs).length = (n + m) * es := by rw [List.length_append, h.1, hx, Nat.add_mul]
  rcases h.2 with ⟨rfl, rfl⟩ | ⟨i, v, rfl, hi⟩
  · have hcs : cs = [] := List.eq_nil_of_length_eq_zero (by simpa using h.1)
    subst hcs
    refine hb_i (append_nil hm (by simpa using h1) (by simpa using h2)) (k _ _ ⟨hl2, .inr ⟨B.length, 0, by simp, by simp⟩⟩ ⟨by simp, fun z hz _ => List.getElem?_append_left hz⟩ (.inr ⟨rfl, rfl⟩))
  · refine hb_i (append_op hi h.1 he hm hc h1 h2) (k _ _ ⟨hl2, .inr ⟨i, v + 1, rfl, by rw [List.getElem?_set_self (lt_of_some hi)]⟩⟩ ⟨by simp, fun z hz hne => List.getElem?_set_ne (fun e => hne (by rw [e]; rfl))⟩ (.inl rfl))

/-- append(s, x), x of one cell -/
theorem pushO1 {B : AHeap} {sv x z : AVal} {bytes n : Nat} {cs : List AVal} (h : OwnO B sv 1 n cs) (hx : x.sc = true) (h1 : (n + 1) * bytes ≤ room) (h2 : n + 1 ≤ room)
    {K : AVal → AHeap → Prop} (k : ∀ sv' B', OwnO B' sv' 1 (n + 1) (cs ++ [x]) → Keeps B sv B' → (slId sv' = slId sv ∨ (sv = .nils ∧ slId sv' = some (B.length + 1))) → K sv' B') :
    hb (aBuildSlice B 1 [z] 1 [(0, x)]) fun t B1 => hb (aAppendS B1 1 bytes sv t) K := by
  refine hb_i (v := .slice ⟨B.length, 0, 0⟩ 1 (.ex 1)) (H := B ++ [.cells 0 .exact [x]]) ?_ ?_
  · simp only [aBuildSlice, fillA, fillCells, List.replicate, List.flatten, sc_cells hx]
    rw [if_pos ⟨by cases x <;> simp_all [AVal.sc, AVal.defd], rfl, by simp⟩]
    rfl
  · have hp : B <+: B ++ [.cells 0 .exact [x]] := ⟨_, rfl⟩
    refine pushO (h.pre hp) (by decide) (by decide) (xs := [x]) (by simp) rfl (by simp [sc_cell hx]) h1 h2 fun sv' B' o kk hi => ?_
    refine k sv' B' o ⟨by have := kk.len; simp at this; omega, fun q hq hne => by rw [kk.get q (by simp; omega) hne, pre_get hp hq]⟩ ?_
    rcases hi with hi | ⟨hi, hi2⟩
    · exact .inl hi
    · exact .inr ⟨hi, by rw [hi2]; simp⟩
/-- append(s, x), x an aggregate -/
theorem pushON {B : AHeap} {sv : AVal} {z xs : List AVal} {es bytes n : Nat} {cs : List AVal} (h : OwnO B sv es n cs) (he : 0 < es) (hx : xs.length = es) (hz : z.length = es) (hc : xs.all AVal.isCell = true) (h1 : (n + 1) * bytes ≤ room) (h2 : n + 1 ≤ room)
    {K : AVal → AHeap → Prop} (k : ∀ sv' B', OwnO B' sv' es (n + 1) (cs ++ xs) → Keeps B sv B' → (slId sv' = slId sv ∨ (sv = .nils ∧ slId sv' = some (B.length + 1))) → K sv' B') :
    hb (aBuildSlice B es z 1 [(0, .agg xs)]) fun t B1 => hb (aAppendS B1 es bytes sv t) K := by
  refine hb_i (buildSlice_one hx hz) ?_
  have hp : B <+: B ++ [.cells 0 .exact xs] := ⟨_, rfl⟩
  refine pushO (h.pre hp) he (by decide) (xs := xs) (by simp) (by simp [hx]) hc h1 h2 fun sv' B' o kk hi => ?_
  refine k sv' B' o ⟨by have := kk.len; simp at this; omega, fun q hq hne => by rw [kk.get q (by simp; omega) hne, pre_get hp hq]⟩ ?_
  rcases hi with hi | ⟨hi, hi2⟩
  · exact .inl hi
  · exact .inr ⟨hi, by rw [hi2]; simp⟩

/-- A slice of plain cells that began as none is left: as one new block. -/
theorem OwnO.weak {H C : AHeap} {sv : AVal} {es n : Nat} {cs : List AVal} (h : OwnO C sv es n cs) (hn : 0 < n) (hc : ∀ x ∈ cs, x.plain = true) (p : H <+: C) (hid : ∀ i, slId sv = some i → H.length ≤ i) {r r1 : AVal}
    (hr : ∀ ρ σ N, H.length < N → Ren ρ σ N (.slice ⟨H.length, 0, 0⟩ n (.op es)) sv → Ren ρ σ N r r1) : Weak H r1 C r (H ++ [.cells 0 .opn cs]) := by
  rcases h.2 with ⟨_, e⟩ | ⟨i, v, rfl, hi⟩
  · omega
  · refine Weak.block hc p (hid i rfl) hi (hr _ _ _ (by omega) ?_)
    simp only [Ren]
    exact ⟨by omega, by simp⟩

end Go.Abs

/- One step after another. -/
namespace Go.Abs
open Go

theorem isB_T {A B : Prop} (k : A) : isB (.bool true) (fun b => cond b A B) := k
theorem isB_F {A B : Prop} (k : B) : isB (.bool false) (fun b => cond b A B) := k
theorem isB_ct {p : Prop} {d : Decidable p} {A B : Prop} (h : p) (k : A) : isB (.bool (@decide p d)) (fun b => cond b A B) := by rw [isB_tE h]; exact k
theorem isB_cf {p : Prop} {d : Decidable p} {A B : Prop} (h : ¬ p) (k : B) : isB (.bool (@decide p d)) (fun b => cond b A B) := by rw [isB_fE h]; exact k
theorem isB_c {p : Prop} {d : Decidable p} {A B : Prop} (h : p → A) (k : ¬ p → B) : isB (.bool (@decide p d)) (fun b => cond b A B) := by
  by_cases hp : p
  · exact isB_ct hp (h hp)
  · exact isB_cf hp (k hp)
theorem isB_bb {b : Bool} {A B : Prop} (h : b = true → A) (k : b = false → B) : isB (.bool b) (fun b => cond b A B) := by
  cases b
  · exact k rfl
  · exact h rfl
theorem onE_i {e : AExit} {A B : Prop} (k : A) : onE e e A B := by rw [onE_same]; exact k
theorem onE_s {e x : AExit} {A B : Prop} (h : e ≠ x) (k : B) : onE e x A B := by unfold onE; rw [if_neg h]; exact k
theorem e_ext0 {a : AVal} {l : List AVal} : aExtract (.tup (a :: l)) 0 = some a := rfl
theorem e_ext1 {a b : AVal} {l : List AVal} : aExtract (.tup (a :: b :: l)) 1 = some b := rfl
theorem e_ext2 {a b c : AVal} {l : List AVal} : aExtract (.tup (a :: b :: c :: l)) 2 = some c := rfl
end Go.Abs

/- Arguments that are structs. -/
namespace Go.Abs
open Go
section
variable {H : Type} {P : Program} {B : AHeap} {top : Bool} {t : TypeId}

/-- A slice whose elements are each of the form f b, and what is told of b. -/
theorem Arg.viewR {β : Type} {a : AVal} {d : DataW H} {e : TypeId} (f : β → List AVal) (R : β → DataW H → Prop) (hf : ∀ b, (f b).length = P.cellsOf e) (ht : P.underlying t = some (.slice e)) (h : Arg P B true t [a] d)
    (each : ∀ cs (d : DataW H), Arg P B false e cs d → ∃ b, cs = f b ∧ R b d) :
    ∃ l : List β, View B a (P.cellsOf e) l.length (l.map f).flatten ∧ l.length ≤ maxLen ∧ (l = [] ∨ ∃ elems spare, d = .slice elems spare ∧ ∀ (k : Nat) b, l[k]? = some b → ∃ x, elems[k]? = some x ∧ R b x) := by
  have flen : ∀ l : List β, ((l.map f).flatten).length = l.length * P.cellsOf e := by
    intro l
    induction l with
    | nil => simp
    | cons b l ih => simp only [List.map_cons, List.flatten_cons, List.length_append, ih, hf, List.length_cons]; rw [Nat.succ_mul]; omega
  rcases Arg.slice_inv ht h with ⟨h1, h2⟩ | ⟨h1, _⟩ | ⟨i, off, len, cap, cs', elems, spare, h1, rfl, hb, hc, hm, he, hs, hl, ha⟩
  · cases h1
    exact ⟨[], ⟨by simp, .inl ⟨rfl, rfl⟩⟩, Nat.zero_le _, .inl rfl⟩
  · cases h1
  · cases h1
    have key : ∀ k, k ≤ len → ∃ l : List β, l.length = k ∧ (cs'.drop off).take (k * P.cellsOf e) = (l.map f).flatten ∧ ∀ (m : Nat) b, l[m]? = some b → ∃ x, elems[m]? = some x ∧ R b x := by
      intro k
      induction k with
      | zero => intro _; exact ⟨[], rfl, by simp, fun m b h => by simp at h⟩
      | succ k ih =>
        intro hk
        obtain ⟨l, h1, h2, h3⟩ := ih (by omega)
        have hk2 : k < (elems ++ spare).length := by simp; omega
        have hk3 : k < elems.length := by omega
        have hx := List.getElem?_eq_getElem hk2
        obtain ⟨b, hbb, hR⟩ := each _ _ (ha k _ hx)
        rw [List.getElem_append_left hk3] at hR
        refine ⟨l ++ [b], by simp [h1], ?_, fun m b' hm => ?_⟩
        · rw [Nat.succ_mul, List.take_add, h2, List.drop_drop, List.map_append, List.flatten_append]
          congr 1
          simpa using hbb
        · by_cases hml : m < l.length
          · rw [List.getElem?_append_left hml] at hm; exact h3 m b' hm
          · rw [List.getElem?_append_right (by omega)] at hm
            have hm0 : m = k := by
              have := (List.getElem?_eq_some_iff.1 hm).1
              simp at this; omega
            subst hm0
            rw [h1] at hm
            simp at hm
            subst hm
            exact ⟨_, List.getElem?_eq_getElem hk3, hR⟩
    obtain ⟨l, h1, h2, h3⟩ := key len (Nat.le_refl _)
    refine ⟨l, ⟨flen l, .inr ⟨i, 1, off, _, .ro, cs', by rw [h1], hb, ?_, ?_, ?_⟩⟩, by omega, .inr ⟨elems, spare, rfl, h3⟩⟩
    · rw [h1]
      intro hz
      have hx : (elems ++ spare)[len - 1]? = some _ := List.getElem?_eq_getElem (by simp; omega)
      have := hl _ _ hx
      rw [show len - 1 + 1 = len by omega] at this
      exact this
    · rw [h1, h2]
    · rw [h1]; exact hc
end
end Go.Abs
