/- Words, bytes and numbers: what the operations make of them. -/
import Derived.Test.YtgcjchcmnlifmaaAbs21
import Derived.Laws.BitsLemmas
namespace Go.Abs
open Go

theorem U_inj {x y : BitVec 32} (h : U x = U y) : x = y := by
  simp only [U, AVal.int.injEq, true_and] at h
  exact BitVec.eq_of_toNat_eq (by omega)
theorem U_plain (x : BitVec 32) : (U x).plain = true := rfl
theorem ofByte_inj {x y : UInt8} (h : ofByte x = ofByte y) : x = y := by
  simp only [ofByte, AVal.int.injEq, true_and] at h
  exact UInt8.toNat.inj (by omega)

section
variable (x y : BitVec 32)
theorem ofInt_toNat : BitVec.ofInt (IntKind.bits .u32) (x.toNat : Int) = x := by
  show BitVec.ofInt 32 (x.toNat : Int) = x
  rw [BitVec.ofInt_natCast, BitVec.ofNat_toNat, BitVec.setWidth_eq]
theorem wrap_U (n : Nat) : IntKind.wrap .u32 (n : Int) = ((n % 4294967296 : Nat) : Int) := by
  rw [IntKind.wrap_u32]; omega
theorem wrap_U32 : IntKind.wrap .u32 (x.toNat : Int) = x.toNat := by
  have := x.isLt
  rw [wrap_U, Nat.mod_eq_of_lt (by omega)]

theorem U_add : aBin .add (U x) (U y) = some (U (x + y)) := by
  show some (AVal.int .u32 (IntKind.wrap .u32 ((x.toNat : Int) + y.toNat))) = _
  rw [← Int.natCast_add, wrap_U, U, BitVec.toNat_add]
theorem U_or : aBin .or (U x) (U y) = some (U (x ||| y)) := by
  show some (AVal.int .u32 (IntKind.wrap .u32 ((BitVec.ofInt (IntKind.bits .u32) (x.toNat : Int) ||| BitVec.ofInt (IntKind.bits .u32) (y.toNat : Int)).toNat : Int))) = _
  rw [ofInt_toNat, ofInt_toNat]
  exact congrArg (fun z => some (AVal.int .u32 z)) (wrap_U32 (x ||| y))
theorem U_and : aBin .and (U x) (U y) = some (U (x &&& y)) := by
  show some (AVal.int .u32 (IntKind.wrap .u32 ((BitVec.ofInt (IntKind.bits .u32) (x.toNat : Int) &&& BitVec.ofInt (IntKind.bits .u32) (y.toNat : Int)).toNat : Int))) = _
  rw [ofInt_toNat, ofInt_toNat]
  exact congrArg (fun z => some (AVal.int .u32 z)) (wrap_U32 (x &&& y))
theorem U_xor : aBin .xor (U x) (U y) = some (U (x ^^^ y)) := by
  show some (AVal.int .u32 (IntKind.wrap .u32 ((BitVec.ofInt (IntKind.bits .u32) (x.toNat : Int) ^^^ BitVec.ofInt (IntKind.bits .u32) (y.toNat : Int)).toNat : Int))) = _
  rw [ofInt_toNat, ofInt_toNat]
  exact congrArg (fun z => some (AVal.int .u32 z)) (wrap_U32 (x ^^^ y))
theorem U_not : aUn .xor (U x) = some (U (~~~x)) := by
  have h1 : aUn .xor (U x) = aBin .xor (U (BitVec.allOnes 32)) (U x) := rfl
  rw [h1, U_xor, BitVec.allOnes_xor]
theorem U_shl (k : IntKind) {n : Int} (h0 : 0 ≤ n) (h : n ≤ 32) : aBin .shl (U x) (.int k n) = some (U (x <<< n.toNat)) := by
  show (if n < 0 then none else some (AVal.int .u32 (IntKind.wrap .u32 ((x.toNat : Int) * 2 ^ (min n.toNat 32))))) = _
  rw [if_neg (by omega), Nat.min_eq_left (by omega)]
  have : (x.toNat : Int) * 2 ^ n.toNat = ((x.toNat * 2 ^ n.toNat : Nat) : Int) := by rw [Int.natCast_mul, Int.natCast_pow]; rfl
  rw [this, wrap_U, U, BitVec.toNat_shiftLeft, Nat.shiftLeft_eq]
theorem U_shr (k : IntKind) {n : Int} (h0 : 0 ≤ n) (h : n ≤ 32) : aBin .shr (U x) (.int k n) = some (U (x >>> n.toNat)) := by
  show (if n < 0 then none else some (AVal.int .u32 (((x.toNat : Int)).fdiv (2 ^ (min n.toNat 32))))) = _
  rw [if_neg (by omega), Nat.min_eq_left (by omega), U, BitVec.toNat_ushiftRight, Nat.shiftRight_eq_div_pow]
  have : ((2 : Int) ^ n.toNat) = ((2 ^ n.toNat : Nat) : Int) := by rw [Int.natCast_pow]; rfl
  rw [this, Int.fdiv_eq_ediv_of_nonneg _ (Int.natCast_nonneg _), Int.natCast_ediv]
theorem U_eql : aBin .eql (U x) (U y) = some (.bool (decide (x = y))) := by
  rw [U, U, eql64]
  have : ((x.toNat : Int) = y.toNat) = (x = y) := by
    rw [eq_iff_iff]; exact ⟨fun h => BitVec.eq_of_toNat_eq (by omega), fun h => by rw [h]⟩
  simp only [this]

theorem U_of_byte (b : UInt8) : aInt2 .u32 (ofByte b) = some (U (BitVec.ofNat 32 b.toNat)) := by
  show some (AVal.int .u32 (IntKind.wrap .u32 (b.toNat : Int))) = _
  rw [wrap_U, U, BitVec.toNat_ofNat]
theorem byte_of_U : aInt2 .u8 (U x) = some (ofByte (UInt8.ofNat x.toNat)) := by
  show some (AVal.int .u8 (IntKind.wrap .u8 (x.toNat : Int))) = _
  rw [IntKind.wrap_u8, ofByte, UInt8.toNat_ofNat']
  exact congrArg (fun z => some (AVal.int .u8 z)) (by omega)
theorem int_of_U : aInt2 .i64 (U x) = some (.int .i64 x.toNat) := by
  show some (AVal.int .i64 (IntKind.wrap .i64 (x.toNat : Int))) = _
  have := x.isLt
  rw [wrap64 (by omega) (by omega)]
end

theorem int_of_byte (b : UInt8) : aInt2 .i64 (ofByte b) = some (.int .i64 b.toNat) := by
  show some (AVal.int .i64 (IntKind.wrap .i64 (b.toNat : Int))) = _
  have := b.toNat_lt
  rw [wrap64 (by omega) (by omega)]
theorem byte_of_int (k : IntKind) {n : Int} (h : 0 ≤ n) : aInt2 .u8 (.int k n) = some (ofByte (UInt8.ofNat n.toNat)) := by
  show some (AVal.int .u8 (IntKind.wrap .u8 n)) = _
  rw [IntKind.wrap_u8, ofByte, UInt8.toNat_ofNat']
  exact congrArg (fun z => some (AVal.int .u8 z)) (by omega)
theorem int_of_int {n : Int} (k : IntKind) (h1 : -9223372036854775808 ≤ n) (h2 : n < 9223372036854775808) : aInt2 .i64 (.int k n) = some (.int .i64 n) := by
  show some (AVal.int .i64 (IntKind.wrap .i64 n)) = _
  rw [wrap64 h1 h2]
theorem u64_of_int {n : Int} (k : IntKind) (h1 : 0 ≤ n) (h2 : n < 18446744073709551616) : aInt2 .u64 (.int k n) = some (.int .u64 n) := by
  show some (AVal.int .u64 (IntKind.wrap .u64 n)) = _
  rw [wrapU64 h1 h2]
theorem mulU64 {a b : Int} (h1 : 0 ≤ a * b) (h2 : a * b < 18446744073709551616) : aBin .mul (.int .u64 a) (.int .u64 b) = some (.int .u64 (a * b)) := by
  show some (AVal.int .u64 (IntKind.wrap .u64 (a * b))) = _; rw [wrapU64 h1 h2]
theorem shr_int (k k' : IntKind) {a b : Int} (ha : 0 ≤ a) (hb : 0 ≤ b) (h : b ≤ k.bits) : aBin .shr (.int k a) (.int k' b) = some (.int k (a / 2 ^ b.toNat)) := by
  have e : aBin .shr (.int k a) (.int k' b) = if b < 0 then none else some (AVal.int k (a.fdiv (2 ^ (min b.toNat k.bits)))) := by cases k <;> rfl
  rw [e, if_neg (by omega), Nat.min_eq_left (by omega), Int.fdiv_eq_ediv_of_nonneg _ (Int.le_of_lt (Int.pow_pos (by decide)))]

/-! ### Lists of words, of bytes -/
def dU : AVal → Option (BitVec 32)
  | .int .u32 n => if 0 ≤ n ∧ n < 4294967296 then some (BitVec.ofNat 32 n.toNat) else none
  | _ => none
theorem dU_some {v : AVal} {x : BitVec 32} (h : dU v = some x) : v = U x := by
  unfold dU at h
  split at h
  · split at h
    · rename_i n hn
      simp only [Option.some.injEq] at h; subst h
      simp only [U, BitVec.toNat_ofNat, AVal.int.injEq, true_and]; omega
    · cases h
  · cases h

theorem map_plain {α : Type} {f : α → AVal} (hf : ∀ a, (f a).plain = true) (l : List α) : ∀ x ∈ l.map f, x.plain = true := by
  intro x hx
  obtain ⟨a, _, rfl⟩ := List.mem_map.1 hx
  exact hf a
theorem map_cell {α : Type} {f : α → AVal} (hf : ∀ a, (f a).isCell = true) (l : List α) : (l.map f).all AVal.isCell = true := by
  rw [List.all_eq_true]
  intro x hx
  obtain ⟨a, _, rfl⟩ := List.mem_map.1 hx
  exact hf a
theorem bytesOf_map (l : List UInt8) : bytesOf (l.map ofByte) = some l := by
  induction l with
  | nil => rfl
  | cons b l ih =>
    simp only [List.map_cons, bytesOf, ih]
    have : byteOf (ofByte b) = some b := by
      simp [byteOf, ofByte]
    rw [this]
end Go.Abs
