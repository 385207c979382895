/- Reading a slice's elements. -/
import Derived.Test.YtgcjchcmnlifmaaAbs26
namespace Go.Abs
open Go

/-- x[k], its cell. -/
theorem View.at1 {B B' : AHeap} {sv : AVal} {n : Nat} {cs : List AVal} (h : View B sv 1 n cs) {k : Int} {kd : IntKind} (h0 : 0 ≤ k) (hk : k < n) (p : B <+: B') : ∃ q, aIndexAddr 1 sv (.int kd k) = some q ∧ aLoad B' false 1 q = some (cs.getD k.toNat .undef) := by
  obtain ⟨hl, h⟩ := h
  rcases h with ⟨rfl, rfl⟩ | ⟨i, v, off, c, kd', cs', rfl, h2, h3, h4, _⟩
  · omega
  · refine ⟨.ptr ⟨i, v, off + k.toNat * 1⟩, if_pos ⟨h0, hk⟩, ?_⟩
    rw [x_load1, pre_get p (lt_of_some h2), h2, x_ld1 (by have := h3 (by omega); omega), h4]
    simp only [List.getD_eq_getElem?_getD]
    rw [List.getElem?_take_of_lt (by omega), List.getElem?_drop, Nat.mul_one]

/-- x[k], an element of many cells. -/
theorem View.atN {B B' : AHeap} {sv : AVal} {es n : Nat} {cs : List AVal} (h : View B sv es n cs) {k : Int} {kd : IntKind} (h0 : 0 ≤ k) (hk : k < n) (p : B <+: B') : ∃ q, aIndexAddr es sv (.int kd k) = some q ∧ aLoad B' true es q = some (.agg ((cs.drop (k.toNat * es)).take es)) := by
  obtain ⟨hl, h⟩ := h
  rcases h with ⟨rfl, rfl⟩ | ⟨i, v, off, c, kd', cs', rfl, h2, h3, h4, _⟩
  · omega
  · have hb : k.toNat * es + es ≤ n * es := by rw [← Nat.succ_mul]; exact Nat.mul_le_mul_right _ (by omega)
    refine ⟨.ptr ⟨i, v, off + k.toNat * es⟩, if_pos ⟨h0, hk⟩, ?_⟩
    rw [x_loadN, pre_get p (lt_of_some h2), h2, x_ldN (by have := h3 (by omega); omega), h4]
    rw [List.drop_take, List.take_take, List.drop_drop]
    congr 3
    omega

/-- the place of x[k].f -/
theorem View.fld1 {B B' : AHeap} {sv : AVal} {es n : Nat} {cs : List AVal} (h : View B sv es n cs) {k : Int} {kd : IntKind} {o : Nat} (h0 : 0 ≤ k) (hk : k < n) (ho : o < es) (p : B <+: B') :
    ∃ q q', aIndexAddr es sv (.int kd k) = some q ∧ aFieldAddr o q = some q' ∧ aLoad B' false 1 q' = some (cs.getD (k.toNat * es + o) .undef) := by
  obtain ⟨hl, h⟩ := h
  rcases h with ⟨rfl, rfl⟩ | ⟨i, v, off, c, kd', cs', rfl, h2, h3, h4, _⟩
  · omega
  · have hb : k.toNat * es + es ≤ n * es := by rw [← Nat.succ_mul]; exact Nat.mul_le_mul_right _ (by omega)
    refine ⟨.ptr ⟨i, v, off + k.toNat * es⟩, .ptr ⟨i, v, off + k.toNat * es + o⟩, if_pos ⟨h0, hk⟩, rfl, ?_⟩
    rw [x_load1, pre_get p (lt_of_some h2), h2, x_ld1 (by have := h3 (by omega); omega), h4]
    simp only [List.getD_eq_getElem?_getD]
    rw [List.getElem?_take_of_lt (by omega), List.getElem?_drop, Nat.add_assoc]

theorem e_samePtr {neq : Bool} {H : AHeap} {i v off : Nat} {kd : Kd} {cs : List AVal} (h : H[i]? = some (.cells v kd cs)) : aEql neq .ptr H (.ptr ⟨i, v, off⟩) (.ptr ⟨i, v, off⟩) = some (.bool (!neq)) := by
  simp only [aEql, aEq]
  rw [View.vera h, if_pos ⟨trivial, rfl, rfl⟩]
  cases neq <;> simp

theorem flatten_one {β : Type} (f : β → AVal) (l : List β) : (l.map fun s => [f s]).flatten = l.map f := by
  induction l with
  | nil => rfl
  | cons x l ih => simp only [List.map_cons, List.flatten_cons, ih]; rfl

theorem getD_str {l : List (List UInt8)} {k : Nat} : (l.map AVal.str).getD k .undef = if k < l.length then .str (l.getD k []) else .undef := by
  simp only [List.getD_eq_getElem?_getD, List.getElem?_map]
  split
  · rename_i h; rw [List.getElem?_eq_getElem h]; rfl
  · rename_i h; rw [List.getElem?_eq_none (by omega)]; rfl
theorem getD_str' {l : List (List UInt8)} {k : Nat} (h : k < l.length) : (l.map AVal.str).getD k .undef = .str (l.getD k []) := by rw [getD_str, if_pos h]
end Go.Abs
