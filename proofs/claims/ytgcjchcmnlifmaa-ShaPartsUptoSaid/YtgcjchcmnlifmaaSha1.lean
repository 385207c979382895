/- What the other functions of the package sha come to. -/
import Derived.Test.YtgcjchcmnlifmaaSha0
import Derived.Test.YtgcjchcmnlifmaaAbs25
namespace Go.Sh
open Go Go.Abs

def dig (n : Nat) : UInt8 := ([48, 49, 50, 51, 52, 53, 54, 55, 56, 57, 97, 98, 99, 100, 101, 102] : List UInt8).getD n 0
/-- A sum's digits. -/
def hex (d : List UInt8) : List UInt8 := (d.map fun b => [dig (b.toNat / 16), dig (b.toNat % 16)]).flatten
def S_sha_Hex : Abs.Spec := fun args H r H' => ∃ d : List UInt8, args = [.agg (d.map ofByte)] ∧ d.length = 32 ∧ r = .str (hex d) ∧ H' = H

/-- What is not yet worked on. -/
def rest (all : List UInt8) : List UInt8 := all.drop (64 * (all.length / 64))
def hcells (all : List UInt8) (rv : AVal) : List AVal := (eat (all.length / 64) first all).map U ++ [rv, .int .i64 all.length]

/-- A hasher that was given a text. -/
structure HRep (H : AHeap) (i v : Nat) (all : List UInt8) (rv : AVal) : Prop where
  cell : H[i]? = some (.cells v .exact (hcells all rv))
  own : Own H rv 1 (rest all).length ((rest all).map ofByte)
  ne : slId rv ≠ some i
  len : all.length ≤ 549755813888
  full : rest all = [] → rv = .nils

theorem HRep.pre {H K : AHeap} {i v : Nat} {all : List UInt8} {rv : AVal} (h : HRep H i v all rv) (k : H <+: K) : HRep K i v all rv :=
  ⟨by rw [pre_get k (lt_of_some h.cell)]; exact h.cell, h.own.pre k, h.ne, h.len, h.full⟩

def S_sha_New : Abs.Spec := fun args H r H' => args = [] ∧ r = .ptr ⟨H.length, 0, 0⟩ ∧ H' = H ++ [.cells 0 .exact (hcells [] .nils)]
theorem HRep.new (H : AHeap) : HRep (H ++ [.cells 0 .exact (hcells [] .nils)]) H.length 0 [] .nils :=
  ⟨by simp, Own.nils _ _, by simp [slId], by simp, fun _ => rfl⟩

def addRv (H : AHeap) (all : List UInt8) : AVal := if rest all = [] then .nils else .slice ⟨H.length, 0, 0⟩ (rest all).length (.op 1)
def addH (H : AHeap) (i v : Nat) (all : List UInt8) : AHeap :=
  if rest all = [] then H.set i (.cells v .exact (hcells all .nils))
  else (H ++ [AObj.cells 0 .opn ((rest all).map ofByte)]).set i (.cells v .exact (hcells all (addRv H all)))
theorem HRep.add {H : AHeap} {i v : Nat} {all : List UInt8} (hi : i < H.length) (hl : all.length ≤ 549755813888) : HRep (addH H i v all) i v all (addRv H all) := by
  unfold addH
  by_cases h : rest all = []
  · rw [if_pos h]
    have e : addRv H all = .nils := if_pos h
    rw [e]
    refine ⟨by rw [List.getElem?_set_self hi], ?_, by simp [slId], hl, fun _ => rfl⟩
    rw [h]; exact Own.nils _ _
  · rw [if_neg h]
    have e : addRv H all = .slice ⟨H.length, 0, 0⟩ (rest all).length (.op 1) := if_neg h
    rw [e]
    refine ⟨by rw [List.getElem?_set_self (by simp; omega)], ⟨by simp, .inr (.inr ⟨H.length, 0, rfl, ?_⟩)⟩, ?_, hl, fun e => absurd e h⟩
    · rw [List.getElem?_set_ne (by omega)]; simp
    · simp only [slId]; intro e; cases e; omega

def S_sha_Hasher_Add : Abs.Spec := fun args H r H' =>
  (∃ s, args = [.nilp, .str s] ∧ r = .nilp ∧ H' = H) ∨
  (∃ i v s all rv, args = [.ptr ⟨i, v, 0⟩, .str s] ∧ HRep H i v all rv ∧ (all ++ s).length ≤ 549755813888 ∧ r = .ptr ⟨i, v, 0⟩ ∧ H' = addH H i v (all ++ s))
def S_sha_Hasher_Digest_1 : Abs.Spec := fun args H r H' => ∃ i v j w h s, args = [.ptr ⟨i, v, 0⟩, .ptr ⟨j, w, 0⟩] ∧ H[i]? = some (.cells v .exact (h.map U)) ∧ h.length = 8 ∧ H[j]? = some (.cells w .exact [.str s]) ∧ 64 ≤ s.length ∧ i ≠ j ∧
  r = .tup [] ∧ H' = (H.set i (.cells v .exact ((work h (s.take 64)).map U))).set j (.cells w .exact [.str (s.drop 64)])
def S_sha_Hasher_Digest : Abs.Spec := fun args H r H' =>
  (args = [.nilp] ∧ r = .agg ((sum []).map ofByte) ∧ H' = H) ∨
  (∃ i v all rv, args = [.ptr ⟨i, v, 0⟩] ∧ HRep H i v all rv ∧ r = .agg ((sum all).map ofByte) ∧ H' = H)
def S_sha_Pad : Abs.Spec := fun args H r H' => ∃ s, args = [.str s] ∧ s.length ≤ 1099511627776 ∧ r = .str (pad s) ∧ H' = H
def S_sha_Work : Abs.Spec := fun args H r H' => ∃ h s, args = [.agg (h.map U), .str s] ∧ h.length = 8 ∧ H' = H ∧
  r = if s.length = 64 then .tup [.agg ((work h s).map U), .int .i64 0] else .tup [.agg (List.replicate 8 (.int .u32 0)), .int .i64 6]
def S_sha_Constant : Abs.Spec := fun args H r H' => ∃ k : Int, args = [.int .i64 k] ∧ H' = H ∧
  r = if 0 ≤ k ∧ k < 64 then .tup [U (kk.getD k.toNat 0), .int .i64 0] else .tup [.int .u32 0, .int .i64 3]
def S_cellaretlaw03_awake : Abs.Spec := fun args H r H' => args = [] ∧ r = .bool true ∧ H' = H
def S_cellaretlaw03_ShaHex : Abs.Spec := fun args H r H' => ∃ d : List UInt8, args = [.agg (d.map ofByte)] ∧ d.length = 32 ∧ r = .bool true ∧ H' = H

end Go.Sh
