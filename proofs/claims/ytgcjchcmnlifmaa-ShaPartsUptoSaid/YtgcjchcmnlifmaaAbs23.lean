/- One step at a time. -/
import Derived.Test.YtgcjchcmnlifmaaAbs22
namespace Go.Abs
open Go

theorem vb_i {r : Option AVal} {v : AVal} {K : AVal → Prop} (h : r = some v) (k : K v) : vb r K := by subst h; exact k
theorem hb_i {r : Option (AVal × AHeap)} {v : AVal} {H : AHeap} {K : AVal → AHeap → Prop} (h : r = some (v, H)) (k : K v H) : hb r K := by subst h; exact k
theorem sb_i {r : Option AHeap} {H : AHeap} {K : AHeap → Prop} (h : r = some H) (k : K H) : sb r K := by subst h; exact k
theorem cb_i {R : AVal → AHeap → Prop} {K : AVal → AHeap → Prop} (v : AVal) (H : AHeap) (h : R v H) (k : K v H) : cb R K := ⟨v, H, h, k⟩
theorem isB_d {p : Prop} [Decidable p] {K : Bool → Prop} (h1 : p → K true) (h2 : ¬ p → K false) : isB (.bool (decide p)) K := by
  by_cases h : p
  · simpa [isB, h] using h1 h
  · simpa [isB, h] using h2 h
theorem isB_t {p : Prop} [Decidable p] {K : Bool → Prop} (h : p) (k : K true) : isB (.bool (decide p)) K := by simpa [isB, h] using k
theorem isB_f {p : Prop} [Decidable p] {K : Bool → Prop} (h : ¬ p) (k : K false) : isB (.bool (decide p)) K := by simpa [isB, h] using k
theorem isB_b {b : Bool} {K : Bool → Prop} (h1 : b = true → K true) (h2 : b = false → K false) : isB (.bool b) K := by
  cases b
  · exact h2 rfl
  · exact h1 rfl
theorem fin_ret {rs : List Rv} {H : AHeap} {K : AVal → AHeap → Prop} {vs : List AVal} (h : rvs H rs = some vs) (k : K (tup1 vs) H) : fin .ret rs H K := ⟨.inr rfl, by rw [h]; exact k⟩
theorem fin_normal {rs : List Rv} {H : AHeap} {K : AVal → AHeap → Prop} {vs : List AVal} (h : rvs H rs = some vs) (k : K (tup1 vs) H) : fin .normal rs H K := ⟨.inl rfl, by rw [h]; exact k⟩
theorem JoinP.mk {A : (AExit → List AVal → AHeap → Prop) → Prop} {K : AExit → List AVal → AHeap → Prop} (Q : AExit → List AVal → AHeap → Prop) (h : A Q) (k : ∀ e vs H, Q e vs H → K e vs H) : JoinP A K := ⟨Q, h, k⟩

/-! ### What single operations give -/
theorem e_idxAddrArr {n es : Nat} {r : Ref} {kd : IntKind} {k : Int} (h0 : 0 ≤ k) (h1 : k < n) : aIndexAddrArr n es (.ptr r) (.int kd k) = some (.ptr ⟨r.id, r.ver, r.off + k.toNat * es⟩) := if_pos ⟨h0, h1⟩
theorem e_idxAddr {es n : Nat} {r : Ref} {c : Cap} {kd : IntKind} {k : Int} (h0 : 0 ≤ k) (h1 : k < n) : aIndexAddr es (.slice r n c) (.int kd k) = some (.ptr ⟨r.id, r.ver, r.off + k.toNat * es⟩) := if_pos ⟨h0, h1⟩
theorem e_idxStr {s : List UInt8} {kd : IntKind} {k : Int} (h0 : 0 ≤ k) (h1 : k < s.length) : aIndexStr (.str s) (.int kd k) = some (ofByte (s.getD k.toNat 0)) := by
  have h2 : k.toNat < s.length := by omega
  simp [aIndexStr, h0, h2]
theorem e_fieldAddr (off : Nat) (r : Ref) : aFieldAddr off (.ptr r) = some (.ptr ⟨r.id, r.ver, r.off + off⟩) := rfl
theorem e_idxArr1 {n : Nat} {cs : List AVal} {kd : IntKind} {k : Int} (h0 : 0 ≤ k) (h1 : k < n) (h2 : k < cs.length) : aIndexArr n false 1 (.agg cs) (.int kd k) = some (cs.getD k.toNat .undef) := by
  have h3 : k.toNat < cs.length := by omega
  simp [aIndexArr, aPart, h0, h1, h3, List.getD]
theorem e_lenSt (s : List UInt8) : lenSt (.str s) = some (.int .i64 s.length) := rfl
theorem e_lenSl (r : Ref) (n : Nat) (c : Cap) : lenSl (.slice r n c) = some (.int .i64 n) := rfl
theorem e_lenNil : lenSl .nils = some (.int .i64 0) := rfl
theorem e_alloc (H : AHeap) (z : List AVal) : aAlloc H z = some (.ptr ⟨H.length, 0, 0⟩, H ++ [.cells 0 .exact z]) := rfl
theorem e_box {H : AHeap} {x : AVal} (h : x.defd = true) : aBox H x = some (.ptr ⟨H.length, 0, 0⟩, H ++ [.cells 0 .exact x.cells]) := if_pos h
theorem e_nilCheck (r : Ref) : aNilCheck (.ptr r) = some (.ptr r) := rfl
theorem e_extract (vs : List AVal) (i : Nat) : aExtract (.tup vs) i = vs[i]? := rfl
theorem e_pick (t : Bool) (a b : AVal) : aPick (.bool t) a b = some (bif t then a else b) := rfl
theorem e_not (b : Bool) : aUn .not (.bool b) = some (.bool !b) := rfl

theorem e_sliceStrTo {s : List UInt8} {kd : IntKind} {h : Int} (h0 : 0 ≤ h) (h1 : h ≤ s.length) : aSliceStr (.str s) none (some (.int kd h)) = some (.str (s.take h.toNat)) := by
  have h2 : h.toNat ≤ s.length := by omega
  simp [aSliceStr, bnd, h0, h2]
theorem e_sliceStrFrom {s : List UInt8} {kd : IntKind} {l : Int} (h0 : 0 ≤ l) (h1 : l ≤ s.length) : aSliceStr (.str s) (some (.int kd l)) none = some (.str (s.drop l.toNat)) := by
  have h2 : l.toNat ≤ s.length := by omega
  simp [aSliceStr, bnd, h0, h2]
theorem e_sliceStr {s : List UInt8} {kd kd' : IntKind} {l h : Int} (h0 : 0 ≤ l) (h1 : l ≤ h) (h2 : h ≤ s.length) : aSliceStr (.str s) (some (.int kd l)) (some (.int kd' h)) = some (.str ((s.take h.toNat).drop l.toNat)) := by
  have h3 : l.toNat ≤ h.toNat ∧ h.toNat ≤ s.length := by omega
  have h4 : 0 ≤ h := by omega
  simp [aSliceStr, bnd, h0, h4, h3]

/-! ### Cells of the heap -/
theorem splice_one {α : Type} (cs : List α) (k : Nat) (x : α) (h : k < cs.length) : splice cs k [x] = cs.set k x := by
  simp only [splice, List.length_cons, List.length_nil]
  rw [List.set_eq_take_append_cons_drop, if_pos h]; simp
theorem e_loadAgg {H : AHeap} {i v off n : Nat} {kd : Kd} {cs : List AVal} (h : H[i]? = some (.cells v kd cs)) (hl : off + n ≤ cs.length) : aLoad H true n (.ptr ⟨i, v, off⟩) = some (.agg ((cs.drop off).take n)) := by
  simp only [aLoad, cond_true, rd_of (r := ⟨i, v, off⟩) h rfl (fun _ => hl)]
/-- A whole array, a whole struct. -/
theorem e_loadAll {H : AHeap} {i v n : Nat} {kd : Kd} {cs : List AVal} (h : H[i]? = some (.cells v kd cs)) (hl : cs.length = n) : aLoad H true n (.ptr ⟨i, v, 0⟩) = some (.agg cs) := by
  rw [e_loadAgg h (by omega)]; simp [← hl]
theorem e_load1 {H : AHeap} {i v off n : Nat} {kd : Kd} {cs : List AVal} (h : H[i]? = some (.cells v kd cs)) (hl : off < cs.length) : aLoad H false n (.ptr ⟨i, v, off⟩) = some (cs.getD off .undef) := by
  simp only [aLoad, cond_false, rd_of (r := ⟨i, v, off⟩) (n := 1) h rfl (fun _ => hl)]
  rw [List.head?_take]
  simp [List.getD, hl]
theorem e_store {H : AHeap} {i v off n : Nat} {kd : Kd} {cs : List AVal} {x : AVal} (h : H[i]? = some (.cells v kd cs)) (hk : kd ≠ .ro) (hn : x.cells.length = n) (hl : off + n ≤ cs.length) (hc : x.cells.all AVal.isCell = true) :
    aStore H n (.ptr ⟨i, v, off⟩) x = some (H.set i (.cells v kd (splice cs off x.cells))) := by
  simp only [aStore, hn, if_true]
  exact wr_of h rfl hk (by simpa [hn] using hl) hc
theorem e_storeAll {H : AHeap} {i v n : Nat} {kd : Kd} {cs xs : List AVal} (h : H[i]? = some (.cells v kd cs)) (hk : kd ≠ .ro) (hn : xs.length = n) (hl : cs.length = n) (hc : xs.all AVal.isCell = true) :
    aStore H n (.ptr ⟨i, v, 0⟩) (.agg xs) = some (H.set i (.cells v kd xs)) := by
  rw [e_store (x := .agg xs) h hk hn (by omega) hc]; simp [splice, AVal.cells, hn, ← hl]
theorem e_store1 {H : AHeap} {i v off : Nat} {kd : Kd} {cs : List AVal} {x : AVal} (h : H[i]? = some (.cells v kd cs)) (hk : kd ≠ .ro) (hx : x.cells = [x]) (hl : off < cs.length) (hc : x.isCell = true) :
    aStore H 1 (.ptr ⟨i, v, off⟩) x = some (H.set i (.cells v kd (cs.set off x))) := by
  rw [e_store h hk (by rw [hx]; rfl) (by omega) (by rw [hx]; simp [hc]), hx, splice_one _ _ _ hl]
theorem splice_all {α : Type} (cs xs : List α) (h : xs.length = cs.length) : splice cs 0 xs = xs := by simp [splice, h]

theorem rvs_nil (H : AHeap) : rvs H [] = some [] := rfl
theorem rvs_v {H : AHeap} {x : AVal} {rs : List Rv} {vs : List AVal} (h : rvs H rs = some vs) : rvs H (.v x :: rs) = some (x :: vs) := by simp only [rvs, Rv.get, h]
theorem rvs_c {H : AHeap} {b : Bool} {n : Nat} {p v : AVal} {rs : List Rv} {vs : List AVal} (h1 : aLoad H b n p = some v) (h : rvs H rs = some vs) : rvs H (.c b n p :: rs) = some (v :: vs) := by simp only [rvs, Rv.get, h, h1]
end Go.Abs
