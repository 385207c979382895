/- One text of these: Node0, NodeW1, NodeP1, NodeP2, NodeP3, NodeP4, NodeP5, NodeP6, NodeP7, NodeQ. -/
import Derived.Test.YtkpcnmaohhgofaaOrc
import Derived.Test.YtkpcnmaohhgofaaAbsE
import Derived.Test.YtkpcnmaohhgofaaRon

/- Nodes of a tree of sums. -/
namespace Go.Sh
open Go Go.Abs


/-- The j-th node on the way up from a leaf (the 0-th: the leaf itself, behind the nodes). -/
def up (k j : Nat) : Nat := (k + 64) / 2 ^ j - 1
/-- Which of the ways up comes to a node. -/
def hit (k : Nat) (n : Int) : Option Nat := (List.range 6).find? fun j => decide ((up k (j + 1) : Int) = n)
def belowR (n s : Int) : List AVal :=
  if n < 0 ∨ 63 ≤ n ∨ s < 0 ∨ 1 < s then [.int .i64 0, .bool false, .int .i64 3]
  else if 2 * n + 1 + s < 63 then [.int .i64 (2 * n + 1 + s), .bool false, .int .i64 0] else [.int .i64 (2 * n + 1 + s - 63), .bool true, .int .i64 0]
def S_node_sum : Abs.Spec := fun args H r H' => ∃ o s, args = [o, .str s] ∧ s.length ≤ 1099511627776 ∧ r = .agg ((sum s).map ofByte) ∧ Osums H o [s] H'
end Go.Sh

/- What Go functions come to over abstract values, printed by a program (wtext.py). -/
namespace Go.Sh
open Go Go.Abs





def node_sum.w (x0 : AVal) (x1 : AVal) (H : AHeap) (K : AVal → AHeap → Prop) : Prop :=
 hb (aAlloc H (List.replicate 32 (.int .u8 0))) fun v1 H2 =>
 vb (aEql false .ptr H2 x0 .nilp) fun v3 =>
 isB v3 fun b4 => cond b4
 (cb (S_sha_Sum [x1] H2) fun v5 H6 =>
 sb (aStore H6 32 v1 v5) fun H7 =>
 fin .ret [.c true 32 (v1)] H7 K)
 (cb (S_oracle_Oracle_Sum [x0, x1] H2) fun v8 H9 =>
 sb (aStore H9 32 v1 v8) fun H10 =>
 fin .ret [.c true 32 (v1)] H10 K)

end Go.Sh

/- The functions of nodes come to what is told. -/
namespace Go.Sh
open Go Go.Abs


end Go.Sh

/- The functions of nodes, more of them. -/
namespace Go.Sh
open Go Go.Abs

end Go.Sh

/- Sums that are kept, and what is called beside them. -/
namespace Go.Sh
open Go Go.Abs

theorem OInv.agree {H : AHeap} {i v m mv : Nat} {lv : AVal} {T : List (List UInt8)} {C : AHeap} {mv' : Nat} {lv' : AVal} {T' : List (List UInt8)} (h : OInv H i v m mv lv T C mv' lv' T') {D : AHeap} (hl : H.length ≤ D.length)
    (hD : ∀ j, (j < H.length ∨ slId lv' = some j) → D[j]? = C[j]?) : OInv H i v m mv lv T D mv' lv' T' := by
  have hi := lt_of_some h.src.cell
  have hm := lt_of_some h.src.mp
  refine ⟨h.src, ⟨by rw [hD i (.inl hi)]; exact h.rep.cell, by rw [hD m (.inl hm)]; exact h.rep.mp, ?_, h.rep.nd, h.rep.short⟩, h.mvE, h.le, hl, fun k hk h1 h2 h3 => by rw [hD k (.inl hk)]; exact h.keep k hk h1 h2 h3, h.same, h.old, h.new⟩
  rcases h.rep.lst with h1 | ⟨j, u, rfl, h2, h3⟩
  · exact .inl h1
  · exact .inr ⟨j, u, rfl, by rw [hD j (.inr rfl)]; exact h2, h3⟩

theorem ORep.slt {H : AHeap} {i v m mv : Nat} {lv : AVal} {T : List (List UInt8)} (h : ORep H i v m mv lv T) {j : Nat} (hj : slId lv = some j) : j < H.length := by
  rcases h.lst with ⟨rfl, _⟩ | ⟨q, u, rfl, h2, _⟩
  · cases hj
  · simp only [slId, Option.some.injEq] at hj; subst hj; exact lt_of_some h2

/-- A call that sums, with things of one's own beside. -/
theorem sums_call {H H' : AHeap} {o : AVal} {ss : List (List UInt8)} (h : Osums H o ss H') (hs : ∀ s ∈ ss, s.length ≤ 1099511627776) (L : AHeap) :
    ∃ C2, Osums (H ++ L) o ss C2 ∧ (∀ k, k < L.length → C2[H.length + k]? = L[k]?) ∧ H.length + L.length ≤ C2.length ∧
      (∀ (D : AHeap) (r r1 : AVal), H.length ≤ D.length → (∀ j, j < C2.length → (j < H.length ∨ H.length + L.length ≤ j) → D[j]? = C2[j]?) → (∀ ρ σ n, Ren ρ σ n r r1) → Weak H r1 D r H') := by
  rcases h with ⟨rfl, rfl⟩ | ⟨i, v, m, mv, lv, T, rfl, hr, hT, rfl⟩
  · refine ⟨H' ++ L, .inl ⟨rfl, rfl⟩, fun k _ => app_get _ _ _, by simp, fun D r r1 hl hD hR => ?_⟩
    refine Weak.cells (hR _ _ _) (pre_of_get hl fun k hk => ?_)
    rw [hD k (by simp; omega) (.inl hk), List.getElem?_append_left hk]
  · have h0 := (OInv.refl hr).pre (pre_app H L)
    obtain ⟨C2, mv2, lv2, hO, hI, hl, hf⟩ := h0.sums (ss := ss) (by omega) hs
    have hlv : ∀ k, H.length ≤ k → slId lv ≠ some k := fun k hk e => by
      rcases hr.lst with ⟨rfl, _⟩ | ⟨j, u, rfl, h2, _⟩
      · cases e
      · simp only [slId, Option.some.injEq] at e; have := lt_of_some h2; omega
    refine ⟨C2, hO, fun k hk => ?_, by simpa using hl, fun D r r1 hlD hD hR => ?_⟩
    · rw [(hf (H.length + k) (by simp; omega) (by omega) (hlv _ (by omega))).1, app_get]
    · refine (hI.agree hlD fun j hj => ?_).weak fun ρ σ n _ _ => hR ρ σ n
      rcases hj with hj | hj
      · exact hD j (by simp at hl; omega) (.inl hj)
      · refine hD j (hI.rep.slt hj) ?_
        by_cases h1 : j < H.length
        · exact .inl h1
        · right
          by_cases h2 : j < (H ++ L).length
          · exact absurd hj (hf j h2 (by omega) (hlv _ (by omega))).2
          · simpa using h2

theorem node_sum.ok (args : List AVal) (H : AHeap) (r : AVal) (H' : AHeap) (h : S_node_sum args H r H') : ∃ x0 x1, args = [x0, x1] ∧ node_sum.w x0 x1 H fun r1 H1 => Weak H r1 H1 r H' := by
  obtain ⟨o, s, rfl, hs, rfl, h⟩ := h
  refine ⟨_, _, rfl, ?_⟩
  unfold node_sum.w
  have hsl := sum_len s
  refine hb_i rfl ?_
  obtain ⟨C2, hO, hL, hl, hW⟩ := sums_call h (by simpa using hs) [.cells 0 .exact (List.replicate 32 (.int .u8 0))]
  have hL0 := hL 0 (by decide)
  simp only [Nat.add_zero, List.getElem?_cons_zero] at hL0
  simp only [List.length_cons, List.length_nil, Nat.zero_add] at hl hW
  have fin : ∀ C3 : AHeap, C3 = C2 → sb (aStore C3 32 (.ptr ⟨H.length, 0, 0⟩) (.agg ((sum s).map ofByte))) fun H7 => fin .ret [.c true 32 (.ptr ⟨H.length, 0, 0⟩)] H7 fun r1 H1 => Weak H r1 H1 (.agg ((sum s).map ofByte)) H' := by
    rintro C3 rfl
    simp (disch := first | omega | (simp only [evS]; done) | (simp only [len_map, len_rep, hsl]; done) | fail) only [ev, evH, hL0]
    refine fin_ret (vs := [.agg ((sum s).map ofByte)]) (rvs_c (e_loadAll (by rw [List.getElem?_set_self (by omega)]) (by simp [hsl])) (rvs_nil _)) ?_
    exact hW _ _ _ (by simp; omega) (fun j _ hj => List.getElem?_set_ne (by omega)) (agg_plain (bytes_plain _))
  rcases h with ⟨rfl, rfl⟩ | ⟨i, v, m, mv, lv, T, rfl, hr, hT, h⟩
  · simp only [ev]
    refine cb_i _ _ ⟨s, rfl, hs, rfl, rfl⟩ (fin _ ?_)
    rcases hO with ⟨_, e⟩ | ⟨_, _, _, _, _, _, e, _⟩
    · exact e.symm
    · cases e
  · simp only [ev]
    exact cb_i _ _ ⟨_, s, rfl, hs, rfl, hO⟩ (fin _ rfl)

end Go.Sh

/- Split, With, Side. -/
namespace Go.Sh
open Go Go.Abs

/-- The text of an array. -/
theorem arr_str {H : AHeap} {q v n : Nat} {kd : Kd} {l : List UInt8} (h : H[q]? = some (.cells v kd (l.map ofByte))) (hl : l.length = n) : aBytes2Str H (.slice ⟨q, v, 0⟩ n (.ex n)) = some (.str l) := by
  simp only [aBytes2Str]
  rw [rd_of (r := ⟨q, v, 0⟩) h rfl (fun _ => by simp [hl])]
  simp only [List.drop_zero]
  rw [List.take_of_length_le (by simp [hl])]
  simp only [bytesOf_map]
theorem sliceArr_all (n q v : Nat) (es : Nat) : aSliceArr n es (.ptr ⟨q, v, 0⟩) none none none = some (.slice ⟨q, v, 0⟩ n (.ex n)) := by
  simp [aSliceArr, bnd]

theorem find_none {p : Nat → Bool} : ∀ {l : List Nat}, (∀ j ∈ l, p j = false) → l.find? p = none
  | [], _ => rfl
  | x :: l, h => by
    rw [List.find?_cons_of_neg (by rw [h x List.mem_cons_self]; decide)]
    exact find_none fun j hj => h j (List.mem_cons_of_mem _ hj)
theorem find_range {p : Nat → Bool} {j : Nat} (hp : p j = true) : ∀ (n : Nat), j < n → (∀ k, k < j → p k = false) → (List.range n).find? p = some j := by
  intro n hj hk
  have e : List.range n = List.range j ++ (List.range' j (n - j)) := by
    have h1 : List.range j = List.range' 0 j := List.range_eq_range'
    have h2 : List.range n = List.range' 0 n := List.range_eq_range'
    have h3 := List.range'_append (s := 0) (m := j) (n := n - j) (step := 1)
    rw [h1, h2]
    rw [show n = j + (n - j) by omega]
    simpa using h3.symm
  rw [e, List.find?_append, find_none (fun k hk' => hk k (List.mem_range.1 hk'))]
  rw [show n - j = (n - j - 1) + 1 by omega, List.range'_succ, Option.none_or, List.find?_cons_of_pos hp]
end Go.Sh

/- What must come at any rate; the laws of splits and sums. -/
namespace Go.Sh
open Go Go.Abs

theorem view_ex {B : AHeap} {q n es : Nat} {l : List AVal} (h : B[q]? = some (.cells 0 .exact l)) (hl : l.length = n * es) : View B (.slice ⟨q, 0, 0⟩ n (.ex n)) es n l :=
  ⟨hl, .inr ⟨q, 0, 0, _, _, _, rfl, h, fun _ => by omega, by rw [List.drop_zero, ← hl, List.take_length], Nat.le_refl _⟩⟩
/-- a store of a whole array -/
theorem store32 {H : AHeap} {q : Nat} {cs xs : List AVal} (h : H[q]? = some (.cells 0 .exact cs)) (hl : cs.length = 32) (hx : xs.length = 32) (hc : xs.all AVal.isCell = true) :
    aStore H 32 (.ptr ⟨q, 0, 0⟩) (.agg xs) = some (H.set q (.cells 0 .exact xs)) := e_storeAll h (by decide) hx hl hc

theorem store_new {H : AHeap} {n : Nat} {cs xs : List AVal} (hl : cs.length = n) (hx : xs.length = n) (hc : xs.all AVal.isCell = true) :
    aStore (H ++ [.cells 0 .exact cs]) n (.ptr ⟨H.length, 0, 0⟩) (.agg xs) = some (H ++ [.cells 0 .exact xs]) := by
  rw [e_storeAll (app_get0 _ _) (by decide) hx hl hc, app_set0]; rfl
theorem load_new {H : AHeap} {n : Nat} {cs : List AVal} (hl : cs.length = n) : aLoad (H ++ [.cells 0 .exact cs]) true n (.ptr ⟨H.length, 0, 0⟩) = some (.agg cs) := e_loadAll (app_get0 _ _) hl

end Go.Sh

/- The laws of splits and sums. -/
namespace Go.Sh
open Go Go.Abs

theorem fin_bool {H H' : AHeap} {v : AVal} (h : v = .bool true) (p : H' <+: H) : fin .ret [.v v] H fun r1 H1 => Weak H' r1 H1 (.bool true) H' := by
  subst h
  exact fin_ret (vs := [.bool true]) (rvs_v (rvs_nil _)) (Weak.plain rfl p)

end Go.Sh

/- The law of sums; the law of ways. -/
namespace Go.Sh
open Go Go.Abs

theorem belowR_bad {n s : Int} (h : n < 0 ∨ 63 ≤ n ∨ s < 0 ∨ 1 < s) : belowR n s = [.int .i64 0, .bool false, .int .i64 3] := if_pos h
theorem belowR_in {n s : Int} (h : ¬ (n < 0 ∨ 63 ≤ n ∨ s < 0 ∨ 1 < s)) (k : 2 * n + 1 + s < 63) : belowR n s = [.int .i64 (2 * n + 1 + s), .bool false, .int .i64 0] := by
  unfold belowR; rw [if_neg h, if_pos k]
theorem belowR_leaf {n s : Int} (h : ¬ (n < 0 ∨ 63 ≤ n ∨ s < 0 ∨ 1 < s)) (k : ¬ 2 * n + 1 + s < 63) : belowR n s = [.int .i64 (2 * n + 1 + s - 63), .bool true, .int .i64 0] := by
  unfold belowR; rw [if_neg h, if_neg k]

theorem below_ok (n s : Int) : ∃ (a b e : AVal), belowR n s = [a, b, e] ∧ (((n < 0 ∨ 63 ≤ n ∨ s < 0 ∨ 1 < s) ∧ a = .int .i64 0 ∧ b = .bool false ∧ e = .int .i64 3) ∨
    (¬ (n < 0 ∨ 63 ≤ n ∨ s < 0 ∨ 1 < s) ∧ 2 * n + 1 + s < 63 ∧ a = .int .i64 (2 * n + 1 + s) ∧ b = .bool false ∧ e = .int .i64 0) ∨
    (¬ (n < 0 ∨ 63 ≤ n ∨ s < 0 ∨ 1 < s) ∧ ¬ 2 * n + 1 + s < 63 ∧ a = .int .i64 (2 * n + 1 + s - 63) ∧ b = .bool true ∧ e = .int .i64 0)) := by
  by_cases h : n < 0 ∨ 63 ≤ n ∨ s < 0 ∨ 1 < s
  · exact ⟨_, _, _, belowR_bad h, .inl ⟨h, rfl, rfl, rfl⟩⟩
  · by_cases k : 2 * n + 1 + s < 63
    · exact ⟨_, _, _, belowR_in h k, .inr (.inl ⟨h, k, rfl, rfl, rfl⟩)⟩
    · exact ⟨_, _, _, belowR_leaf h k, .inr (.inr ⟨h, k, rfl, rfl, rfl⟩)⟩

end Go.Sh

/- Functions that leave what was there as it was. -/
namespace Go.Sh
open Go Go.Abs

theorem oracle_New.quiet {args : List AVal} {H : AHeap} {r : AVal} {H' : AHeap} (h : S_oracle_New args H r H') : H <+: H' := by
  unfold S_oracle_New at h; grind [pre_app, pre_of_eq, newO]
end Go.Sh
