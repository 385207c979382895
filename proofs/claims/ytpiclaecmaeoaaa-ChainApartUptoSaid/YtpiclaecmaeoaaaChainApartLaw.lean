/- A text of this proof. -/
import Derived.Test.YtpiclaecmaeoaaaRows
import Derived.WalkKit
import Derived.ProofKit
import Derived.OpenShut
import Derived.JoinedCond
import Derived.Test.YtpiclaecmaeoaaaA10

/- The law ChainApart: for every input that holds at most 1048576 values and letters together the call answers true, and what came in reads behind it as before. Conditions: the bound alone. -/
namespace Go.Proofs.Ytpiclaecmaeoaaa.chainApart
open Go Go.Abs Go.Sh Go.ChangeShapes Go.WideShapes Go.ChangeAt Go.RowKit

theorem own : ownKnob Try.prog.godebug = none := by kernel_rfl

set_option maxRecDepth 100000 in
theorem law {H : Type} (B : AHeap) (av : List AVal) (ds : List (DataW H)) (hk : Rows.uptoSmall H ds = true) (h : ArgAll Try.prog B [27] av ds) : ∃ H', S_cellaretlaw14_ChainApart av B (.bool true) H' := by
  obtain ⟨a0, av, d0, ds, rfl, rfl, h0, h⟩ := h
  obtain ⟨rfl, rfl⟩ := h
  have hb := own.bulk_mem (d := d0) (l := [d0]) List.mem_cons_self
  have h3 := of_decide_eq_true hk
  obtain ⟨cs, ds, rfl, rfl, l1, l2, l3⟩ := h0.fields (l := [(23, 0), (24, 32), (24, 33), (25, 34), (25, 35)]) (by kernel_rfl)
  rw [show Try.prog.cellsOf 27 = 36 by kernel_rfl] at l2
  have c23 : Try.prog.cellsOf 23 = 32 := by kernel_rfl
  have c24 : Try.prog.cellsOf 24 = 1 := by kernel_rfl
  have c25 : Try.prog.cellsOf 25 = 1 := by kernel_rfl
  have hg : ∀ i, i < 5 → ∃ d, ds[i]? = some d := fun i hi => ⟨_, List.getElem?_eq_getElem (by rw [l1]; exact hi)⟩
  obtain ⟨e0, g0⟩ := hg 0 (by decide)
  obtain ⟨e1, g1⟩ := hg 1 (by decide)
  obtain ⟨e2, g2⟩ := hg 2 (by decide)
  obtain ⟨e3, g3⟩ := hg 3 (by decide)
  obtain ⟨e4, g4⟩ := hg 4 (by decide)
  have m0 := l3 0 _ _ rfl g0
  have m1 := l3 1 _ _ rfl g1
  have m2 := l3 2 _ _ rfl g2
  have m3 := l3 3 _ _ rfl g3
  have m4 := l3 4 _ _ rfl g4
  simp only [c23, c24, c25] at m0 m1 m2 m3 m4
  have one : ∀ d : DataW H, 1 ≤ Rows.uptoBulk d := by
    intro d
    cases d with
    | lit x => cases x <;> simp [Rows.uptoBulk]
    | _ => simp [Rows.uptoBulk]
  have many : ∀ l : List (DataW H), l.length ≤ Rows.uptoBulkAll l := by
    intro l
    induction l with
    | nil => simp [Rows.uptoBulkAll]
    | cons d l ih => have := one d; simp only [Rows.uptoBulkAll, List.length_cons]; omega
  have hS : ∀ (elems spare : List (DataW H)) d, d ∈ elems → Rows.uptoBulk d ≤ Rows.uptoBulk (.slice elems spare) := by
    intro elems spare d hd
    have := own.bulk_mem hd
    simp only [Rows.uptoBulk]; omega
  have hL : ∀ s, s.length ≤ Rows.uptoBulk (.lit (.string s) : DataW H) := by
    intro s
    simp only [Rows.uptoBulk]; omega
  have hN : ∀ elems spare : List (DataW H), elems.length ≤ Rows.uptoBulk (.slice elems spare) := by
    intro elems spare
    have := many elems
    simp only [Rows.uptoBulk]; omega
  have hsm : ∀ (i : Nat) d, ds[i]? = some d → Rows.uptoBulk d ≤ 1048576 := by
    intro i d hd
    have := own.bulk_mem (List.mem_of_getElem? hd)
    simp only [Rows.uptoBulk] at hb
    omega
  obtain ⟨a, q0, ha⟩ := m0.bytes (n := 32) (e := 5) (by kernel_rfl) (by kernel_rfl) (by kernel_rfl) (by kernel_rfl)
  obtain ⟨x, l, q1, hx⟩ := row_in hS hL (e := 9) (by kernel_rfl) (by kernel_rfl) (by kernel_rfl) m1
  obtain ⟨y, m, q2, hy⟩ := row_in hS hL (e := 9) (by kernel_rfl) (by kernel_rfl) (by kernel_rfl) m2
  have single : ∀ (i : Nat), i < 36 → ∃ u, (cs.drop i).take 1 = [u] := fun i hi => ⟨_, by rw [List.drop_eq_getElem_cons (by omega)]; rfl⟩
  obtain ⟨u, q3⟩ := single 34 (by decide)
  obtain ⟨w, q4⟩ := single 35 (by decide)
  rw [q3] at m3
  rw [q4] at m4
  have m3' : Arg Try.prog B true 25 [u] e3 := m3
  have m4' : Arg Try.prog B true 25 [w] e4 := m4
  obtain ⟨us, rs, hu⟩ := rows_in hS hL hN (e := 24) (g := 9) (by kernel_rfl) (by kernel_rfl) (by kernel_rfl) (by kernel_rfl) (by kernel_rfl) m3' (hsm 3 _ g3)
  obtain ⟨ws, ss, hw⟩ := rows_in hS hL hN (e := 24) (g := 9) (by kernel_rfl) (by kernel_rfl) (by kernel_rfl) (by kernel_rfl) (by kernel_rfl) m4' (hsm 4 _ g4)
  have hcs : cs = a.map ofByte ++ [x, y, u, w] := by
    have e1 : cs = (cs.drop 0).take 32 ++ ((cs.drop 32).take 1 ++ ((cs.drop 33).take 1 ++ ((cs.drop 34).take 1 ++ (cs.drop 35).take 1))) := by
      have s5 : (cs.drop 35).take 1 = cs.drop 35 := List.take_of_length_le (by rw [List.length_drop]; omega)
      have st : ∀ i, (cs.drop i).take 1 ++ cs.drop (i + 1) = cs.drop i := fun i => by
        have := List.take_append_drop 1 (cs.drop i)
        rw [List.drop_drop] at this
        exact this
      rw [s5, st 34, st 33, st 32, List.drop_zero, List.take_append_drop]
    rw [e1, q0, q1, q2, q3, q4]
    rfl
  subst hcs
  exact ⟨_, a, x, y, u, w, l, m, us, ws, rs, ss, rfl, ha, hx (hsm 1 _ g1), hy (hsm 2 _ g2), hu, hw, rfl, rfl⟩

set_option maxRecDepth 100000 in
theorem contract (H : Type) (enc : TypeId × Value → H) (W : World) (base : Nat) (args : Array Value) (ds gs : List (DataW H)) (before : List MemPlace)
    (hval : ∀ (j : Nat) t v, Try.f3.params[j]? = some t → args[j]? = some v → Value.okWide Try.prog W .any base t v)
    (hW : DataW.Whole enc Try.prog Try.f3.params.toList Rows.chainApartSpec.vars false W args.toList ds gs before) (hk : Rows.uptoSmall H (ds ++ gs) = true) :
    Calls Try.prog 3 args W fun e W' => ∃ v, e = .returned v ∧ Rows.chainApartSpec.post enc Try.prog Try.f3 false true false false W args v W' := by
  have hg : gs = [] := by
    obtain ⟨p, q, _, hV, _⟩ := hW
    exact (trodVars_none hV).1
  subst hg
  rw [List.append_nil] at hk
  have hpar : Try.f3.params.toList = [27] := by kernel_rfl
  refine row_calls (m := 12) (tb := 4) own.cellaretlaw14_ChainApart.fn (by kernel_rfl) (by kernel_rfl) (by kernel_rfl) (by kernel_rfl) rfl ?_ hval hW ?_
  · intro ds hl
    rw [hpar] at hl
    match ds, hl with
    | [d0], _ => rfl
  · intro B av h
    rw [hpar] at h
    exact law B av ds hk h

set_option maxRecDepth 100000 in
theorem lifted (os : Os) (started : os.Started) (H : Type) (enc : TypeId × Value → H) (F : Stop.Interp) :
    ReturnsInHanded {} Try.checked os 3 .any ((Rows.OpenSpec.upto Rows.chainApartSpec).pre6 enc Try.prog Try.f3 Rows.chainApartUptoRow.domain false) (((Rows.OpenSpec.upto Rows.chainApartSpec).at F).post enc Try.prog Try.f3 false true false false) := by
  refine returnsInHanded_of_cond (C := Try.checked) (s := Rows.OpenSpec.upto Rows.chainApartSpec) (k := Rows.uptoSmall) rfl own started (by kernel_rfl) Try.func3
    (OpenSpec.witness (enc := enc) (C := Try.checked) (s := Rows.OpenSpec.upto Rows.chainApartSpec) (k := Rows.uptoSmall) rfl false ⟨#[], #[.agg #[.int .u8 0, .int .u8 0, .int .u8 0, .int .u8 0, .int .u8 0, .int .u8 0, .int .u8 0, .int .u8 0, .int .u8 0, .int .u8 0, .int .u8 0, .int .u8 0, .int .u8 0, .int .u8 0, .int .u8 0, .int .u8 0, .int .u8 0, .int .u8 0, .int .u8 0, .int .u8 0, .int .u8 0, .int .u8 0, .int .u8 0, .int .u8 0, .int .u8 0, .int .u8 0, .int .u8 0, .int .u8 0, .int .u8 0, .int .u8 0, .int .u8 0, .int .u8 0, .slice none 0 0, .slice none 0 0, .slice none 0 0, .slice none 0 0]], []⟩ 8 (by kernel_rfl) (by kernel_rfl) (by kernel_rfl)
      (x := ([.agg [.agg [.lit (.int .u8 0), .lit (.int .u8 0), .lit (.int .u8 0), .lit (.int .u8 0), .lit (.int .u8 0), .lit (.int .u8 0), .lit (.int .u8 0), .lit (.int .u8 0), .lit (.int .u8 0), .lit (.int .u8 0), .lit (.int .u8 0), .lit (.int .u8 0), .lit (.int .u8 0), .lit (.int .u8 0), .lit (.int .u8 0), .lit (.int .u8 0), .lit (.int .u8 0), .lit (.int .u8 0), .lit (.int .u8 0), .lit (.int .u8 0), .lit (.int .u8 0), .lit (.int .u8 0), .lit (.int .u8 0), .lit (.int .u8 0), .lit (.int .u8 0), .lit (.int .u8 0), .lit (.int .u8 0), .lit (.int .u8 0), .lit (.int .u8 0), .lit (.int .u8 0), .lit (.int .u8 0), .lit (.int .u8 0)], .nil, .nil, .nil, .nil]], [], [])) (by kernel_rfl) rfl (by kernel_rfl)) ?_
  intro W base args ds gs before hval hW _ hk _
  exact contract H enc W base args ds gs before hval hW hk

theorem proved : Rows.ChainApartUptoSaid :=
  OpenClaim.holds_of_cond 3 Try.f3 rfl rfl rfl rfl rfl rfl rfl ⟨rfl, rfl, rfl, rfl, rfl⟩ rfl rfl rfl rfl rfl (by kernel_rfl) Try.func3 (by kernel_rfl)
    (of_decide_eq_true (by kernel_rfl)) (by unfold Func.isWrapper; first | (rw [if_pos (by decide +kernel)]; kernel_rfl) | (rw [if_neg (by decide +kernel)]; exact ⟨rfl, rfl⟩))
    (fun os started H enc _ F => lifted os started H enc F)
end Go.Proofs.Ytpiclaecmaeoaaa.chainApart
