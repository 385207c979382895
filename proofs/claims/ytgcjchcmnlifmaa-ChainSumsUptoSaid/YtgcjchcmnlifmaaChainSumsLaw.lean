/- A text of this proof. -/
import Derived.Test.YtgcjchcmnlifmaaRows
import Derived.WalkKit
import Derived.ProofKit
import Derived.OpenShut
import Derived.JoinedCond
import Derived.Test.YtgcjchcmnlifmaaA4

/- The law ChainSums: for every input that holds at most 1048576 values and letters together the call answers true, and what came in reads behind it as before. Conditions: the bound alone. -/
namespace Go.Proofs.Ytgcjchcmnlifmaa.chainSums
open Go Go.Abs Go.Sh Go.ChangeShapes Go.WideShapes Go.ChangeAt Go.RowKit

theorem own : ownKnob Try.prog.godebug = none := by kernel_rfl

set_option maxRecDepth 100000 in
theorem law {H : Type} (B : AHeap) (av : List AVal) (ds : List (DataW H)) (hk : Rows.uptoSmall H ds = true) (h : ArgAll Try.prog B [70] av ds) : ∃ H', S_cellaretlaw14_ChainSums av B (.bool true) H' := by
  obtain ⟨a0, av, d0, ds, rfl, rfl, h0, h⟩ := h
  obtain ⟨rfl, rfl⟩ := h
  obtain ⟨cs, ds, rfl, rfl, l1, l2, l3⟩ := h0.fields (l := [(9, 0), (3, 1), (3, 2), (9, 3)]) (by kernel_rfl)
  rw [show Try.prog.cellsOf 70 = 4 by kernel_rfl] at l2
  have c9 : Try.prog.cellsOf 9 = 1 := by kernel_rfl
  have c3 : Try.prog.cellsOf 3 = 1 := by kernel_rfl
  have hg : ∀ i, i < 4 → ∃ d, ds[i]? = some d := fun i hi => ⟨_, List.getElem?_eq_getElem (by rw [l1]; exact hi)⟩
  obtain ⟨e0, g0⟩ := hg 0 (by decide)
  obtain ⟨e1, g1⟩ := hg 1 (by decide)
  obtain ⟨e2, g2⟩ := hg 2 (by decide)
  obtain ⟨e3, g3⟩ := hg 3 (by decide)
  have m0 := l3 0 _ _ rfl g0
  have m1 := l3 1 _ _ rfl g1
  have m2 := l3 2 _ _ rfl g2
  have m3 := l3 3 _ _ rfl g3
  simp only [c9, c3] at m0 m1 m2 m3
  obtain ⟨s, q0, _⟩ := m0.str_inv (by kernel_rfl)
  obtain ⟨d, q1, _⟩ := m1.int_inv (k := .i64) (by kernel_rfl)
  obtain ⟨a, q2, _⟩ := m2.int_inv (k := .i64) (by kernel_rfl)
  obtain ⟨k, q3, _⟩ := m3.str_inv (by kernel_rfl)
  have hcs : cs = [.str s, .int .i64 d, .int .i64 a, .str k] := by
    match cs, l2 with
    | [w, x, y, z], _ =>
      have r0 := part1 q0
      have r1 := part1 q1
      have r2 := part1 q2
      have r3 := part1 q3
      simp at r0 r1 r2 r3
      rw [r0, r1, r2, r3]
  subst hcs
  exact ⟨_, s, k, d, a, rfl, rfl, rfl⟩

set_option maxRecDepth 100000 in
theorem contract (H : Type) (enc : TypeId × Value → H) (W : World) (base : Nat) (args : Array Value) (ds gs : List (DataW H)) (before : List MemPlace)
    (hval : ∀ (j : Nat) t v, Try.f12.params[j]? = some t → args[j]? = some v → Value.okWide Try.prog W .any base t v)
    (hW : DataW.Whole enc Try.prog Try.f12.params.toList Rows.chainSumsSpec.vars false W args.toList ds gs before) (hk : Rows.uptoSmall H (ds ++ gs) = true) :
    Calls Try.prog 12 args W fun e W' => ∃ v, e = .returned v ∧ Rows.chainSumsSpec.post enc Try.prog Try.f12 false true false false W args v W' := by
  have hg : gs = [] := by
    obtain ⟨p, q, _, hV, _⟩ := hW
    exact (trodVars_none hV).1
  subst hg
  rw [List.append_nil] at hk
  have hpar : Try.f12.params.toList = [70] := by kernel_rfl
  refine row_calls (m := 12) (tb := 4) own.cellaretlaw14_ChainSums.fn (by kernel_rfl) (by kernel_rfl) (by kernel_rfl) (by kernel_rfl) rfl ?_ hval hW ?_
  · intro ds hl
    rw [hpar] at hl
    match ds, hl with
    | [d0], _ => rfl
  · intro B av h
    rw [hpar] at h
    exact law B av ds hk h

set_option maxRecDepth 100000 in
theorem lifted (os : Os) (started : os.Started) (H : Type) (enc : TypeId × Value → H) (F : Stop.Interp) :
    ReturnsInHanded {} Try.checked os 12 .any ((Rows.OpenSpec.upto Rows.chainSumsSpec).pre6 enc Try.prog Try.f12 Rows.chainSumsUptoRow.domain false) (((Rows.OpenSpec.upto Rows.chainSumsSpec).at F).post enc Try.prog Try.f12 false true false false) := by
  refine returnsInHanded_of_cond (C := Try.checked) (s := Rows.OpenSpec.upto Rows.chainSumsSpec) (k := Rows.uptoSmall) rfl own started (by kernel_rfl) Try.func12
    (OpenSpec.witness (enc := enc) (C := Try.checked) (s := Rows.OpenSpec.upto Rows.chainSumsSpec) (k := Rows.uptoSmall) rfl false ⟨#[], #[.agg #[.string .empty, .int .i64 0, .int .i64 0, .string .empty]], []⟩ 8 (by kernel_rfl) (by kernel_rfl) (by kernel_rfl)
      (x := ([.agg [.lit (.string []), .lit (.int .i64 0), .lit (.int .i64 0), .lit (.string [])]], [], [])) (by kernel_rfl) rfl (by kernel_rfl)) ?_
  intro W base args ds gs before hval hW _ hk _
  exact contract H enc W base args ds gs before hval hW hk

theorem proved : Rows.ChainSumsUptoSaid :=
  OpenClaim.holds_of_cond 12 Try.f12 rfl rfl rfl rfl rfl rfl rfl ⟨rfl, rfl, rfl, rfl, rfl⟩ rfl rfl rfl rfl rfl (by kernel_rfl) Try.func12 (by kernel_rfl)
    (of_decide_eq_true (by kernel_rfl)) (by unfold Func.isWrapper; first | (rw [if_pos (by decide +kernel)]; kernel_rfl) | (rw [if_neg (by decide +kernel)]; exact ⟨rfl, rfl⟩))
    (fun os started H enc _ F => lifted os started H enc F)
end Go.Proofs.Ytgcjchcmnlifmaa.chainSums
