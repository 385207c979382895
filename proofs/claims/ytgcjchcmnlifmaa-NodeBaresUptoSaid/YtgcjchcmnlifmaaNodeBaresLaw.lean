/- A text of this proof. -/
import Derived.Test.YtgcjchcmnlifmaaRows
import Derived.WalkKit
import Derived.ProofKit
import Derived.OpenShut
import Derived.JoinedCond
import Derived.Test.YtgcjchcmnlifmaaA8
import Derived.Test.YtgcjchcmnlifmaaAbsF

/- The law NodeBares: for every input that holds at most 1048576 values and letters together the call answers true, and what came in reads behind it as before. Conditions: the bound alone. -/
namespace Go.Proofs.Ytgcjchcmnlifmaa.nodeBares
open Go Go.Abs Go.Sh Go.ChangeShapes Go.WideShapes Go.ChangeAt Go.RowKit

theorem own : ownKnob Try.prog.godebug = none := by kernel_rfl

set_option maxRecDepth 100000 in
theorem law {H : Type} (B : AHeap) (av : List AVal) (ds : List (DataW H)) (hk : Rows.uptoSmall H ds = true) (h : ArgAll Try.prog B [102] av ds) : ∃ H', S_cellaretlaw17_NodeBares av B (.bool true) H' := by
  obtain ⟨a0, av, d0, ds, rfl, rfl, h0, h⟩ := h
  obtain ⟨rfl, rfl⟩ := h
  have digs : ∀ {x : AVal} {d : DataW H}, Arg Try.prog B true 49 [x] d → ∃ dd, View B x 32 dd.length (dcells dd) ∧ dd.length ≤ 9223372036854775807 := by
    intro x d hx
    obtain ⟨dd, hd, _, _, hd2⟩ := hx.view (e := 27) dcell (fun b => by rw [dcell_len]; kernel_rfl) (by kernel_rfl)
      (fun cs d h => by obtain ⟨l, hl, h32⟩ := h.bytes (n := 32) (e := 5) (by kernel_rfl) (by kernel_rfl) (by kernel_rfl) (by kernel_rfl); exact ⟨⟨l, h32⟩, hl⟩)
    rw [show Try.prog.cellsOf 27 = 32 by kernel_rfl] at hd
    exact ⟨dd, hd, Nat.le_trans hd2 (by decide)⟩
  obtain ⟨cs, rfl, hf⟩ := h0.fit 9 [.int .i64, .int .i64, .sl 49, .sl 49] (by kernel_rfl) (by kernel_rfl)
  obtain ⟨_, _, rfl, ⟨hh, rfl, _⟩, _, _, rfl, ⟨n, rfl, _⟩, x, _, rfl, ⟨dx, hx⟩, y, _, rfl, ⟨dy, hy⟩, rfl⟩ := hf
  obtain ⟨dd, a1, a2⟩ := digs hx
  obtain ⟨ee, b1, b2⟩ := digs hy
  exact ⟨_, hh, n, x, y, dd, ee, rfl, a1, a2, b1, b2, rfl, rfl⟩

set_option maxRecDepth 100000 in
theorem contract (H : Type) (enc : TypeId × Value → H) (W : World) (base : Nat) (args : Array Value) (ds gs : List (DataW H)) (before : List MemPlace)
    (hval : ∀ (j : Nat) t v, Try.f19.params[j]? = some t → args[j]? = some v → Value.okWide Try.prog W .any base t v)
    (hW : DataW.Whole enc Try.prog Try.f19.params.toList Rows.nodeBaresSpec.vars false W args.toList ds gs before) (hk : Rows.uptoSmall H (ds ++ gs) = true) :
    Calls Try.prog 19 args W fun e W' => ∃ v, e = .returned v ∧ Rows.nodeBaresSpec.post enc Try.prog Try.f19 false true false false W args v W' := by
  have hg : gs = [] := by
    obtain ⟨p, q, _, hV, _⟩ := hW
    exact (trodVars_none hV).1
  subst hg
  rw [List.append_nil] at hk
  have hpar : Try.f19.params.toList = [102] := by kernel_rfl
  refine row_calls (m := 12) (tb := 4) own.cellaretlaw17_NodeBares.fn (by kernel_rfl) (by kernel_rfl) (by kernel_rfl) (by kernel_rfl) rfl ?_ hval hW ?_
  · intro ds hl
    rw [hpar] at hl
    match ds, hl with
    | [d0], _ => rfl
  · intro B av h
    rw [hpar] at h
    exact law B av ds hk h

set_option maxRecDepth 100000 in
theorem lifted (os : Os) (started : os.Started) (H : Type) (enc : TypeId × Value → H) (F : Stop.Interp) :
    ReturnsInHanded {} Try.checked os 19 .any ((Rows.OpenSpec.upto Rows.nodeBaresSpec).pre6 enc Try.prog Try.f19 Rows.nodeBaresUptoRow.domain false) (((Rows.OpenSpec.upto Rows.nodeBaresSpec).at F).post enc Try.prog Try.f19 false true false false) := by
  refine returnsInHanded_of_cond (C := Try.checked) (s := Rows.OpenSpec.upto Rows.nodeBaresSpec) (k := Rows.uptoSmall) rfl own started (by kernel_rfl) Try.func19
    (OpenSpec.witness (enc := enc) (C := Try.checked) (s := Rows.OpenSpec.upto Rows.nodeBaresSpec) (k := Rows.uptoSmall) rfl false ⟨#[], #[.agg #[.int .i64 0, .int .i64 0, .slice none 0 0, .slice none 0 0]], []⟩ 8 (by kernel_rfl) (by kernel_rfl) (by kernel_rfl)
      (x := ([.agg [.lit (.int .i64 0), .lit (.int .i64 0), .nil, .nil]], [], [])) (by kernel_rfl) rfl (by kernel_rfl)) ?_
  intro W base args ds gs before hval hW _ hk _
  exact contract H enc W base args ds gs before hval hW hk

theorem proved : Rows.NodeBaresUptoSaid :=
  OpenClaim.holds_of_cond 19 Try.f19 rfl rfl rfl rfl rfl rfl rfl ⟨rfl, rfl, rfl, rfl, rfl⟩ rfl rfl rfl rfl rfl (by kernel_rfl) Try.func19 (by kernel_rfl)
    (of_decide_eq_true (by kernel_rfl)) (by unfold Func.isWrapper; first | (rw [if_pos (by decide +kernel)]; kernel_rfl) | (rw [if_neg (by decide +kernel)]; exact ⟨rfl, rfl⟩))
    (fun os started H enc _ F => lifted os started H enc F)
end Go.Proofs.Ytgcjchcmnlifmaa.nodeBares
