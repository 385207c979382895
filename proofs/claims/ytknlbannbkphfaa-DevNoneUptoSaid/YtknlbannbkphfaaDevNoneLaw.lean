/- A text of this proof. -/
import Derived.Test.YtknlbannbkphfaaRows
import Derived.WalkKit
import Derived.ProofKit
import Derived.OpenShut
import Derived.JoinedCond
import Derived.Test.YtknlbannbkphfaaD1
import Derived.Test.YtknlbannbkphfaaAbsF

/- The law DevNone: for every input that holds at most 1048576 values and letters together the call answers true, and what came in reads behind it as before. Conditions: the bound alone. -/
namespace Go.Proofs.Ytknlbannbkphfaa.devNone
open Go Go.Abs Go.Sh Go.ChangeShapes Go.WideShapes Go.ChangeAt Go.RowKit

theorem own : ownKnob Try.prog.godebug = none := by kernel_rfl

set_option maxRecDepth 100000 in
theorem law {H : Type} (B : AHeap) (av : List AVal) (ds : List (DataW H)) (hk : Rows.uptoSmall H ds = true) (h : ArgAll Try.prog B [26] av ds) : ∃ H', S_cellaretlaw10_DevNone av B (.bool true) H' := by
  obtain ⟨a0, av, d0, ds, rfl, rfl, h0, h⟩ := h
  obtain ⟨rfl, rfl⟩ := h
  obtain ⟨cs, rfl, hf⟩ := h0.fit 9 [.int .i64, .int .i64, .str, .bool, .sl 22, .int .i64, .int .i64] (by kernel_rfl) (by kernel_rfl)
  obtain ⟨_, _, rfl, ⟨k, rfl, _⟩, _, _, rfl, ⟨i, rfl, _⟩, _, _, rfl, ⟨s, rfl, _⟩, _, _, rfl, ⟨raw, rfl⟩, kv, _, rfl, ⟨dk, hkv⟩, _, _, rfl, ⟨torn, rfl, _⟩, _, _, rfl, ⟨n, rfl, _⟩, rfl⟩ := hf
  obtain ⟨l, hv, _⟩ := hkv.rows (e := 4) (n := 3) (ks := [.bool]) (fun b : Bool => [.bool b]) (fun _ => by kernel_rfl) (by kernel_rfl) (by kernel_rfl) (fun cs hc => by obtain ⟨_, _, rfl, ⟨b, rfl⟩, rfl⟩ := hc; exact ⟨b, rfl⟩)
  exact law_DevNone k i s raw kv torn n hv.sc B

set_option maxRecDepth 100000 in
theorem contract (H : Type) (enc : TypeId × Value → H) (W : World) (base : Nat) (args : Array Value) (ds gs : List (DataW H)) (before : List MemPlace)
    (hval : ∀ (j : Nat) t v, Try.f3.params[j]? = some t → args[j]? = some v → Value.okWide Try.prog W .any base t v)
    (hW : DataW.Whole enc Try.prog Try.f3.params.toList Rows.devNoneSpec.vars false W args.toList ds gs before) (hk : Rows.uptoSmall H (ds ++ gs) = true) :
    Calls Try.prog 3 args W fun e W' => ∃ v, e = .returned v ∧ Rows.devNoneSpec.post enc Try.prog Try.f3 false true false false W args v W' := by
  have hg : gs = [] := by
    obtain ⟨p, q, _, hV, _⟩ := hW
    exact (trodVars_none hV).1
  subst hg
  rw [List.append_nil] at hk
  have hpar : Try.f3.params.toList = [26] := by kernel_rfl
  refine row_calls (m := 12) (tb := 4) own.cellaretlaw10_DevNone.fn (by kernel_rfl) (by kernel_rfl) (by kernel_rfl) (by kernel_rfl) rfl ?_ hval hW ?_
  · intro ds hl
    rw [hpar] at hl
    match ds, hl with
    | [d0], _ => rfl
  · intro B av h
    rw [hpar] at h
    exact law B av ds hk h

set_option maxRecDepth 100000 in
theorem lifted (os : Os) (started : os.Started) (H : Type) (enc : TypeId × Value → H) (F : Stop.Interp) :
    ReturnsInHanded {} Try.checked os 3 .any ((Rows.OpenSpec.upto Rows.devNoneSpec).pre6 enc Try.prog Try.f3 Rows.devNoneUptoRow.domain false) (((Rows.OpenSpec.upto Rows.devNoneSpec).at F).post enc Try.prog Try.f3 false true false false) := by
  refine returnsInHanded_of_cond (C := Try.checked) (s := Rows.OpenSpec.upto Rows.devNoneSpec) (k := Rows.uptoSmall) rfl own started (by kernel_rfl) Try.func3
    (OpenSpec.witness (enc := enc) (C := Try.checked) (s := Rows.OpenSpec.upto Rows.devNoneSpec) (k := Rows.uptoSmall) rfl false ⟨#[], #[.agg #[.int .i64 0, .int .i64 0, .string .empty, .bool false, .slice none 0 0, .int .i64 0, .int .i64 0]], []⟩ 8 (by kernel_rfl) (by kernel_rfl) (by kernel_rfl)
      (x := ([.agg [.lit (.int .i64 0), .lit (.int .i64 0), .lit (.string []), .lit (.bool false), .agg [.nil, .lit (.int .i64 0), .lit (.int .i64 0)]]], [], [])) (by kernel_rfl) rfl (by kernel_rfl)) ?_
  intro W base args ds gs before hval hW _ hk _
  exact contract H enc W base args ds gs before hval hW hk

theorem proved : Rows.DevNoneUptoSaid :=
  OpenClaim.holds_of_cond 3 Try.f3 rfl rfl rfl rfl rfl rfl rfl ⟨rfl, rfl, rfl, rfl, rfl⟩ rfl rfl rfl rfl rfl (by kernel_rfl) Try.func3 (by kernel_rfl)
    (of_decide_eq_true (by kernel_rfl)) (by unfold Func.isWrapper; first | (rw [if_pos (by decide +kernel)]; kernel_rfl) | (rw [if_neg (by decide +kernel)]; exact ⟨rfl, rfl⟩))
    (fun os started H enc _ F => lifted os started H enc F)
end Go.Proofs.Ytknlbannbkphfaa.devNone
