/- A text of this proof. -/
import Derived.Test.YtpkhbcjonaeeeaaRows
import Derived.WalkKit
import Derived.ProofKit
import Derived.OpenShut
import Derived.JoinedCond
import Derived.Test.YtpkhbcjonaeeeaaF1

/- The law FlatAll: for every input that holds at most 1048576 values and letters together the call answers true, and what came in reads behind it as before. Conditions: the bound alone. -/
namespace Go.Proofs.Ytpkhbcjonaeeeaa.flatAll
open Go Go.Abs Go.Sh Go.ChangeShapes Go.WideShapes Go.ChangeAt Go.RowKit

theorem own : ownKnob Try.prog.godebug = none := by kernel_rfl

set_option maxRecDepth 100000 in
theorem law {H : Type} (B : AHeap) (av : List AVal) (ds : List (DataW H)) (hk : Rows.uptoSmall H ds = true) (h : ArgAll Try.prog B [41] av ds) : ∃ H', S_cellaretlaw26_FlatAll av B (.bool true) H' := by
  obtain ⟨a0, av, d0, ds, rfl, rfl, h0, h⟩ := h
  obtain ⟨rfl, rfl⟩ := h
  obtain ⟨cs, rfl, hf⟩ := h0.fit 9 [.int .u8, .sl 22, .int .u8, .sl 39] (by kernel_rfl) (by kernel_rfl)
  obtain ⟨_, _, rfl, ⟨m, rfl, h1, h2⟩, _, _, rfl, ⟨dl, hl⟩, _, _, rfl, ⟨pk, rfl, h3, h4⟩, _, _, rfl, ⟨dn, ho⟩, rfl⟩ := hf
  obtain ⟨l, hv, _⟩ := hl.rows (e := 30) (n := 9) (ks := [.int .i64, .int .i64, .int .i64, .int .u8, .bool]) acC (fun _ => by kernel_rfl) (by kernel_rfl) (by kernel_rfl) (fun cs hc => by
    obtain ⟨_, _, rfl, ⟨k, rfl, _⟩, _, _, rfl, ⟨a, rfl, _⟩, _, _, rfl, ⟨n, rfl, _⟩, _, _, rfl, ⟨c, rfl, h1, h2⟩, _, _, rfl, ⟨o, rfl⟩, rfl⟩ := hc
    obtain ⟨b, hb⟩ := byte_of h1 h2
    exact ⟨⟨k, a, n, b, o⟩, by rw [hb]; rfl⟩)
  rw [show Try.prog.cellsOf 30 = 5 by kernel_rfl] at hv
  obtain ⟨o, hov, hol⟩ := bytes_view26 (e := 5) (by kernel_rfl) (by kernel_rfl) (by kernel_rfl) ho
  have hmax : IntKind.u8.max = 255 := rfl
  exact law_FlatAll h1 (by omega) h3 (by omega) hv hov hol

set_option maxRecDepth 100000 in
theorem contract (H : Type) (enc : TypeId × Value → H) (W : World) (base : Nat) (args : Array Value) (ds gs : List (DataW H)) (before : List MemPlace)
    (hval : ∀ (j : Nat) t v, Try.f4.params[j]? = some t → args[j]? = some v → Value.okWide Try.prog W .any base t v)
    (hW : DataW.Whole enc Try.prog Try.f4.params.toList Rows.flatAllSpec.vars false W args.toList ds gs before) (hk : Rows.uptoSmall H (ds ++ gs) = true) :
    Calls Try.prog 4 args W fun e W' => ∃ v, e = .returned v ∧ Rows.flatAllSpec.post enc Try.prog Try.f4 false true false false W args v W' := by
  have hg : gs = [] := by
    obtain ⟨p, q, _, hV, _⟩ := hW
    exact (trodVars_none hV).1
  subst hg
  rw [List.append_nil] at hk
  have hpar : Try.f4.params.toList = [41] := by kernel_rfl
  refine row_calls (m := 12) (tb := 4) own.cellaretlaw26_FlatAll.fn (by kernel_rfl) (by kernel_rfl) (by kernel_rfl) (by kernel_rfl) rfl ?_ hval hW ?_
  · intro ds hl
    rw [hpar] at hl
    match ds, hl with
    | [d0], _ => rfl
  · intro B av h
    rw [hpar] at h
    exact law B av ds hk h

set_option maxRecDepth 100000 in
theorem lifted (os : Os) (started : os.Started) (H : Type) (enc : TypeId × Value → H) (F : Stop.Interp) :
    ReturnsInHanded {} Try.checked os 4 .any ((Rows.OpenSpec.upto Rows.flatAllSpec).pre6 enc Try.prog Try.f4 Rows.flatAllUptoRow.domain false) (((Rows.OpenSpec.upto Rows.flatAllSpec).at F).post enc Try.prog Try.f4 false true false false) := by
  refine returnsInHanded_of_cond (C := Try.checked) (s := Rows.OpenSpec.upto Rows.flatAllSpec) (k := Rows.uptoSmall) rfl own started (by kernel_rfl) Try.func4
    (OpenSpec.witness (enc := enc) (C := Try.checked) (s := Rows.OpenSpec.upto Rows.flatAllSpec) (k := Rows.uptoSmall) rfl false ⟨#[], #[.agg #[.int .u8 0, .slice none 0 0, .int .u8 0, .slice none 0 0]], []⟩ 8 (by kernel_rfl) (by kernel_rfl) (by kernel_rfl)
      (x := ([.agg [.lit (.int .u8 0), .nil, .lit (.int .u8 0), .nil]], [], [])) (by kernel_rfl) rfl (by kernel_rfl)) ?_
  intro W base args ds gs before hval hW _ hk _
  exact contract H enc W base args ds gs before hval hW hk

theorem proved : Rows.FlatAllUptoSaid :=
  OpenClaim.holds_of_cond 4 Try.f4 rfl rfl rfl rfl rfl rfl rfl ⟨rfl, rfl, rfl, rfl, rfl⟩ rfl rfl rfl rfl rfl (by kernel_rfl) Try.func4 (by kernel_rfl)
    (of_decide_eq_true (by kernel_rfl)) (by unfold Func.isWrapper; first | (rw [if_pos (by decide +kernel)]; kernel_rfl) | (rw [if_neg (by decide +kernel)]; exact ⟨rfl, rfl⟩))
    (fun os started H enc _ F => lifted os started H enc F)
end Go.Proofs.Ytpkhbcjonaeeeaa.flatAll
