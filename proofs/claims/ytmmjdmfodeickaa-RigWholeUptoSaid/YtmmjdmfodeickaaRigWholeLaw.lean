/- A text of this proof. -/
import Derived.Test.YtmmjdmfodeickaaRows
import Derived.WalkKit
import Derived.ProofKit
import Derived.OpenShut
import Derived.JoinedCond
import Derived.Test.YtmmjdmfodeickaaG1

/- The law RigWhole: for every input that holds at most 1048576 values and letters together the call answers true, and what came in reads behind it as before. Conditions: the bound alone. -/
namespace Go.Proofs.Ytmmjdmfodeickaa.rigWhole
open Go Go.Abs Go.Sh Go.ChangeShapes Go.WideShapes Go.ChangeAt Go.RowKit

theorem own : ownKnob Try.prog.godebug = none := by kernel_rfl

set_option maxRecDepth 100000 in
theorem law {H : Type} (B : AHeap) (av : List AVal) (ds : List (DataW H)) (hk : Rows.uptoSmall H ds = true) (h : ArgAll Try.prog B [22] av ds) : ∃ H', S_cellaretlaw12_RigWhole av B (.bool true) H' := by
  obtain ⟨a0, av, d0, ds, rfl, rfl, h0, h⟩ := h
  obtain ⟨rfl, rfl⟩ := h
  obtain ⟨l, hv, hl, hR⟩ := rows_R (e := 34) (n := 9) (ks := [.int .i64, .int .i64, .int .i64, .int .i64, .str, .bool, .sl 30, .int .i64, .int .i64, .sl 30, .int .i64, .int .i64]) a12C (fun a => Lv B a.kx ∧ Lv B a.ky) (fun _ => by kernel_rfl) (by kernel_rfl) (by kernel_rfl) (h0.one (by kernel_rfl)) (fun cs hc => by
    obtain ⟨_, _, rfl, ⟨k, rfl, _⟩, _, _, rfl, ⟨d, rfl, _⟩, _, _, rfl, ⟨i, rfl, _⟩, _, _, rfl, ⟨n, rfl, _⟩, _, _, rfl, ⟨s, rfl, _⟩, _, _, rfl, ⟨raw, rfl⟩, kx, _, rfl, ⟨dx, hkx⟩, _, _, rfl, ⟨tx, rfl, _⟩, _, _, rfl, ⟨nx, rfl, _⟩, ky, _, rfl, ⟨dy, hky⟩, _, _, rfl, ⟨ty, rfl, _⟩, _, _, rfl, ⟨ny, rfl, _⟩, rfl⟩ := hc
    exact ⟨⟨k, d, i, n, s, raw, kx, tx, nx, ky, ty, ny⟩, rfl, lv_of (e := 4) (n := 3) hkx (by kernel_rfl) (by kernel_rfl) (by kernel_rfl), lv_of (e := 4) (n := 3) hky (by kernel_rfl) (by kernel_rfl) (by kernel_rfl)⟩)
  rw [show Try.prog.cellsOf 34 = 12 by kernel_rfl] at hv
  exact ⟨_, _, l, rfl, hv, Nat.le_trans hl (by decide), hR, rfl, rfl⟩

set_option maxRecDepth 100000 in
theorem contract (H : Type) (enc : TypeId × Value → H) (W : World) (base : Nat) (args : Array Value) (ds gs : List (DataW H)) (before : List MemPlace)
    (hval : ∀ (j : Nat) t v, Try.f3.params[j]? = some t → args[j]? = some v → Value.okWide Try.prog W .any base t v)
    (hW : DataW.Whole enc Try.prog Try.f3.params.toList Rows.rigWholeSpec.vars false W args.toList ds gs before) (hk : Rows.uptoSmall H (ds ++ gs) = true) :
    Calls Try.prog 3 args W fun e W' => ∃ v, e = .returned v ∧ Rows.rigWholeSpec.post enc Try.prog Try.f3 false true false false W args v W' := by
  have hg : gs = [] := by
    obtain ⟨p, q, _, hV, _⟩ := hW
    exact (trodVars_none hV).1
  subst hg
  rw [List.append_nil] at hk
  have hpar : Try.f3.params.toList = [22] := by kernel_rfl
  refine row_calls (m := 12) (tb := 4) own.cellaretlaw12_RigWhole.fn (by kernel_rfl) (by kernel_rfl) (by kernel_rfl) (by kernel_rfl) rfl ?_ hval hW ?_
  · intro ds hl
    rw [hpar] at hl
    match ds, hl with
    | [d0], _ => rfl
  · intro B av h
    rw [hpar] at h
    exact law B av ds hk h

set_option maxRecDepth 100000 in
theorem lifted (os : Os) (started : os.Started) (H : Type) (enc : TypeId × Value → H) (F : Stop.Interp) :
    ReturnsInHanded {} Try.checked os 3 .any ((Rows.OpenSpec.upto Rows.rigWholeSpec).pre6 enc Try.prog Try.f3 Rows.rigWholeUptoRow.domain false) (((Rows.OpenSpec.upto Rows.rigWholeSpec).at F).post enc Try.prog Try.f3 false true false false) := by
  refine returnsInHanded_of_cond (C := Try.checked) (s := Rows.OpenSpec.upto Rows.rigWholeSpec) (k := Rows.uptoSmall) rfl own started (by kernel_rfl) Try.func3
    (OpenSpec.witness (enc := enc) (C := Try.checked) (s := Rows.OpenSpec.upto Rows.rigWholeSpec) (k := Rows.uptoSmall) rfl false ⟨#[], #[.slice none 0 0], []⟩ 8 (by kernel_rfl) (by kernel_rfl) (by kernel_rfl)
      (x := ([.nil], [], [])) (by kernel_rfl) rfl (by kernel_rfl)) ?_
  intro W base args ds gs before hval hW _ hk _
  exact contract H enc W base args ds gs before hval hW hk

theorem proved : Rows.RigWholeUptoSaid :=
  OpenClaim.holds_of_cond 3 Try.f3 rfl rfl rfl rfl rfl rfl rfl ⟨rfl, rfl, rfl, rfl, rfl⟩ rfl rfl rfl rfl rfl (by kernel_rfl) Try.func3 (by kernel_rfl)
    (of_decide_eq_true (by kernel_rfl)) (by unfold Func.isWrapper; first | (rw [if_pos (by decide +kernel)]; kernel_rfl) | (rw [if_neg (by decide +kernel)]; exact ⟨rfl, rfl⟩))
    (fun os started H enc _ F => lifted os started H enc F)
end Go.Proofs.Ytmmjdmfodeickaa.rigWhole
