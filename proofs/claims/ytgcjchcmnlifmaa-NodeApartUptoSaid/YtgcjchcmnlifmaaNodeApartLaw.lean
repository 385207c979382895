/- A text of this proof. -/
import Derived.Test.YtgcjchcmnlifmaaRows
import Derived.WalkKit
import Derived.ProofKit
import Derived.OpenShut
import Derived.JoinedCond
import Derived.Test.YtgcjchcmnlifmaaA7

/- The law NodeApart: for every input that holds at most 1048576 values and letters together the call answers true, and what came in reads behind it as before. Conditions: the bound alone. -/
namespace Go.Proofs.Ytgcjchcmnlifmaa.nodeApart
open Go Go.Abs Go.Sh Go.ChangeShapes Go.WideShapes Go.ChangeAt Go.RowKit

theorem own : ownKnob Try.prog.godebug = none := by kernel_rfl

set_option maxRecDepth 100000 in
theorem law {H : Type} (B : AHeap) (av : List AVal) (ds : List (DataW H)) (hk : Rows.uptoSmall H ds = true) (h : ArgAll Try.prog B [49, 49] av ds) : ∃ H', S_cellaretlaw17_NodeApart av B (.bool true) H' := by
  obtain ⟨a0, av, d0, ds, rfl, rfl, h0, h⟩ := h
  obtain ⟨a1, av, d1, ds, rfl, rfl, h1, h⟩ := h
  obtain ⟨rfl, rfl⟩ := h
  have digs : ∀ {x : AVal} {d : DataW H}, ArgV Try.prog B 49 x d → ∃ dd, View B x 32 dd.length (dcells dd) ∧ dd.length ≤ 9223372036854775807 := by
    intro x d hx
    obtain ⟨dd, hd, _, _, hd2⟩ := (hx.plain (by rw [show Try.prog.underlying 49 = some (.slice 27) by kernel_rfl]; nofun) (by rw [show Try.prog.underlying 49 = some (.slice 27) by kernel_rfl]; nofun)).view (e := 27) dcell (fun b => by rw [dcell_len]; kernel_rfl) (by kernel_rfl)
      (fun cs d h => by obtain ⟨l, hl, h32⟩ := h.bytes (n := 32) (e := 5) (by kernel_rfl) (by kernel_rfl) (by kernel_rfl) (by kernel_rfl); exact ⟨⟨l, h32⟩, hl⟩)
    rw [show Try.prog.cellsOf 27 = 32 by kernel_rfl] at hd
    exact ⟨dd, hd, Nat.le_trans hd2 (by decide)⟩
  obtain ⟨dd, a1, a2⟩ := digs h0
  obtain ⟨ee, b1, b2⟩ := digs h1
  exact ⟨_, _, _, dd, ee, rfl, a1, a2, b1, b2, rfl, rfl⟩

set_option maxRecDepth 100000 in
theorem contract (H : Type) (enc : TypeId × Value → H) (W : World) (base : Nat) (args : Array Value) (ds gs : List (DataW H)) (before : List MemPlace)
    (hval : ∀ (j : Nat) t v, Try.f20.params[j]? = some t → args[j]? = some v → Value.okWide Try.prog W .any base t v)
    (hW : DataW.Whole enc Try.prog Try.f20.params.toList Rows.nodeApartSpec.vars false W args.toList ds gs before) (hk : Rows.uptoSmall H (ds ++ gs) = true) :
    Calls Try.prog 20 args W fun e W' => ∃ v, e = .returned v ∧ Rows.nodeApartSpec.post enc Try.prog Try.f20 false true false false W args v W' := by
  have hg : gs = [] := by
    obtain ⟨p, q, _, hV, _⟩ := hW
    exact (trodVars_none hV).1
  subst hg
  rw [List.append_nil] at hk
  have hpar : Try.f20.params.toList = [49, 49] := by kernel_rfl
  refine row_calls (m := 12) (tb := 4) own.cellaretlaw17_NodeApart.fn (by kernel_rfl) (by kernel_rfl) (by kernel_rfl) (by kernel_rfl) rfl ?_ hval hW ?_
  · intro ds hl
    rw [hpar] at hl
    match ds, hl with
    | [d0, d1], _ => rfl
  · intro B av h
    rw [hpar] at h
    exact law B av ds hk h

set_option maxRecDepth 100000 in
theorem lifted (os : Os) (started : os.Started) (H : Type) (enc : TypeId × Value → H) (F : Stop.Interp) :
    ReturnsInHanded {} Try.checked os 20 .any ((Rows.OpenSpec.upto Rows.nodeApartSpec).pre6 enc Try.prog Try.f20 Rows.nodeApartUptoRow.domain false) (((Rows.OpenSpec.upto Rows.nodeApartSpec).at F).post enc Try.prog Try.f20 false true false false) := by
  refine returnsInHanded_of_cond (C := Try.checked) (s := Rows.OpenSpec.upto Rows.nodeApartSpec) (k := Rows.uptoSmall) rfl own started (by kernel_rfl) Try.func20
    (OpenSpec.witness (enc := enc) (C := Try.checked) (s := Rows.OpenSpec.upto Rows.nodeApartSpec) (k := Rows.uptoSmall) rfl false ⟨#[], #[.slice none 0 0, .slice none 0 0], []⟩ 8 (by kernel_rfl) (by kernel_rfl) (by kernel_rfl)
      (x := ([.nil, .nil], [], [])) (by kernel_rfl) rfl (by kernel_rfl)) ?_
  intro W base args ds gs before hval hW _ hk _
  exact contract H enc W base args ds gs before hval hW hk

theorem proved : Rows.NodeApartUptoSaid :=
  OpenClaim.holds_of_cond 20 Try.f20 rfl rfl rfl rfl rfl rfl rfl ⟨rfl, rfl, rfl, rfl, rfl⟩ rfl rfl rfl rfl rfl (by kernel_rfl) Try.func20 (by kernel_rfl)
    (of_decide_eq_true (by kernel_rfl)) (by unfold Func.isWrapper; first | (rw [if_pos (by decide +kernel)]; kernel_rfl) | (rw [if_neg (by decide +kernel)]; exact ⟨rfl, rfl⟩))
    (fun os started H enc _ F => lifted os started H enc F)
end Go.Proofs.Ytgcjchcmnlifmaa.nodeApart
