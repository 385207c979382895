/- A text of this proof. -/
import Derived.Test.YtchfbhiaboggmaaRows
import Derived.WalkKit
import Derived.ProofKit
import Derived.OpenShut
import Derived.JoinedCond
import Derived.Test.YtchfbhiaboggmaaTM

/- The law TreeTampers: for every input that holds at most 1048576 values and letters together the call answers true, and what came in reads behind it as before. Conditions: the bound alone. -/
namespace Go.Proofs.Ytchfbhiaboggmaa.treeTampers
open Go Go.Abs Go.Sh Go.ChangeShapes Go.WideShapes Go.ChangeAt Go.RowKit

theorem own : ownKnob Try.prog.godebug = none := by kernel_rfl

set_option maxRecDepth 100000 in
theorem law {H : Type} (B : AHeap) (av : List AVal) (ds : List (DataW H)) (hk : Rows.uptoSmall H ds = true) (h : ArgAll Try.prog B [40, 54, 55] av ds) : ∃ H', S_cellaretlaw18_TreeTampers av B (.bool true) H' := by
  obtain ⟨a0, av, d0, ds, rfl, rfl, h0, h⟩ := h
  obtain ⟨a1, av, d1, ds, rfl, rfl, h1, h⟩ := h
  obtain ⟨a2, av, d2, ds, rfl, rfl, h2, h⟩ := h
  obtain ⟨rfl, rfl⟩ := h
  have acts : ∀ {x : AVal} {d : DataW H}, ArgV Try.prog B 40 x d → ∃ l : List ActV, View B x 3 l.length (flat actC l) ∧ l.length ≤ 9223372036854775807 := by
    intro x d hx
    obtain ⟨l, hv, hl⟩ := (hx.one (by kernel_rfl)).rows (e := 47) (n := 9) (ks := [.int .i64, .int .i64, .str]) actC (fun b => by rw [actC_len]; kernel_rfl) (by kernel_rfl) (by kernel_rfl) (fun cs hc => by obtain ⟨_, _, rfl, ⟨k, rfl, _⟩, _, _, rfl, ⟨n, rfl, _⟩, _, _, rfl, ⟨s, rfl, _⟩, rfl⟩ := hc; exact ⟨(k, n, s), rfl⟩)
    rw [show Try.prog.cellsOf 47 = 3 by kernel_rfl] at hv
    exact ⟨l, hv, Nat.le_trans hl (by decide)⟩
  obtain ⟨l, hv, hl⟩ := acts h0
  obtain ⟨l1, hv1, hl1⟩ := (h1.one (by kernel_rfl)).rows (e := 57) (n := 9) (ks := [.int .i64, .str]) putC (fun b => by rw [putC_len]; kernel_rfl) (by kernel_rfl) (by kernel_rfl) (fun cs hc => by obtain ⟨_, _, rfl, ⟨k, rfl, _⟩, _, _, rfl, ⟨s, rfl, _⟩, rfl⟩ := hc; exact ⟨(k, s), rfl⟩)
  rw [show Try.prog.cellsOf 57 = 2 by kernel_rfl] at hv1
  obtain ⟨bs, hv2, hl2⟩ := bytes_view18 (t := 55) (e := 5) (by kernel_rfl) (by kernel_rfl) (by kernel_rfl) (h2.one (by kernel_rfl))
  exact ⟨_, _, _, _, l, l1, bs, rfl, ⟨hv, hl⟩, ⟨hv1, Nat.le_trans hl1 (by decide)⟩, ⟨hv2, hl2⟩, rfl, rfl⟩

set_option maxRecDepth 100000 in
theorem contract (H : Type) (enc : TypeId × Value → H) (W : World) (base : Nat) (args : Array Value) (ds gs : List (DataW H)) (before : List MemPlace)
    (hval : ∀ (j : Nat) t v, Try.f6.params[j]? = some t → args[j]? = some v → Value.okWide Try.prog W .any base t v)
    (hW : DataW.Whole enc Try.prog Try.f6.params.toList Rows.treeTampersSpec.vars false W args.toList ds gs before) (hk : Rows.uptoSmall H (ds ++ gs) = true) :
    Calls Try.prog 6 args W fun e W' => ∃ v, e = .returned v ∧ Rows.treeTampersSpec.post enc Try.prog Try.f6 false true false false W args v W' := by
  have hg : gs = [] := by
    obtain ⟨p, q, _, hV, _⟩ := hW
    exact (trodVars_none hV).1
  subst hg
  rw [List.append_nil] at hk
  have hpar : Try.f6.params.toList = [40, 54, 55] := by kernel_rfl
  refine row_calls (m := 12) (tb := 4) own.cellaretlaw18_TreeTampers.fn (by kernel_rfl) (by kernel_rfl) (by kernel_rfl) (by kernel_rfl) rfl ?_ hval hW ?_
  · intro ds hl
    rw [hpar] at hl
    match ds, hl with
    | [d0, d1, d2], _ => rfl
  · intro B av h
    rw [hpar] at h
    exact law B av ds hk h

set_option maxRecDepth 100000 in
theorem lifted (os : Os) (started : os.Started) (H : Type) (enc : TypeId × Value → H) (F : Stop.Interp) :
    ReturnsInHanded {} Try.checked os 6 .any ((Rows.OpenSpec.upto Rows.treeTampersSpec).pre6 enc Try.prog Try.f6 Rows.treeTampersUptoRow.domain false) (((Rows.OpenSpec.upto Rows.treeTampersSpec).at F).post enc Try.prog Try.f6 false true false false) := by
  refine returnsInHanded_of_cond (C := Try.checked) (s := Rows.OpenSpec.upto Rows.treeTampersSpec) (k := Rows.uptoSmall) rfl own started (by kernel_rfl) Try.func6
    (OpenSpec.witness (enc := enc) (C := Try.checked) (s := Rows.OpenSpec.upto Rows.treeTampersSpec) (k := Rows.uptoSmall) rfl false ⟨#[], #[.slice none 0 0, .slice none 0 0, .slice none 0 0], []⟩ 8 (by kernel_rfl) (by kernel_rfl) (by kernel_rfl)
      (x := ([.nil, .nil, .nil], [], [])) (by kernel_rfl) rfl (by kernel_rfl)) ?_
  intro W base args ds gs before hval hW _ hk _
  exact contract H enc W base args ds gs before hval hW hk

theorem proved : Rows.TreeTampersUptoSaid :=
  OpenClaim.holds_of_cond 6 Try.f6 rfl rfl rfl rfl rfl rfl rfl ⟨rfl, rfl, rfl, rfl, rfl⟩ rfl rfl rfl rfl rfl (by kernel_rfl) Try.func6 (by kernel_rfl)
    (of_decide_eq_true (by kernel_rfl)) (by unfold Func.isWrapper; first | (rw [if_pos (by decide +kernel)]; kernel_rfl) | (rw [if_neg (by decide +kernel)]; exact ⟨rfl, rfl⟩))
    (fun os started H enc _ F => lifted os started H enc F)
end Go.Proofs.Ytchfbhiaboggmaa.treeTampers
