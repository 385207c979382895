/- A text of this proof. -/
import Derived.Test.YtgcjchcmnlifmaaRows
import Derived.WalkKit
import Derived.ProofKit
import Derived.OpenShut
import Derived.JoinedCond
import Derived.Test.YtgcjchcmnlifmaaA5

/- The law ChainNexts: for every input that holds at most 1048576 values and letters together the call answers true, and what came in reads behind it as before. Conditions: the bound alone. -/
namespace Go.Proofs.Ytgcjchcmnlifmaa.chainNexts
open Go Go.Abs Go.Sh Go.ChangeShapes Go.WideShapes Go.ChangeAt Go.RowKit

theorem own : ownKnob Try.prog.godebug = none := by kernel_rfl

set_option maxRecDepth 100000 in
theorem law {H : Type} (B : AHeap) (av : List AVal) (ds : List (DataW H)) (hk : Rows.uptoSmall H ds = true) (h : ArgAll Try.prog B [27, 22, 22] av ds) : ∃ H', S_cellaretlaw14_ChainNexts av B (.bool true) H' := by
  obtain ⟨a0, av, d0, ds, rfl, rfl, h0, h⟩ := h
  obtain ⟨a1, av, d1, ds, rfl, rfl, h1, h⟩ := h
  obtain ⟨a2, av, d2, ds, rfl, rfl, h2, h⟩ := h
  obtain ⟨rfl, rfl⟩ := h
  obtain ⟨cs, rfl, k0⟩ := h0.array (n := 32) (e := 5) (by kernel_rfl)
  obtain ⟨a, rfl, ha⟩ := k0.bytes (n := 32) (e := 5) (by kernel_rfl) (by kernel_rfl) (by kernel_rfl) (by kernel_rfl)
  have strsOf : ∀ {x : AVal} {d : DataW H}, ArgV Try.prog B 22 x d → d ∈ [d0, d1, d2] → ∃ l, NArgs B x l := by
    intro x d hx hd
    obtain ⟨l, v1, v2, v3⟩ := (hx.plain (by rw [show Try.prog.underlying 22 = some (.slice 9) by kernel_rfl]; nofun) (by rw [show Try.prog.underlying 22 = some (.slice 9) by kernel_rfl]; nofun)).viewR (e := 9) (fun s => [.str s]) (fun s d => d = .lit (.string s)) (fun _ => by kernel_rfl) (by kernel_rfl)
      (fun cs d h => by obtain ⟨s, hs, hd, _⟩ := Arg.str_inv (by kernel_rfl) h; exact ⟨s, hs, hd⟩)
    rw [show Try.prog.cellsOf 9 = 1 by kernel_rfl, flatten_one AVal.str] at v1
    refine ⟨l, v1, Nat.le_trans v2 (by decide), fun s hs => ?_⟩
    obtain ⟨k, hkk⟩ := List.getElem?_of_mem hs
    rcases v3 with rfl | ⟨elems, spare, rfl, v3⟩
    · cases hs
    · obtain ⟨y, hy, rfl⟩ := v3 k s hkk
      have := own.bulk_str hk hd (List.mem_of_getElem? hy)
      omega
  obtain ⟨l, hl⟩ := strsOf h1 (by simp)
  obtain ⟨m, hm⟩ := strsOf h2 (by simp)
  exact ⟨_, a, _, _, l, m, rfl, ha, hl, hm, rfl, rfl⟩

set_option maxRecDepth 100000 in
theorem contract (H : Type) (enc : TypeId × Value → H) (W : World) (base : Nat) (args : Array Value) (ds gs : List (DataW H)) (before : List MemPlace)
    (hval : ∀ (j : Nat) t v, Try.f11.params[j]? = some t → args[j]? = some v → Value.okWide Try.prog W .any base t v)
    (hW : DataW.Whole enc Try.prog Try.f11.params.toList Rows.chainNextsSpec.vars false W args.toList ds gs before) (hk : Rows.uptoSmall H (ds ++ gs) = true) :
    Calls Try.prog 11 args W fun e W' => ∃ v, e = .returned v ∧ Rows.chainNextsSpec.post enc Try.prog Try.f11 false true false false W args v W' := by
  have hg : gs = [] := by
    obtain ⟨p, q, _, hV, _⟩ := hW
    exact (trodVars_none hV).1
  subst hg
  rw [List.append_nil] at hk
  have hpar : Try.f11.params.toList = [27, 22, 22] := by kernel_rfl
  refine row_calls (m := 12) (tb := 4) own.cellaretlaw14_ChainNexts.fn (by kernel_rfl) (by kernel_rfl) (by kernel_rfl) (by kernel_rfl) rfl ?_ hval hW ?_
  · intro ds hl
    rw [hpar] at hl
    match ds, hl with
    | [d0, d1, d2], _ => rfl
  · intro B av h
    rw [hpar] at h
    exact law B av ds hk h

set_option maxRecDepth 100000 in
theorem lifted (os : Os) (started : os.Started) (H : Type) (enc : TypeId × Value → H) (F : Stop.Interp) :
    ReturnsInHanded {} Try.checked os 11 .any ((Rows.OpenSpec.upto Rows.chainNextsSpec).pre6 enc Try.prog Try.f11 Rows.chainNextsUptoRow.domain false) (((Rows.OpenSpec.upto Rows.chainNextsSpec).at F).post enc Try.prog Try.f11 false true false false) := by
  refine returnsInHanded_of_cond (C := Try.checked) (s := Rows.OpenSpec.upto Rows.chainNextsSpec) (k := Rows.uptoSmall) rfl own started (by kernel_rfl) Try.func11
    (OpenSpec.witness (enc := enc) (C := Try.checked) (s := Rows.OpenSpec.upto Rows.chainNextsSpec) (k := Rows.uptoSmall) rfl false ⟨#[], #[.agg #[.int .u8 0, .int .u8 0, .int .u8 0, .int .u8 0, .int .u8 0, .int .u8 0, .int .u8 0, .int .u8 0, .int .u8 0, .int .u8 0, .int .u8 0, .int .u8 0, .int .u8 0, .int .u8 0, .int .u8 0, .int .u8 0, .int .u8 0, .int .u8 0, .int .u8 0, .int .u8 0, .int .u8 0, .int .u8 0, .int .u8 0, .int .u8 0, .int .u8 0, .int .u8 0, .int .u8 0, .int .u8 0, .int .u8 0, .int .u8 0, .int .u8 0, .int .u8 0], .slice none 0 0, .slice none 0 0], []⟩ 8 (by kernel_rfl) (by kernel_rfl) (by kernel_rfl)
      (x := ([.agg [.lit (.int .u8 0), .lit (.int .u8 0), .lit (.int .u8 0), .lit (.int .u8 0), .lit (.int .u8 0), .lit (.int .u8 0), .lit (.int .u8 0), .lit (.int .u8 0), .lit (.int .u8 0), .lit (.int .u8 0), .lit (.int .u8 0), .lit (.int .u8 0), .lit (.int .u8 0), .lit (.int .u8 0), .lit (.int .u8 0), .lit (.int .u8 0), .lit (.int .u8 0), .lit (.int .u8 0), .lit (.int .u8 0), .lit (.int .u8 0), .lit (.int .u8 0), .lit (.int .u8 0), .lit (.int .u8 0), .lit (.int .u8 0), .lit (.int .u8 0), .lit (.int .u8 0), .lit (.int .u8 0), .lit (.int .u8 0), .lit (.int .u8 0), .lit (.int .u8 0), .lit (.int .u8 0), .lit (.int .u8 0)], .nil, .nil], [], [])) (by kernel_rfl) rfl (by kernel_rfl)) ?_
  intro W base args ds gs before hval hW _ hk _
  exact contract H enc W base args ds gs before hval hW hk

theorem proved : Rows.ChainNextsUptoSaid :=
  OpenClaim.holds_of_cond 11 Try.f11 rfl rfl rfl rfl rfl rfl rfl ⟨rfl, rfl, rfl, rfl, rfl⟩ rfl rfl rfl rfl rfl (by kernel_rfl) Try.func11 (by kernel_rfl)
    (of_decide_eq_true (by kernel_rfl)) (by unfold Func.isWrapper; first | (rw [if_pos (by decide +kernel)]; kernel_rfl) | (rw [if_neg (by decide +kernel)]; exact ⟨rfl, rfl⟩))
    (fun os started H enc _ F => lifted os started H enc F)
end Go.Proofs.Ytgcjchcmnlifmaa.chainNexts
