/- A text of this proof. -/
import Derived.Test.YtiljnpeplbmjgaaRows
import Derived.WalkKit
import Derived.ProofKit
import Derived.OpenShut
import Derived.JoinedCond
import Derived.Test.YtiljnpeplbmjgaaR4
import Derived.Test.YtiljnpeplbmjgaaAbsF

/- The law RecordBack: for every input that holds at most 1048576 values and letters together the call answers true, and what came in reads behind it as before. Conditions: the bound alone. -/
namespace Go.Proofs.Ytiljnpeplbmjgaa.recordBack
open Go Go.Abs Go.Sh Go.ChangeShapes Go.WideShapes Go.ChangeAt Go.RowKit

theorem own : ownKnob Try.prog.godebug = none := by kernel_rfl

set_option maxRecDepth 100000 in
theorem law {H : Type} (B : AHeap) (av : List AVal) (ds : List (DataW H)) (hk : Rows.uptoSmall H ds = true) (h : ArgAll Try.prog B [26, 26, 29] av ds) : ∃ H', S_cellaretlaw13_RecordBack av B (.bool true) H' := by
  obtain ⟨a0, av, d0, ds, rfl, rfl, h0, h⟩ := h
  obtain ⟨a1, av, d1, ds, rfl, rfl, h1, h⟩ := h
  obtain ⟨a2, av, d2, ds, rfl, rfl, h2, h⟩ := h
  obtain ⟨rfl, rfl⟩ := h
  have strg : ∀ {x : AVal} {d : DataW H}, ArgV Try.prog B 29 x d → ∃ l, View B x 1 l.length (strs l) ∧ l.length ≤ 9223372036854775807 := by
    intro x d hx
    obtain ⟨l, hv, hl⟩ := (hx.one (by kernel_rfl)).rows (e := 9) (n := 9) (ks := [.str]) (fun s : List UInt8 => [.str s]) (fun _ => by kernel_rfl) (by kernel_rfl) (by kernel_rfl) (fun cs hc => by obtain ⟨_, _, rfl, ⟨s, rfl, _⟩, rfl⟩ := hc; exact ⟨s, rfl⟩)
    rw [show Try.prog.cellsOf 9 = 1 by kernel_rfl] at hv
    refine ⟨l, ?_, Nat.le_trans hl (by decide)⟩
    have e : flat (fun s : List UInt8 => [AVal.str s]) l = strs l := flatten_one AVal.str l
    rw [← e]; exact hv
  have recd : ∀ {a : AVal} {d : DataW H}, ArgV Try.prog B 26 a d → ∃ q x, a = recV q x ∧ RecAt B q x ∧ q.puts.length ≤ 9223372036854775807 := by
    intro a d hx
    obtain ⟨cs, rfl, hf⟩ := hx.fit 9 (.int .i64 :: (List.replicate 32 (.int .u8) ++ [.sl 24])) (by kernel_rfl) (by kernel_rfl)
    obtain ⟨_, cs1, rfl, ⟨seq, rfl, _⟩, hf⟩ := hf
    obtain ⟨root, cs2, hr, rfl, hf2⟩ := hf.bytes
    obtain ⟨pv, _, rfl, ⟨dp, hp⟩, rfl⟩ := hf2
    obtain ⟨l, hv, hl⟩ := hp.rows (e := 48) (n := 9) (ks := [.int .i64, .str]) ptc (fun b => by rw [ptc_len]; kernel_rfl) (by kernel_rfl) (by kernel_rfl) (fun cs hc => by obtain ⟨_, _, rfl, ⟨n, rfl, _⟩, _, _, rfl, ⟨s, rfl, _⟩, rfl⟩ := hc; exact ⟨⟨n, s⟩, rfl⟩)
    rw [show Try.prog.cellsOf 48 = 2 by kernel_rfl] at hv
    exact ⟨⟨seq, root, l⟩, pv, rfl, ⟨hr, hv⟩, Nat.le_trans hl (by decide)⟩
  obtain ⟨p, x, rfl, hp, hpl⟩ := recd h0
  obtain ⟨q, y, rfl, hq, hql⟩ := recd h1
  obtain ⟨l, hz, hl⟩ := strg h2
  exact law_RecordBack hz hl hp hpl hq hql

set_option maxRecDepth 100000 in
theorem contract (H : Type) (enc : TypeId × Value → H) (W : World) (base : Nat) (args : Array Value) (ds gs : List (DataW H)) (before : List MemPlace)
    (hval : ∀ (j : Nat) t v, Try.f6.params[j]? = some t → args[j]? = some v → Value.okWide Try.prog W .any base t v)
    (hW : DataW.Whole enc Try.prog Try.f6.params.toList Rows.recordBackSpec.vars false W args.toList ds gs before) (hk : Rows.uptoSmall H (ds ++ gs) = true) :
    Calls Try.prog 6 args W fun e W' => ∃ v, e = .returned v ∧ Rows.recordBackSpec.post enc Try.prog Try.f6 false true false false W args v W' := by
  have hg : gs = [] := by
    obtain ⟨p, q, _, hV, _⟩ := hW
    exact (trodVars_none hV).1
  subst hg
  rw [List.append_nil] at hk
  have hpar : Try.f6.params.toList = [26, 26, 29] := by kernel_rfl
  refine row_calls (m := 12) (tb := 4) own.cellaretlaw13_RecordBack.fn (by kernel_rfl) (by kernel_rfl) (by kernel_rfl) (by kernel_rfl) rfl ?_ hval hW ?_
  · intro ds hl
    rw [hpar] at hl
    match ds, hl with
    | [d0, d1, d2], _ => rfl
  · intro B av h
    rw [hpar] at h
    exact law B av ds hk h

set_option maxRecDepth 100000 in
theorem lifted (os : Os) (started : os.Started) (H : Type) (enc : TypeId × Value → H) (F : Stop.Interp) :
    ReturnsInHanded {} Try.checked os 6 .any ((Rows.OpenSpec.upto Rows.recordBackSpec).pre6 enc Try.prog Try.f6 Rows.recordBackUptoRow.domain false) (((Rows.OpenSpec.upto Rows.recordBackSpec).at F).post enc Try.prog Try.f6 false true false false) := by
  refine returnsInHanded_of_cond (C := Try.checked) (s := Rows.OpenSpec.upto Rows.recordBackSpec) (k := Rows.uptoSmall) rfl own started (by kernel_rfl) Try.func6
    (OpenSpec.witness (enc := enc) (C := Try.checked) (s := Rows.OpenSpec.upto Rows.recordBackSpec) (k := Rows.uptoSmall) rfl false ⟨#[], #[.agg #[.int .i64 0, .int .u8 0, .int .u8 0, .int .u8 0, .int .u8 0, .int .u8 0, .int .u8 0, .int .u8 0, .int .u8 0, .int .u8 0, .int .u8 0, .int .u8 0, .int .u8 0, .int .u8 0, .int .u8 0, .int .u8 0, .int .u8 0, .int .u8 0, .int .u8 0, .int .u8 0, .int .u8 0, .int .u8 0, .int .u8 0, .int .u8 0, .int .u8 0, .int .u8 0, .int .u8 0, .int .u8 0, .int .u8 0, .int .u8 0, .int .u8 0, .int .u8 0, .int .u8 0, .slice none 0 0], .agg #[.int .i64 0, .int .u8 0, .int .u8 0, .int .u8 0, .int .u8 0, .int .u8 0, .int .u8 0, .int .u8 0, .int .u8 0, .int .u8 0, .int .u8 0, .int .u8 0, .int .u8 0, .int .u8 0, .int .u8 0, .int .u8 0, .int .u8 0, .int .u8 0, .int .u8 0, .int .u8 0, .int .u8 0, .int .u8 0, .int .u8 0, .int .u8 0, .int .u8 0, .int .u8 0, .int .u8 0, .int .u8 0, .int .u8 0, .int .u8 0, .int .u8 0, .int .u8 0, .int .u8 0, .slice none 0 0], .slice none 0 0], []⟩ 8 (by kernel_rfl) (by kernel_rfl) (by kernel_rfl)
      (x := ([.agg [.lit (.int .i64 0), .agg [.lit (.int .u8 0), .lit (.int .u8 0), .lit (.int .u8 0), .lit (.int .u8 0), .lit (.int .u8 0), .lit (.int .u8 0), .lit (.int .u8 0), .lit (.int .u8 0), .lit (.int .u8 0), .lit (.int .u8 0), .lit (.int .u8 0), .lit (.int .u8 0), .lit (.int .u8 0), .lit (.int .u8 0), .lit (.int .u8 0), .lit (.int .u8 0), .lit (.int .u8 0), .lit (.int .u8 0), .lit (.int .u8 0), .lit (.int .u8 0), .lit (.int .u8 0), .lit (.int .u8 0), .lit (.int .u8 0), .lit (.int .u8 0), .lit (.int .u8 0), .lit (.int .u8 0), .lit (.int .u8 0), .lit (.int .u8 0), .lit (.int .u8 0), .lit (.int .u8 0), .lit (.int .u8 0), .lit (.int .u8 0)], .nil], .agg [.lit (.int .i64 0), .agg [.lit (.int .u8 0), .lit (.int .u8 0), .lit (.int .u8 0), .lit (.int .u8 0), .lit (.int .u8 0), .lit (.int .u8 0), .lit (.int .u8 0), .lit (.int .u8 0), .lit (.int .u8 0), .lit (.int .u8 0), .lit (.int .u8 0), .lit (.int .u8 0), .lit (.int .u8 0), .lit (.int .u8 0), .lit (.int .u8 0), .lit (.int .u8 0), .lit (.int .u8 0), .lit (.int .u8 0), .lit (.int .u8 0), .lit (.int .u8 0), .lit (.int .u8 0), .lit (.int .u8 0), .lit (.int .u8 0), .lit (.int .u8 0), .lit (.int .u8 0), .lit (.int .u8 0), .lit (.int .u8 0), .lit (.int .u8 0), .lit (.int .u8 0), .lit (.int .u8 0), .lit (.int .u8 0), .lit (.int .u8 0)], .nil], .nil], [], [])) (by kernel_rfl) rfl (by kernel_rfl)) ?_
  intro W base args ds gs before hval hW _ hk _
  exact contract H enc W base args ds gs before hval hW hk

theorem proved : Rows.RecordBackUptoSaid :=
  OpenClaim.holds_of_cond 6 Try.f6 rfl rfl rfl rfl rfl rfl rfl ⟨rfl, rfl, rfl, rfl, rfl⟩ rfl rfl rfl rfl rfl (by kernel_rfl) Try.func6 (by kernel_rfl)
    (of_decide_eq_true (by kernel_rfl)) (by unfold Func.isWrapper; first | (rw [if_pos (by decide +kernel)]; kernel_rfl) | (rw [if_neg (by decide +kernel)]; exact ⟨rfl, rfl⟩))
    (fun os started H enc _ F => lifted os started H enc F)
end Go.Proofs.Ytiljnpeplbmjgaa.recordBack
