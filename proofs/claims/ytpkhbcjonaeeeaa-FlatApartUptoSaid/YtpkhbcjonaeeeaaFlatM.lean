/- One text of these: Flat0, FlatW1, FlatP1, FlatP2, FlatP3, FlatP4, FlatP5, FlatP6, FlatP7. -/
import Derived.Test.YtpkhbcjonaeeeaaRecB

/- Models of blocks: worlds, states. -/
namespace Go.Sh
open Go Go.Abs
/-- A state is blocks; a world (chain) is states, one behind the other. -/
abbrev St := List (List UInt8)
abbrev Wd := List St
theorem LoopP.sub {A B : Body} (h : ∀ vs H Kn Ke, A vs H Kn Ke → B vs H Kn Ke) {vs : List AVal} {H : AHeap} {K : AExit → List AVal → AHeap → Prop} (k : Go.Abs.LoopP A vs H K)
    (mono : ∀ vs H (Kn Kn' : List AVal → AHeap → Prop) Ke, (∀ v H, Kn v H → Kn' v H) → A vs H Kn Ke → A vs H Kn' Ke) : Go.Abs.LoopP B vs H K := by
  obtain ⟨n, k⟩ := k
  refine ⟨n, ?_⟩
  induction n generalizing vs H with
  | zero => exact k
  | succ n ih => exact h _ _ _ _ (mono _ _ _ _ _ (fun v H kk => ih kk) k)
end Go.Sh

/- What Go functions come to over abstract values, printed by a program (wx.py); of each function its own text is what is told of it. -/
namespace Go.Sh
open Go Go.Abs

def flat_Flat_may.w (x0 : AVal) (x1 : AVal) (x2 : AVal) (H : AHeap) (K : AVal → AHeap → Prop) : Prop :=
  vb (aEql false .ptr H x0 .nilp) fun v1 =>
  isB v1 fun b2 => cond b2
    (fin .ret [.v (.int .i64 1)] H K)
    (vb (aBin .lss x2 (.int .i64 1)) fun v3 =>
    isB v3 fun b4 => cond b4
      (fin .ret [.v (.int .i64 2)] H K)
      (vb (aBin .lss x1 (.int .i64 0)) fun v5 =>
      isB v5 fun b6 => cond b6
        (fin .ret [.v (.int .i64 3)] H K)
        (vb (aNilCheck x0) fun v7 =>
            vb (aFieldAddr 0 v7) fun v8 =>
              vb (aLoad H false 1 v8) fun v9 =>
                vb (aBin .gtr x2 v9) fun v10 =>
                  isB v10 fun b11 => cond b11
                    (fin .ret [.v (.int .i64 3)] H K)
                    (vb (aNilCheck x0) fun v12 =>
                        vb (aFieldAddr 0 v12) fun v13 =>
                          vb (aLoad H false 1 v13) fun v14 =>
                            vb (aBin .sub v14 x2) fun v15 =>
                                vb (aBin .gtr x1 v15) fun v16 =>
                                  isB v16 fun b17 => cond b17
                                    (fin .ret [.v (.int .i64 3)] H K)
                                    (fin .ret [.v (.int .i64 0)] H K)))))

def S_flat_Flat_may : Abs.Spec := fun args H r H' => ∃ x0 x1 x2 : AVal, args = [x0, x1, x2] ∧ (flat_Flat_may.w x0 x1 x2 H fun r1 H1 => r1 = r ∧ H1 = H') ∧ H <+: H'
theorem flat_Flat_may.ok (args : List AVal) (H : AHeap) (r : AVal) (H' : AHeap) (h : S_flat_Flat_may args H r H') : ∃ x0 x1 x2 : AVal, args = [x0, x1, x2] ∧ flat_Flat_may.w x0 x1 x2 H fun r1 H1 => r1 = r ∧ H1 = H' := by
  obtain ⟨x0, x1, x2, h1, h2, _⟩ := h
  exact ⟨x0, x1, x2, h1, h2⟩
theorem flat_Flat_may.quiet {args : List AVal} {H : AHeap} {r : AVal} {H' : AHeap} (h : S_flat_Flat_may args H r H') : H <+: H' := by
  obtain ⟨_, _, _, _, _, h⟩ := h
  exact h
set_option maxRecDepth 100000 in
theorem flat_Flat_may.ex (x0 x1 x2 : AVal) (H : AHeap) : Ex fun K : AVal × AHeap → Prop => flat_Flat_may.w x0 x1 x2 H fun r H => K (r, H) := by
  unfold flat_Flat_may.w
  repeat with_reducible first
    | exact Ex.pt _
    | exact Ex.fin
    | exact Ex.no
    | refine Ex.vb fun _ => ?_
    | refine Ex.hb fun _ _ => ?_
    | refine Ex.sb fun _ => ?_
    | refine Ex.cb fun _ _ => ?_
    | refine Ex.isB fun _ => ?_
    | refine Ex.cond ?_ ?_
    | refine Ex.onE ?_ ?_
    | refine Ex.join ?_ fun _ _ _ => ?_
    | refine Ex.loop (fun _ _ => ?_) fun _ _ _ => ?_

theorem flat_Flat_may.out {x0 x1 x2 : AVal} {H : AHeap} {Q : AVal → AHeap → Prop} (h : flat_Flat_may.w x0 x1 x2 H fun r H' => (H <+: H') ∧ Q r H') : ∃ r H', S_flat_Flat_may [x0, x1, x2] H r H' ∧ Q r H' := by
  obtain ⟨r, H', h1, h2⟩ := (flat_Flat_may.ex x0 x1 x2 H).out h
  exact ⟨r, H', ⟨_, _, _, rfl, h1, h2.1⟩, h2.2⟩

def flat_Flat_data.w (x0 : AVal) (x1 : AVal) (x2 : AVal) (H : AHeap) (K : AVal → AHeap → Prop) : Prop :=
  JoinP (fun Kj1 => vb (aEql true .ptr H x0 .nilp) fun v2 =>
    isB v2 fun b3 => cond b3
      (vb (lenSt x2) fun v4 =>
        vb (aBin .rem v4 (.int .i64 48)) fun v5 =>
          vb (aBin .neq v5 (.int .i64 0)) fun v6 =>
            isB v6 fun b7 => cond b7
              (Kj1 .ret [.int .i64 2] H)
              (Kj1 .normal [.int .i64 0] H))
      (Kj1 .normal [.int .i64 0] H))
  (fun e8 vs9 H10 =>
    onE e8 .normal
      (vb (lenSt x2) fun v11 =>
      vb (aBin .quo v11 (.int .i64 48)) fun v12 =>
      cb (S_flat_Flat_may [x0, x1, v12] H10) fun v13 H14 =>
      fin .ret [.v (v13)] H14 K)
    (onE e8 .ret
      (fin .ret [.v (vs9.getD 0 .undef)] H10 K)
    (False)))

def S_flat_Flat_data : Abs.Spec := fun args H r H' => ∃ x0 x1 x2 : AVal, args = [x0, x1, x2] ∧ (flat_Flat_data.w x0 x1 x2 H fun r1 H1 => r1 = r ∧ H1 = H') ∧ H <+: H'
theorem flat_Flat_data.ok (args : List AVal) (H : AHeap) (r : AVal) (H' : AHeap) (h : S_flat_Flat_data args H r H') : ∃ x0 x1 x2 : AVal, args = [x0, x1, x2] ∧ flat_Flat_data.w x0 x1 x2 H fun r1 H1 => r1 = r ∧ H1 = H' := by
  obtain ⟨x0, x1, x2, h1, h2, _⟩ := h
  exact ⟨x0, x1, x2, h1, h2⟩
theorem flat_Flat_data.quiet {args : List AVal} {H : AHeap} {r : AVal} {H' : AHeap} (h : S_flat_Flat_data args H r H') : H <+: H' := by
  obtain ⟨_, _, _, _, _, h⟩ := h
  exact h
set_option maxRecDepth 100000 in
theorem flat_Flat_data.ex (x0 x1 x2 : AVal) (H : AHeap) : Ex fun K : AVal × AHeap → Prop => flat_Flat_data.w x0 x1 x2 H fun r H => K (r, H) := by
  unfold flat_Flat_data.w
  repeat with_reducible first
    | exact Ex.pt _
    | exact Ex.fin
    | exact Ex.no
    | refine Ex.vb fun _ => ?_
    | refine Ex.hb fun _ _ => ?_
    | refine Ex.sb fun _ => ?_
    | refine Ex.cb fun _ _ => ?_
    | refine Ex.isB fun _ => ?_
    | refine Ex.cond ?_ ?_
    | refine Ex.onE ?_ ?_
    | refine Ex.join ?_ fun _ _ _ => ?_
    | refine Ex.loop (fun _ _ => ?_) fun _ _ _ => ?_

theorem flat_Flat_data.out {x0 x1 x2 : AVal} {H : AHeap} {Q : AVal → AHeap → Prop} (h : flat_Flat_data.w x0 x1 x2 H fun r H' => (H <+: H') ∧ Q r H') : ∃ r H', S_flat_Flat_data [x0, x1, x2] H r H' ∧ Q r H' := by
  obtain ⟨r, H', h1, h2⟩ := (flat_Flat_data.ex x0 x1 x2 H).out h
  exact ⟨r, H', ⟨_, _, _, rfl, h1, h2.1⟩, h2.2⟩

def flat_chain_last.w (x0 : AVal) (H : AHeap) (K : AVal → AHeap → Prop) : Prop :=
  vb (lenSl x0) fun v1 =>
  vb (aBin .sub v1 (.int .i64 1)) fun v2 =>
  vb (aIndexAddr 1 x0 v2) fun v3 =>
  vb (aLoad H false 1 v3) fun v4 =>
  fin .ret [.v (v4)] H K

def S_flat_chain_last : Abs.Spec := fun args H r H' => ∃ x0 : AVal, args = [x0] ∧ (flat_chain_last.w x0 H fun r1 H1 => r1 = r ∧ H1 = H') ∧ H <+: H'
theorem flat_chain_last.ok (args : List AVal) (H : AHeap) (r : AVal) (H' : AHeap) (h : S_flat_chain_last args H r H') : ∃ x0 : AVal, args = [x0] ∧ flat_chain_last.w x0 H fun r1 H1 => r1 = r ∧ H1 = H' := by
  obtain ⟨x0, h1, h2, _⟩ := h
  exact ⟨x0, h1, h2⟩
theorem flat_chain_last.quiet {args : List AVal} {H : AHeap} {r : AVal} {H' : AHeap} (h : S_flat_chain_last args H r H') : H <+: H' := by
  obtain ⟨_, _, _, h⟩ := h
  exact h
set_option maxRecDepth 100000 in
theorem flat_chain_last.ex (x0 : AVal) (H : AHeap) : Ex fun K : AVal × AHeap → Prop => flat_chain_last.w x0 H fun r H => K (r, H) := by
  unfold flat_chain_last.w
  repeat with_reducible first
    | exact Ex.pt _
    | exact Ex.fin
    | exact Ex.no
    | refine Ex.vb fun _ => ?_
    | refine Ex.hb fun _ _ => ?_
    | refine Ex.sb fun _ => ?_
    | refine Ex.cb fun _ _ => ?_
    | refine Ex.isB fun _ => ?_
    | refine Ex.cond ?_ ?_
    | refine Ex.onE ?_ ?_
    | refine Ex.join ?_ fun _ _ _ => ?_
    | refine Ex.loop (fun _ _ => ?_) fun _ _ _ => ?_

theorem flat_chain_last.out {x0 : AVal} {H : AHeap} {Q : AVal → AHeap → Prop} (h : flat_chain_last.w x0 H fun r H' => (H <+: H') ∧ Q r H') : ∃ r H', S_flat_chain_last [x0] H r H' ∧ Q r H' := by
  obtain ⟨r, H', h1, h2⟩ := (flat_chain_last.ex x0 H).out h
  exact ⟨r, H', ⟨_, rfl, h1, h2.1⟩, h2.2⟩

def slices_Clone_flat_state_string.w (x0 : AVal) (H : AHeap) (K : AVal → AHeap → Prop) : Prop :=
  vb (aEql false .slice H x0 .nils) fun v1 =>
  isB v1 fun b2 => cond b2
    (fin .ret [.v (.nils)] H K)
    (hb (aBuildSlice H 1 [.str []] 0 []) fun v3 H4 =>
    hb (aAppendS H4 1 16 v3 x0) fun v5 H6 =>
    fin .ret [.v (v5)] H6 K)

def S_slices_Clone_flat_state_string : Abs.Spec := fun args H r H' => ∃ x0 : AVal, args = [x0] ∧ (slices_Clone_flat_state_string.w x0 H fun r1 H1 => r1 = r ∧ H1 = H') ∧ H <+: H'
theorem slices_Clone_flat_state_string.ok (args : List AVal) (H : AHeap) (r : AVal) (H' : AHeap) (h : S_slices_Clone_flat_state_string args H r H') : ∃ x0 : AVal, args = [x0] ∧ slices_Clone_flat_state_string.w x0 H fun r1 H1 => r1 = r ∧ H1 = H' := by
  obtain ⟨x0, h1, h2, _⟩ := h
  exact ⟨x0, h1, h2⟩
theorem slices_Clone_flat_state_string.quiet {args : List AVal} {H : AHeap} {r : AVal} {H' : AHeap} (h : S_slices_Clone_flat_state_string args H r H') : H <+: H' := by
  obtain ⟨_, _, _, h⟩ := h
  exact h
set_option maxRecDepth 100000 in
theorem slices_Clone_flat_state_string.ex (x0 : AVal) (H : AHeap) : Ex fun K : AVal × AHeap → Prop => slices_Clone_flat_state_string.w x0 H fun r H => K (r, H) := by
  unfold slices_Clone_flat_state_string.w
  repeat with_reducible first
    | exact Ex.pt _
    | exact Ex.fin
    | exact Ex.no
    | refine Ex.vb fun _ => ?_
    | refine Ex.hb fun _ _ => ?_
    | refine Ex.sb fun _ => ?_
    | refine Ex.cb fun _ _ => ?_
    | refine Ex.isB fun _ => ?_
    | refine Ex.cond ?_ ?_
    | refine Ex.onE ?_ ?_
    | refine Ex.join ?_ fun _ _ _ => ?_
    | refine Ex.loop (fun _ _ => ?_) fun _ _ _ => ?_

theorem slices_Clone_flat_state_string.out {x0 : AVal} {H : AHeap} {Q : AVal → AHeap → Prop} (h : slices_Clone_flat_state_string.w x0 H fun r H' => (H <+: H') ∧ Q r H') : ∃ r H', S_slices_Clone_flat_state_string [x0] H r H' ∧ Q r H' := by
  obtain ⟨r, H', h1, h2⟩ := (slices_Clone_flat_state_string.ex x0 H).out h
  exact ⟨r, H', ⟨_, rfl, h1, h2.1⟩, h2.2⟩

def slices_Clone_flat_chain_flat_chain.w (x0 : AVal) (H : AHeap) (K : AVal → AHeap → Prop) : Prop :=
  vb (aEql false .slice H x0 .nils) fun v1 =>
  isB v1 fun b2 => cond b2
    (fin .ret [.v (.nils)] H K)
    (hb (aBuildSlice H 1 [.nils] 0 []) fun v3 H4 =>
    hb (aAppendS H4 1 24 v3 x0) fun v5 H6 =>
    fin .ret [.v (v5)] H6 K)

def S_slices_Clone_flat_chain_flat_chain : Abs.Spec := fun args H r H' => ∃ x0 : AVal, args = [x0] ∧ (slices_Clone_flat_chain_flat_chain.w x0 H fun r1 H1 => r1 = r ∧ H1 = H') ∧ H <+: H'
theorem slices_Clone_flat_chain_flat_chain.ok (args : List AVal) (H : AHeap) (r : AVal) (H' : AHeap) (h : S_slices_Clone_flat_chain_flat_chain args H r H') : ∃ x0 : AVal, args = [x0] ∧ slices_Clone_flat_chain_flat_chain.w x0 H fun r1 H1 => r1 = r ∧ H1 = H' := by
  obtain ⟨x0, h1, h2, _⟩ := h
  exact ⟨x0, h1, h2⟩
theorem slices_Clone_flat_chain_flat_chain.quiet {args : List AVal} {H : AHeap} {r : AVal} {H' : AHeap} (h : S_slices_Clone_flat_chain_flat_chain args H r H') : H <+: H' := by
  obtain ⟨_, _, _, h⟩ := h
  exact h
set_option maxRecDepth 100000 in
theorem slices_Clone_flat_chain_flat_chain.ex (x0 : AVal) (H : AHeap) : Ex fun K : AVal × AHeap → Prop => slices_Clone_flat_chain_flat_chain.w x0 H fun r H => K (r, H) := by
  unfold slices_Clone_flat_chain_flat_chain.w
  repeat with_reducible first
    | exact Ex.pt _
    | exact Ex.fin
    | exact Ex.no
    | refine Ex.vb fun _ => ?_
    | refine Ex.hb fun _ _ => ?_
    | refine Ex.sb fun _ => ?_
    | refine Ex.cb fun _ _ => ?_
    | refine Ex.isB fun _ => ?_
    | refine Ex.cond ?_ ?_
    | refine Ex.onE ?_ ?_
    | refine Ex.join ?_ fun _ _ _ => ?_
    | refine Ex.loop (fun _ _ => ?_) fun _ _ _ => ?_

theorem slices_Clone_flat_chain_flat_chain.out {x0 : AVal} {H : AHeap} {Q : AVal → AHeap → Prop} (h : slices_Clone_flat_chain_flat_chain.w x0 H fun r H' => (H <+: H') ∧ Q r H') : ∃ r H', S_slices_Clone_flat_chain_flat_chain [x0] H r H' ∧ Q r H' := by
  obtain ⟨r, H', h1, h2⟩ := (slices_Clone_flat_chain_flat_chain.ex x0 H).out h
  exact ⟨r, H', ⟨_, rfl, h1, h2.1⟩, h2.2⟩

def slices_Equal_flat_state_string.L4.b (v5 : AVal) (x0 : AVal) (x1 : AVal) (x13_4 : AVal) (H6 : AHeap) (Kn7 : List AVal → AHeap → Prop) (Ke8 : AExit → List AVal → AHeap → Prop) : Prop :=
  vb (aBin .lss x13_4 v5) fun v9 =>
  isB v9 fun b10 => cond b10
    (vb (aIndexAddr 1 x0 x13_4) fun v11 =>
    vb (aLoad H6 false 1 v11) fun v12 =>
    vb (aIndexAddr 1 x1 x13_4) fun v13 =>
    vb (aLoad H6 false 1 v13) fun v14 =>
    vb (aBin .neq v12 v14) fun v15 =>
    isB v15 fun b16 => cond b16
      (Ke8 .ret [.bool false] H6)
      (vb (aBin .add x13_4 (.int .i64 1)) fun v17 =>
      Kn7 [v17] H6))
    (Ke8 (.exit 0) [.undef] H6)

def slices_Equal_flat_state_string.L4 (v5 : AVal) (x0 : AVal) (x1 : AVal) : Body := fun vs H Kn Ke => slices_Equal_flat_state_string.L4.b v5 x0 x1 (vs.getD 0 .undef) H Kn Ke

def slices_Equal_flat_state_string.w (x0 : AVal) (x1 : AVal) (H : AHeap) (K : AVal → AHeap → Prop) : Prop :=
  vb (lenSl x0) fun v1 =>
  vb (lenSl x1) fun v2 =>
  vb (aBin .neq v1 v2) fun v3 =>
  isB v3 fun b4 => cond b4
    (fin .ret [.v (.bool false)] H K)
    (vb (lenSl x0) fun v5 =>
    LoopP (slices_Equal_flat_state_string.L4 v5 x0 x1) [.int .i64 0] H fun e18 vs19 H20 =>
      onE e18 (.exit 0)
        (fin .ret [.v (.bool true)] H20 K)
      (onE e18 .ret
        (fin .ret [.v (vs19.getD 0 .undef)] H20 K)
      (False)))

def S_slices_Equal_flat_state_string : Abs.Spec := fun args H r H' => ∃ x0 x1 : AVal, args = [x0, x1] ∧ (slices_Equal_flat_state_string.w x0 x1 H fun r1 H1 => r1 = r ∧ H1 = H') ∧ H <+: H'
theorem slices_Equal_flat_state_string.ok (args : List AVal) (H : AHeap) (r : AVal) (H' : AHeap) (h : S_slices_Equal_flat_state_string args H r H') : ∃ x0 x1 : AVal, args = [x0, x1] ∧ slices_Equal_flat_state_string.w x0 x1 H fun r1 H1 => r1 = r ∧ H1 = H' := by
  obtain ⟨x0, x1, h1, h2, _⟩ := h
  exact ⟨x0, x1, h1, h2⟩
theorem slices_Equal_flat_state_string.quiet {args : List AVal} {H : AHeap} {r : AVal} {H' : AHeap} (h : S_slices_Equal_flat_state_string args H r H') : H <+: H' := by
  obtain ⟨_, _, _, _, h⟩ := h
  exact h
set_option maxRecDepth 100000 in
theorem slices_Equal_flat_state_string.ex (x0 x1 : AVal) (H : AHeap) : Ex fun K : AVal × AHeap → Prop => slices_Equal_flat_state_string.w x0 x1 H fun r H => K (r, H) := by
  unfold slices_Equal_flat_state_string.w
  repeat with_reducible first
    | exact Ex.pt _
    | exact Ex.fin
    | exact Ex.no
    | refine Ex.vb fun _ => ?_
    | refine Ex.hb fun _ _ => ?_
    | refine Ex.sb fun _ => ?_
    | refine Ex.cb fun _ _ => ?_
    | refine Ex.isB fun _ => ?_
    | refine Ex.cond ?_ ?_
    | refine Ex.onE ?_ ?_
    | refine Ex.join ?_ fun _ _ _ => ?_
    | refine Ex.loop (fun _ _ => ?_) fun _ _ _ => ?_
    | (unfold slices_Equal_flat_state_string.L4; unfold slices_Equal_flat_state_string.L4.b)

theorem slices_Equal_flat_state_string.out {x0 x1 : AVal} {H : AHeap} {Q : AVal → AHeap → Prop} (h : slices_Equal_flat_state_string.w x0 x1 H fun r H' => (H <+: H') ∧ Q r H') : ∃ r H', S_slices_Equal_flat_state_string [x0, x1] H r H' ∧ Q r H' := by
  obtain ⟨r, H', h1, h2⟩ := (slices_Equal_flat_state_string.ex x0 x1 H).out h
  exact ⟨r, H', ⟨_, _, rfl, h1, h2.1⟩, h2.2⟩

def flat_state_same.w (x0 : AVal) (x1 : AVal) (H : AHeap) (K : AVal → AHeap → Prop) : Prop :=
  cb (S_slices_Equal_flat_state_string [x0, x1] H) fun v1 H2 =>
  fin .ret [.v (v1)] H2 K

def S_flat_state_same : Abs.Spec := fun args H r H' => ∃ x0 x1 : AVal, args = [x0, x1] ∧ (flat_state_same.w x0 x1 H fun r1 H1 => r1 = r ∧ H1 = H') ∧ H <+: H'
theorem flat_state_same.ok (args : List AVal) (H : AHeap) (r : AVal) (H' : AHeap) (h : S_flat_state_same args H r H') : ∃ x0 x1 : AVal, args = [x0, x1] ∧ flat_state_same.w x0 x1 H fun r1 H1 => r1 = r ∧ H1 = H' := by
  obtain ⟨x0, x1, h1, h2, _⟩ := h
  exact ⟨x0, x1, h1, h2⟩
theorem flat_state_same.quiet {args : List AVal} {H : AHeap} {r : AVal} {H' : AHeap} (h : S_flat_state_same args H r H') : H <+: H' := by
  obtain ⟨_, _, _, _, h⟩ := h
  exact h
set_option maxRecDepth 100000 in
theorem flat_state_same.ex (x0 x1 : AVal) (H : AHeap) : Ex fun K : AVal × AHeap → Prop => flat_state_same.w x0 x1 H fun r H => K (r, H) := by
  unfold flat_state_same.w
  repeat with_reducible first
    | exact Ex.pt _
    | exact Ex.fin
    | exact Ex.no
    | refine Ex.vb fun _ => ?_
    | refine Ex.hb fun _ _ => ?_
    | refine Ex.sb fun _ => ?_
    | refine Ex.cb fun _ _ => ?_
    | refine Ex.isB fun _ => ?_
    | refine Ex.cond ?_ ?_
    | refine Ex.onE ?_ ?_
    | refine Ex.join ?_ fun _ _ _ => ?_
    | refine Ex.loop (fun _ _ => ?_) fun _ _ _ => ?_

theorem flat_state_same.out {x0 x1 : AVal} {H : AHeap} {Q : AVal → AHeap → Prop} (h : flat_state_same.w x0 x1 H fun r H' => (H <+: H') ∧ Q r H') : ∃ r H', S_flat_state_same [x0, x1] H r H' ∧ Q r H' := by
  obtain ⟨r, H', h1, h2⟩ := (flat_state_same.ex x0 x1 H).out h
  exact ⟨r, H', ⟨_, _, rfl, h1, h2.1⟩, h2.2⟩

def flat_state_with.L3.b (x2 : AVal) (x1 : AVal) (v1 : AVal) (x8_3 : AVal) (H3 : AHeap) (Kn4 : List AVal → AHeap → Prop) (Ke5 : AExit → List AVal → AHeap → Prop) : Prop :=
  vb (lenSt x2) fun v6 =>
  vb (aBin .quo v6 (.int .i64 48)) fun v7 =>
  vb (aBin .lss x8_3 v7) fun v8 =>
  isB v8 fun b9 => cond b9
    (vb (aBin .add x1 x8_3) fun v10 =>
    vb (aBin .mul (.int .i64 48) x8_3) fun v11 =>
    vb (aBin .add x8_3 (.int .i64 1)) fun v12 =>
    vb (aBin .mul (.int .i64 48) v12) fun v13 =>
    vb (aSliceStr x2 (some v11) (some v13)) fun v14 =>
    vb (aIndexAddr 1 v1 v10) fun v15 =>
    sb (aStore H3 1 v15 v14) fun H16 =>
    vb (aBin .add x8_3 (.int .i64 1)) fun v17 =>
    Kn4 [v17] H16)
    (Ke5 (.exit 0) [] H3)

def flat_state_with.L3 (x2 : AVal) (x1 : AVal) (v1 : AVal) : Body := fun vs H Kn Ke => flat_state_with.L3.b x2 x1 v1 (vs.getD 0 .undef) H Kn Ke

def flat_state_with.w (x0 : AVal) (x1 : AVal) (x2 : AVal) (H : AHeap) (K : AVal → AHeap → Prop) : Prop :=
  cb (S_slices_Clone_flat_state_string [x0] H) fun v1 H2 =>
  LoopP (flat_state_with.L3 x2 x1 v1) [.int .i64 0] H2 fun e18 vs19 H20 =>
    onE e18 (.exit 0)
      (fin .ret [.v (v1)] H20 K)
    (False)

def S_flat_state_with : Abs.Spec := fun args H r H' => ∃ x0 x1 x2 : AVal, args = [x0, x1, x2] ∧ (flat_state_with.w x0 x1 x2 H fun r1 H1 => r1 = r ∧ H1 = H') ∧ H <+: H'
theorem flat_state_with.ok (args : List AVal) (H : AHeap) (r : AVal) (H' : AHeap) (h : S_flat_state_with args H r H') : ∃ x0 x1 x2 : AVal, args = [x0, x1, x2] ∧ flat_state_with.w x0 x1 x2 H fun r1 H1 => r1 = r ∧ H1 = H' := by
  obtain ⟨x0, x1, x2, h1, h2, _⟩ := h
  exact ⟨x0, x1, x2, h1, h2⟩
theorem flat_state_with.quiet {args : List AVal} {H : AHeap} {r : AVal} {H' : AHeap} (h : S_flat_state_with args H r H') : H <+: H' := by
  obtain ⟨_, _, _, _, _, h⟩ := h
  exact h
set_option maxRecDepth 100000 in
theorem flat_state_with.ex (x0 x1 x2 : AVal) (H : AHeap) : Ex fun K : AVal × AHeap → Prop => flat_state_with.w x0 x1 x2 H fun r H => K (r, H) := by
  unfold flat_state_with.w
  repeat with_reducible first
    | exact Ex.pt _
    | exact Ex.fin
    | exact Ex.no
    | refine Ex.vb fun _ => ?_
    | refine Ex.hb fun _ _ => ?_
    | refine Ex.sb fun _ => ?_
    | refine Ex.cb fun _ _ => ?_
    | refine Ex.isB fun _ => ?_
    | refine Ex.cond ?_ ?_
    | refine Ex.onE ?_ ?_
    | refine Ex.join ?_ fun _ _ _ => ?_
    | refine Ex.loop (fun _ _ => ?_) fun _ _ _ => ?_
    | (unfold flat_state_with.L3; unfold flat_state_with.L3.b)

theorem flat_state_with.out {x0 x1 x2 : AVal} {H : AHeap} {Q : AVal → AHeap → Prop} (h : flat_state_with.w x0 x1 x2 H fun r H' => (H <+: H') ∧ Q r H') : ∃ r H', S_flat_state_with [x0, x1, x2] H r H' ∧ Q r H' := by
  obtain ⟨r, H', h1, h2⟩ := (flat_state_with.ex x0 x1 x2 H).out h
  exact ⟨r, H', ⟨_, _, _, rfl, h1, h2.1⟩, h2.2⟩

def flat_state_part.w (x0 : AVal) (x1 : AVal) (x2 : AVal) (H : AHeap) (K : AVal → AHeap → Prop) : Prop :=
  vb (aBin .add x1 x2) fun v1 =>
  vb (aSlice H 1 x0 (some x1) (some v1) none) fun v2 =>
  cb (S_strings_Join [v2, .str []] H) fun v3 H4 =>
  fin .ret [.v (v3)] H4 K

def S_flat_state_part : Abs.Spec := fun args H r H' => ∃ x0 x1 x2 : AVal, args = [x0, x1, x2] ∧ (flat_state_part.w x0 x1 x2 H fun r1 H1 => r1 = r ∧ H1 = H') ∧ H <+: H'
theorem flat_state_part.ok (args : List AVal) (H : AHeap) (r : AVal) (H' : AHeap) (h : S_flat_state_part args H r H') : ∃ x0 x1 x2 : AVal, args = [x0, x1, x2] ∧ flat_state_part.w x0 x1 x2 H fun r1 H1 => r1 = r ∧ H1 = H' := by
  obtain ⟨x0, x1, x2, h1, h2, _⟩ := h
  exact ⟨x0, x1, x2, h1, h2⟩
theorem flat_state_part.quiet {args : List AVal} {H : AHeap} {r : AVal} {H' : AHeap} (h : S_flat_state_part args H r H') : H <+: H' := by
  obtain ⟨_, _, _, _, _, h⟩ := h
  exact h
set_option maxRecDepth 100000 in
theorem flat_state_part.ex (x0 x1 x2 : AVal) (H : AHeap) : Ex fun K : AVal × AHeap → Prop => flat_state_part.w x0 x1 x2 H fun r H => K (r, H) := by
  unfold flat_state_part.w
  repeat with_reducible first
    | exact Ex.pt _
    | exact Ex.fin
    | exact Ex.no
    | refine Ex.vb fun _ => ?_
    | refine Ex.hb fun _ _ => ?_
    | refine Ex.sb fun _ => ?_
    | refine Ex.cb fun _ _ => ?_
    | refine Ex.isB fun _ => ?_
    | refine Ex.cond ?_ ?_
    | refine Ex.onE ?_ ?_
    | refine Ex.join ?_ fun _ _ _ => ?_
    | refine Ex.loop (fun _ _ => ?_) fun _ _ _ => ?_

theorem flat_state_part.out {x0 x1 x2 : AVal} {H : AHeap} {Q : AVal → AHeap → Prop} (h : flat_state_part.w x0 x1 x2 H fun r H' => (H <+: H') ∧ Q r H') : ∃ r H', S_flat_state_part [x0, x1, x2] H r H' ∧ Q r H' := by
  obtain ⟨r, H', h1, h2⟩ := (flat_state_part.ex x0 x1 x2 H).out h
  exact ⟨r, H', ⟨_, _, _, rfl, h1, h2.1⟩, h2.2⟩

def flat_Flat_Write_1.w (x0 : AVal) (x1 : AVal) (x2 : AVal) (H : AHeap) (K : AVal → AHeap → Prop) : Prop :=
  vb (lenSl x0) fun v1 =>
  vb (lenSl x0) fun v2 =>
  vb (aSlice H 1 x0 none (some v1) (some v2)) fun v3 =>
  cb (S_flat_chain_last [x0] H) fun v4 H5 =>
  vb (aLoad H5 false 1 x1) fun v6 =>
  vb (aLoad H5 false 1 x2) fun v7 =>
  cb (S_flat_state_with [v4, v6, v7] H5) fun v8 H9 =>
  hb (aBuildSlice H9 1 [.nils] 1 [(0, v8)]) fun v10 H11 =>
  hb (aAppendS H11 1 24 v3 v10) fun v12 H13 =>
  fin .ret [.v (v12)] H13 K

def S_flat_Flat_Write_1 : Abs.Spec := fun args H r H' => ∃ x0 x1 x2 : AVal, args = [x0, x1, x2] ∧ (flat_Flat_Write_1.w x0 x1 x2 H fun r1 H1 => r1 = r ∧ H1 = H') ∧ H <+: H'
theorem flat_Flat_Write_1.ok (args : List AVal) (H : AHeap) (r : AVal) (H' : AHeap) (h : S_flat_Flat_Write_1 args H r H') : ∃ x0 x1 x2 : AVal, args = [x0, x1, x2] ∧ flat_Flat_Write_1.w x0 x1 x2 H fun r1 H1 => r1 = r ∧ H1 = H' := by
  obtain ⟨x0, x1, x2, h1, h2, _⟩ := h
  exact ⟨x0, x1, x2, h1, h2⟩
theorem flat_Flat_Write_1.quiet {args : List AVal} {H : AHeap} {r : AVal} {H' : AHeap} (h : S_flat_Flat_Write_1 args H r H') : H <+: H' := by
  obtain ⟨_, _, _, _, _, h⟩ := h
  exact h
set_option maxRecDepth 100000 in
theorem flat_Flat_Write_1.ex (x0 x1 x2 : AVal) (H : AHeap) : Ex fun K : AVal × AHeap → Prop => flat_Flat_Write_1.w x0 x1 x2 H fun r H => K (r, H) := by
  unfold flat_Flat_Write_1.w
  repeat with_reducible first
    | exact Ex.pt _
    | exact Ex.fin
    | exact Ex.no
    | refine Ex.vb fun _ => ?_
    | refine Ex.hb fun _ _ => ?_
    | refine Ex.sb fun _ => ?_
    | refine Ex.cb fun _ _ => ?_
    | refine Ex.isB fun _ => ?_
    | refine Ex.cond ?_ ?_
    | refine Ex.onE ?_ ?_
    | refine Ex.join ?_ fun _ _ _ => ?_
    | refine Ex.loop (fun _ _ => ?_) fun _ _ _ => ?_

theorem flat_Flat_Write_1.out {x0 x1 x2 : AVal} {H : AHeap} {Q : AVal → AHeap → Prop} (h : flat_Flat_Write_1.w x0 x1 x2 H fun r H' => (H <+: H') ∧ Q r H') : ∃ r H', S_flat_Flat_Write_1 [x0, x1, x2] H r H' ∧ Q r H' := by
  obtain ⟨r, H', h1, h2⟩ := (flat_Flat_Write_1.ex x0 x1 x2 H).out h
  exact ⟨r, H', ⟨_, _, _, rfl, h1, h2.1⟩, h2.2⟩

def flat_Flat_Write.L6.b (v14 : AVal) (v13 : AVal) (x0 : AVal) (v1 : AVal) (v3 : AVal) (x24_6 : AVal) (H15 : AHeap) (Kn16 : List AVal → AHeap → Prop) (Ke17 : AExit → List AVal → AHeap → Prop) : Prop :=
  vb (aBin .lss x24_6 v14) fun v18 =>
  isB v18 fun b19 => cond b19
    (vb (aIndexAddr 1 v13 x24_6) fun v20 =>
    vb (aLoad H15 false 1 v20) fun v21 =>
    (vb (aNilCheck x0) fun v22 =>
      vb (aFieldAddr 1 v22) fun v23 =>
      vb (aLoad H15 false 1 v23) fun v24 =>
      cb (S_flat_Flat_Write_1 [v21, v1, v3] H15) fun v25 H26 =>
      vb (aIndexAddr 1 v24 x24_6) fun v27 =>
      sb (aStore H26 1 v27 v25) fun H28 =>
      vb (aBin .add x24_6 (.int .i64 1)) fun v29 =>
      Kn16 [v29] H28) ∧
    (vb (aNilCheck x0) fun v30 =>
      vb (aFieldAddr 1 v30) fun v31 =>
      cb (S_flat_Flat_Write_1 [v21, v1, v3] H15) fun v32 H33 =>
      vb (aLoad H33 false 1 v31) fun v34 =>
      vb (aIndexAddr 1 v34 x24_6) fun v35 =>
      sb (aStore H33 1 v35 v32) fun H36 =>
      vb (aBin .add x24_6 (.int .i64 1)) fun v37 =>
      Kn16 [v37] H36))
    (Ke17 (.exit 0) [] H15)

def flat_Flat_Write.L6 (v14 : AVal) (v13 : AVal) (x0 : AVal) (v1 : AVal) (v3 : AVal) : Body := fun vs H Kn Ke => flat_Flat_Write.L6.b v14 v13 x0 v1 v3 (vs.getD 0 .undef) H Kn Ke

def flat_Flat_Write.w (x0 : AVal) (x1 : AVal) (x2 : AVal) (H : AHeap) (K : AVal → AHeap → Prop) : Prop :=
  hb (aBox H x1) fun v1 H2 =>
  hb (aBox H2 x2) fun v3 H4 =>
  vb (aLoad H4 false 1 v1) fun v5 =>
  vb (aLoad H4 false 1 v3) fun v6 =>
  cb (S_flat_Flat_data [x0, v5, v6] H4) fun v7 H8 =>
  vb (aBin .neq v7 (.int .i64 0)) fun v9 =>
  isB v9 fun b10 => cond b10
    (fin .ret [.v (v7)] H8 K)
    (vb (aNilCheck x0) fun v11 =>
    vb (aFieldAddr 1 v11) fun v12 =>
    vb (aLoad H8 false 1 v12) fun v13 =>
    vb (lenSl v13) fun v14 =>
    LoopP (flat_Flat_Write.L6 v14 v13 x0 v1 v3) [.int .i64 0] H8 fun e38 vs39 H40 =>
      onE e38 (.exit 0)
        (fin .ret [.v (.int .i64 0)] H40 K)
      (False))

def flat_Flat_WriteV.L6.b (v14 : AVal) (v13 : AVal) (x0 : AVal) (v1 : AVal) (v3 : AVal) (x24_6 : AVal) (H15 : AHeap) (Kn16 : List AVal → AHeap → Prop) (Ke17 : AExit → List AVal → AHeap → Prop) : Prop :=
  vb (aBin .lss x24_6 v14) fun v18 =>
  isB v18 fun b19 => cond b19
    (vb (aIndexAddr 1 v13 x24_6) fun v20 =>
    vb (aLoad H15 false 1 v20) fun v21 =>
    vb (aNilCheck x0) fun v22 =>
    vb (aFieldAddr 1 v22) fun v23 =>
    vb (aLoad H15 false 1 v23) fun v24 =>
    cb (S_flat_Flat_Write_1 [v21, v1, v3] H15) fun v25 H26 =>
    vb (aIndexAddr 1 v24 x24_6) fun v27 =>
    sb (aStore H26 1 v27 v25) fun H28 =>
    vb (aBin .add x24_6 (.int .i64 1)) fun v29 =>
    Kn16 [v29] H28)
    (Ke17 (.exit 0) [] H15)

def flat_Flat_WriteV.L6 (v14 : AVal) (v13 : AVal) (x0 : AVal) (v1 : AVal) (v3 : AVal) : Body := fun vs H Kn Ke => flat_Flat_WriteV.L6.b v14 v13 x0 v1 v3 (vs.getD 0 .undef) H Kn Ke

def flat_Flat_WriteV.w (x0 : AVal) (x1 : AVal) (x2 : AVal) (H : AHeap) (K : AVal → AHeap → Prop) : Prop :=
  hb (aBox H x1) fun v1 H2 =>
  hb (aBox H2 x2) fun v3 H4 =>
  vb (aLoad H4 false 1 v1) fun v5 =>
  vb (aLoad H4 false 1 v3) fun v6 =>
  cb (S_flat_Flat_data [x0, v5, v6] H4) fun v7 H8 =>
  vb (aBin .neq v7 (.int .i64 0)) fun v9 =>
  isB v9 fun b10 => cond b10
    (fin .ret [.v (v7)] H8 K)
    (vb (aNilCheck x0) fun v11 =>
    vb (aFieldAddr 1 v11) fun v12 =>
    vb (aLoad H8 false 1 v12) fun v13 =>
    vb (lenSl v13) fun v14 =>
    LoopP (flat_Flat_WriteV.L6 v14 v13 x0 v1 v3) [.int .i64 0] H8 fun e30 vs31 H32 =>
      onE e30 (.exit 0)
        (fin .ret [.v (.int .i64 0)] H32 K)
      (False))

def S_flat_Flat_Write : Abs.Spec := fun args H r H' => ∃ x0 x1 x2 : AVal, args = [x0, x1, x2] ∧ (flat_Flat_WriteV.w x0 x1 x2 H fun r1 H1 => r1 = r ∧ H1 = H')
set_option maxRecDepth 100000 in
theorem flat_Flat_WriteV.ex (x0 x1 x2 : AVal) (H : AHeap) : Ex fun K : AVal × AHeap → Prop => flat_Flat_WriteV.w x0 x1 x2 H fun r H => K (r, H) := by
  unfold flat_Flat_WriteV.w
  repeat with_reducible first
    | exact Ex.pt _
    | exact Ex.fin
    | exact Ex.no
    | refine Ex.vb fun _ => ?_
    | refine Ex.hb fun _ _ => ?_
    | refine Ex.sb fun _ => ?_
    | refine Ex.cb fun _ _ => ?_
    | refine Ex.isB fun _ => ?_
    | refine Ex.cond ?_ ?_
    | refine Ex.onE ?_ ?_
    | refine Ex.join ?_ fun _ _ _ => ?_
    | refine Ex.loop (fun _ _ => ?_) fun _ _ _ => ?_
    | (unfold flat_Flat_WriteV.L6; unfold flat_Flat_WriteV.L6.b)

theorem flat_Flat_Write.out {x0 x1 x2 : AVal} {H : AHeap} {Q : AVal → AHeap → Prop} (h : flat_Flat_WriteV.w x0 x1 x2 H fun r H' => Q r H') : ∃ r H', S_flat_Flat_Write [x0, x1, x2] H r H' ∧ Q r H' := by
  obtain ⟨r, H', h1, h2⟩ := (flat_Flat_WriteV.ex x0 x1 x2 H).out h
  exact ⟨r, H', ⟨_, _, _, rfl, h1⟩, h2⟩

def flat_Flat_Discard.w (x0 : AVal) (x1 : AVal) (x2 : AVal) (H : AHeap) (K : AVal → AHeap → Prop) : Prop :=
  cb (S_flat_Flat_may [x0, x1, x2] H) fun v1 H2 =>
  vb (aBin .neq v1 (.int .i64 0)) fun v3 =>
  isB v3 fun b4 => cond b4
    (fin .ret [.v (v1)] H2 K)
    (vb (aBin .mul (.int .i64 48) x2) fun v5 =>
    hb (aMakeSlice H2 1 [.int .u8 0] v5 v5) fun v6 H7 =>
    vb (aBytes2Str H7 v6) fun v8 =>
    cb (S_flat_Flat_Write [x0, x1, v8] H7) fun v9 H10 =>
    fin .ret [.v (v9)] H10 K)

def S_flat_Flat_Discard : Abs.Spec := fun args H r H' => ∃ x0 x1 x2 : AVal, args = [x0, x1, x2] ∧ (flat_Flat_Discard.w x0 x1 x2 H fun r1 H1 => r1 = r ∧ H1 = H')
theorem flat_Flat_Discard.ok (args : List AVal) (H : AHeap) (r : AVal) (H' : AHeap) (h : S_flat_Flat_Discard args H r H') : ∃ x0 x1 x2 : AVal, args = [x0, x1, x2] ∧ flat_Flat_Discard.w x0 x1 x2 H fun r1 H1 => r1 = r ∧ H1 = H' := by
  obtain ⟨x0, x1, x2, h1, h2⟩ := h
  exact ⟨x0, x1, x2, h1, h2⟩
set_option maxRecDepth 100000 in
theorem flat_Flat_Discard.ex (x0 x1 x2 : AVal) (H : AHeap) : Ex fun K : AVal × AHeap → Prop => flat_Flat_Discard.w x0 x1 x2 H fun r H => K (r, H) := by
  unfold flat_Flat_Discard.w
  repeat with_reducible first
    | exact Ex.pt _
    | exact Ex.fin
    | exact Ex.no
    | refine Ex.vb fun _ => ?_
    | refine Ex.hb fun _ _ => ?_
    | refine Ex.sb fun _ => ?_
    | refine Ex.cb fun _ _ => ?_
    | refine Ex.isB fun _ => ?_
    | refine Ex.cond ?_ ?_
    | refine Ex.onE ?_ ?_
    | refine Ex.join ?_ fun _ _ _ => ?_
    | refine Ex.loop (fun _ _ => ?_) fun _ _ _ => ?_

theorem flat_Flat_Discard.out {x0 x1 x2 : AVal} {H : AHeap} {Q : AVal → AHeap → Prop} (h : flat_Flat_Discard.w x0 x1 x2 H fun r H' => Q r H') : ∃ r H', S_flat_Flat_Discard [x0, x1, x2] H r H' ∧ Q r H' := by
  obtain ⟨r, H', h1, h2⟩ := (flat_Flat_Discard.ex x0 x1 x2 H).out h
  exact ⟨r, H', ⟨_, _, _, rfl, h1⟩, h2⟩

def flat_Flat_Read.L6.b (v17 : AVal) (v16 : AVal) (x1 : AVal) (x2 : AVal) (v12 : AVal) (x34_6 : AVal) (H18 : AHeap) (Kn19 : List AVal → AHeap → Prop) (Ke20 : AExit → List AVal → AHeap → Prop) : Prop :=
  vb (aBin .lss x34_6 v17) fun v21 =>
  isB v21 fun b22 => cond b22
    (vb (aIndexAddr 1 v16 x34_6) fun v23 =>
    vb (aLoad H18 false 1 v23) fun v24 =>
    cb (S_flat_chain_last [v24] H18) fun v25 H26 =>
    cb (S_flat_state_part [v25, x1, x2] H26) fun v27 H28 =>
    vb (aBin .neq v27 v12) fun v29 =>
    isB v29 fun b30 => cond b30
      (Ke20 .ret [.str [], .int .i64 15] H28)
      (vb (aBin .add x34_6 (.int .i64 1)) fun v31 =>
      Kn19 [v31] H28))
    (Ke20 (.exit 0) [.undef, .undef] H18)

def flat_Flat_Read.L6 (v17 : AVal) (v16 : AVal) (x1 : AVal) (x2 : AVal) (v12 : AVal) : Body := fun vs H Kn Ke => flat_Flat_Read.L6.b v17 v16 x1 x2 v12 (vs.getD 0 .undef) H Kn Ke

def flat_Flat_Read.w (x0 : AVal) (x1 : AVal) (x2 : AVal) (H : AHeap) (K : AVal → AHeap → Prop) : Prop :=
  cb (S_flat_Flat_may [x0, x1, x2] H) fun v1 H2 =>
  vb (aBin .neq v1 (.int .i64 0)) fun v3 =>
  isB v3 fun b4 => cond b4
    (fin .ret [.v (.str []), .v (v1)] H2 K)
    (vb (aNilCheck x0) fun v5 =>
    vb (aFieldAddr 1 v5) fun v6 =>
    vb (aLoad H2 false 1 v6) fun v7 =>
    vb (aIndexAddr 1 v7 (.int .i64 0)) fun v8 =>
    vb (aLoad H2 false 1 v8) fun v9 =>
    cb (S_flat_chain_last [v9] H2) fun v10 H11 =>
    cb (S_flat_state_part [v10, x1, x2] H11) fun v12 H13 =>
    vb (aNilCheck x0) fun v14 =>
    vb (aFieldAddr 1 v14) fun v15 =>
    vb (aLoad H13 false 1 v15) fun v16 =>
    vb (lenSl v16) fun v17 =>
    LoopP (flat_Flat_Read.L6 v17 v16 x1 x2 v12) [.int .i64 0] H13 fun e32 vs33 H34 =>
      onE e32 (.exit 0)
        (fin .ret [.v (v12), .v (.int .i64 0)] H34 K)
      (onE e32 .ret
        (fin .ret [.v (vs33.getD 0 .undef), .v (vs33.getD 1 .undef)] H34 K)
      (False)))

def S_flat_Flat_Read : Abs.Spec := fun args H r H' => ∃ x0 x1 x2 : AVal, args = [x0, x1, x2] ∧ (flat_Flat_Read.w x0 x1 x2 H fun r1 H1 => r1 = r ∧ H1 = H') ∧ H <+: H'
theorem flat_Flat_Read.ok (args : List AVal) (H : AHeap) (r : AVal) (H' : AHeap) (h : S_flat_Flat_Read args H r H') : ∃ x0 x1 x2 : AVal, args = [x0, x1, x2] ∧ flat_Flat_Read.w x0 x1 x2 H fun r1 H1 => r1 = r ∧ H1 = H' := by
  obtain ⟨x0, x1, x2, h1, h2, _⟩ := h
  exact ⟨x0, x1, x2, h1, h2⟩
theorem flat_Flat_Read.quiet {args : List AVal} {H : AHeap} {r : AVal} {H' : AHeap} (h : S_flat_Flat_Read args H r H') : H <+: H' := by
  obtain ⟨_, _, _, _, _, h⟩ := h
  exact h
set_option maxRecDepth 100000 in
theorem flat_Flat_Read.ex (x0 x1 x2 : AVal) (H : AHeap) : Ex fun K : AVal × AHeap → Prop => flat_Flat_Read.w x0 x1 x2 H fun r H => K (r, H) := by
  unfold flat_Flat_Read.w
  repeat with_reducible first
    | exact Ex.pt _
    | exact Ex.fin
    | exact Ex.no
    | refine Ex.vb fun _ => ?_
    | refine Ex.hb fun _ _ => ?_
    | refine Ex.sb fun _ => ?_
    | refine Ex.cb fun _ _ => ?_
    | refine Ex.isB fun _ => ?_
    | refine Ex.cond ?_ ?_
    | refine Ex.onE ?_ ?_
    | refine Ex.join ?_ fun _ _ _ => ?_
    | refine Ex.loop (fun _ _ => ?_) fun _ _ _ => ?_
    | (unfold flat_Flat_Read.L6; unfold flat_Flat_Read.L6.b)

theorem flat_Flat_Read.out {x0 x1 x2 : AVal} {H : AHeap} {Q : AVal → AHeap → Prop} (h : flat_Flat_Read.w x0 x1 x2 H fun r H' => (H <+: H') ∧ Q r H') : ∃ r H', S_flat_Flat_Read [x0, x1, x2] H r H' ∧ Q r H' := by
  obtain ⟨r, H', h1, h2⟩ := (flat_Flat_Read.ex x0 x1 x2 H).out h
  exact ⟨r, H', ⟨_, _, _, rfl, h1, h2.1⟩, h2.2⟩

def flat_Flat_Saw.L5.b (v8 : AVal) (v7 : AVal) (x2 : AVal) (x1 : AVal) (x7_5 : AVal) (x20_5 : AVal) (H9 : AHeap) (Kn10 : List AVal → AHeap → Prop) (Ke11 : AExit → List AVal → AHeap → Prop) : Prop :=
  vb (aBin .lss x20_5 v8) fun v12 =>
  isB v12 fun b13 => cond b13
    (vb (aIndexAddr 1 v7 x20_5) fun v14 =>
    vb (aLoad H9 false 1 v14) fun v15 =>
    cb (S_flat_chain_last [v15] H9) fun v16 H17 =>
    vb (lenSt x2) fun v18 =>
    vb (aBin .quo v18 (.int .i64 48)) fun v19 =>
    cb (S_flat_state_part [v16, x1, v19] H17) fun v20 H21 =>
    vb (aBin .eql v20 x2) fun v22 =>
    isB v22 fun b23 => cond b23
      (hb (aBuildSlice H21 1 [.nils] 1 [(0, v15)]) fun v24 H25 =>
      hb (aAppendS H25 1 24 x7_5 v24) fun v26 H27 =>
      vb (aBin .add x20_5 (.int .i64 1)) fun v28 =>
      Kn10 [v26, v28] H27)
      (vb (aBin .add x20_5 (.int .i64 1)) fun v29 =>
      Kn10 [x7_5, v29] H21))
    (Ke11 (.exit 0) [x7_5] H9)

def flat_Flat_Saw.L5 (v8 : AVal) (v7 : AVal) (x2 : AVal) (x1 : AVal) : Body := fun vs H Kn Ke => flat_Flat_Saw.L5.b v8 v7 x2 x1 (vs.getD 0 .undef) (vs.getD 1 .undef) H Kn Ke

def flat_Flat_Saw.w (x0 : AVal) (x1 : AVal) (x2 : AVal) (H : AHeap) (K : AVal → AHeap → Prop) : Prop :=
  cb (S_flat_Flat_data [x0, x1, x2] H) fun v1 H2 =>
  vb (aBin .neq v1 (.int .i64 0)) fun v3 =>
  isB v3 fun b4 => cond b4
    (fin .ret [.v (.bool false)] H2 K)
    (vb (aNilCheck x0) fun v5 =>
    vb (aFieldAddr 1 v5) fun v6 =>
    vb (aLoad H2 false 1 v6) fun v7 =>
    vb (lenSl v7) fun v8 =>
    LoopP (flat_Flat_Saw.L5 v8 v7 x2 x1) [.nils, .int .i64 0] H2 fun e30 vs31 H32 =>
      onE e30 (.exit 0)
        (JoinP (fun Kj33 => vb (lenSl (vs31.getD 0 .undef)) fun v34 =>
          vb (aBin .gtr v34 (.int .i64 0)) fun v35 =>
          isB v35 fun b36 => cond b36
            (vb (aNilCheck x0) fun v37 =>
            vb (aFieldAddr 1 v37) fun v38 =>
            sb (aStore H32 1 v38 (vs31.getD 0 .undef)) fun H39 =>
            Kj33 .normal [] H39)
            (Kj33 .normal [] H32))
        (fun e40 vs41 H42 =>
          onE e40 .normal
            (vb (lenSl (vs31.getD 0 .undef)) fun v43 =>
            vb (aBin .gtr v43 (.int .i64 0)) fun v44 =>
            fin .ret [.v (v44)] H42 K)
          (False)))
      (False))

def S_flat_Flat_Saw : Abs.Spec := fun args H r H' => ∃ x0 x1 x2 : AVal, args = [x0, x1, x2] ∧ (flat_Flat_Saw.w x0 x1 x2 H fun r1 H1 => r1 = r ∧ H1 = H') ∧ ∀ k, k < H.length → (∀ r : Ref, x0 = .ptr r → r.id ≠ k) → H'[k]? = H[k]?
theorem flat_Flat_Saw.ok (args : List AVal) (H : AHeap) (r : AVal) (H' : AHeap) (h : S_flat_Flat_Saw args H r H') : ∃ x0 x1 x2 : AVal, args = [x0, x1, x2] ∧ flat_Flat_Saw.w x0 x1 x2 H fun r1 H1 => r1 = r ∧ H1 = H' := by
  obtain ⟨x0, x1, x2, h1, h2, _⟩ := h
  exact ⟨x0, x1, x2, h1, h2⟩
set_option maxRecDepth 100000 in
theorem flat_Flat_Saw.ex (x0 x1 x2 : AVal) (H : AHeap) : Ex fun K : AVal × AHeap → Prop => flat_Flat_Saw.w x0 x1 x2 H fun r H => K (r, H) := by
  unfold flat_Flat_Saw.w
  repeat with_reducible first
    | exact Ex.pt _
    | exact Ex.fin
    | exact Ex.no
    | refine Ex.vb fun _ => ?_
    | refine Ex.hb fun _ _ => ?_
    | refine Ex.sb fun _ => ?_
    | refine Ex.cb fun _ _ => ?_
    | refine Ex.isB fun _ => ?_
    | refine Ex.cond ?_ ?_
    | refine Ex.onE ?_ ?_
    | refine Ex.join ?_ fun _ _ _ => ?_
    | refine Ex.loop (fun _ _ => ?_) fun _ _ _ => ?_
    | (unfold flat_Flat_Saw.L5; unfold flat_Flat_Saw.L5.b)

theorem flat_Flat_Saw.out {x0 x1 x2 : AVal} {H : AHeap} {Q : AVal → AHeap → Prop} (h : flat_Flat_Saw.w x0 x1 x2 H fun r H' => (∀ k, k < H.length → (∀ r : Ref, x0 = .ptr r → r.id ≠ k) → H'[k]? = H[k]?) ∧ Q r H') : ∃ r H', S_flat_Flat_Saw [x0, x1, x2] H r H' ∧ Q r H' := by
  obtain ⟨r, H', h1, h2⟩ := (flat_Flat_Saw.ex x0 x1 x2 H).out h
  exact ⟨r, H', ⟨_, _, _, rfl, h1, h2.1⟩, h2.2⟩

def flat_Flat_Safe.L2.b (v6 : AVal) (v5 : AVal) (x0 : AVal) (x11_2 : AVal) (H7 : AHeap) (Kn8 : List AVal → AHeap → Prop) (Ke9 : AExit → List AVal → AHeap → Prop) : Prop :=
  vb (aBin .lss x11_2 v6) fun v10 =>
  isB v10 fun b11 => cond b11
    (vb (aIndexAddr 1 v5 x11_2) fun v12 =>
    vb (aLoad H7 false 1 v12) fun v13 =>
    vb (aNilCheck x0) fun v14 =>
    vb (aFieldAddr 1 v14) fun v15 =>
    vb (aLoad H7 false 1 v15) fun v16 =>
    cb (S_flat_chain_last [v13] H7) fun v17 H18 =>
    hb (aBuildSlice H18 1 [.nils] 1 [(0, v17)]) fun v19 H20 =>
    vb (aIndexAddr 1 v16 x11_2) fun v21 =>
    sb (aStore H20 1 v21 v19) fun H22 =>
    vb (aBin .add x11_2 (.int .i64 1)) fun v23 =>
    Kn8 [v23] H22)
    (Ke9 (.exit 0) [] H7)

def flat_Flat_Safe.L2 (v6 : AVal) (v5 : AVal) (x0 : AVal) : Body := fun vs H Kn Ke => flat_Flat_Safe.L2.b v6 v5 x0 (vs.getD 0 .undef) H Kn Ke

def flat_Flat_Safe.w (x0 : AVal) (H : AHeap) (K : AVal → AHeap → Prop) : Prop :=
  vb (aEql false .ptr H x0 .nilp) fun v1 =>
  isB v1 fun b2 => cond b2
    (fin .ret [] H K)
    (vb (aNilCheck x0) fun v3 =>
    vb (aFieldAddr 1 v3) fun v4 =>
    vb (aLoad H false 1 v4) fun v5 =>
    vb (lenSl v5) fun v6 =>
    LoopP (flat_Flat_Safe.L2 v6 v5 x0) [.int .i64 0] H fun e24 vs25 H26 =>
      onE e24 (.exit 0)
        (fin .normal [] H26 K)
      (False))

def S_flat_Flat_Safe : Abs.Spec := fun args H r H' => ∃ x0 : AVal, args = [x0] ∧ (flat_Flat_Safe.w x0 H fun r1 H1 => r1 = r ∧ H1 = H')
theorem flat_Flat_Safe.ok (args : List AVal) (H : AHeap) (r : AVal) (H' : AHeap) (h : S_flat_Flat_Safe args H r H') : ∃ x0 : AVal, args = [x0] ∧ flat_Flat_Safe.w x0 H fun r1 H1 => r1 = r ∧ H1 = H' := by
  obtain ⟨x0, h1, h2⟩ := h
  exact ⟨x0, h1, h2⟩
set_option maxRecDepth 100000 in
theorem flat_Flat_Safe.ex (x0 : AVal) (H : AHeap) : Ex fun K : AVal × AHeap → Prop => flat_Flat_Safe.w x0 H fun r H => K (r, H) := by
  unfold flat_Flat_Safe.w
  repeat with_reducible first
    | exact Ex.pt _
    | exact Ex.fin
    | exact Ex.no
    | refine Ex.vb fun _ => ?_
    | refine Ex.hb fun _ _ => ?_
    | refine Ex.sb fun _ => ?_
    | refine Ex.cb fun _ _ => ?_
    | refine Ex.isB fun _ => ?_
    | refine Ex.cond ?_ ?_
    | refine Ex.onE ?_ ?_
    | refine Ex.join ?_ fun _ _ _ => ?_
    | refine Ex.loop (fun _ _ => ?_) fun _ _ _ => ?_
    | (unfold flat_Flat_Safe.L2; unfold flat_Flat_Safe.L2.b)

theorem flat_Flat_Safe.out {x0 : AVal} {H : AHeap} {Q : AVal → AHeap → Prop} (h : flat_Flat_Safe.w x0 H fun r H' => Q r H') : ∃ r H', S_flat_Flat_Safe [x0] H r H' ∧ Q r H' := by
  obtain ⟨r, H', h1, h2⟩ := (flat_Flat_Safe.ex x0 H).out h
  exact ⟨r, H', ⟨_, rfl, h1⟩, h2⟩

def flat_Flat_Crash_1.L4.b (v2 : AVal) (v1 : AVal) (x0 : AVal) (x5_4 : AVal) (x12_4 : AVal) (H3 : AHeap) (Kn4 : List AVal → AHeap → Prop) (Ke5 : AExit → List AVal → AHeap → Prop) : Prop :=
  vb (aBin .lss x12_4 v2) fun v6 =>
  isB v6 fun b7 => cond b7
    (vb (aIndexAddr 1 v1 x12_4) fun v8 =>
    vb (aLoad H3 false 1 v8) fun v9 =>
    vb (aIndexAddr 1 v9 (.int .i64 0)) fun v10 =>
    vb (aLoad H3 false 1 v10) fun v11 =>
    cb (S_flat_state_same [x0, v11] H3) fun v12 H13 =>
    isB v12 fun b14 => cond b14
      (Ke5 (.exit 0) [.bool true] H13)
      (vb (aBin .add x12_4 (.int .i64 1)) fun v15 =>
      Kn4 [x5_4, v15] H13))
    (Ke5 (.exit 0) [x5_4] H3)

def flat_Flat_Crash_1.L4 (v2 : AVal) (v1 : AVal) (x0 : AVal) : Body := fun vs H Kn Ke => flat_Flat_Crash_1.L4.b v2 v1 x0 (vs.getD 0 .undef) (vs.getD 1 .undef) H Kn Ke

def flat_Flat_Crash_1.w (x0 : AVal) (x1 : AVal) (H : AHeap) (K : AVal → AHeap → Prop) : Prop :=
  vb (aLoad H false 1 x1) fun v1 =>
  vb (lenSl v1) fun v2 =>
  LoopP (flat_Flat_Crash_1.L4 v2 v1 x0) [.bool false, .int .i64 0] H fun e16 vs17 H18 =>
    onE e16 (.exit 0)
      (fin .ret [.v (vs17.getD 0 .undef)] H18 K)
    (False)

def S_flat_Flat_Crash_1 : Abs.Spec := fun args H r H' => ∃ x0 x1 : AVal, args = [x0, x1] ∧ (flat_Flat_Crash_1.w x0 x1 H fun r1 H1 => r1 = r ∧ H1 = H') ∧ H <+: H'
theorem flat_Flat_Crash_1.ok (args : List AVal) (H : AHeap) (r : AVal) (H' : AHeap) (h : S_flat_Flat_Crash_1 args H r H') : ∃ x0 x1 : AVal, args = [x0, x1] ∧ flat_Flat_Crash_1.w x0 x1 H fun r1 H1 => r1 = r ∧ H1 = H' := by
  obtain ⟨x0, x1, h1, h2, _⟩ := h
  exact ⟨x0, x1, h1, h2⟩
theorem flat_Flat_Crash_1.quiet {args : List AVal} {H : AHeap} {r : AVal} {H' : AHeap} (h : S_flat_Flat_Crash_1 args H r H') : H <+: H' := by
  obtain ⟨_, _, _, _, h⟩ := h
  exact h
set_option maxRecDepth 100000 in
theorem flat_Flat_Crash_1.ex (x0 x1 : AVal) (H : AHeap) : Ex fun K : AVal × AHeap → Prop => flat_Flat_Crash_1.w x0 x1 H fun r H => K (r, H) := by
  unfold flat_Flat_Crash_1.w
  repeat with_reducible first
    | exact Ex.pt _
    | exact Ex.fin
    | exact Ex.no
    | refine Ex.vb fun _ => ?_
    | refine Ex.hb fun _ _ => ?_
    | refine Ex.sb fun _ => ?_
    | refine Ex.cb fun _ _ => ?_
    | refine Ex.isB fun _ => ?_
    | refine Ex.cond ?_ ?_
    | refine Ex.onE ?_ ?_
    | refine Ex.join ?_ fun _ _ _ => ?_
    | refine Ex.loop (fun _ _ => ?_) fun _ _ _ => ?_
    | (unfold flat_Flat_Crash_1.L4; unfold flat_Flat_Crash_1.L4.b)

theorem flat_Flat_Crash_1.out {x0 x1 : AVal} {H : AHeap} {Q : AVal → AHeap → Prop} (h : flat_Flat_Crash_1.w x0 x1 H fun r H' => (H <+: H') ∧ Q r H') : ∃ r H', S_flat_Flat_Crash_1 [x0, x1] H r H' ∧ Q r H' := by
  obtain ⟨r, H', h1, h2⟩ := (flat_Flat_Crash_1.ex x0 x1 H).out h
  exact ⟨r, H', ⟨_, _, rfl, h1, h2.1⟩, h2.2⟩

def flat_Flat_Crash.L7.b (v16 : AVal) (v15 : AVal) (v3 : AVal) (x22_7 : AVal) (H17 : AHeap) (Kn18 : List AVal → AHeap → Prop) (Ke19 : AExit → List AVal → AHeap → Prop) : Prop :=
  vb (aBin .lss x22_7 v16) fun v20 =>
  isB v20 fun b21 => cond b21
    (vb (aIndexAddr 1 v15 x22_7) fun v22 =>
    vb (aLoad H17 false 1 v22) fun v23 =>
    cb (S_flat_Flat_Crash_1 [v23, v3] H17) fun v24 H25 =>
    vb (aUn .not v24) fun v26 =>
    isB v26 fun b27 => cond b27
      (vb (aLoad H25 false 1 v3) fun v28 =>
      hb (aBuildSlice H25 1 [.nils] 1 [(0, v23)]) fun v29 H30 =>
      hb (aBuildSlice H30 1 [.nils] 1 [(0, v29)]) fun v31 H32 =>
      hb (aAppendS H32 1 24 v28 v31) fun v33 H34 =>
      sb (aStore H34 1 v3 v33) fun H35 =>
      vb (aBin .add x22_7 (.int .i64 1)) fun v36 =>
      Kn18 [v36] H35)
      (vb (aBin .add x22_7 (.int .i64 1)) fun v37 =>
      Kn18 [v37] H25))
    (Ke19 (.exit 2) [] H17)

def flat_Flat_Crash.L7 (v16 : AVal) (v15 : AVal) (v3 : AVal) : Body := fun vs H Kn Ke => flat_Flat_Crash.L7.b v16 v15 v3 (vs.getD 0 .undef) H Kn Ke

def flat_Flat_Crash.L4.b (v8 : AVal) (v7 : AVal) (v3 : AVal) (x16_4 : AVal) (H9 : AHeap) (Kn10 : List AVal → AHeap → Prop) (Ke11 : AExit → List AVal → AHeap → Prop) : Prop :=
  vb (aBin .lss x16_4 v8) fun v12 =>
  isB v12 fun b13 => cond b13
    (vb (aIndexAddr 1 v7 x16_4) fun v14 =>
    vb (aLoad H9 false 1 v14) fun v15 =>
    vb (lenSl v15) fun v16 =>
    LoopP (flat_Flat_Crash.L7 v16 v15 v3) [.int .i64 0] H9 fun e38 vs39 H40 =>
      onE e38 (.exit 2)
        (vb (aBin .add x16_4 (.int .i64 1)) fun v41 =>
        Kn10 [v41] H40)
      (False))
    (Ke11 (.exit 0) [] H9)

def flat_Flat_Crash.L4 (v8 : AVal) (v7 : AVal) (v3 : AVal) : Body := fun vs H Kn Ke => flat_Flat_Crash.L4.b v8 v7 v3 (vs.getD 0 .undef) H Kn Ke

def flat_Flat_Crash.w (x0 : AVal) (H : AHeap) (K : AVal → AHeap → Prop) : Prop :=
  vb (aEql false .ptr H x0 .nilp) fun v1 =>
  isB v1 fun b2 => cond b2
    (fin .ret [] H K)
    (hb (aAlloc H [.nils]) fun v3 H4 =>
    vb (aNilCheck x0) fun v5 =>
    vb (aFieldAddr 1 v5) fun v6 =>
    vb (aLoad H4 false 1 v6) fun v7 =>
    vb (lenSl v7) fun v8 =>
    LoopP (flat_Flat_Crash.L4 v8 v7 v3) [.int .i64 0] H4 fun e42 vs43 H44 =>
      onE e42 (.exit 0)
        (vb (aLoad H44 false 1 v3) fun v45 =>
        vb (aNilCheck x0) fun v46 =>
        vb (aFieldAddr 1 v46) fun v47 =>
        sb (aStore H44 1 v47 v45) fun H48 =>
        fin .normal [] H48 K)
      (False))

def S_flat_Flat_Crash : Abs.Spec := fun args H r H' => ∃ x0 : AVal, args = [x0] ∧ (flat_Flat_Crash.w x0 H fun r1 H1 => r1 = r ∧ H1 = H')
theorem flat_Flat_Crash.ok (args : List AVal) (H : AHeap) (r : AVal) (H' : AHeap) (h : S_flat_Flat_Crash args H r H') : ∃ x0 : AVal, args = [x0] ∧ flat_Flat_Crash.w x0 H fun r1 H1 => r1 = r ∧ H1 = H' := by
  obtain ⟨x0, h1, h2⟩ := h
  exact ⟨x0, h1, h2⟩
set_option maxRecDepth 100000 in
theorem flat_Flat_Crash.ex (x0 : AVal) (H : AHeap) : Ex fun K : AVal × AHeap → Prop => flat_Flat_Crash.w x0 H fun r H => K (r, H) := by
  unfold flat_Flat_Crash.w
  repeat with_reducible first
    | exact Ex.pt _
    | exact Ex.fin
    | exact Ex.no
    | refine Ex.vb fun _ => ?_
    | refine Ex.hb fun _ _ => ?_
    | refine Ex.sb fun _ => ?_
    | refine Ex.cb fun _ _ => ?_
    | refine Ex.isB fun _ => ?_
    | refine Ex.cond ?_ ?_
    | refine Ex.onE ?_ ?_
    | refine Ex.join ?_ fun _ _ _ => ?_
    | refine Ex.loop (fun _ _ => ?_) fun _ _ _ => ?_
    | (unfold flat_Flat_Crash.L7; unfold flat_Flat_Crash.L7.b)
    | (unfold flat_Flat_Crash.L4; unfold flat_Flat_Crash.L4.b)

theorem flat_Flat_Crash.out {x0 : AVal} {H : AHeap} {Q : AVal → AHeap → Prop} (h : flat_Flat_Crash.w x0 H fun r H' => Q r H') : ∃ r H', S_flat_Flat_Crash [x0] H r H' ∧ Q r H' := by
  obtain ⟨r, H', h1, h2⟩ := (flat_Flat_Crash.ex x0 H).out h
  exact ⟨r, H', ⟨_, rfl, h1⟩, h2⟩

def flat_Flat_Worlds.w (x0 : AVal) (H : AHeap) (K : AVal → AHeap → Prop) : Prop :=
  vb (aEql false .ptr H x0 .nilp) fun v1 =>
  isB v1 fun b2 => cond b2
    (fin .ret [.v (.int .i64 0)] H K)
    (vb (aNilCheck x0) fun v3 =>
    vb (aFieldAddr 1 v3) fun v4 =>
    vb (aLoad H false 1 v4) fun v5 =>
    vb (lenSl v5) fun v6 =>
    fin .ret [.v (v6)] H K)

def S_flat_Flat_Worlds : Abs.Spec := fun args H r H' => ∃ x0 : AVal, args = [x0] ∧ (flat_Flat_Worlds.w x0 H fun r1 H1 => r1 = r ∧ H1 = H') ∧ H <+: H'
theorem flat_Flat_Worlds.ok (args : List AVal) (H : AHeap) (r : AVal) (H' : AHeap) (h : S_flat_Flat_Worlds args H r H') : ∃ x0 : AVal, args = [x0] ∧ flat_Flat_Worlds.w x0 H fun r1 H1 => r1 = r ∧ H1 = H' := by
  obtain ⟨x0, h1, h2, _⟩ := h
  exact ⟨x0, h1, h2⟩
theorem flat_Flat_Worlds.quiet {args : List AVal} {H : AHeap} {r : AVal} {H' : AHeap} (h : S_flat_Flat_Worlds args H r H') : H <+: H' := by
  obtain ⟨_, _, _, h⟩ := h
  exact h
set_option maxRecDepth 100000 in
theorem flat_Flat_Worlds.ex (x0 : AVal) (H : AHeap) : Ex fun K : AVal × AHeap → Prop => flat_Flat_Worlds.w x0 H fun r H => K (r, H) := by
  unfold flat_Flat_Worlds.w
  repeat with_reducible first
    | exact Ex.pt _
    | exact Ex.fin
    | exact Ex.no
    | refine Ex.vb fun _ => ?_
    | refine Ex.hb fun _ _ => ?_
    | refine Ex.sb fun _ => ?_
    | refine Ex.cb fun _ _ => ?_
    | refine Ex.isB fun _ => ?_
    | refine Ex.cond ?_ ?_
    | refine Ex.onE ?_ ?_
    | refine Ex.join ?_ fun _ _ _ => ?_
    | refine Ex.loop (fun _ _ => ?_) fun _ _ _ => ?_

theorem flat_Flat_Worlds.out {x0 : AVal} {H : AHeap} {Q : AVal → AHeap → Prop} (h : flat_Flat_Worlds.w x0 H fun r H' => (H <+: H') ∧ Q r H') : ∃ r H', S_flat_Flat_Worlds [x0] H r H' ∧ Q r H' := by
  obtain ⟨r, H', h1, h2⟩ := (flat_Flat_Worlds.ex x0 H).out h
  exact ⟨r, H', ⟨_, rfl, h1, h2.1⟩, h2.2⟩

def flat_Flat_States.L5.b (v6 : AVal) (v5 : AVal) (x3_5 : AVal) (x14_5 : AVal) (H7 : AHeap) (Kn8 : List AVal → AHeap → Prop) (Ke9 : AExit → List AVal → AHeap → Prop) : Prop :=
  vb (aBin .lss x14_5 v6) fun v10 =>
  isB v10 fun b11 => cond b11
    (vb (aIndexAddr 1 v5 x14_5) fun v12 =>
    vb (aLoad H7 false 1 v12) fun v13 =>
    vb (lenSl v13) fun v14 =>
    vb (aBin .add x3_5 v14) fun v15 =>
    vb (aBin .add x14_5 (.int .i64 1)) fun v16 =>
    Kn8 [v15, v16] H7)
    (Ke9 (.exit 0) [x3_5] H7)

def flat_Flat_States.L5 (v6 : AVal) (v5 : AVal) : Body := fun vs H Kn Ke => flat_Flat_States.L5.b v6 v5 (vs.getD 0 .undef) (vs.getD 1 .undef) H Kn Ke

def flat_Flat_States.w (x0 : AVal) (H : AHeap) (K : AVal → AHeap → Prop) : Prop :=
  vb (aEql false .ptr H x0 .nilp) fun v1 =>
  isB v1 fun b2 => cond b2
    (fin .ret [.v (.int .i64 0)] H K)
    (vb (aNilCheck x0) fun v3 =>
    vb (aFieldAddr 1 v3) fun v4 =>
    vb (aLoad H false 1 v4) fun v5 =>
    vb (lenSl v5) fun v6 =>
    LoopP (flat_Flat_States.L5 v6 v5) [.int .i64 0, .int .i64 0] H fun e17 vs18 H19 =>
      onE e17 (.exit 0)
        (fin .ret [.v (vs18.getD 0 .undef)] H19 K)
      (False))

def S_flat_Flat_States : Abs.Spec := fun args H r H' => ∃ x0 : AVal, args = [x0] ∧ (flat_Flat_States.w x0 H fun r1 H1 => r1 = r ∧ H1 = H') ∧ H <+: H'
theorem flat_Flat_States.ok (args : List AVal) (H : AHeap) (r : AVal) (H' : AHeap) (h : S_flat_Flat_States args H r H') : ∃ x0 : AVal, args = [x0] ∧ flat_Flat_States.w x0 H fun r1 H1 => r1 = r ∧ H1 = H' := by
  obtain ⟨x0, h1, h2, _⟩ := h
  exact ⟨x0, h1, h2⟩
theorem flat_Flat_States.quiet {args : List AVal} {H : AHeap} {r : AVal} {H' : AHeap} (h : S_flat_Flat_States args H r H') : H <+: H' := by
  obtain ⟨_, _, _, h⟩ := h
  exact h
set_option maxRecDepth 100000 in
theorem flat_Flat_States.ex (x0 : AVal) (H : AHeap) : Ex fun K : AVal × AHeap → Prop => flat_Flat_States.w x0 H fun r H => K (r, H) := by
  unfold flat_Flat_States.w
  repeat with_reducible first
    | exact Ex.pt _
    | exact Ex.fin
    | exact Ex.no
    | refine Ex.vb fun _ => ?_
    | refine Ex.hb fun _ _ => ?_
    | refine Ex.sb fun _ => ?_
    | refine Ex.cb fun _ _ => ?_
    | refine Ex.isB fun _ => ?_
    | refine Ex.cond ?_ ?_
    | refine Ex.onE ?_ ?_
    | refine Ex.join ?_ fun _ _ _ => ?_
    | refine Ex.loop (fun _ _ => ?_) fun _ _ _ => ?_
    | (unfold flat_Flat_States.L5; unfold flat_Flat_States.L5.b)

theorem flat_Flat_States.out {x0 : AVal} {H : AHeap} {Q : AVal → AHeap → Prop} (h : flat_Flat_States.w x0 H fun r H' => (H <+: H') ∧ Q r H') : ∃ r H', S_flat_Flat_States [x0] H r H' ∧ Q r H' := by
  obtain ⟨r, H', h1, h2⟩ := (flat_Flat_States.ex x0 H).out h
  exact ⟨r, H', ⟨_, rfl, h1, h2.1⟩, h2.2⟩

def flat_Flat_Copy.w (x0 : AVal) (H : AHeap) (K : AVal → AHeap → Prop) : Prop :=
  vb (aEql false .ptr H x0 .nilp) fun v1 =>
  isB v1 fun b2 => cond b2
    (fin .ret [.v (.nilp)] H K)
    (vb (aNilCheck x0) fun v3 =>
    vb (aFieldAddr 0 v3) fun v4 =>
    vb (aLoad H false 1 v4) fun v5 =>
    vb (aNilCheck x0) fun v6 =>
    vb (aFieldAddr 1 v6) fun v7 =>
    vb (aLoad H false 1 v7) fun v8 =>
    cb (S_slices_Clone_flat_chain_flat_chain [v8] H) fun v9 H10 =>
    vb (aBuild [.int .i64 0, .nils] (fun k => ([(0, 1), (1, 1)] : List (Nat × Nat))[k]?) [(0, v5), (1, v9)]) fun v11 =>
    hb (aBox H10 v11) fun v12 H13 =>
    fin .ret [.v (v12)] H13 K)

def S_flat_Flat_Copy : Abs.Spec := fun args H r H' => ∃ x0 : AVal, args = [x0] ∧ (flat_Flat_Copy.w x0 H fun r1 H1 => r1 = r ∧ H1 = H') ∧ H <+: H'
theorem flat_Flat_Copy.ok (args : List AVal) (H : AHeap) (r : AVal) (H' : AHeap) (h : S_flat_Flat_Copy args H r H') : ∃ x0 : AVal, args = [x0] ∧ flat_Flat_Copy.w x0 H fun r1 H1 => r1 = r ∧ H1 = H' := by
  obtain ⟨x0, h1, h2, _⟩ := h
  exact ⟨x0, h1, h2⟩
theorem flat_Flat_Copy.quiet {args : List AVal} {H : AHeap} {r : AVal} {H' : AHeap} (h : S_flat_Flat_Copy args H r H') : H <+: H' := by
  obtain ⟨_, _, _, h⟩ := h
  exact h
set_option maxRecDepth 100000 in
theorem flat_Flat_Copy.ex (x0 : AVal) (H : AHeap) : Ex fun K : AVal × AHeap → Prop => flat_Flat_Copy.w x0 H fun r H => K (r, H) := by
  unfold flat_Flat_Copy.w
  repeat with_reducible first
    | exact Ex.pt _
    | exact Ex.fin
    | exact Ex.no
    | refine Ex.vb fun _ => ?_
    | refine Ex.hb fun _ _ => ?_
    | refine Ex.sb fun _ => ?_
    | refine Ex.cb fun _ _ => ?_
    | refine Ex.isB fun _ => ?_
    | refine Ex.cond ?_ ?_
    | refine Ex.onE ?_ ?_
    | refine Ex.join ?_ fun _ _ _ => ?_
    | refine Ex.loop (fun _ _ => ?_) fun _ _ _ => ?_

theorem flat_Flat_Copy.out {x0 : AVal} {H : AHeap} {Q : AVal → AHeap → Prop} (h : flat_Flat_Copy.w x0 H fun r H' => (H <+: H') ∧ Q r H') : ∃ r H', S_flat_Flat_Copy [x0] H r H' ∧ Q r H' := by
  obtain ⟨r, H', h1, h2⟩ := (flat_Flat_Copy.ex x0 H).out h
  exact ⟨r, H', ⟨_, rfl, h1, h2.1⟩, h2.2⟩

def flat_New.L5.b (v11 : AVal) (v9 : AVal) (x16_5 : AVal) (H12 : AHeap) (Kn13 : List AVal → AHeap → Prop) (Ke14 : AExit → List AVal → AHeap → Prop) : Prop :=
  vb (aBin .lss x16_5 v11) fun v15 =>
  isB v15 fun b16 => cond b16
    (hb (aMakeSlice H12 1 [.int .u8 0] (.int .i64 48) (.int .i64 48)) fun v17 H18 =>
    vb (aBytes2Str H18 v17) fun v19 =>
    vb (aIndexAddr 1 v9 x16_5) fun v20 =>
    sb (aStore H18 1 v20 v19) fun H21 =>
    vb (aBin .add x16_5 (.int .i64 1)) fun v22 =>
    Kn13 [v22] H21)
    (Ke14 (.exit 0) [] H12)

def flat_New.L5 (v11 : AVal) (v9 : AVal) : Body := fun vs H Kn Ke => flat_New.L5.b v11 v9 (vs.getD 0 .undef) H Kn Ke

def flat_New.w (x0 : AVal) (H : AHeap) (K : AVal → AHeap → Prop) : Prop :=
  JoinP (fun Kj1 => vb (aBin .lss x0 (.int .i64 1)) fun v2 =>
    isB v2 fun b3 => cond b3
      (Kj1 .ret [.nilp, .int .i64 2] H)
      (vb (aBin .gtr x0 (.int .i64 64)) fun v4 =>
        isB v4 fun b5 => cond b5
          (Kj1 .ret [.nilp, .int .i64 2] H)
          (Kj1 .normal [.nilp, .int .i64 0] H)))
  (fun e6 vs7 H8 =>
    onE e6 .normal
      (hb (aMakeSlice H8 16 [.str []] x0 x0) fun v9 H10 =>
      vb (lenSl v9) fun v11 =>
      LoopP (flat_New.L5 v11 v9) [.int .i64 0] H10 fun e23 vs24 H25 =>
        onE e23 (.exit 0)
          (hb (aBuildSlice H25 1 [.nils] 1 [(0, v9)]) fun v26 H27 =>
          hb (aBuildSlice H27 1 [.nils] 1 [(0, v26)]) fun v28 H29 =>
          vb (aBuild [.int .i64 0, .nils] (fun k => ([(0, 1), (1, 1)] : List (Nat × Nat))[k]?) [(0, x0), (1, v28)]) fun v30 =>
          hb (aBox H29 v30) fun v31 H32 =>
          fin .ret [.v (v31), .v (.int .i64 0)] H32 K)
        (False))
    (onE e6 .ret
      (fin .ret [.v (vs7.getD 0 .undef), .v (vs7.getD 1 .undef)] H8 K)
    (False)))

def S_flat_New : Abs.Spec := fun args H r H' => ∃ x0 : AVal, args = [x0] ∧ (flat_New.w x0 H fun r1 H1 => r1 = r ∧ H1 = H') ∧ H <+: H'
theorem flat_New.ok (args : List AVal) (H : AHeap) (r : AVal) (H' : AHeap) (h : S_flat_New args H r H') : ∃ x0 : AVal, args = [x0] ∧ flat_New.w x0 H fun r1 H1 => r1 = r ∧ H1 = H' := by
  obtain ⟨x0, h1, h2, _⟩ := h
  exact ⟨x0, h1, h2⟩
theorem flat_New.quiet {args : List AVal} {H : AHeap} {r : AVal} {H' : AHeap} (h : S_flat_New args H r H') : H <+: H' := by
  obtain ⟨_, _, _, h⟩ := h
  exact h
set_option maxRecDepth 100000 in
theorem flat_New.ex (x0 : AVal) (H : AHeap) : Ex fun K : AVal × AHeap → Prop => flat_New.w x0 H fun r H => K (r, H) := by
  unfold flat_New.w
  repeat with_reducible first
    | exact Ex.pt _
    | exact Ex.fin
    | exact Ex.no
    | refine Ex.vb fun _ => ?_
    | refine Ex.hb fun _ _ => ?_
    | refine Ex.sb fun _ => ?_
    | refine Ex.cb fun _ _ => ?_
    | refine Ex.isB fun _ => ?_
    | refine Ex.cond ?_ ?_
    | refine Ex.onE ?_ ?_
    | refine Ex.join ?_ fun _ _ _ => ?_
    | refine Ex.loop (fun _ _ => ?_) fun _ _ _ => ?_
    | (unfold flat_New.L5; unfold flat_New.L5.b)

theorem flat_New.out {x0 : AVal} {H : AHeap} {Q : AVal → AHeap → Prop} (h : flat_New.w x0 H fun r H' => (H <+: H') ∧ Q r H') : ∃ r H', S_flat_New [x0] H r H' ∧ Q r H' := by
  obtain ⟨r, H', h1, h2⟩ := (flat_New.ex x0 H).out h
  exact ⟨r, H', ⟨_, rfl, h1, h2.1⟩, h2.2⟩

def cellaretref26_New.w (x0 : AVal) (H : AHeap) (K : AVal → AHeap → Prop) : Prop :=
  vb (aBin .mul (.int .i64 48) x0) fun v1 =>
  cb (S_cellaretref01_Zeros [v1] H) fun v2 H3 =>
  hb (aBuildSlice H3 1 [.str []] 1 [(0, v2)]) fun v4 H5 =>
  vb (aBuild [.nils] (fun k => ([(0, 1)] : List (Nat × Nat))[k]?) [(0, v4)]) fun v6 =>
  hb (aBuildSlice H5 1 [.nils] 1 [(0, v6)]) fun v7 H8 =>
  vb (aBuild [.int .i64 0, .nils] (fun k => ([(0, 1), (1, 1)] : List (Nat × Nat))[k]?) [(0, x0), (1, v7)]) fun v9 =>
  hb (aBox H8 v9) fun v10 H11 =>
  fin .ret [.v (v10)] H11 K

def S_cellaretref26_New : Abs.Spec := fun args H r H' => ∃ x0 : AVal, args = [x0] ∧ (cellaretref26_New.w x0 H fun r1 H1 => r1 = r ∧ H1 = H') ∧ H <+: H'
theorem cellaretref26_New.ok (args : List AVal) (H : AHeap) (r : AVal) (H' : AHeap) (h : S_cellaretref26_New args H r H') : ∃ x0 : AVal, args = [x0] ∧ cellaretref26_New.w x0 H fun r1 H1 => r1 = r ∧ H1 = H' := by
  obtain ⟨x0, h1, h2, _⟩ := h
  exact ⟨x0, h1, h2⟩
theorem cellaretref26_New.quiet {args : List AVal} {H : AHeap} {r : AVal} {H' : AHeap} (h : S_cellaretref26_New args H r H') : H <+: H' := by
  obtain ⟨_, _, _, h⟩ := h
  exact h
set_option maxRecDepth 100000 in
theorem cellaretref26_New.ex (x0 : AVal) (H : AHeap) : Ex fun K : AVal × AHeap → Prop => cellaretref26_New.w x0 H fun r H => K (r, H) := by
  unfold cellaretref26_New.w
  repeat with_reducible first
    | exact Ex.pt _
    | exact Ex.fin
    | exact Ex.no
    | refine Ex.vb fun _ => ?_
    | refine Ex.hb fun _ _ => ?_
    | refine Ex.sb fun _ => ?_
    | refine Ex.cb fun _ _ => ?_
    | refine Ex.isB fun _ => ?_
    | refine Ex.cond ?_ ?_
    | refine Ex.onE ?_ ?_
    | refine Ex.join ?_ fun _ _ _ => ?_
    | refine Ex.loop (fun _ _ => ?_) fun _ _ _ => ?_

theorem cellaretref26_New.out {x0 : AVal} {H : AHeap} {Q : AVal → AHeap → Prop} (h : cellaretref26_New.w x0 H fun r H' => (H <+: H') ∧ Q r H') : ∃ r H', S_cellaretref26_New [x0] H r H' ∧ Q r H' := by
  obtain ⟨r, H', h1, h2⟩ := (cellaretref26_New.ex x0 H).out h
  exact ⟨r, H', ⟨_, rfl, h1, h2.1⟩, h2.2⟩

def cellaretref26_Flat_May.w (x0 : AVal) (x1 : AVal) (x2 : AVal) (H : AHeap) (K : AVal → AHeap → Prop) : Prop :=
  vb (aBin .lss x2 (.int .i64 1)) fun v1 =>
  isB v1 fun b2 => cond b2
    (fin .ret [.v (.int .i64 2)] H K)
    (JoinP (fun Kj3 => vb (aBin .lss x1 (.int .i64 0)) fun v4 =>
      isB v4 fun b5 => cond b5
        (Kj3 .ret [.int .i64 3] H)
        (vb (aNilCheck x0) fun v6 =>
            vb (aFieldAddr 0 v6) fun v7 =>
              vb (aLoad H false 1 v7) fun v8 =>
                vb (aBin .geq x1 v8) fun v9 =>
                  isB v9 fun b10 => cond b10
                    (Kj3 .ret [.int .i64 3] H)
                    (vb (aNilCheck x0) fun v11 =>
                        vb (aFieldAddr 0 v11) fun v12 =>
                          vb (aLoad H false 1 v12) fun v13 =>
                            vb (aBin .sub v13 x1) fun v14 =>
                                vb (aBin .gtr x2 v14) fun v15 =>
                                  isB v15 fun b16 => cond b16
                                    (Kj3 .ret [.int .i64 3] H)
                                    (Kj3 .normal [.int .i64 0] H))))
    (fun e17 vs18 H19 =>
      onE e17 .normal
        (fin .ret [.v (.int .i64 0)] H19 K)
      (onE e17 .ret
        (fin .ret [.v (vs18.getD 0 .undef)] H19 K)
      (False))))

def S_cellaretref26_Flat_May : Abs.Spec := fun args H r H' => ∃ x0 x1 x2 : AVal, args = [x0, x1, x2] ∧ (cellaretref26_Flat_May.w x0 x1 x2 H fun r1 H1 => r1 = r ∧ H1 = H') ∧ H <+: H'
theorem cellaretref26_Flat_May.ok (args : List AVal) (H : AHeap) (r : AVal) (H' : AHeap) (h : S_cellaretref26_Flat_May args H r H') : ∃ x0 x1 x2 : AVal, args = [x0, x1, x2] ∧ cellaretref26_Flat_May.w x0 x1 x2 H fun r1 H1 => r1 = r ∧ H1 = H' := by
  obtain ⟨x0, x1, x2, h1, h2, _⟩ := h
  exact ⟨x0, x1, x2, h1, h2⟩
theorem cellaretref26_Flat_May.quiet {args : List AVal} {H : AHeap} {r : AVal} {H' : AHeap} (h : S_cellaretref26_Flat_May args H r H') : H <+: H' := by
  obtain ⟨_, _, _, _, _, h⟩ := h
  exact h
set_option maxRecDepth 100000 in
theorem cellaretref26_Flat_May.ex (x0 x1 x2 : AVal) (H : AHeap) : Ex fun K : AVal × AHeap → Prop => cellaretref26_Flat_May.w x0 x1 x2 H fun r H => K (r, H) := by
  unfold cellaretref26_Flat_May.w
  repeat with_reducible first
    | exact Ex.pt _
    | exact Ex.fin
    | exact Ex.no
    | refine Ex.vb fun _ => ?_
    | refine Ex.hb fun _ _ => ?_
    | refine Ex.sb fun _ => ?_
    | refine Ex.cb fun _ _ => ?_
    | refine Ex.isB fun _ => ?_
    | refine Ex.cond ?_ ?_
    | refine Ex.onE ?_ ?_
    | refine Ex.join ?_ fun _ _ _ => ?_
    | refine Ex.loop (fun _ _ => ?_) fun _ _ _ => ?_

theorem cellaretref26_Flat_May.out {x0 x1 x2 : AVal} {H : AHeap} {Q : AVal → AHeap → Prop} (h : cellaretref26_Flat_May.w x0 x1 x2 H fun r H' => (H <+: H') ∧ Q r H') : ∃ r H', S_cellaretref26_Flat_May [x0, x1, x2] H r H' ∧ Q r H' := by
  obtain ⟨r, H', h1, h2⟩ := (cellaretref26_Flat_May.ex x0 x1 x2 H).out h
  exact ⟨r, H', ⟨_, _, _, rfl, h1, h2.1⟩, h2.2⟩

def cellaretref26_Flat_Data.w (x0 : AVal) (x1 : AVal) (x2 : AVal) (H : AHeap) (K : AVal → AHeap → Prop) : Prop :=
  JoinP (fun Kj1 => vb (lenSt x2) fun v2 =>
    vb (aBin .rem v2 (.int .i64 48)) fun v3 =>
    vb (aBin .neq v3 (.int .i64 0)) fun v4 =>
    isB v4 fun b5 => cond b5
      (Kj1 .ret [.int .i64 2] H)
      (vb (lenSt x2) fun v6 =>
        vb (aBin .eql v6 (.int .i64 0)) fun v7 =>
          isB v7 fun b8 => cond b8
            (Kj1 .ret [.int .i64 2] H)
            (Kj1 .normal [.int .i64 0] H)))
  (fun e9 vs10 H11 =>
    onE e9 .normal
      (vb (lenSt x2) fun v12 =>
      vb (aBin .quo v12 (.int .i64 48)) fun v13 =>
      cb (S_cellaretref26_Flat_May [x0, x1, v13] H11) fun v14 H15 =>
      fin .ret [.v (v14)] H15 K)
    (onE e9 .ret
      (fin .ret [.v (vs10.getD 0 .undef)] H11 K)
    (False)))

def S_cellaretref26_Flat_Data : Abs.Spec := fun args H r H' => ∃ x0 x1 x2 : AVal, args = [x0, x1, x2] ∧ (cellaretref26_Flat_Data.w x0 x1 x2 H fun r1 H1 => r1 = r ∧ H1 = H') ∧ H <+: H'
theorem cellaretref26_Flat_Data.ok (args : List AVal) (H : AHeap) (r : AVal) (H' : AHeap) (h : S_cellaretref26_Flat_Data args H r H') : ∃ x0 x1 x2 : AVal, args = [x0, x1, x2] ∧ cellaretref26_Flat_Data.w x0 x1 x2 H fun r1 H1 => r1 = r ∧ H1 = H' := by
  obtain ⟨x0, x1, x2, h1, h2, _⟩ := h
  exact ⟨x0, x1, x2, h1, h2⟩
theorem cellaretref26_Flat_Data.quiet {args : List AVal} {H : AHeap} {r : AVal} {H' : AHeap} (h : S_cellaretref26_Flat_Data args H r H') : H <+: H' := by
  obtain ⟨_, _, _, _, _, h⟩ := h
  exact h
set_option maxRecDepth 100000 in
theorem cellaretref26_Flat_Data.ex (x0 x1 x2 : AVal) (H : AHeap) : Ex fun K : AVal × AHeap → Prop => cellaretref26_Flat_Data.w x0 x1 x2 H fun r H => K (r, H) := by
  unfold cellaretref26_Flat_Data.w
  repeat with_reducible first
    | exact Ex.pt _
    | exact Ex.fin
    | exact Ex.no
    | refine Ex.vb fun _ => ?_
    | refine Ex.hb fun _ _ => ?_
    | refine Ex.sb fun _ => ?_
    | refine Ex.cb fun _ _ => ?_
    | refine Ex.isB fun _ => ?_
    | refine Ex.cond ?_ ?_
    | refine Ex.onE ?_ ?_
    | refine Ex.join ?_ fun _ _ _ => ?_
    | refine Ex.loop (fun _ _ => ?_) fun _ _ _ => ?_

theorem cellaretref26_Flat_Data.out {x0 x1 x2 : AVal} {H : AHeap} {Q : AVal → AHeap → Prop} (h : cellaretref26_Flat_Data.w x0 x1 x2 H fun r H' => (H <+: H') ∧ Q r H') : ∃ r H', S_cellaretref26_Flat_Data [x0, x1, x2] H r H' ∧ Q r H' := by
  obtain ⟨r, H', h1, h2⟩ := (cellaretref26_Flat_Data.ex x0 x1 x2 H).out h
  exact ⟨r, H', ⟨_, _, _, rfl, h1, h2.1⟩, h2.2⟩

def cellaretref26_Chain_Last.w (x0 : AVal) (H : AHeap) (K : AVal → AHeap → Prop) : Prop :=
  hb (aBox H x0) fun v1 H2 =>
  vb (aFieldAddr 0 v1) fun v3 =>
  vb (aLoad H2 false 1 v3) fun v4 =>
  vb (aFieldAddr 0 v1) fun v5 =>
  vb (aLoad H2 false 1 v5) fun v6 =>
  vb (lenSl v6) fun v7 =>
  vb (aBin .sub v7 (.int .i64 1)) fun v8 =>
  vb (aIndexAddr 1 v4 v8) fun v9 =>
  vb (aLoad H2 false 1 v9) fun v10 =>
  fin .ret [.v (v10)] H2 K

def S_cellaretref26_Chain_Last : Abs.Spec := fun args H r H' => ∃ x0 : AVal, args = [x0] ∧ (cellaretref26_Chain_Last.w x0 H fun r1 H1 => r1 = r ∧ H1 = H') ∧ H <+: H'
theorem cellaretref26_Chain_Last.ok (args : List AVal) (H : AHeap) (r : AVal) (H' : AHeap) (h : S_cellaretref26_Chain_Last args H r H') : ∃ x0 : AVal, args = [x0] ∧ cellaretref26_Chain_Last.w x0 H fun r1 H1 => r1 = r ∧ H1 = H' := by
  obtain ⟨x0, h1, h2, _⟩ := h
  exact ⟨x0, h1, h2⟩
theorem cellaretref26_Chain_Last.quiet {args : List AVal} {H : AHeap} {r : AVal} {H' : AHeap} (h : S_cellaretref26_Chain_Last args H r H') : H <+: H' := by
  obtain ⟨_, _, _, h⟩ := h
  exact h
set_option maxRecDepth 100000 in
theorem cellaretref26_Chain_Last.ex (x0 : AVal) (H : AHeap) : Ex fun K : AVal × AHeap → Prop => cellaretref26_Chain_Last.w x0 H fun r H => K (r, H) := by
  unfold cellaretref26_Chain_Last.w
  repeat with_reducible first
    | exact Ex.pt _
    | exact Ex.fin
    | exact Ex.no
    | refine Ex.vb fun _ => ?_
    | refine Ex.hb fun _ _ => ?_
    | refine Ex.sb fun _ => ?_
    | refine Ex.cb fun _ _ => ?_
    | refine Ex.isB fun _ => ?_
    | refine Ex.cond ?_ ?_
    | refine Ex.onE ?_ ?_
    | refine Ex.join ?_ fun _ _ _ => ?_
    | refine Ex.loop (fun _ _ => ?_) fun _ _ _ => ?_

theorem cellaretref26_Chain_Last.out {x0 : AVal} {H : AHeap} {Q : AVal → AHeap → Prop} (h : cellaretref26_Chain_Last.w x0 H fun r H' => (H <+: H') ∧ Q r H') : ∃ r H', S_cellaretref26_Chain_Last [x0] H r H' ∧ Q r H' := by
  obtain ⟨r, H', h1, h2⟩ := (cellaretref26_Chain_Last.ex x0 H).out h
  exact ⟨r, H', ⟨_, rfl, h1, h2.1⟩, h2.2⟩

def cellaretref26_Flat_Write.L2.b (x0 : AVal) (x1 : AVal) (x2 : AVal) (x6_2 : AVal) (x7_2 : AVal) (H1 : AHeap) (Kn2 : List AVal → AHeap → Prop) (Ke3 : AExit → List AVal → AHeap → Prop) : Prop :=
  vb (aNilCheck x0) fun v4 =>
  vb (aFieldAddr 1 v4) fun v5 =>
  vb (aLoad H1 false 1 v5) fun v6 =>
  vb (lenSl v6) fun v7 =>
  vb (aBin .lss x7_2 v7) fun v8 =>
  isB v8 fun b9 => cond b9
    (vb (aNilCheck x0) fun v10 =>
    vb (aFieldAddr 1 v10) fun v11 =>
    vb (aLoad H1 false 1 v11) fun v12 =>
    vb (aIndexAddr 1 v12 x7_2) fun v13 =>
    vb (aLoad H1 true 1 v13) fun v14 =>
    cb (S_cellaretref26_Chain_Last [v14] H1) fun v15 H16 =>
    vb (aBin .mul (.int .i64 48) x1) fun v17 =>
    vb (aSliceStr v15 none (some v17)) fun v18 =>
    vb (aBin .add v18 x2) fun v19 =>
    vb (aBin .mul (.int .i64 48) x1) fun v20 =>
    vb (lenSt x2) fun v21 =>
    vb (aBin .add v20 v21) fun v22 =>
    vb (aSliceStr v15 (some v22) none) fun v23 =>
    vb (aBin .add v19 v23) fun v24 =>
    hb (aBuildSlice H16 1 [.str []] 0 []) fun v25 H26 =>
    vb (aNilCheck x0) fun v27 =>
    vb (aFieldAddr 1 v27) fun v28 =>
    vb (aLoad H26 false 1 v28) fun v29 =>
    vb (aIndexAddr 1 v29 x7_2) fun v30 =>
    vb (aFieldAddr 0 v30) fun v31 =>
    vb (aLoad H26 false 1 v31) fun v32 =>
    hb (aAppendS H26 1 16 v25 v32) fun v33 H34 =>
    hb (aBuildSlice H34 1 [.str []] 1 [(0, v24)]) fun v35 H36 =>
    hb (aAppendS H36 1 16 v33 v35) fun v37 H38 =>
    vb (aBuild [.nils] (fun k => ([(0, 1)] : List (Nat × Nat))[k]?) [(0, v37)]) fun v39 =>
    hb (aBuildSlice H38 1 [.nils] 1 [(0, v39)]) fun v40 H41 =>
    hb (aAppendS H41 1 24 x6_2 v40) fun v42 H43 =>
    vb (aBin .add x7_2 (.int .i64 1)) fun v44 =>
    Kn2 [v42, v44] H43)
    (Ke3 (.exit 0) [x6_2] H1)

def cellaretref26_Flat_Write.L2 (x0 : AVal) (x1 : AVal) (x2 : AVal) : Body := fun vs H Kn Ke => cellaretref26_Flat_Write.L2.b x0 x1 x2 (vs.getD 0 .undef) (vs.getD 1 .undef) H Kn Ke

def cellaretref26_Flat_Write.w (x0 : AVal) (x1 : AVal) (x2 : AVal) (H : AHeap) (K : AVal → AHeap → Prop) : Prop :=
  LoopP (cellaretref26_Flat_Write.L2 x0 x1 x2) [.nils, .int .i64 0] H fun e45 vs46 H47 =>
    onE e45 (.exit 0)
      (vb (aNilCheck x0) fun v48 =>
      vb (aFieldAddr 1 v48) fun v49 =>
      sb (aStore H47 1 v49 (vs46.getD 0 .undef)) fun H50 =>
      fin .normal [] H50 K)
    (False)

def S_cellaretref26_Flat_Write : Abs.Spec := fun args H r H' => ∃ x0 x1 x2 : AVal, args = [x0, x1, x2] ∧ (cellaretref26_Flat_Write.w x0 x1 x2 H fun r1 H1 => r1 = r ∧ H1 = H')
theorem cellaretref26_Flat_Write.ok (args : List AVal) (H : AHeap) (r : AVal) (H' : AHeap) (h : S_cellaretref26_Flat_Write args H r H') : ∃ x0 x1 x2 : AVal, args = [x0, x1, x2] ∧ cellaretref26_Flat_Write.w x0 x1 x2 H fun r1 H1 => r1 = r ∧ H1 = H' := by
  obtain ⟨x0, x1, x2, h1, h2⟩ := h
  exact ⟨x0, x1, x2, h1, h2⟩
set_option maxRecDepth 100000 in
theorem cellaretref26_Flat_Write.ex (x0 x1 x2 : AVal) (H : AHeap) : Ex fun K : AVal × AHeap → Prop => cellaretref26_Flat_Write.w x0 x1 x2 H fun r H => K (r, H) := by
  unfold cellaretref26_Flat_Write.w
  repeat with_reducible first
    | exact Ex.pt _
    | exact Ex.fin
    | exact Ex.no
    | refine Ex.vb fun _ => ?_
    | refine Ex.hb fun _ _ => ?_
    | refine Ex.sb fun _ => ?_
    | refine Ex.cb fun _ _ => ?_
    | refine Ex.isB fun _ => ?_
    | refine Ex.cond ?_ ?_
    | refine Ex.onE ?_ ?_
    | refine Ex.join ?_ fun _ _ _ => ?_
    | refine Ex.loop (fun _ _ => ?_) fun _ _ _ => ?_
    | (unfold cellaretref26_Flat_Write.L2; unfold cellaretref26_Flat_Write.L2.b)

theorem cellaretref26_Flat_Write.out {x0 x1 x2 : AVal} {H : AHeap} {Q : AVal → AHeap → Prop} (h : cellaretref26_Flat_Write.w x0 x1 x2 H fun r H' => Q r H') : ∃ r H', S_cellaretref26_Flat_Write [x0, x1, x2] H r H' ∧ Q r H' := by
  obtain ⟨r, H', h1, h2⟩ := (cellaretref26_Flat_Write.ex x0 x1 x2 H).out h
  exact ⟨r, H', ⟨_, _, _, rfl, h1⟩, h2⟩

def cellaretref26_Flat_Saw.L3.b (x0 : AVal) (x1 : AVal) (x2 : AVal) (x7_3 : AVal) (x8_3 : AVal) (H1 : AHeap) (Kn2 : List AVal → AHeap → Prop) (Ke3 : AExit → List AVal → AHeap → Prop) : Prop :=
  vb (aNilCheck x0) fun v4 =>
  vb (aFieldAddr 1 v4) fun v5 =>
  vb (aLoad H1 false 1 v5) fun v6 =>
  vb (lenSl v6) fun v7 =>
  vb (aBin .lss x8_3 v7) fun v8 =>
  isB v8 fun b9 => cond b9
    (vb (aNilCheck x0) fun v10 =>
    vb (aFieldAddr 1 v10) fun v11 =>
    vb (aLoad H1 false 1 v11) fun v12 =>
    vb (aIndexAddr 1 v12 x8_3) fun v13 =>
    vb (aLoad H1 true 1 v13) fun v14 =>
    cb (S_cellaretref26_Chain_Last [v14] H1) fun v15 H16 =>
    vb (aBin .mul (.int .i64 48) x1) fun v17 =>
    vb (aBin .mul (.int .i64 48) x1) fun v18 =>
    vb (lenSt x2) fun v19 =>
    vb (aBin .add v18 v19) fun v20 =>
    vb (aSliceStr v15 (some v17) (some v20)) fun v21 =>
    vb (aBin .eql v21 x2) fun v22 =>
    isB v22 fun b23 => cond b23
      (vb (aNilCheck x0) fun v24 =>
      vb (aFieldAddr 1 v24) fun v25 =>
      vb (aLoad H16 false 1 v25) fun v26 =>
      vb (aIndexAddr 1 v26 x8_3) fun v27 =>
      vb (aLoad H16 true 1 v27) fun v28 =>
      hb (aBuildSlice H16 1 [.nils] 1 [(0, v28)]) fun v29 H30 =>
      hb (aAppendS H30 1 24 x7_3 v29) fun v31 H32 =>
      vb (aBin .add x8_3 (.int .i64 1)) fun v33 =>
      Kn2 [v31, v33] H32)
      (vb (aBin .add x8_3 (.int .i64 1)) fun v34 =>
      Kn2 [x7_3, v34] H16))
    (Ke3 (.exit 0) [x7_3] H1)

def cellaretref26_Flat_Saw.L3 (x0 : AVal) (x1 : AVal) (x2 : AVal) : Body := fun vs H Kn Ke => cellaretref26_Flat_Saw.L3.b x0 x1 x2 (vs.getD 0 .undef) (vs.getD 1 .undef) H Kn Ke

def cellaretref26_Flat_Saw.w (x0 : AVal) (x1 : AVal) (x2 : AVal) (H : AHeap) (K : AVal → AHeap → Prop) : Prop :=
  LoopP (cellaretref26_Flat_Saw.L3 x0 x1 x2) [.nils, .int .i64 0] H fun e35 vs36 H37 =>
    onE e35 (.exit 0)
      (vb (lenSl (vs36.getD 0 .undef)) fun v38 =>
      vb (aBin .eql v38 (.int .i64 0)) fun v39 =>
      isB v39 fun b40 => cond b40
        (fin .ret [.v (.bool false)] H37 K)
        (vb (aNilCheck x0) fun v41 =>
        vb (aFieldAddr 1 v41) fun v42 =>
        sb (aStore H37 1 v42 (vs36.getD 0 .undef)) fun H43 =>
        fin .ret [.v (.bool true)] H43 K))
    (False)

def S_cellaretref26_Flat_Saw : Abs.Spec := fun args H r H' => ∃ x0 x1 x2 : AVal, args = [x0, x1, x2] ∧ (cellaretref26_Flat_Saw.w x0 x1 x2 H fun r1 H1 => r1 = r ∧ H1 = H')
theorem cellaretref26_Flat_Saw.ok (args : List AVal) (H : AHeap) (r : AVal) (H' : AHeap) (h : S_cellaretref26_Flat_Saw args H r H') : ∃ x0 x1 x2 : AVal, args = [x0, x1, x2] ∧ cellaretref26_Flat_Saw.w x0 x1 x2 H fun r1 H1 => r1 = r ∧ H1 = H' := by
  obtain ⟨x0, x1, x2, h1, h2⟩ := h
  exact ⟨x0, x1, x2, h1, h2⟩
set_option maxRecDepth 100000 in
theorem cellaretref26_Flat_Saw.ex (x0 x1 x2 : AVal) (H : AHeap) : Ex fun K : AVal × AHeap → Prop => cellaretref26_Flat_Saw.w x0 x1 x2 H fun r H => K (r, H) := by
  unfold cellaretref26_Flat_Saw.w
  repeat with_reducible first
    | exact Ex.pt _
    | exact Ex.fin
    | exact Ex.no
    | refine Ex.vb fun _ => ?_
    | refine Ex.hb fun _ _ => ?_
    | refine Ex.sb fun _ => ?_
    | refine Ex.cb fun _ _ => ?_
    | refine Ex.isB fun _ => ?_
    | refine Ex.cond ?_ ?_
    | refine Ex.onE ?_ ?_
    | refine Ex.join ?_ fun _ _ _ => ?_
    | refine Ex.loop (fun _ _ => ?_) fun _ _ _ => ?_
    | (unfold cellaretref26_Flat_Saw.L3; unfold cellaretref26_Flat_Saw.L3.b)

theorem cellaretref26_Flat_Saw.out {x0 x1 x2 : AVal} {H : AHeap} {Q : AVal → AHeap → Prop} (h : cellaretref26_Flat_Saw.w x0 x1 x2 H fun r H' => Q r H') : ∃ r H', S_cellaretref26_Flat_Saw [x0, x1, x2] H r H' ∧ Q r H' := by
  obtain ⟨r, H', h1, h2⟩ := (cellaretref26_Flat_Saw.ex x0 x1 x2 H).out h
  exact ⟨r, H', ⟨_, _, _, rfl, h1⟩, h2⟩

def cellaretref26_Flat_Safe.L2.b (x0 : AVal) (x2_2 : AVal) (x3_2 : AVal) (H1 : AHeap) (Kn2 : List AVal → AHeap → Prop) (Ke3 : AExit → List AVal → AHeap → Prop) : Prop :=
  vb (aNilCheck x0) fun v4 =>
  vb (aFieldAddr 1 v4) fun v5 =>
  vb (aLoad H1 false 1 v5) fun v6 =>
  vb (lenSl v6) fun v7 =>
  vb (aBin .lss x3_2 v7) fun v8 =>
  isB v8 fun b9 => cond b9
    (vb (aNilCheck x0) fun v10 =>
    vb (aFieldAddr 1 v10) fun v11 =>
    vb (aLoad H1 false 1 v11) fun v12 =>
    vb (aIndexAddr 1 v12 x3_2) fun v13 =>
    vb (aLoad H1 true 1 v13) fun v14 =>
    cb (S_cellaretref26_Chain_Last [v14] H1) fun v15 H16 =>
    hb (aBuildSlice H16 1 [.str []] 1 [(0, v15)]) fun v17 H18 =>
    vb (aBuild [.nils] (fun k => ([(0, 1)] : List (Nat × Nat))[k]?) [(0, v17)]) fun v19 =>
    hb (aBuildSlice H18 1 [.nils] 1 [(0, v19)]) fun v20 H21 =>
    hb (aAppendS H21 1 24 x2_2 v20) fun v22 H23 =>
    vb (aBin .add x3_2 (.int .i64 1)) fun v24 =>
    Kn2 [v22, v24] H23)
    (Ke3 (.exit 0) [x2_2] H1)

def cellaretref26_Flat_Safe.L2 (x0 : AVal) : Body := fun vs H Kn Ke => cellaretref26_Flat_Safe.L2.b x0 (vs.getD 0 .undef) (vs.getD 1 .undef) H Kn Ke

def cellaretref26_Flat_Safe.w (x0 : AVal) (H : AHeap) (K : AVal → AHeap → Prop) : Prop :=
  LoopP (cellaretref26_Flat_Safe.L2 x0) [.nils, .int .i64 0] H fun e25 vs26 H27 =>
    onE e25 (.exit 0)
      (vb (aNilCheck x0) fun v28 =>
      vb (aFieldAddr 1 v28) fun v29 =>
      sb (aStore H27 1 v29 (vs26.getD 0 .undef)) fun H30 =>
      fin .normal [] H30 K)
    (False)

def S_cellaretref26_Flat_Safe : Abs.Spec := fun args H r H' => ∃ x0 : AVal, args = [x0] ∧ (cellaretref26_Flat_Safe.w x0 H fun r1 H1 => r1 = r ∧ H1 = H')
theorem cellaretref26_Flat_Safe.ok (args : List AVal) (H : AHeap) (r : AVal) (H' : AHeap) (h : S_cellaretref26_Flat_Safe args H r H') : ∃ x0 : AVal, args = [x0] ∧ cellaretref26_Flat_Safe.w x0 H fun r1 H1 => r1 = r ∧ H1 = H' := by
  obtain ⟨x0, h1, h2⟩ := h
  exact ⟨x0, h1, h2⟩
set_option maxRecDepth 100000 in
theorem cellaretref26_Flat_Safe.ex (x0 : AVal) (H : AHeap) : Ex fun K : AVal × AHeap → Prop => cellaretref26_Flat_Safe.w x0 H fun r H => K (r, H) := by
  unfold cellaretref26_Flat_Safe.w
  repeat with_reducible first
    | exact Ex.pt _
    | exact Ex.fin
    | exact Ex.no
    | refine Ex.vb fun _ => ?_
    | refine Ex.hb fun _ _ => ?_
    | refine Ex.sb fun _ => ?_
    | refine Ex.cb fun _ _ => ?_
    | refine Ex.isB fun _ => ?_
    | refine Ex.cond ?_ ?_
    | refine Ex.onE ?_ ?_
    | refine Ex.join ?_ fun _ _ _ => ?_
    | refine Ex.loop (fun _ _ => ?_) fun _ _ _ => ?_
    | (unfold cellaretref26_Flat_Safe.L2; unfold cellaretref26_Flat_Safe.L2.b)

theorem cellaretref26_Flat_Safe.out {x0 : AVal} {H : AHeap} {Q : AVal → AHeap → Prop} (h : cellaretref26_Flat_Safe.w x0 H fun r H' => Q r H') : ∃ r H', S_cellaretref26_Flat_Safe [x0] H r H' ∧ Q r H' := by
  obtain ⟨r, H', h1, h2⟩ := (cellaretref26_Flat_Safe.ex x0 H).out h
  exact ⟨r, H', ⟨_, rfl, h1⟩, h2⟩

def cellaretref26_Flat_Crash.L10.b (x2_5 : AVal) (v29 : AVal) (x6_10 : AVal) (x7_10 : AVal) (H30 : AHeap) (Kn31 : List AVal → AHeap → Prop) (Ke32 : AExit → List AVal → AHeap → Prop) : Prop :=
  vb (lenSl x2_5) fun v33 =>
  vb (aBin .lss x7_10 v33) fun v34 =>
  isB v34 fun b35 => cond b35
    (isB x6_10 fun b36 => cond b36
      (vb (aBin .add x7_10 (.int .i64 1)) fun v37 =>
                Kn31 [.bool true, v37] H30)
      (vb (aIndexAddr 1 x2_5 x7_10) fun v38 =>
          vb (aLoad H30 false 1 v38) fun v39 =>
            vb (aBin .eql v39 v29) fun v40 =>
                vb (aBin .add x7_10 (.int .i64 1)) fun v41 =>
                Kn31 [v40, v41] H30))
    (Ke32 (.exit 4) [x6_10] H30)

def cellaretref26_Flat_Crash.L10 (x2_5 : AVal) (v29 : AVal) : Body := fun vs H Kn Ke => cellaretref26_Flat_Crash.L10.b x2_5 v29 (vs.getD 0 .undef) (vs.getD 1 .undef) H Kn Ke

def cellaretref26_Flat_Crash.L5.b (x0 : AVal) (x3_2 : AVal) (x2_5 : AVal) (x4_5 : AVal) (H10 : AHeap) (Kn11 : List AVal → AHeap → Prop) (Ke12 : AExit → List AVal → AHeap → Prop) : Prop :=
  vb (aNilCheck x0) fun v13 =>
  vb (aFieldAddr 1 v13) fun v14 =>
  vb (aLoad H10 false 1 v14) fun v15 =>
  vb (aIndexAddr 1 v15 x3_2) fun v16 =>
  vb (aFieldAddr 0 v16) fun v17 =>
  vb (aLoad H10 false 1 v17) fun v18 =>
  vb (lenSl v18) fun v19 =>
  vb (aBin .lss x4_5 v19) fun v20 =>
  isB v20 fun b21 => cond b21
    (vb (aNilCheck x0) fun v22 =>
    vb (aFieldAddr 1 v22) fun v23 =>
    vb (aLoad H10 false 1 v23) fun v24 =>
    vb (aIndexAddr 1 v24 x3_2) fun v25 =>
    vb (aFieldAddr 0 v25) fun v26 =>
    vb (aLoad H10 false 1 v26) fun v27 =>
    vb (aIndexAddr 1 v27 x4_5) fun v28 =>
    vb (aLoad H10 false 1 v28) fun v29 =>
    LoopP (cellaretref26_Flat_Crash.L10 x2_5 v29) [.bool false, .int .i64 0] H10 fun e42 vs43 H44 =>
      onE e42 (.exit 4)
        (vb (aUn .not (vs43.getD 0 .undef)) fun v45 =>
        isB v45 fun b46 => cond b46
          (hb (aBuildSlice H44 1 [.str []] 1 [(0, v29)]) fun v47 H48 =>
          hb (aAppendS H48 1 16 x2_5 v47) fun v49 H50 =>
          vb (aBin .add x4_5 (.int .i64 1)) fun v51 =>
          Kn11 [v49, v51] H50)
          (vb (aBin .add x4_5 (.int .i64 1)) fun v52 =>
          Kn11 [x2_5, v52] H44))
      (False))
    (Ke12 (.exit 2) [x2_5] H10)

def cellaretref26_Flat_Crash.L5 (x0 : AVal) (x3_2 : AVal) : Body := fun vs H Kn Ke => cellaretref26_Flat_Crash.L5.b x0 x3_2 (vs.getD 0 .undef) (vs.getD 1 .undef) H Kn Ke

def cellaretref26_Flat_Crash.L2.b (x0 : AVal) (x2_2 : AVal) (x3_2 : AVal) (H1 : AHeap) (Kn2 : List AVal → AHeap → Prop) (Ke3 : AExit → List AVal → AHeap → Prop) : Prop :=
  vb (aNilCheck x0) fun v4 =>
  vb (aFieldAddr 1 v4) fun v5 =>
  vb (aLoad H1 false 1 v5) fun v6 =>
  vb (lenSl v6) fun v7 =>
  vb (aBin .lss x3_2 v7) fun v8 =>
  isB v8 fun b9 => cond b9
    (LoopP (cellaretref26_Flat_Crash.L5 x0 x3_2) [x2_2, .int .i64 0] H1 fun e53 vs54 H55 =>
      onE e53 (.exit 2)
        (vb (aBin .add x3_2 (.int .i64 1)) fun v56 =>
        Kn2 [vs54.getD 0 .undef, v56] H55)
      (False))
    (Ke3 (.exit 0) [x2_2] H1)

def cellaretref26_Flat_Crash.L2 (x0 : AVal) : Body := fun vs H Kn Ke => cellaretref26_Flat_Crash.L2.b x0 (vs.getD 0 .undef) (vs.getD 1 .undef) H Kn Ke

def cellaretref26_Flat_Crash.L17.b (vs58 : List AVal) (x8_17 : AVal) (x9_17 : AVal) (H60 : AHeap) (Kn61 : List AVal → AHeap → Prop) (Ke62 : AExit → List AVal → AHeap → Prop) : Prop :=
  vb (lenSl (vs58.getD 0 .undef)) fun v63 =>
  vb (aBin .lss x9_17 v63) fun v64 =>
  isB v64 fun b65 => cond b65
    (vb (aIndexAddr 1 (vs58.getD 0 .undef) x9_17) fun v66 =>
    vb (aLoad H60 false 1 v66) fun v67 =>
    hb (aBuildSlice H60 1 [.str []] 1 [(0, v67)]) fun v68 H69 =>
    vb (aBuild [.nils] (fun k => ([(0, 1)] : List (Nat × Nat))[k]?) [(0, v68)]) fun v70 =>
    hb (aBuildSlice H69 1 [.nils] 1 [(0, v70)]) fun v71 H72 =>
    hb (aAppendS H72 1 24 x8_17 v71) fun v73 H74 =>
    vb (aBin .add x9_17 (.int .i64 1)) fun v75 =>
    Kn61 [v73, v75] H74)
    (Ke62 (.exit 6) [x8_17] H60)

def cellaretref26_Flat_Crash.L17 (vs58 : List AVal) : Body := fun vs H Kn Ke => cellaretref26_Flat_Crash.L17.b vs58 (vs.getD 0 .undef) (vs.getD 1 .undef) H Kn Ke

def cellaretref26_Flat_Crash.w (x0 : AVal) (H : AHeap) (K : AVal → AHeap → Prop) : Prop :=
  LoopP (cellaretref26_Flat_Crash.L2 x0) [.nils, .int .i64 0] H fun e57 vs58 H59 =>
    onE e57 (.exit 0)
      (LoopP (cellaretref26_Flat_Crash.L17 vs58) [.nils, .int .i64 0] H59 fun e76 vs77 H78 =>
        onE e76 (.exit 6)
          (vb (aNilCheck x0) fun v79 =>
          vb (aFieldAddr 1 v79) fun v80 =>
          sb (aStore H78 1 v80 (vs77.getD 0 .undef)) fun H81 =>
          fin .normal [] H81 K)
        (False))
    (False)

def S_cellaretref26_Flat_Crash : Abs.Spec := fun args H r H' => ∃ x0 : AVal, args = [x0] ∧ (cellaretref26_Flat_Crash.w x0 H fun r1 H1 => r1 = r ∧ H1 = H')
theorem cellaretref26_Flat_Crash.ok (args : List AVal) (H : AHeap) (r : AVal) (H' : AHeap) (h : S_cellaretref26_Flat_Crash args H r H') : ∃ x0 : AVal, args = [x0] ∧ cellaretref26_Flat_Crash.w x0 H fun r1 H1 => r1 = r ∧ H1 = H' := by
  obtain ⟨x0, h1, h2⟩ := h
  exact ⟨x0, h1, h2⟩
set_option maxRecDepth 100000 in
theorem cellaretref26_Flat_Crash.ex (x0 : AVal) (H : AHeap) : Ex fun K : AVal × AHeap → Prop => cellaretref26_Flat_Crash.w x0 H fun r H => K (r, H) := by
  unfold cellaretref26_Flat_Crash.w
  repeat with_reducible first
    | exact Ex.pt _
    | exact Ex.fin
    | exact Ex.no
    | refine Ex.vb fun _ => ?_
    | refine Ex.hb fun _ _ => ?_
    | refine Ex.sb fun _ => ?_
    | refine Ex.cb fun _ _ => ?_
    | refine Ex.isB fun _ => ?_
    | refine Ex.cond ?_ ?_
    | refine Ex.onE ?_ ?_
    | refine Ex.join ?_ fun _ _ _ => ?_
    | refine Ex.loop (fun _ _ => ?_) fun _ _ _ => ?_
    | (unfold cellaretref26_Flat_Crash.L10; unfold cellaretref26_Flat_Crash.L10.b)
    | (unfold cellaretref26_Flat_Crash.L5; unfold cellaretref26_Flat_Crash.L5.b)
    | (unfold cellaretref26_Flat_Crash.L2; unfold cellaretref26_Flat_Crash.L2.b)
    | (unfold cellaretref26_Flat_Crash.L17; unfold cellaretref26_Flat_Crash.L17.b)

theorem cellaretref26_Flat_Crash.out {x0 : AVal} {H : AHeap} {Q : AVal → AHeap → Prop} (h : cellaretref26_Flat_Crash.w x0 H fun r H' => Q r H') : ∃ r H', S_cellaretref26_Flat_Crash [x0] H r H' ∧ Q r H' := by
  obtain ⟨r, H', h1, h2⟩ := (cellaretref26_Flat_Crash.ex x0 H).out h
  exact ⟨r, H', ⟨_, rfl, h1⟩, h2⟩

def cellaretref26_Flat_Read.L3.b (x0 : AVal) (x1 : AVal) (x2 : AVal) (v12 : AVal) (x9_3 : AVal) (H13 : AHeap) (Kn14 : List AVal → AHeap → Prop) (Ke15 : AExit → List AVal → AHeap → Prop) : Prop :=
  vb (aNilCheck x0) fun v16 =>
  vb (aFieldAddr 1 v16) fun v17 =>
  vb (aLoad H13 false 1 v17) fun v18 =>
  vb (lenSl v18) fun v19 =>
  vb (aBin .lss x9_3 v19) fun v20 =>
  isB v20 fun b21 => cond b21
    (vb (aNilCheck x0) fun v22 =>
    vb (aFieldAddr 1 v22) fun v23 =>
    vb (aLoad H13 false 1 v23) fun v24 =>
    vb (aIndexAddr 1 v24 x9_3) fun v25 =>
    vb (aLoad H13 true 1 v25) fun v26 =>
    cb (S_cellaretref26_Chain_Last [v26] H13) fun v27 H28 =>
    vb (aBin .mul (.int .i64 48) x1) fun v29 =>
    vb (aBin .mul (.int .i64 48) x1) fun v30 =>
    vb (aBin .mul (.int .i64 48) x2) fun v31 =>
    vb (aBin .add v30 v31) fun v32 =>
    vb (aSliceStr v27 (some v29) (some v32)) fun v33 =>
    vb (aBin .neq v33 v12) fun v34 =>
    isB v34 fun b35 => cond b35
      (Ke15 .ret [.str [], .bool false] H28)
      (vb (aBin .add x9_3 (.int .i64 1)) fun v36 =>
      Kn14 [v36] H28))
    (Ke15 (.exit 0) [.undef, .undef] H13)

def cellaretref26_Flat_Read.L3 (x0 : AVal) (x1 : AVal) (x2 : AVal) (v12 : AVal) : Body := fun vs H Kn Ke => cellaretref26_Flat_Read.L3.b x0 x1 x2 v12 (vs.getD 0 .undef) H Kn Ke

def cellaretref26_Flat_Read.w (x0 : AVal) (x1 : AVal) (x2 : AVal) (H : AHeap) (K : AVal → AHeap → Prop) : Prop :=
  vb (aNilCheck x0) fun v1 =>
  vb (aFieldAddr 1 v1) fun v2 =>
  vb (aLoad H false 1 v2) fun v3 =>
  vb (aIndexAddr 1 v3 (.int .i64 0)) fun v4 =>
  vb (aLoad H true 1 v4) fun v5 =>
  cb (S_cellaretref26_Chain_Last [v5] H) fun v6 H7 =>
  vb (aBin .mul (.int .i64 48) x1) fun v8 =>
  vb (aBin .mul (.int .i64 48) x1) fun v9 =>
  vb (aBin .mul (.int .i64 48) x2) fun v10 =>
  vb (aBin .add v9 v10) fun v11 =>
  vb (aSliceStr v6 (some v8) (some v11)) fun v12 =>
  LoopP (cellaretref26_Flat_Read.L3 x0 x1 x2 v12) [.int .i64 0] H7 fun e37 vs38 H39 =>
    onE e37 (.exit 0)
      (fin .ret [.v (v12), .v (.bool true)] H39 K)
    (onE e37 .ret
      (fin .ret [.v (vs38.getD 0 .undef), .v (vs38.getD 1 .undef)] H39 K)
    (False))

def S_cellaretref26_Flat_Read : Abs.Spec := fun args H r H' => ∃ x0 x1 x2 : AVal, args = [x0, x1, x2] ∧ (cellaretref26_Flat_Read.w x0 x1 x2 H fun r1 H1 => r1 = r ∧ H1 = H') ∧ H <+: H'
theorem cellaretref26_Flat_Read.ok (args : List AVal) (H : AHeap) (r : AVal) (H' : AHeap) (h : S_cellaretref26_Flat_Read args H r H') : ∃ x0 x1 x2 : AVal, args = [x0, x1, x2] ∧ cellaretref26_Flat_Read.w x0 x1 x2 H fun r1 H1 => r1 = r ∧ H1 = H' := by
  obtain ⟨x0, x1, x2, h1, h2, _⟩ := h
  exact ⟨x0, x1, x2, h1, h2⟩
theorem cellaretref26_Flat_Read.quiet {args : List AVal} {H : AHeap} {r : AVal} {H' : AHeap} (h : S_cellaretref26_Flat_Read args H r H') : H <+: H' := by
  obtain ⟨_, _, _, _, _, h⟩ := h
  exact h
set_option maxRecDepth 100000 in
theorem cellaretref26_Flat_Read.ex (x0 x1 x2 : AVal) (H : AHeap) : Ex fun K : AVal × AHeap → Prop => cellaretref26_Flat_Read.w x0 x1 x2 H fun r H => K (r, H) := by
  unfold cellaretref26_Flat_Read.w
  repeat with_reducible first
    | exact Ex.pt _
    | exact Ex.fin
    | exact Ex.no
    | refine Ex.vb fun _ => ?_
    | refine Ex.hb fun _ _ => ?_
    | refine Ex.sb fun _ => ?_
    | refine Ex.cb fun _ _ => ?_
    | refine Ex.isB fun _ => ?_
    | refine Ex.cond ?_ ?_
    | refine Ex.onE ?_ ?_
    | refine Ex.join ?_ fun _ _ _ => ?_
    | refine Ex.loop (fun _ _ => ?_) fun _ _ _ => ?_
    | (unfold cellaretref26_Flat_Read.L3; unfold cellaretref26_Flat_Read.L3.b)

theorem cellaretref26_Flat_Read.out {x0 x1 x2 : AVal} {H : AHeap} {Q : AVal → AHeap → Prop} (h : cellaretref26_Flat_Read.w x0 x1 x2 H fun r H' => (H <+: H') ∧ Q r H') : ∃ r H', S_cellaretref26_Flat_Read [x0, x1, x2] H r H' ∧ Q r H' := by
  obtain ⟨r, H', h1, h2⟩ := (cellaretref26_Flat_Read.ex x0 x1 x2 H).out h
  exact ⟨r, H', ⟨_, _, _, rfl, h1, h2.1⟩, h2.2⟩

def cellaretref26_Flat_States.L3.b (x0 : AVal) (x3_3 : AVal) (x4_3 : AVal) (H1 : AHeap) (Kn2 : List AVal → AHeap → Prop) (Ke3 : AExit → List AVal → AHeap → Prop) : Prop :=
  vb (aNilCheck x0) fun v4 =>
  vb (aFieldAddr 1 v4) fun v5 =>
  vb (aLoad H1 false 1 v5) fun v6 =>
  vb (lenSl v6) fun v7 =>
  vb (aBin .lss x4_3 v7) fun v8 =>
  isB v8 fun b9 => cond b9
    (vb (aNilCheck x0) fun v10 =>
    vb (aFieldAddr 1 v10) fun v11 =>
    vb (aLoad H1 false 1 v11) fun v12 =>
    vb (aIndexAddr 1 v12 x4_3) fun v13 =>
    vb (aFieldAddr 0 v13) fun v14 =>
    vb (aLoad H1 false 1 v14) fun v15 =>
    vb (lenSl v15) fun v16 =>
    vb (aBin .add x3_3 v16) fun v17 =>
    vb (aBin .add x4_3 (.int .i64 1)) fun v18 =>
    Kn2 [v17, v18] H1)
    (Ke3 (.exit 0) [x3_3] H1)

def cellaretref26_Flat_States.L3 (x0 : AVal) : Body := fun vs H Kn Ke => cellaretref26_Flat_States.L3.b x0 (vs.getD 0 .undef) (vs.getD 1 .undef) H Kn Ke

def cellaretref26_Flat_States.w (x0 : AVal) (H : AHeap) (K : AVal → AHeap → Prop) : Prop :=
  LoopP (cellaretref26_Flat_States.L3 x0) [.int .i64 0, .int .i64 0] H fun e19 vs20 H21 =>
    onE e19 (.exit 0)
      (fin .ret [.v (vs20.getD 0 .undef)] H21 K)
    (False)

def S_cellaretref26_Flat_States : Abs.Spec := fun args H r H' => ∃ x0 : AVal, args = [x0] ∧ (cellaretref26_Flat_States.w x0 H fun r1 H1 => r1 = r ∧ H1 = H') ∧ H <+: H'
theorem cellaretref26_Flat_States.ok (args : List AVal) (H : AHeap) (r : AVal) (H' : AHeap) (h : S_cellaretref26_Flat_States args H r H') : ∃ x0 : AVal, args = [x0] ∧ cellaretref26_Flat_States.w x0 H fun r1 H1 => r1 = r ∧ H1 = H' := by
  obtain ⟨x0, h1, h2, _⟩ := h
  exact ⟨x0, h1, h2⟩
theorem cellaretref26_Flat_States.quiet {args : List AVal} {H : AHeap} {r : AVal} {H' : AHeap} (h : S_cellaretref26_Flat_States args H r H') : H <+: H' := by
  obtain ⟨_, _, _, h⟩ := h
  exact h
set_option maxRecDepth 100000 in
theorem cellaretref26_Flat_States.ex (x0 : AVal) (H : AHeap) : Ex fun K : AVal × AHeap → Prop => cellaretref26_Flat_States.w x0 H fun r H => K (r, H) := by
  unfold cellaretref26_Flat_States.w
  repeat with_reducible first
    | exact Ex.pt _
    | exact Ex.fin
    | exact Ex.no
    | refine Ex.vb fun _ => ?_
    | refine Ex.hb fun _ _ => ?_
    | refine Ex.sb fun _ => ?_
    | refine Ex.cb fun _ _ => ?_
    | refine Ex.isB fun _ => ?_
    | refine Ex.cond ?_ ?_
    | refine Ex.onE ?_ ?_
    | refine Ex.join ?_ fun _ _ _ => ?_
    | refine Ex.loop (fun _ _ => ?_) fun _ _ _ => ?_
    | (unfold cellaretref26_Flat_States.L3; unfold cellaretref26_Flat_States.L3.b)

theorem cellaretref26_Flat_States.out {x0 : AVal} {H : AHeap} {Q : AVal → AHeap → Prop} (h : cellaretref26_Flat_States.w x0 H fun r H' => (H <+: H') ∧ Q r H') : ∃ r H', S_cellaretref26_Flat_States [x0] H r H' ∧ Q r H' := by
  obtain ⟨r, H', h1, h2⟩ := (cellaretref26_Flat_States.ex x0 H).out h
  exact ⟨r, H', ⟨_, rfl, h1, h2.1⟩, h2.2⟩

def cellaretlaw26_data.L4.b (v8 : AVal) (v1 : AVal) (x5_4 : AVal) (H10 : AHeap) (Kn11 : List AVal → AHeap → Prop) (Ke12 : AExit → List AVal → AHeap → Prop) : Prop :=
  vb (lenSl v8) fun v13 =>
  vb (aBin .lss x5_4 v13) fun v14 =>
  isB v14 fun b15 => cond b15
    (vb (aFieldAddr 3 v1) fun v16 =>
    vb (aLoad H10 false 1 v16) fun v17 =>
    vb (aIndexAddr 1 v8 x5_4) fun v18 =>
    sb (aStore H10 1 v18 v17) fun H19 =>
    vb (aBin .add x5_4 (.int .i64 1)) fun v20 =>
    Kn11 [v20] H19)
    (Ke12 (.exit 0) [] H10)

def cellaretlaw26_data.L4 (v8 : AVal) (v1 : AVal) : Body := fun vs H Kn Ke => cellaretlaw26_data.L4.b v8 v1 (vs.getD 0 .undef) H Kn Ke

def cellaretlaw26_data.w (x0 : AVal) (H : AHeap) (K : AVal → AHeap → Prop) : Prop :=
  hb (aBox H x0) fun v1 H2 =>
  vb (aFieldAddr 2 v1) fun v3 =>
  vb (aLoad H2 false 1 v3) fun v4 =>
  vb (aFold aMax2 v4 [.int .i64 0]) fun v5 =>
  vb (aFold aMin2 v5 [.int .i64 70]) fun v6 =>
  vb (aBin .mul (.int .i64 48) v6) fun v7 =>
  hb (aMakeSlice H2 1 [.int .u8 0] v7 v7) fun v8 H9 =>
  LoopP (cellaretlaw26_data.L4 v8 v1) [.int .i64 0] H9 fun e21 vs22 H23 =>
    onE e21 (.exit 0)
      (JoinP (fun Kj24 => vb (aFieldAddr 4 v1) fun v25 =>
        vb (aLoad H23 false 1 v25) fun v26 =>
        isB v26 fun b27 => cond b27
          (vb (aFieldAddr 3 v1) fun v28 =>
          vb (aLoad H23 false 1 v28) fun v29 =>
          hb (aBuildSlice H23 1 [.int .u8 0] 1 [(0, v29)]) fun v30 H31 =>
          hb (aAppendS H31 1 1 v8 v30) fun v32 H33 =>
          Kj24 .normal [v32] H33)
          (Kj24 .normal [v8] H23))
      (fun e34 vs35 H36 =>
        onE e34 .normal
          (vb (aBytes2Str H36 (vs35.getD 0 .undef)) fun v37 =>
          fin .ret [.v (v37)] H36 K)
        (False)))
    (False)

def S_cellaretlaw26_data : Abs.Spec := fun args H r H' => ∃ x0 : AVal, args = [x0] ∧ (cellaretlaw26_data.w x0 H fun r1 H1 => r1 = r ∧ H1 = H') ∧ H <+: H'
theorem cellaretlaw26_data.ok (args : List AVal) (H : AHeap) (r : AVal) (H' : AHeap) (h : S_cellaretlaw26_data args H r H') : ∃ x0 : AVal, args = [x0] ∧ cellaretlaw26_data.w x0 H fun r1 H1 => r1 = r ∧ H1 = H' := by
  obtain ⟨x0, h1, h2, _⟩ := h
  exact ⟨x0, h1, h2⟩
theorem cellaretlaw26_data.quiet {args : List AVal} {H : AHeap} {r : AVal} {H' : AHeap} (h : S_cellaretlaw26_data args H r H') : H <+: H' := by
  obtain ⟨_, _, _, h⟩ := h
  exact h
set_option maxRecDepth 100000 in
theorem cellaretlaw26_data.ex (x0 : AVal) (H : AHeap) : Ex fun K : AVal × AHeap → Prop => cellaretlaw26_data.w x0 H fun r H => K (r, H) := by
  unfold cellaretlaw26_data.w
  repeat with_reducible first
    | exact Ex.pt _
    | exact Ex.fin
    | exact Ex.no
    | refine Ex.vb fun _ => ?_
    | refine Ex.hb fun _ _ => ?_
    | refine Ex.sb fun _ => ?_
    | refine Ex.cb fun _ _ => ?_
    | refine Ex.isB fun _ => ?_
    | refine Ex.cond ?_ ?_
    | refine Ex.onE ?_ ?_
    | refine Ex.join ?_ fun _ _ _ => ?_
    | refine Ex.loop (fun _ _ => ?_) fun _ _ _ => ?_
    | (unfold cellaretlaw26_data.L4; unfold cellaretlaw26_data.L4.b)

theorem cellaretlaw26_data.out {x0 : AVal} {H : AHeap} {Q : AVal → AHeap → Prop} (h : cellaretlaw26_data.w x0 H fun r H' => (H <+: H') ∧ Q r H') : ∃ r H', S_cellaretlaw26_data [x0] H r H' ∧ Q r H' := by
  obtain ⟨r, H', h1, h2⟩ := (cellaretlaw26_data.ex x0 H).out h
  exact ⟨r, H', ⟨_, rfl, h1, h2.1⟩, h2.2⟩

def cellaretlaw26_awake.w (H : AHeap) (K : AVal → AHeap → Prop) : Prop :=
  cb (S_flat_New [.int .i64 2] H) fun v1 H2 =>
  vb (aExtract v1 0) fun v3 =>
  vb (aExtract v1 1) fun v4 =>
  vb (aBuild [.int .i64 0, .int .i64 0, .int .i64 0, .int .u8 0, .bool false] (fun k => ([(0, 1), (1, 1), (2, 1), (3, 1), (4, 1)] : List (Nat × Nat))[k]?) [(2, .int .i64 1), (3, .int .u8 97)]) fun v5 =>
  cb (S_cellaretlaw26_data [v5] H2) fun v6 H7 =>
  JoinP (fun Kj8 => vb (aBin .neq v4 (.int .i64 0)) fun v9 =>
    isB v9 fun b10 => cond b10
      (Kj8 .ret [.bool false] H7)
      (vb (aEql false .ptr H7 v3 .nilp) fun v11 =>
        isB v11 fun b12 => cond b12
          (Kj8 .ret [.bool false] H7)
          (cb (S_flat_Flat_Write [v3, .int .i64 0, v6] H7) fun v13 H14 =>
              vb (aBin .neq v13 (.int .i64 0)) fun v15 =>
                isB v15 fun b16 => cond b16
                  (Kj8 .ret [.bool false] H14)
                  (Kj8 .normal [.bool false] H14))))
  (fun e17 vs18 H19 =>
    onE e17 .normal
      (cb (S_flat_Flat_Crash [v3] H19) fun v20 H21 =>
      cb (S_flat_Flat_Read [v3, .int .i64 0, .int .i64 1] H21) fun v22 H23 =>
      vb (aExtract v22 0) fun v24 =>
      vb (aExtract v22 1) fun v25 =>
      cb (S_flat_Flat_Worlds [v3] H23) fun v26 H27 =>
      cb (S_flat_Flat_Saw [v3, .int .i64 0, v6] H27) fun v28 H29 =>
      cb (S_flat_Flat_Read [v3, .int .i64 0, .int .i64 2] H29) fun v30 H31 =>
      vb (aExtract v30 0) fun v32 =>
      vb (aExtract v30 1) fun v33 =>
      vb (aBin .eql v26 (.int .i64 2)) fun v34 =>
      isB v34 fun b35 => cond b35
        (vb (aBin .eql v25 (.int .i64 15)) fun v36 =>
          isB v36 fun b37 => cond b37
            (isB v28 fun b38 => cond b38
              (cb (S_flat_Flat_Worlds [v3] H31) fun v39 H40 =>
                vb (aBin .eql v39 (.int .i64 1)) fun v41 =>
                  isB v41 fun b42 => cond b42
                    (cb (S_cellaretref01_Zeros [.int .i64 48] H40) fun v43 H44 =>
                        vb (aBin .add v6 v43) fun v45 =>
                          vb (aBin .eql v32 v45) fun v46 =>
                            isB v46 fun b47 => cond b47
                              (vb (aBin .eql v33 (.int .i64 0)) fun v48 =>
                                fin .ret [.v (v48)] H44 K)
                              (fin .ret [.v (.bool false)] H44 K))
                    (fin .ret [.v (.bool false)] H40 K))
              (fin .ret [.v (.bool false)] H31 K))
            (fin .ret [.v (.bool false)] H31 K))
        (fin .ret [.v (.bool false)] H31 K))
    (onE e17 .ret
      (fin .ret [.v (vs18.getD 0 .undef)] H19 K)
    (False)))

def S_cellaretlaw26_awake : Abs.Spec := fun args H r H' => args = [] ∧ (cellaretlaw26_awake.w H fun r1 H1 => r1 = r ∧ H1 = H') ∧ H <+: H'
theorem cellaretlaw26_awake.ok (args : List AVal) (H : AHeap) (r : AVal) (H' : AHeap) (h : S_cellaretlaw26_awake args H r H') : args = [] ∧ cellaretlaw26_awake.w H fun r1 H1 => r1 = r ∧ H1 = H' := by
  obtain ⟨h1, h2, _⟩ := h
  exact ⟨h1, h2⟩
theorem cellaretlaw26_awake.quiet {args : List AVal} {H : AHeap} {r : AVal} {H' : AHeap} (h : S_cellaretlaw26_awake args H r H') : H <+: H' := by
  obtain ⟨_, _, h⟩ := h
  exact h
set_option maxRecDepth 100000 in
theorem cellaretlaw26_awake.ex (H : AHeap) : Ex fun K : AVal × AHeap → Prop => cellaretlaw26_awake.w H fun r H => K (r, H) := by
  unfold cellaretlaw26_awake.w
  repeat with_reducible first
    | exact Ex.pt _
    | exact Ex.fin
    | exact Ex.no
    | refine Ex.vb fun _ => ?_
    | refine Ex.hb fun _ _ => ?_
    | refine Ex.sb fun _ => ?_
    | refine Ex.cb fun _ _ => ?_
    | refine Ex.isB fun _ => ?_
    | refine Ex.cond ?_ ?_
    | refine Ex.onE ?_ ?_
    | refine Ex.join ?_ fun _ _ _ => ?_
    | refine Ex.loop (fun _ _ => ?_) fun _ _ _ => ?_

theorem cellaretlaw26_awake.out {H : AHeap} {Q : AVal → AHeap → Prop} (h : cellaretlaw26_awake.w H fun r H' => (H <+: H') ∧ Q r H') : ∃ r H', S_cellaretlaw26_awake [] H r H' ∧ Q r H' := by
  obtain ⟨r, H', h1, h2⟩ := (cellaretlaw26_awake.ex H).out h
  exact ⟨r, H', ⟨rfl, h1, h2.1⟩, h2.2⟩

def cellaretlaw26_do.w (x0 : AVal) (x1 : AVal) (x2 : AVal) (H : AHeap) (K : AVal → AHeap → Prop) : Prop :=
  hb (aBox H x2) fun v1 H2 =>
  vb (aLoad H2 true 5 v1) fun v3 =>
  cb (S_cellaretlaw26_data [v3] H2) fun v4 H5 =>
  vb (aFieldAddr 1 v1) fun v6 =>
  vb (aLoad H5 false 1 v6) fun v7 =>
  cb (S_cellaretref26_Flat_Data [x1, v7, v4] H5) fun v8 H9 =>
  vb (aFieldAddr 0 v1) fun v10 =>
  vb (aLoad H9 false 1 v10) fun v11 =>
  JoinP (fun Kj12 => vb (aBin .eql v11 (.int .i64 0)) fun v13 =>
    isB v13 fun b14 => cond b14
      (Kj12 .normal [v13] H9)
      (vb (aBin .eql v11 (.int .i64 1)) fun v15 =>
      isB v15 fun b16 => cond b16
        (Kj12 .normal [v15] H9)
        (vb (aBin .eql v11 (.int .i64 2)) fun v17 =>
        Kj12 .normal [v17] H9)))
  (fun e18 vs19 H20 =>
    onE e18 .normal
      (isB (vs19.getD 0 .undef) fun b21 => cond b21
        (JoinP (fun Kj22 => vb (aBin .eql v8 (.int .i64 0)) fun v23 =>
          isB v23 fun b24 => cond b24
            (vb (aFieldAddr 1 v1) fun v25 =>
            vb (aLoad H20 false 1 v25) fun v26 =>
            cb (S_cellaretref26_Flat_Write [x1, v26, v4] H20) fun v27 H28 =>
            Kj22 .normal [] H28)
            (Kj22 .normal [] H20))
        (fun e29 vs30 H31 =>
          onE e29 .normal
            (vb (aFieldAddr 1 v1) fun v32 =>
            vb (aLoad H31 false 1 v32) fun v33 =>
            cb (S_flat_Flat_Write [x0, v33, v4] H31) fun v34 H35 =>
            vb (aBin .eql v34 v8) fun v36 =>
            fin .ret [.v (v36)] H35 K)
          (False)))
        (vb (aBin .eql v11 (.int .i64 3)) fun v37 =>
        isB v37 fun b38 => cond b38
          (vb (aFieldAddr 1 v1) fun v39 =>
          vb (aLoad H20 false 1 v39) fun v40 =>
          vb (aFieldAddr 2 v1) fun v41 =>
          vb (aLoad H20 false 1 v41) fun v42 =>
          cb (S_cellaretref26_Flat_May [x1, v40, v42] H20) fun v43 H44 =>
          JoinP (fun Kj45 => vb (aBin .eql v43 (.int .i64 0)) fun v46 =>
            isB v46 fun b47 => cond b47
              (vb (aFieldAddr 1 v1) fun v48 =>
              vb (aLoad H44 false 1 v48) fun v49 =>
              vb (aFieldAddr 2 v1) fun v50 =>
              vb (aLoad H44 false 1 v50) fun v51 =>
              vb (aBin .mul (.int .i64 48) v51) fun v52 =>
              cb (S_cellaretref01_Zeros [v52] H44) fun v53 H54 =>
              cb (S_cellaretref26_Flat_Write [x1, v49, v53] H54) fun v55 H56 =>
              Kj45 .normal [] H56)
              (Kj45 .normal [] H44))
          (fun e57 vs58 H59 =>
            onE e57 .normal
              (vb (aFieldAddr 1 v1) fun v60 =>
              vb (aLoad H59 false 1 v60) fun v61 =>
              vb (aFieldAddr 2 v1) fun v62 =>
              vb (aLoad H59 false 1 v62) fun v63 =>
              cb (S_flat_Flat_Discard [x0, v61, v63] H59) fun v64 H65 =>
              vb (aBin .eql v64 v43) fun v66 =>
              fin .ret [.v (v66)] H65 K)
            (False)))
          (vb (aBin .eql v11 (.int .i64 5)) fun v67 =>
          isB v67 fun b68 => cond b68
            (vb (aBin .neq v8 (.int .i64 0)) fun v69 =>
            isB v69 fun b70 => cond b70
              (vb (aFieldAddr 1 v1) fun v71 =>
              vb (aLoad H20 false 1 v71) fun v72 =>
              cb (S_flat_Flat_Saw [x0, v72, v4] H20) fun v73 H74 =>
              vb (aUn .not v73) fun v75 =>
              fin .ret [.v (v75)] H74 K)
              ((vb (aFieldAddr 1 v1) fun v76 =>
                vb (aLoad H20 false 1 v76) fun v77 =>
                cb (S_flat_Flat_Saw [x0, v77, v4] H20) fun v78 H79 =>
                vb (aFieldAddr 1 v1) fun v80 =>
                vb (aLoad H79 false 1 v80) fun v81 =>
                cb (S_cellaretref26_Flat_Saw [x1, v81, v4] H79) fun v82 H83 =>
                vb (aEql false .bool H83 v78 v82) fun v84 =>
                fin .ret [.v (v84)] H83 K) ∧
              (vb (aFieldAddr 1 v1) fun v85 =>
                vb (aLoad H20 false 1 v85) fun v86 =>
                vb (aFieldAddr 1 v1) fun v87 =>
                vb (aLoad H20 false 1 v87) fun v88 =>
                cb (S_flat_Flat_Saw [x0, v86, v4] H20) fun v89 H90 =>
                cb (S_cellaretref26_Flat_Saw [x1, v88, v4] H90) fun v91 H92 =>
                vb (aEql false .bool H92 v89 v91) fun v93 =>
                fin .ret [.v (v93)] H92 K)))
            (vb (aBin .eql v11 (.int .i64 6)) fun v94 =>
            isB v94 fun b95 => cond b95
              (cb (S_cellaretref26_Flat_Safe [x1] H20) fun v96 H97 =>
              cb (S_flat_Flat_Safe [x0] H97) fun v98 H99 =>
              fin .ret [.v (.bool true)] H99 K)
              (vb (aBin .eql v11 (.int .i64 7)) fun v100 =>
              isB v100 fun b101 => cond b101
                (cb (S_cellaretref26_Flat_Crash [x1] H20) fun v102 H103 =>
                cb (S_flat_Flat_Crash [x0] H103) fun v104 H105 =>
                fin .ret [.v (.bool true)] H105 K)
                (vb (aFieldAddr 1 v1) fun v106 =>
                vb (aLoad H20 false 1 v106) fun v107 =>
                vb (aFieldAddr 2 v1) fun v108 =>
                vb (aLoad H20 false 1 v108) fun v109 =>
                cb (S_flat_Flat_Read [x0, v107, v109] H20) fun v110 H111 =>
                vb (aExtract v110 0) fun v112 =>
                vb (aExtract v110 1) fun v113 =>
                vb (aFieldAddr 1 v1) fun v114 =>
                vb (aLoad H111 false 1 v114) fun v115 =>
                vb (aFieldAddr 2 v1) fun v116 =>
                vb (aLoad H111 false 1 v116) fun v117 =>
                cb (S_cellaretref26_Flat_May [x1, v115, v117] H111) fun v118 H119 =>
                vb (aBin .neq v118 (.int .i64 0)) fun v120 =>
                isB v120 fun b121 => cond b121
                  (vb (aBin .eql v112 (.str [])) fun v122 =>
                  isB v122 fun b123 => cond b123
                    (vb (aBin .eql v113 v118) fun v124 =>
                        fin .ret [.v (v124)] H119 K)
                    (fin .ret [.v (.bool false)] H119 K))
                  (vb (aFieldAddr 1 v1) fun v125 =>
                  vb (aLoad H119 false 1 v125) fun v126 =>
                  vb (aFieldAddr 2 v1) fun v127 =>
                  vb (aLoad H119 false 1 v127) fun v128 =>
                  cb (S_cellaretref26_Flat_Read [x1, v126, v128] H119) fun v129 H130 =>
                  vb (aExtract v129 0) fun v131 =>
                  vb (aExtract v129 1) fun v132 =>
                  vb (aUn .not v132) fun v133 =>
                  isB v133 fun b134 => cond b134
                    (vb (aBin .eql v112 (.str [])) fun v135 =>
                    isB v135 fun b136 => cond b136
                      (vb (aBin .eql v113 (.int .i64 15)) fun v137 =>
                        fin .ret [.v (v137)] H130 K)
                      (fin .ret [.v (.bool false)] H130 K))
                    (vb (aBin .eql v112 v131) fun v138 =>
                    isB v138 fun b139 => cond b139
                      (vb (aBin .eql v113 (.int .i64 0)) fun v140 =>
                        fin .ret [.v (v140)] H130 K)
                      (fin .ret [.v (.bool false)] H130 K)))))))))
    (False))

def cellaretlaw26_doV.w (x0 : AVal) (x1 : AVal) (x2 : AVal) (H : AHeap) (K : AVal → AHeap → Prop) : Prop :=
  hb (aBox H x2) fun v1 H2 =>
  vb (aLoad H2 true 5 v1) fun v3 =>
  cb (S_cellaretlaw26_data [v3] H2) fun v4 H5 =>
  vb (aFieldAddr 1 v1) fun v6 =>
  vb (aLoad H5 false 1 v6) fun v7 =>
  cb (S_cellaretref26_Flat_Data [x1, v7, v4] H5) fun v8 H9 =>
  vb (aFieldAddr 0 v1) fun v10 =>
  vb (aLoad H9 false 1 v10) fun v11 =>
  JoinP (fun Kj12 => vb (aBin .eql v11 (.int .i64 0)) fun v13 =>
    isB v13 fun b14 => cond b14
      (Kj12 .normal [v13] H9)
      (vb (aBin .eql v11 (.int .i64 1)) fun v15 =>
      isB v15 fun b16 => cond b16
        (Kj12 .normal [v15] H9)
        (vb (aBin .eql v11 (.int .i64 2)) fun v17 =>
        Kj12 .normal [v17] H9)))
  (fun e18 vs19 H20 =>
    onE e18 .normal
      (isB (vs19.getD 0 .undef) fun b21 => cond b21
        (JoinP (fun Kj22 => vb (aBin .eql v8 (.int .i64 0)) fun v23 =>
          isB v23 fun b24 => cond b24
            (vb (aFieldAddr 1 v1) fun v25 =>
            vb (aLoad H20 false 1 v25) fun v26 =>
            cb (S_cellaretref26_Flat_Write [x1, v26, v4] H20) fun v27 H28 =>
            Kj22 .normal [] H28)
            (Kj22 .normal [] H20))
        (fun e29 vs30 H31 =>
          onE e29 .normal
            (vb (aFieldAddr 1 v1) fun v32 =>
            vb (aLoad H31 false 1 v32) fun v33 =>
            cb (S_flat_Flat_Write [x0, v33, v4] H31) fun v34 H35 =>
            vb (aBin .eql v34 v8) fun v36 =>
            fin .ret [.v (v36)] H35 K)
          (False)))
        (vb (aBin .eql v11 (.int .i64 3)) fun v37 =>
        isB v37 fun b38 => cond b38
          (vb (aFieldAddr 1 v1) fun v39 =>
          vb (aLoad H20 false 1 v39) fun v40 =>
          vb (aFieldAddr 2 v1) fun v41 =>
          vb (aLoad H20 false 1 v41) fun v42 =>
          cb (S_cellaretref26_Flat_May [x1, v40, v42] H20) fun v43 H44 =>
          JoinP (fun Kj45 => vb (aBin .eql v43 (.int .i64 0)) fun v46 =>
            isB v46 fun b47 => cond b47
              (vb (aFieldAddr 1 v1) fun v48 =>
              vb (aLoad H44 false 1 v48) fun v49 =>
              vb (aFieldAddr 2 v1) fun v50 =>
              vb (aLoad H44 false 1 v50) fun v51 =>
              vb (aBin .mul (.int .i64 48) v51) fun v52 =>
              cb (S_cellaretref01_Zeros [v52] H44) fun v53 H54 =>
              cb (S_cellaretref26_Flat_Write [x1, v49, v53] H54) fun v55 H56 =>
              Kj45 .normal [] H56)
              (Kj45 .normal [] H44))
          (fun e57 vs58 H59 =>
            onE e57 .normal
              (vb (aFieldAddr 1 v1) fun v60 =>
              vb (aLoad H59 false 1 v60) fun v61 =>
              vb (aFieldAddr 2 v1) fun v62 =>
              vb (aLoad H59 false 1 v62) fun v63 =>
              cb (S_flat_Flat_Discard [x0, v61, v63] H59) fun v64 H65 =>
              vb (aBin .eql v64 v43) fun v66 =>
              fin .ret [.v (v66)] H65 K)
            (False)))
          (vb (aBin .eql v11 (.int .i64 5)) fun v67 =>
          isB v67 fun b68 => cond b68
            (vb (aBin .neq v8 (.int .i64 0)) fun v69 =>
            isB v69 fun b70 => cond b70
              (vb (aFieldAddr 1 v1) fun v71 =>
              vb (aLoad H20 false 1 v71) fun v72 =>
              cb (S_flat_Flat_Saw [x0, v72, v4] H20) fun v73 H74 =>
              vb (aUn .not v73) fun v75 =>
              fin .ret [.v (v75)] H74 K)
              (vb (aFieldAddr 1 v1) fun v76 =>
              vb (aLoad H20 false 1 v76) fun v77 =>
              cb (S_flat_Flat_Saw [x0, v77, v4] H20) fun v78 H79 =>
              vb (aFieldAddr 1 v1) fun v80 =>
              vb (aLoad H79 false 1 v80) fun v81 =>
              cb (S_cellaretref26_Flat_Saw [x1, v81, v4] H79) fun v82 H83 =>
              vb (aEql false .bool H83 v78 v82) fun v84 =>
              fin .ret [.v (v84)] H83 K))
            (vb (aBin .eql v11 (.int .i64 6)) fun v85 =>
            isB v85 fun b86 => cond b86
              (cb (S_cellaretref26_Flat_Safe [x1] H20) fun v87 H88 =>
              cb (S_flat_Flat_Safe [x0] H88) fun v89 H90 =>
              fin .ret [.v (.bool true)] H90 K)
              (vb (aBin .eql v11 (.int .i64 7)) fun v91 =>
              isB v91 fun b92 => cond b92
                (cb (S_cellaretref26_Flat_Crash [x1] H20) fun v93 H94 =>
                cb (S_flat_Flat_Crash [x0] H94) fun v95 H96 =>
                fin .ret [.v (.bool true)] H96 K)
                (vb (aFieldAddr 1 v1) fun v97 =>
                vb (aLoad H20 false 1 v97) fun v98 =>
                vb (aFieldAddr 2 v1) fun v99 =>
                vb (aLoad H20 false 1 v99) fun v100 =>
                cb (S_flat_Flat_Read [x0, v98, v100] H20) fun v101 H102 =>
                vb (aExtract v101 0) fun v103 =>
                vb (aExtract v101 1) fun v104 =>
                vb (aFieldAddr 1 v1) fun v105 =>
                vb (aLoad H102 false 1 v105) fun v106 =>
                vb (aFieldAddr 2 v1) fun v107 =>
                vb (aLoad H102 false 1 v107) fun v108 =>
                cb (S_cellaretref26_Flat_May [x1, v106, v108] H102) fun v109 H110 =>
                vb (aBin .neq v109 (.int .i64 0)) fun v111 =>
                isB v111 fun b112 => cond b112
                  (vb (aBin .eql v103 (.str [])) fun v113 =>
                  isB v113 fun b114 => cond b114
                    (vb (aBin .eql v104 v109) fun v115 =>
                        fin .ret [.v (v115)] H110 K)
                    (fin .ret [.v (.bool false)] H110 K))
                  (vb (aFieldAddr 1 v1) fun v116 =>
                  vb (aLoad H110 false 1 v116) fun v117 =>
                  vb (aFieldAddr 2 v1) fun v118 =>
                  vb (aLoad H110 false 1 v118) fun v119 =>
                  cb (S_cellaretref26_Flat_Read [x1, v117, v119] H110) fun v120 H121 =>
                  vb (aExtract v120 0) fun v122 =>
                  vb (aExtract v120 1) fun v123 =>
                  vb (aUn .not v123) fun v124 =>
                  isB v124 fun b125 => cond b125
                    (vb (aBin .eql v103 (.str [])) fun v126 =>
                    isB v126 fun b127 => cond b127
                      (vb (aBin .eql v104 (.int .i64 15)) fun v128 =>
                        fin .ret [.v (v128)] H121 K)
                      (fin .ret [.v (.bool false)] H121 K))
                    (vb (aBin .eql v103 v122) fun v129 =>
                    isB v129 fun b130 => cond b130
                      (vb (aBin .eql v104 (.int .i64 0)) fun v131 =>
                        fin .ret [.v (v131)] H121 K)
                      (fin .ret [.v (.bool false)] H121 K)))))))))
    (False))

def S_cellaretlaw26_do : Abs.Spec := fun args H r H' => ∃ x0 x1 x2 : AVal, args = [x0, x1, x2] ∧ (cellaretlaw26_doV.w x0 x1 x2 H fun r1 H1 => r1 = r ∧ H1 = H') ∧ ∃ p : Ref, x0 = .ptr p ∧ p.id < H.length
set_option maxRecDepth 100000 in
theorem cellaretlaw26_doV.ex (x0 x1 x2 : AVal) (H : AHeap) : Ex fun K : AVal × AHeap → Prop => cellaretlaw26_doV.w x0 x1 x2 H fun r H => K (r, H) := by
  unfold cellaretlaw26_doV.w
  repeat with_reducible first
    | exact Ex.pt _
    | exact Ex.fin
    | exact Ex.no
    | refine Ex.vb fun _ => ?_
    | refine Ex.hb fun _ _ => ?_
    | refine Ex.sb fun _ => ?_
    | refine Ex.cb fun _ _ => ?_
    | refine Ex.isB fun _ => ?_
    | refine Ex.cond ?_ ?_
    | refine Ex.onE ?_ ?_
    | refine Ex.join ?_ fun _ _ _ => ?_
    | refine Ex.loop (fun _ _ => ?_) fun _ _ _ => ?_

theorem cellaretlaw26_do.out {x0 x1 x2 : AVal} {H : AHeap} {Q : AVal → AHeap → Prop} (hp : ∃ p : Ref, x0 = .ptr p ∧ p.id < H.length) (h : cellaretlaw26_doV.w x0 x1 x2 H Q) : ∃ r H', S_cellaretlaw26_do [x0, x1, x2] H r H' ∧ Q r H' := by
  obtain ⟨r, H', h1, h2⟩ := (cellaretlaw26_doV.ex x0 x1 x2 H).out h
  exact ⟨r, H', ⟨_, _, _, rfl, h1, hp⟩, h2⟩

def cellaretlaw26_FlatDoes.L8.b (x1 : AVal) (v3 : AVal) (v25 : AVal) (x8_8 : AVal) (H39 : AHeap) (Kn40 : List AVal → AHeap → Prop) (Ke41 : AExit → List AVal → AHeap → Prop) : Prop :=
  JoinP (fun Kj42 => vb (lenSl x1) fun v43 =>
    vb (aBin .lss x8_8 v43) fun v44 =>
    isB v44 fun b45 => cond b45
      (vb (aBin .lss x8_8 (.int .i64 30)) fun v46 =>
        isB v46 fun b47 => cond b47
          (Kj42 .normal [] H39)
          (Kj42 (.exit 0) [] H39))
      (Kj42 (.exit 0) [] H39))
  (fun e48 vs49 H50 =>
    onE e48 (.exit 0)
      (Ke41 (.exit 0) [.undef] H50)
    (onE e48 .normal
      (vb (aIndexAddr 5 x1 x8_8) fun v51 =>
      vb (aLoad H50 true 5 v51) fun v52 =>
      cb (S_cellaretlaw26_do [v3, v25, v52] H50) fun v53 H54 =>
      vb (aUn .not v53) fun v55 =>
      isB v55 fun b56 => cond b56
        (Ke41 .ret [.bool false] H54)
        (cb (S_flat_Flat_Worlds [v3] H54) fun v57 H58 =>
          vb (aNilCheck v25) fun v59 =>
              vb (aFieldAddr 1 v59) fun v60 =>
                vb (aLoad H58 false 1 v60) fun v61 =>
                  vb (lenSl v61) fun v62 =>
                    vb (aBin .neq v57 v62) fun v63 =>
                      isB v63 fun b64 => cond b64
                        (Ke41 .ret [.bool false] H58)
                        (cb (S_flat_Flat_States [v3] H58) fun v65 H66 =>
                          cb (S_cellaretref26_Flat_States [v25] H66) fun v67 H68 =>
                              vb (aBin .neq v65 v67) fun v69 =>
                                isB v69 fun b70 => cond b70
                                  (Ke41 .ret [.bool false] H68)
                                  (vb (aBin .add x8_8 (.int .i64 1)) fun v71 =>
                                  Kn40 [v71] H68))))
    (False)))

def cellaretlaw26_FlatDoes.L8 (x1 : AVal) (v3 : AVal) (v25 : AVal) : Body := fun vs H Kn Ke => cellaretlaw26_FlatDoes.L8.b x1 v3 v25 (vs.getD 0 .undef) H Kn Ke

def cellaretlaw26_FlatDoes.w (x0 : AVal) (x1 : AVal) (H : AHeap) (K : AVal → AHeap → Prop) : Prop :=
  cb (S_flat_New [x0] H) fun v1 H2 =>
  vb (aExtract v1 0) fun v3 =>
  vb (aExtract v1 1) fun v4 =>
  JoinP (fun Kj5 => vb (aBin .lss x0 (.int .i64 1)) fun v6 =>
    isB v6 fun b7 => cond b7
      (cb (S_cellaretlaw26_awake [] H2) fun v8 H9 =>
        isB v8 fun b10 => cond b10
          (vb (aEql false .ptr H9 v3 .nilp) fun v11 =>
            isB v11 fun b12 => cond b12
              (vb (aBin .eql v4 (.int .i64 2)) fun v13 =>
                Kj5 .ret [v13] H9)
              (Kj5 .ret [.bool false] H9))
          (Kj5 .ret [.bool false] H9))
      (vb (aBin .gtr x0 (.int .i64 64)) fun v14 =>
        isB v14 fun b15 => cond b15
          (cb (S_cellaretlaw26_awake [] H2) fun v16 H17 =>
          isB v16 fun b18 => cond b18
            (vb (aEql false .ptr H17 v3 .nilp) fun v19 =>
              isB v19 fun b20 => cond b20
                (vb (aBin .eql v4 (.int .i64 2)) fun v21 =>
                  Kj5 .ret [v21] H17)
                (Kj5 .ret [.bool false] H17))
            (Kj5 .ret [.bool false] H17))
          (Kj5 .normal [.bool false] H2)))
  (fun e22 vs23 H24 =>
    onE e22 .normal
      (cb (S_cellaretref26_New [x0] H24) fun v25 H26 =>
      JoinP (fun Kj27 => vb (aBin .neq v4 (.int .i64 0)) fun v28 =>
        isB v28 fun b29 => cond b29
          (Kj27 .ret [.bool false] H26)
          (vb (aEql false .ptr H26 v3 .nilp) fun v30 =>
            isB v30 fun b31 => cond b31
              (Kj27 .ret [.bool false] H26)
              (cb (S_cellaretlaw26_awake [] H26) fun v32 H33 =>
              vb (aUn .not v32) fun v34 =>
                isB v34 fun b35 => cond b35
                  (Kj27 .ret [.bool false] H33)
                  (Kj27 .normal [vs23.getD 0 .undef] H33))))
      (fun e36 vs37 H38 =>
        onE e36 .normal
          (LoopP (cellaretlaw26_FlatDoes.L8 x1 v3 v25) [.int .i64 0] H38 fun e72 vs73 H74 =>
            onE e72 (.exit 0)
              (fin .ret [.v (.bool true)] H74 K)
            (onE e72 .ret
              (fin .ret [.v (vs73.getD 0 .undef)] H74 K)
            (False)))
        (onE e36 .ret
          (fin .ret [.v (vs37.getD 0 .undef)] H38 K)
        (False))))
    (onE e22 .ret
      (fin .ret [.v (vs23.getD 0 .undef)] H24 K)
    (False)))

def S_cellaretlaw26_FlatDoes : Abs.Spec := fun args H r H' => ∃ x0 x1 : AVal, args = [x0, x1] ∧ (cellaretlaw26_FlatDoes.w x0 x1 H fun r1 H1 => r1 = r ∧ H1 = H')
theorem cellaretlaw26_FlatDoes.ok (args : List AVal) (H : AHeap) (r : AVal) (H' : AHeap) (h : S_cellaretlaw26_FlatDoes args H r H') : ∃ x0 x1 : AVal, args = [x0, x1] ∧ cellaretlaw26_FlatDoes.w x0 x1 H fun r1 H1 => r1 = r ∧ H1 = H' := by
  obtain ⟨x0, x1, h1, h2⟩ := h
  exact ⟨x0, x1, h1, h2⟩
set_option maxRecDepth 100000 in
theorem cellaretlaw26_FlatDoes.ex (x0 x1 : AVal) (H : AHeap) : Ex fun K : AVal × AHeap → Prop => cellaretlaw26_FlatDoes.w x0 x1 H fun r H => K (r, H) := by
  unfold cellaretlaw26_FlatDoes.w
  repeat with_reducible first
    | exact Ex.pt _
    | exact Ex.fin
    | exact Ex.no
    | refine Ex.vb fun _ => ?_
    | refine Ex.hb fun _ _ => ?_
    | refine Ex.sb fun _ => ?_
    | refine Ex.cb fun _ _ => ?_
    | refine Ex.isB fun _ => ?_
    | refine Ex.cond ?_ ?_
    | refine Ex.onE ?_ ?_
    | refine Ex.join ?_ fun _ _ _ => ?_
    | refine Ex.loop (fun _ _ => ?_) fun _ _ _ => ?_
    | (unfold cellaretlaw26_FlatDoes.L8; unfold cellaretlaw26_FlatDoes.L8.b)

theorem cellaretlaw26_FlatDoes.out {x0 x1 : AVal} {H : AHeap} {Q : AVal → AHeap → Prop} (h : cellaretlaw26_FlatDoes.w x0 x1 H fun r H' => Q r H') : ∃ r H', S_cellaretlaw26_FlatDoes [x0, x1] H r H' ∧ Q r H' := by
  obtain ⟨r, H', h1, h2⟩ := (cellaretlaw26_FlatDoes.ex x0 x1 H).out h
  exact ⟨r, H', ⟨_, _, rfl, h1⟩, h2⟩

def cellaretlaw26_FlatOne.L7.b (x1 : AVal) (v6 : AVal) (v3 : AVal) (x8_7 : AVal) (x9_7 : AVal) (H23 : AHeap) (Kn24 : List AVal → AHeap → Prop) (Ke25 : AExit → List AVal → AHeap → Prop) : Prop :=
  JoinP (fun Kj26 => vb (lenSl x1) fun v27 =>
    vb (aBin .lss x9_7 v27) fun v28 =>
    isB v28 fun b29 => cond b29
      (vb (aBin .lss x9_7 (.int .i64 40)) fun v30 =>
        isB v30 fun b31 => cond b31
          (Kj26 .normal [] H23)
          (Kj26 (.exit 0) [] H23))
      (Kj26 (.exit 0) [] H23))
  (fun e32 vs33 H34 =>
    onE e32 (.exit 0)
      (Ke25 (.exit 0) [.undef] H34)
    (onE e32 .normal
      (vb (aIndexAddr 5 x1 x9_7) fun v35 =>
      vb (aLoad H34 true 5 v35) fun v36 =>
      hb (aAlloc H34 [.int .i64 0, .int .i64 0, .int .i64 0, .int .u8 0, .bool false]) fun v37 H38 =>
      sb (aStore H38 5 v37 v36) fun H39 =>
      vb (aLoad H39 true 5 v37) fun v40 =>
      cb (S_cellaretlaw26_data [v40] H39) fun v41 H42 =>
      vb (aFieldAddr 0 v37) fun v43 =>
      vb (aLoad H42 false 1 v43) fun v44 =>
      JoinP (fun Kj45 => vb (aBin .eql v44 (.int .i64 0)) fun v46 =>
        isB v46 fun b47 => cond b47
          (Kj45 .normal [v46] H42)
          (vb (aBin .eql v44 (.int .i64 1)) fun v48 =>
          isB v48 fun b49 => cond b49
            (Kj45 .normal [v48] H42)
            (vb (aBin .eql v44 (.int .i64 2)) fun v50 =>
            Kj45 .normal [v50] H42)))
      (fun e51 vs52 H53 =>
        onE e51 .normal
          (isB (vs52.getD 0 .undef) fun b54 => cond b54
            (vb (aFieldAddr 1 v37) fun v55 =>
            vb (aLoad H53 false 1 v55) fun v56 =>
            cb (S_flat_Flat_Write [v6, v56, v41] H53) fun v57 H58 =>
            vb (aBin .eql v57 (.int .i64 0)) fun v59 =>
            isB v59 fun b60 => cond b60
              (vb (aFieldAddr 1 v37) fun v61 =>
              vb (aLoad H58 false 1 v61) fun v62 =>
              vb (aBin .mul (.int .i64 48) v62) fun v63 =>
              vb (aSliceStr x8_7 none (some v63)) fun v64 =>
              vb (aBin .add v64 v41) fun v65 =>
              vb (aFieldAddr 1 v37) fun v66 =>
              vb (aLoad H58 false 1 v66) fun v67 =>
              vb (aBin .mul (.int .i64 48) v67) fun v68 =>
              vb (lenSt v41) fun v69 =>
              vb (aBin .add v68 v69) fun v70 =>
              vb (aSliceStr x8_7 (some v70) none) fun v71 =>
              vb (aBin .add v65 v71) fun v72 =>
              cb (S_flat_Flat_Read [v6, .int .i64 0, v3] H58) fun v73 H74 =>
              vb (aExtract v73 0) fun v75 =>
              vb (aExtract v73 1) fun v76 =>
              vb (aBin .neq v75 v72) fun v77 =>
              isB v77 fun b78 => cond b78
                (Ke25 .ret [.bool false] H74)
                (vb (aBin .neq v76 (.int .i64 0)) fun v79 =>
                  isB v79 fun b80 => cond b80
                    (Ke25 .ret [.bool false] H74)
                    (cb (S_flat_Flat_Worlds [v6] H74) fun v81 H82 =>
                      vb (aBin .neq v81 (.int .i64 1)) fun v83 =>
                        isB v83 fun b84 => cond b84
                          (Ke25 .ret [.bool false] H82)
                          (vb (aBin .add x9_7 (.int .i64 1)) fun v85 =>
                          Kn24 [v72, v85] H82))))
              (cb (S_flat_Flat_Read [v6, .int .i64 0, v3] H58) fun v86 H87 =>
              vb (aExtract v86 0) fun v88 =>
              vb (aExtract v86 1) fun v89 =>
              vb (aBin .neq v88 x8_7) fun v90 =>
              isB v90 fun b91 => cond b91
                (Ke25 .ret [.bool false] H87)
                (vb (aBin .neq v89 (.int .i64 0)) fun v92 =>
                  isB v92 fun b93 => cond b93
                    (Ke25 .ret [.bool false] H87)
                    (cb (S_flat_Flat_Worlds [v6] H87) fun v94 H95 =>
                      vb (aBin .neq v94 (.int .i64 1)) fun v96 =>
                        isB v96 fun b97 => cond b97
                          (Ke25 .ret [.bool false] H95)
                          (vb (aBin .add x9_7 (.int .i64 1)) fun v98 =>
                          Kn24 [x8_7, v98] H95)))))
            (vb (aBin .eql v44 (.int .i64 3)) fun v99 =>
            isB v99 fun b100 => cond b100
              (vb (aFieldAddr 1 v37) fun v101 =>
              vb (aLoad H53 false 1 v101) fun v102 =>
              vb (aFieldAddr 2 v37) fun v103 =>
              vb (aLoad H53 false 1 v103) fun v104 =>
              cb (S_flat_Flat_Discard [v6, v102, v104] H53) fun v105 H106 =>
              vb (aBin .eql v105 (.int .i64 0)) fun v107 =>
              isB v107 fun b108 => cond b108
                (vb (aFieldAddr 1 v37) fun v109 =>
                vb (aLoad H106 false 1 v109) fun v110 =>
                vb (aBin .mul (.int .i64 48) v110) fun v111 =>
                vb (aSliceStr x8_7 none (some v111)) fun v112 =>
                vb (aFieldAddr 2 v37) fun v113 =>
                vb (aLoad H106 false 1 v113) fun v114 =>
                vb (aBin .mul (.int .i64 48) v114) fun v115 =>
                cb (S_cellaretref01_Zeros [v115] H106) fun v116 H117 =>
                vb (aBin .add v112 v116) fun v118 =>
                vb (aFieldAddr 1 v37) fun v119 =>
                vb (aLoad H117 false 1 v119) fun v120 =>
                vb (aBin .mul (.int .i64 48) v120) fun v121 =>
                vb (aFieldAddr 2 v37) fun v122 =>
                vb (aLoad H117 false 1 v122) fun v123 =>
                vb (aBin .mul (.int .i64 48) v123) fun v124 =>
                vb (aBin .add v121 v124) fun v125 =>
                vb (aSliceStr x8_7 (some v125) none) fun v126 =>
                vb (aBin .add v118 v126) fun v127 =>
                cb (S_flat_Flat_Read [v6, .int .i64 0, v3] H117) fun v128 H129 =>
                vb (aExtract v128 0) fun v130 =>
                vb (aExtract v128 1) fun v131 =>
                vb (aBin .neq v130 v127) fun v132 =>
                isB v132 fun b133 => cond b133
                  (Ke25 .ret [.bool false] H129)
                  (vb (aBin .neq v131 (.int .i64 0)) fun v134 =>
                    isB v134 fun b135 => cond b135
                      (Ke25 .ret [.bool false] H129)
                      (cb (S_flat_Flat_Worlds [v6] H129) fun v136 H137 =>
                        vb (aBin .neq v136 (.int .i64 1)) fun v138 =>
                          isB v138 fun b139 => cond b139
                            (Ke25 .ret [.bool false] H137)
                            (vb (aBin .add x9_7 (.int .i64 1)) fun v140 =>
                            Kn24 [v127, v140] H137))))
                (cb (S_flat_Flat_Read [v6, .int .i64 0, v3] H106) fun v141 H142 =>
                vb (aExtract v141 0) fun v143 =>
                vb (aExtract v141 1) fun v144 =>
                vb (aBin .neq v143 x8_7) fun v145 =>
                isB v145 fun b146 => cond b146
                  (Ke25 .ret [.bool false] H142)
                  (vb (aBin .neq v144 (.int .i64 0)) fun v147 =>
                    isB v147 fun b148 => cond b148
                      (Ke25 .ret [.bool false] H142)
                      (cb (S_flat_Flat_Worlds [v6] H142) fun v149 H150 =>
                        vb (aBin .neq v149 (.int .i64 1)) fun v151 =>
                          isB v151 fun b152 => cond b152
                            (Ke25 .ret [.bool false] H150)
                            (vb (aBin .add x9_7 (.int .i64 1)) fun v153 =>
                            Kn24 [x8_7, v153] H150)))))
              (vb (aBin .eql v44 (.int .i64 5)) fun v154 =>
              isB v154 fun b155 => cond b155
                (vb (aFieldAddr 1 v37) fun v156 =>
                vb (aLoad H53 false 1 v156) fun v157 =>
                cb (S_flat_Flat_Saw [v6, v157, v41] H53) fun v158 H159 =>
                cb (S_flat_Flat_Read [v6, .int .i64 0, v3] H159) fun v160 H161 =>
                vb (aExtract v160 0) fun v162 =>
                vb (aExtract v160 1) fun v163 =>
                vb (aBin .neq v162 x8_7) fun v164 =>
                isB v164 fun b165 => cond b165
                  (Ke25 .ret [.bool false] H161)
                  (vb (aBin .neq v163 (.int .i64 0)) fun v166 =>
                    isB v166 fun b167 => cond b167
                      (Ke25 .ret [.bool false] H161)
                      (cb (S_flat_Flat_Worlds [v6] H161) fun v168 H169 =>
                        vb (aBin .neq v168 (.int .i64 1)) fun v170 =>
                          isB v170 fun b171 => cond b171
                            (Ke25 .ret [.bool false] H169)
                            (vb (aBin .add x9_7 (.int .i64 1)) fun v172 =>
                            Kn24 [x8_7, v172] H169))))
                (vb (aBin .eql v44 (.int .i64 6)) fun v173 =>
                isB v173 fun b174 => cond b174
                  (cb (S_flat_Flat_Safe [v6] H53) fun v175 H176 =>
                  cb (S_flat_Flat_Read [v6, .int .i64 0, v3] H176) fun v177 H178 =>
                  vb (aExtract v177 0) fun v179 =>
                  vb (aExtract v177 1) fun v180 =>
                  vb (aBin .neq v179 x8_7) fun v181 =>
                  isB v181 fun b182 => cond b182
                    (Ke25 .ret [.bool false] H178)
                    (vb (aBin .neq v180 (.int .i64 0)) fun v183 =>
                      isB v183 fun b184 => cond b184
                        (Ke25 .ret [.bool false] H178)
                        (cb (S_flat_Flat_Worlds [v6] H178) fun v185 H186 =>
                          vb (aBin .neq v185 (.int .i64 1)) fun v187 =>
                            isB v187 fun b188 => cond b188
                              (Ke25 .ret [.bool false] H186)
                              (vb (aBin .add x9_7 (.int .i64 1)) fun v189 =>
                              Kn24 [x8_7, v189] H186))))
                  (cb (S_flat_Flat_Read [v6, .int .i64 0, v3] H53) fun v190 H191 =>
                  vb (aExtract v190 0) fun v192 =>
                  vb (aExtract v190 1) fun v193 =>
                  vb (aBin .neq v192 x8_7) fun v194 =>
                  isB v194 fun b195 => cond b195
                    (Ke25 .ret [.bool false] H191)
                    (vb (aBin .neq v193 (.int .i64 0)) fun v196 =>
                      isB v196 fun b197 => cond b197
                        (Ke25 .ret [.bool false] H191)
                        (cb (S_flat_Flat_Worlds [v6] H191) fun v198 H199 =>
                          vb (aBin .neq v198 (.int .i64 1)) fun v200 =>
                            isB v200 fun b201 => cond b201
                              (Ke25 .ret [.bool false] H199)
                              (vb (aBin .add x9_7 (.int .i64 1)) fun v202 =>
                              Kn24 [x8_7, v202] H199))))))))
        (False)))
    (False)))

def cellaretlaw26_FlatOne.L7 (x1 : AVal) (v6 : AVal) (v3 : AVal) : Body := fun vs H Kn Ke => cellaretlaw26_FlatOne.L7.b x1 v6 v3 (vs.getD 0 .undef) (vs.getD 1 .undef) H Kn Ke

def cellaretlaw26_FlatOne.w (x0 : AVal) (x1 : AVal) (H : AHeap) (K : AVal → AHeap → Prop) : Prop :=
  vb (aBin .rem x0 (.int .u8 64)) fun v1 =>
  vb (aInt2 .i64 v1) fun v2 =>
  vb (aBin .add v2 (.int .i64 1)) fun v3 =>
  cb (S_flat_New [v3] H) fun v4 H5 =>
  vb (aExtract v4 0) fun v6 =>
  vb (aExtract v4 1) fun v7 =>
  JoinP (fun Kj8 => vb (aBin .neq v7 (.int .i64 0)) fun v9 =>
    isB v9 fun b10 => cond b10
      (Kj8 .ret [.bool false] H5)
      (vb (aEql false .ptr H5 v6 .nilp) fun v11 =>
        isB v11 fun b12 => cond b12
          (Kj8 .ret [.bool false] H5)
          (cb (S_cellaretlaw26_awake [] H5) fun v13 H14 =>
          vb (aUn .not v13) fun v15 =>
            isB v15 fun b16 => cond b16
              (Kj8 .ret [.bool false] H14)
              (Kj8 .normal [.bool false] H14))))
  (fun e17 vs18 H19 =>
    onE e17 .normal
      (vb (aBin .mul (.int .i64 48) v3) fun v20 =>
      cb (S_cellaretref01_Zeros [v20] H19) fun v21 H22 =>
      LoopP (cellaretlaw26_FlatOne.L7 x1 v6 v3) [v21, .int .i64 0] H22 fun e203 vs204 H205 =>
        onE e203 (.exit 0)
          (fin .ret [.v (.bool true)] H205 K)
        (onE e203 .ret
          (fin .ret [.v (vs204.getD 0 .undef)] H205 K)
        (False)))
    (onE e17 .ret
      (fin .ret [.v (vs18.getD 0 .undef)] H19 K)
    (False)))

def S_cellaretlaw26_FlatOne : Abs.Spec := fun args H r H' => ∃ x0 x1 : AVal, args = [x0, x1] ∧ (cellaretlaw26_FlatOne.w x0 x1 H fun r1 H1 => r1 = r ∧ H1 = H')
theorem cellaretlaw26_FlatOne.ok (args : List AVal) (H : AHeap) (r : AVal) (H' : AHeap) (h : S_cellaretlaw26_FlatOne args H r H') : ∃ x0 x1 : AVal, args = [x0, x1] ∧ cellaretlaw26_FlatOne.w x0 x1 H fun r1 H1 => r1 = r ∧ H1 = H' := by
  obtain ⟨x0, x1, h1, h2⟩ := h
  exact ⟨x0, x1, h1, h2⟩
set_option maxRecDepth 100000 in
theorem cellaretlaw26_FlatOne.ex (x0 x1 : AVal) (H : AHeap) : Ex fun K : AVal × AHeap → Prop => cellaretlaw26_FlatOne.w x0 x1 H fun r H => K (r, H) := by
  unfold cellaretlaw26_FlatOne.w
  repeat with_reducible first
    | exact Ex.pt _
    | exact Ex.fin
    | exact Ex.no
    | refine Ex.vb fun _ => ?_
    | refine Ex.hb fun _ _ => ?_
    | refine Ex.sb fun _ => ?_
    | refine Ex.cb fun _ _ => ?_
    | refine Ex.isB fun _ => ?_
    | refine Ex.cond ?_ ?_
    | refine Ex.onE ?_ ?_
    | refine Ex.join ?_ fun _ _ _ => ?_
    | refine Ex.loop (fun _ _ => ?_) fun _ _ _ => ?_
    | (unfold cellaretlaw26_FlatOne.L7; unfold cellaretlaw26_FlatOne.L7.b)

theorem cellaretlaw26_FlatOne.out {x0 x1 : AVal} {H : AHeap} {Q : AVal → AHeap → Prop} (h : cellaretlaw26_FlatOne.w x0 x1 H fun r H' => Q r H') : ∃ r H', S_cellaretlaw26_FlatOne [x0, x1] H r H' ∧ Q r H' := by
  obtain ⟨r, H', h1, h2⟩ := (cellaretlaw26_FlatOne.ex x0 x1 H).out h
  exact ⟨r, H', ⟨_, _, rfl, h1⟩, h2⟩

def cellaretlaw26_FlatAll.L9.b (v6 : AVal) (v16 : AVal) (x10_9 : AVal) (x11_9 : AVal) (x12_9 : AVal) (H35 : AHeap) (Kn36 : List AVal → AHeap → Prop) (Ke37 : AExit → List AVal → AHeap → Prop) : Prop :=
  JoinP (fun Kj38 => vb (lenSl v6) fun v39 =>
    vb (aBin .lss x12_9 v39) fun v40 =>
    isB v40 fun b41 => cond b41
      (vb (aBin .lss x12_9 (.int .i64 25)) fun v42 =>
        isB v42 fun b43 => cond b43
          (Kj38 .normal [] H35)
          (Kj38 (.exit 0) [] H35))
      (Kj38 (.exit 0) [] H35))
  (fun e44 vs45 H46 =>
    onE e44 (.exit 0)
      (Ke37 (.exit 0) [x11_9] H46)
    (onE e44 .normal
      (vb (aIndexAddr 5 v6 x12_9) fun v47 =>
      vb (aLoad H46 true 5 v47) fun v48 =>
      hb (aAlloc H46 [.int .i64 0, .int .i64 0, .int .i64 0, .int .u8 0, .bool false]) fun v49 H50 =>
      sb (aStore H50 5 v49 v48) fun H51 =>
      vb (aLoad H51 true 5 v49) fun v52 =>
      cb (S_cellaretlaw26_data [v52] H51) fun v53 H54 =>
      JoinP (fun Kj55 => vb (aFieldAddr 0 v49) fun v56 =>
        vb (aLoad H54 false 1 v56) fun v57 =>
        vb (aBin .geq v57 (.int .i64 0)) fun v58 =>
        isB v58 fun b59 => cond b59
          (vb (aFieldAddr 0 v49) fun v60 =>
          vb (aLoad H54 false 1 v60) fun v61 =>
            vb (aBin .lss v61 (.int .i64 3)) fun v62 =>
              isB v62 fun b63 => cond b63
                (vb (aFieldAddr 1 v49) fun v64 =>
                  vb (aLoad H54 false 1 v64) fun v65 =>
                    cb (S_flat_Flat_Write [v16, v65, v53] H54) fun v66 H67 =>
                        vb (aBin .eql v66 (.int .i64 0)) fun v68 =>
                          isB v68 fun b69 => cond b69
                            (vb (aFieldAddr 1 v49) fun v70 =>
                            vb (aLoad H67 false 1 v70) fun v71 =>
                            vb (aBin .mul (.int .i64 48) v71) fun v72 =>
                            vb (aSliceStr x10_9 none (some v72)) fun v73 =>
                            vb (aBin .add v73 v53) fun v74 =>
                            vb (aFieldAddr 1 v49) fun v75 =>
                            vb (aLoad H67 false 1 v75) fun v76 =>
                            vb (aBin .mul (.int .i64 48) v76) fun v77 =>
                            vb (lenSt v53) fun v78 =>
                            vb (aBin .add v77 v78) fun v79 =>
                            vb (aSliceStr x10_9 (some v79) none) fun v80 =>
                            vb (aBin .add v74 v80) fun v81 =>
                            hb (aBuildSlice H67 1 [.str []] 1 [(0, v81)]) fun v82 H83 =>
                            hb (aAppendS H83 1 16 x11_9 v82) fun v84 H85 =>
                            Kj55 .normal [v81, v84] H85)
                            (Kj55 .normal [x10_9, x11_9] H67))
                (Kj55 .normal [x10_9, x11_9] H54))
          (Kj55 .normal [x10_9, x11_9] H54))
      (fun e86 vs87 H88 =>
        onE e86 .normal
          (vb (aFieldAddr 0 v49) fun v89 =>
          vb (aLoad H88 false 1 v89) fun v90 =>
          vb (aBin .eql v90 (.int .i64 6)) fun v91 =>
          isB v91 fun b92 => cond b92
            (cb (S_flat_Flat_Safe [v16] H88) fun v93 H94 =>
            hb (aBuildSlice H94 1 [.str []] 1 [(0, vs87.getD 0 .undef)]) fun v95 H96 =>
            vb (aBin .add x12_9 (.int .i64 1)) fun v97 =>
            Kn36 [vs87.getD 0 .undef, v95, v97] H96)
            (vb (aBin .add x12_9 (.int .i64 1)) fun v98 =>
            Kn36 [vs87.getD 0 .undef, vs87.getD 1 .undef, v98] H88))
        (False)))
    (False)))

def cellaretlaw26_FlatAll.L9 (v6 : AVal) (v16 : AVal) : Body := fun vs H Kn Ke => cellaretlaw26_FlatAll.L9.b v6 v16 (vs.getD 0 .undef) (vs.getD 1 .undef) (vs.getD 2 .undef) H Kn Ke

def cellaretlaw26_FlatAll.L30.b (vs100 : List AVal) (vs143 : List AVal) (x17_30 : AVal) (x18_30 : AVal) (H145 : AHeap) (Kn146 : List AVal → AHeap → Prop) (Ke147 : AExit → List AVal → AHeap → Prop) : Prop :=
  vb (lenSl (vs100.getD 0 .undef)) fun v148 =>
  vb (aBin .lss x18_30 v148) fun v149 =>
  isB v149 fun b150 => cond b150
    (isB x17_30 fun b151 => cond b151
      (vb (aBin .add x18_30 (.int .i64 1)) fun v152 =>
                Kn146 [.bool true, v152] H145)
      (vb (aIndexAddr 1 (vs100.getD 0 .undef) x18_30) fun v153 =>
          vb (aLoad H145 false 1 v153) fun v154 =>
            vb (aBin .eql v154 (vs143.getD 0 .undef)) fun v155 =>
                vb (aBin .add x18_30 (.int .i64 1)) fun v156 =>
                Kn146 [v155, v156] H145))
    (Ke147 (.exit 2) [x17_30] H145)

def cellaretlaw26_FlatAll.L30 (vs100 : List AVal) (vs143 : List AVal) : Body := fun vs H Kn Ke => cellaretlaw26_FlatAll.L30.b vs100 vs143 (vs.getD 0 .undef) (vs.getD 1 .undef) H Kn Ke

def cellaretlaw26_FlatAll.w (x0 : AVal) (H : AHeap) (K : AVal → AHeap → Prop) : Prop :=
  hb (aBox H x0) fun v1 H2 =>
  vb (aFieldAddr 0 v1) fun v3 =>
  vb (aLoad H2 false 1 v3) fun v4 =>
  vb (aFieldAddr 1 v1) fun v5 =>
  vb (aLoad H2 false 1 v5) fun v6 =>
  vb (aFieldAddr 2 v1) fun v7 =>
  vb (aLoad H2 false 1 v7) fun v8 =>
  vb (aFieldAddr 3 v1) fun v9 =>
  vb (aLoad H2 false 1 v9) fun v10 =>
  vb (aBin .rem v4 (.int .u8 5)) fun v11 =>
  vb (aInt2 .i64 v11) fun v12 =>
  vb (aBin .add v12 (.int .i64 1)) fun v13 =>
  cb (S_flat_New [v13] H2) fun v14 H15 =>
  vb (aExtract v14 0) fun v16 =>
  vb (aExtract v14 1) fun v17 =>
  JoinP (fun Kj18 => vb (aBin .neq v17 (.int .i64 0)) fun v19 =>
    isB v19 fun b20 => cond b20
      (Kj18 .ret [.bool false] H15)
      (vb (aEql false .ptr H15 v16 .nilp) fun v21 =>
        isB v21 fun b22 => cond b22
          (Kj18 .ret [.bool false] H15)
          (cb (S_cellaretlaw26_awake [] H15) fun v23 H24 =>
          vb (aUn .not v23) fun v25 =>
            isB v25 fun b26 => cond b26
              (Kj18 .ret [.bool false] H24)
              (Kj18 .normal [.bool false] H24))))
  (fun e27 vs28 H29 =>
    onE e27 .normal
      (vb (aBin .mul (.int .i64 48) v13) fun v30 =>
      cb (S_cellaretref01_Zeros [v30] H29) fun v31 H32 =>
      hb (aBuildSlice H32 1 [.str []] 1 [(0, v31)]) fun v33 H34 =>
      LoopP (cellaretlaw26_FlatAll.L9 v6 v16) [v31, v33, .int .i64 0] H34 fun e99 vs100 H101 =>
        onE e99 (.exit 0)
          (cb (S_flat_Flat_Crash [v16] H101) fun v102 H103 =>
          cb (S_flat_Flat_Copy [v16] H103) fun v104 H105 =>
          JoinP (fun Kj106 => vb (aInt2 .i64 v8) fun v107 =>
            vb (lenSl (vs100.getD 0 .undef)) fun v108 =>
            vb (aBin .rem v107 v108) fun v109 =>
            vb (aIndexAddr 1 (vs100.getD 0 .undef) v109) fun v110 =>
            vb (aLoad H105 false 1 v110) fun v111 =>
            cb (S_flat_Flat_Saw [v16, .int .i64 0, v111] H105) fun v112 H113 =>
            vb (aUn .not v112) fun v114 =>
            isB v114 fun b115 => cond b115
              (Kj106 .ret [.bool false] H113)
              (cb (S_flat_Flat_Worlds [v16] H113) fun v116 H117 =>
                vb (aBin .neq v116 (.int .i64 1)) fun v118 =>
                  isB v118 fun b119 => cond b119
                    (Kj106 .ret [.bool false] H117)
                    (Kj106 .normal [vs28.getD 0 .undef] H117)))
          (fun e120 vs121 H122 =>
            onE e120 .normal
              (JoinP (fun Kj123 => vb (lenSl v10) fun v124 =>
                vb (aBin .gtr v124 (.int .i64 400)) fun v125 =>
                isB v125 fun b126 => cond b126
                  (vb (aSlice H122 1 v10 none (some (.int .i64 400)) none) fun v127 =>
                  Kj123 .normal [v127] H122)
                  (Kj123 .normal [v10] H122))
              (fun e128 vs129 H130 =>
                onE e128 .normal
                  (vb (aBytes2Str H130 (vs129.getD 0 .undef)) fun v131 =>
                  vb (aBin .mul (.int .i64 48) v13) fun v132 =>
                  cb (S_cellaretref01_Full [v131, v132] H130) fun v133 H134 =>
                  JoinP (fun Kj135 => vb (lenSt v133) fun v136 =>
                    vb (aBin .mul (.int .i64 48) v13) fun v137 =>
                    vb (aBin .gtr v136 v137) fun v138 =>
                    isB v138 fun b139 => cond b139
                      (vb (aBin .mul (.int .i64 48) v13) fun v140 =>
                      vb (aSliceStr v133 none (some v140)) fun v141 =>
                      Kj135 .normal [v141] H134)
                      (Kj135 .normal [v133] H134))
                  (fun e142 vs143 H144 =>
                    onE e142 .normal
                      (LoopP (cellaretlaw26_FlatAll.L30 vs100 vs143) [.bool false, .int .i64 0] H144 fun e157 vs158 H159 =>
                        onE e157 (.exit 2)
                          (cb (S_flat_Flat_Saw [v104, .int .i64 0, vs143.getD 0 .undef] H159) fun v160 H161 =>
                          vb (aEql false .bool H161 v160 (vs158.getD 0 .undef)) fun v162 =>
                          fin .ret [.v (v162)] H161 K)
                        (False))
                    (False)))
                (False)))
            (onE e120 .ret
              (fin .ret [.v (vs121.getD 0 .undef)] H122 K)
            (False))))
        (False))
    (onE e27 .ret
      (fin .ret [.v (vs28.getD 0 .undef)] H29 K)
    (False)))

def S_cellaretlaw26_FlatAll : Abs.Spec := fun args H r H' => ∃ x0 : AVal, args = [x0] ∧ (cellaretlaw26_FlatAll.w x0 H fun r1 H1 => r1 = r ∧ H1 = H')
theorem cellaretlaw26_FlatAll.ok (args : List AVal) (H : AHeap) (r : AVal) (H' : AHeap) (h : S_cellaretlaw26_FlatAll args H r H') : ∃ x0 : AVal, args = [x0] ∧ cellaretlaw26_FlatAll.w x0 H fun r1 H1 => r1 = r ∧ H1 = H' := by
  obtain ⟨x0, h1, h2⟩ := h
  exact ⟨x0, h1, h2⟩
set_option maxRecDepth 100000 in
theorem cellaretlaw26_FlatAll.ex (x0 : AVal) (H : AHeap) : Ex fun K : AVal × AHeap → Prop => cellaretlaw26_FlatAll.w x0 H fun r H => K (r, H) := by
  unfold cellaretlaw26_FlatAll.w
  repeat with_reducible first
    | exact Ex.pt _
    | exact Ex.fin
    | exact Ex.no
    | refine Ex.vb fun _ => ?_
    | refine Ex.hb fun _ _ => ?_
    | refine Ex.sb fun _ => ?_
    | refine Ex.cb fun _ _ => ?_
    | refine Ex.isB fun _ => ?_
    | refine Ex.cond ?_ ?_
    | refine Ex.onE ?_ ?_
    | refine Ex.join ?_ fun _ _ _ => ?_
    | refine Ex.loop (fun _ _ => ?_) fun _ _ _ => ?_
    | (unfold cellaretlaw26_FlatAll.L9; unfold cellaretlaw26_FlatAll.L9.b)
    | (unfold cellaretlaw26_FlatAll.L30; unfold cellaretlaw26_FlatAll.L30.b)

theorem cellaretlaw26_FlatAll.out {x0 : AVal} {H : AHeap} {Q : AVal → AHeap → Prop} (h : cellaretlaw26_FlatAll.w x0 H fun r H' => Q r H') : ∃ r H', S_cellaretlaw26_FlatAll [x0] H r H' ∧ Q r H' := by
  obtain ⟨r, H', h1, h2⟩ := (cellaretlaw26_FlatAll.ex x0 H).out h
  exact ⟨r, H', ⟨_, rfl, h1⟩, h2⟩

def cellaretlaw26_FlatApart.L6.b (x0 : AVal) (v5 : AVal) (v7 : AVal) (x10_6 : AVal) (H21 : AHeap) (Kn22 : List AVal → AHeap → Prop) (Ke23 : AExit → List AVal → AHeap → Prop) : Prop :=
  JoinP (fun Kj24 => vb (lenSl x0) fun v25 =>
    vb (aBin .lss x10_6 v25) fun v26 =>
    isB v26 fun b27 => cond b27
      (vb (aBin .lss x10_6 (.int .i64 20)) fun v28 =>
        isB v28 fun b29 => cond b29
          (Kj24 .normal [] H21)
          (Kj24 (.exit 0) [] H21))
      (Kj24 (.exit 0) [] H21))
  (fun e30 vs31 H32 =>
    onE e30 (.exit 0)
      (Ke23 (.exit 0) [] H32)
    (onE e30 .normal
      (vb (aIndexAddr 5 x0 x10_6) fun v33 =>
      vb (aLoad H32 true 5 v33) fun v34 =>
      cb (S_cellaretlaw26_do [v5, v7, v34] H32) fun v35 H36 =>
      vb (aBin .add x10_6 (.int .i64 1)) fun v37 =>
      Kn22 [v37] H36)
    (False)))

def cellaretlaw26_FlatApart.L6 (x0 : AVal) (v5 : AVal) (v7 : AVal) : Body := fun vs H Kn Ke => cellaretlaw26_FlatApart.L6.b x0 v5 v7 (vs.getD 0 .undef) H Kn Ke

def cellaretlaw26_FlatApart.L12.b (x1 : AVal) (v41 : AVal) (v47 : AVal) (v5 : AVal) (v7 : AVal) (x13_12 : AVal) (H49 : AHeap) (Kn50 : List AVal → AHeap → Prop) (Ke51 : AExit → List AVal → AHeap → Prop) : Prop :=
  JoinP (fun Kj52 => vb (lenSl x1) fun v53 =>
    vb (aBin .lss x13_12 v53) fun v54 =>
    isB v54 fun b55 => cond b55
      (vb (aBin .lss x13_12 (.int .i64 20)) fun v56 =>
        isB v56 fun b57 => cond b57
          (Kj52 .normal [] H49)
          (Kj52 (.exit 2) [] H49))
      (Kj52 (.exit 2) [] H49))
  (fun e58 vs59 H60 =>
    onE e58 (.exit 2)
      (Ke51 (.exit 2) [.undef] H60)
    (onE e58 .normal
      (vb (aBin .rem x13_12 (.int .i64 2)) fun v61 =>
      vb (aBin .eql v61 (.int .i64 0)) fun v62 =>
      isB v62 fun b63 => cond b63
        (vb (aIndexAddr 5 x1 x13_12) fun v64 =>
                vb (aLoad H60 true 5 v64) fun v65 =>
                  cb (S_cellaretlaw26_do [v41, v47, v65] H60) fun v66 H67 =>
                    vb (aUn .not v66) fun v68 =>
                      isB v68 fun b69 => cond b69
                        (Ke51 .ret [.bool false] H67)
                        (vb (aBin .rem x13_12 (.int .i64 2)) fun v70 =>
                          vb (aBin .eql v70 (.int .i64 1)) fun v71 =>
                            isB v71 fun b72 => cond b72
                                (vb (aIndexAddr 5 x1 x13_12) fun v73 =>
                                        vb (aLoad H67 true 5 v73) fun v74 =>
                                          cb (S_cellaretlaw26_do [v5, v7, v74] H67) fun v75 H76 =>
                                            vb (aUn .not v75) fun v77 =>
                                              isB v77 fun b78 => cond b78
                                                  (Ke51 .ret [.bool false] H76)
                                                  (vb (aBin .add x13_12 (.int .i64 1)) fun v79 =>
                                                  Kn50 [v79] H76))
                                (vb (aBin .add x13_12 (.int .i64 1)) fun v80 =>
                                                Kn50 [v80] H67)))
        (vb (aBin .rem x13_12 (.int .i64 2)) fun v81 =>
                          vb (aBin .eql v81 (.int .i64 1)) fun v82 =>
                            isB v82 fun b83 => cond b83
                                (vb (aIndexAddr 5 x1 x13_12) fun v84 =>
                                        vb (aLoad H60 true 5 v84) fun v85 =>
                                          cb (S_cellaretlaw26_do [v5, v7, v85] H60) fun v86 H87 =>
                                            vb (aUn .not v86) fun v88 =>
                                              isB v88 fun b89 => cond b89
                                                  (Ke51 .ret [.bool false] H87)
                                                  (vb (aBin .add x13_12 (.int .i64 1)) fun v90 =>
                                                  Kn50 [v90] H87))
                                (vb (aBin .add x13_12 (.int .i64 1)) fun v91 =>
                                                Kn50 [v91] H60)))
    (False)))

def cellaretlaw26_FlatApart.L12 (x1 : AVal) (v41 : AVal) (v47 : AVal) (v5 : AVal) (v7 : AVal) : Body := fun vs H Kn Ke => cellaretlaw26_FlatApart.L12.b x1 v41 v47 v5 v7 (vs.getD 0 .undef) H Kn Ke

def cellaretlaw26_FlatApart.w (x0 : AVal) (x1 : AVal) (x2 : AVal) (H : AHeap) (K : AVal → AHeap → Prop) : Prop :=
  hb (aBox H x2) fun v1 H2 =>
  cb (S_flat_New [.int .i64 3] H2) fun v3 H4 =>
  vb (aExtract v3 0) fun v5 =>
  vb (aExtract v3 1) fun v6 =>
  cb (S_cellaretref26_New [.int .i64 3] H4) fun v7 H8 =>
  JoinP (fun Kj9 => vb (aBin .neq v6 (.int .i64 0)) fun v10 =>
    isB v10 fun b11 => cond b11
      (Kj9 .ret [.bool false] H8)
      (vb (aEql false .ptr H8 v5 .nilp) fun v12 =>
        isB v12 fun b13 => cond b13
          (Kj9 .ret [.bool false] H8)
          (cb (S_cellaretlaw26_awake [] H8) fun v14 H15 =>
          vb (aUn .not v14) fun v16 =>
            isB v16 fun b17 => cond b17
              (Kj9 .ret [.bool false] H15)
              (Kj9 .normal [.bool false] H15))))
  (fun e18 vs19 H20 =>
    onE e18 .normal
      (LoopP (cellaretlaw26_FlatApart.L6 x0 v5 v7) [.int .i64 0] H20 fun e38 vs39 H40 =>
        onE e38 (.exit 0)
          (cb (S_flat_Flat_Copy [v5] H40) fun v41 H42 =>
          vb (aNilCheck v7) fun v43 =>
          vb (aFieldAddr 1 v43) fun v44 =>
          vb (aLoad H42 false 1 v44) fun v45 =>
          vb (aBuild [.int .i64 0, .nils] (fun k => ([(0, 1), (1, 1)] : List (Nat × Nat))[k]?) [(0, .int .i64 3), (1, v45)]) fun v46 =>
          hb (aBox H42 v46) fun v47 H48 =>
          LoopP (cellaretlaw26_FlatApart.L12 x1 v41 v47 v5 v7) [.int .i64 0] H48 fun e92 vs93 H94 =>
            onE e92 (.exit 2)
              (vb (aFieldAddr 1 v1) fun v95 =>
              vb (aLoad H94 false 1 v95) fun v96 =>
              vb (aFieldAddr 2 v1) fun v97 =>
              vb (aLoad H94 false 1 v97) fun v98 =>
              cb (S_flat_Flat_Read [.nilp, v96, v98] H94) fun v99 H100 =>
              vb (aExtract v99 0) fun v101 =>
              vb (aExtract v99 1) fun v102 =>
              cb (S_flat_Flat_Safe [.nilp] H100) fun v103 H104 =>
              cb (S_flat_Flat_Crash [.nilp] H104) fun v105 H106 =>
              cb (S_flat_Flat_States [v5] H106) fun v107 H108 =>
              cb (S_cellaretref26_Flat_States [v7] H108) fun v109 H110 =>
              vb (aBin .eql v107 v109) fun v111 =>
              isB v111 fun b112 => cond b112
                (cb (S_flat_Flat_States [v41] H110) fun v113 H114 =>
                  cb (S_cellaretref26_Flat_States [v47] H114) fun v115 H116 =>
                      vb (aBin .eql v113 v115) fun v117 =>
                        isB v117 fun b118 => cond b118
                          (vb (aBin .eql v101 (.str [])) fun v119 =>
                            isB v119 fun b120 => cond b120
                              (vb (aBin .eql v102 (.int .i64 1)) fun v121 =>
                                isB v121 fun b122 => cond b122
                                  (vb (aFieldAddr 1 v1) fun v123 =>
                                    vb (aLoad H116 false 1 v123) fun v124 =>
                                      vb (aLoad H116 true 5 v1) fun v125 =>
                                        cb (S_cellaretlaw26_data [v125] H116) fun v126 H127 =>
                                          cb (S_flat_Flat_Write [.nilp, v124, v126] H127) fun v128 H129 =>
                                            vb (aBin .eql v128 (.int .i64 1)) fun v130 =>
                                              isB v130 fun b131 => cond b131
                                                (vb (aFieldAddr 1 v1) fun v132 =>
                                                  vb (aLoad H129 false 1 v132) fun v133 =>
                                                    vb (aFieldAddr 2 v1) fun v134 =>
                                                      vb (aLoad H129 false 1 v134) fun v135 =>
                                                        cb (S_flat_Flat_Discard [.nilp, v133, v135] H129) fun v136 H137 =>
                                                          vb (aBin .eql v136 (.int .i64 1)) fun v138 =>
                                                            isB v138 fun b139 => cond b139
                                                              (vb (aFieldAddr 1 v1) fun v140 =>
                                                                vb (aLoad H137 false 1 v140) fun v141 =>
                                                                  vb (aLoad H137 true 5 v1) fun v142 =>
                                                                    cb (S_cellaretlaw26_data [v142] H137) fun v143 H144 =>
                                                                      cb (S_flat_Flat_Saw [.nilp, v141, v143] H144) fun v145 H146 =>
                                                                        vb (aUn .not v145) fun v147 =>
                                                                          isB v147 fun b148 => cond b148
                                                                            (cb (S_flat_Flat_Worlds [.nilp] H146) fun v149 H150 =>
                                                                              cb (S_flat_Flat_States [.nilp] H150) fun v151 H152 =>
                                                                                  vb (aBin .add v149 v151) fun v153 =>
                                                                                    vb (aBin .eql v153 (.int .i64 0)) fun v154 =>
                                                                                      isB v154 fun b155 => cond b155
                                                                                        (cb (S_flat_Flat_Copy [.nilp] H152) fun v156 H157 =>
                                                                                          vb (aEql false .ptr H157 v156 .nilp) fun v158 =>
                                                                                            fin .ret [.v (v158)] H157 K)
                                                                                        (fin .ret [.v (.bool false)] H152 K))
                                                                            (fin .ret [.v (.bool false)] H146 K))
                                                              (fin .ret [.v (.bool false)] H137 K))
                                                (fin .ret [.v (.bool false)] H129 K))
                                  (fin .ret [.v (.bool false)] H116 K))
                              (fin .ret [.v (.bool false)] H116 K))
                          (fin .ret [.v (.bool false)] H116 K))
                (fin .ret [.v (.bool false)] H110 K))
            (onE e92 .ret
              (fin .ret [.v (vs93.getD 0 .undef)] H94 K)
            (False)))
        (False))
    (onE e18 .ret
      (fin .ret [.v (vs19.getD 0 .undef)] H20 K)
    (False)))

def S_cellaretlaw26_FlatApart : Abs.Spec := fun args H r H' => ∃ x0 x1 x2 : AVal, args = [x0, x1, x2] ∧ (cellaretlaw26_FlatApart.w x0 x1 x2 H fun r1 H1 => r1 = r ∧ H1 = H')
theorem cellaretlaw26_FlatApart.ok (args : List AVal) (H : AHeap) (r : AVal) (H' : AHeap) (h : S_cellaretlaw26_FlatApart args H r H') : ∃ x0 x1 x2 : AVal, args = [x0, x1, x2] ∧ cellaretlaw26_FlatApart.w x0 x1 x2 H fun r1 H1 => r1 = r ∧ H1 = H' := by
  obtain ⟨x0, x1, x2, h1, h2⟩ := h
  exact ⟨x0, x1, x2, h1, h2⟩
set_option maxRecDepth 100000 in
theorem cellaretlaw26_FlatApart.ex (x0 x1 x2 : AVal) (H : AHeap) : Ex fun K : AVal × AHeap → Prop => cellaretlaw26_FlatApart.w x0 x1 x2 H fun r H => K (r, H) := by
  unfold cellaretlaw26_FlatApart.w
  repeat with_reducible first
    | exact Ex.pt _
    | exact Ex.fin
    | exact Ex.no
    | refine Ex.vb fun _ => ?_
    | refine Ex.hb fun _ _ => ?_
    | refine Ex.sb fun _ => ?_
    | refine Ex.cb fun _ _ => ?_
    | refine Ex.isB fun _ => ?_
    | refine Ex.cond ?_ ?_
    | refine Ex.onE ?_ ?_
    | refine Ex.join ?_ fun _ _ _ => ?_
    | refine Ex.loop (fun _ _ => ?_) fun _ _ _ => ?_
    | (unfold cellaretlaw26_FlatApart.L6; unfold cellaretlaw26_FlatApart.L6.b)
    | (unfold cellaretlaw26_FlatApart.L12; unfold cellaretlaw26_FlatApart.L12.b)

theorem cellaretlaw26_FlatApart.out {x0 x1 x2 : AVal} {H : AHeap} {Q : AVal → AHeap → Prop} (h : cellaretlaw26_FlatApart.w x0 x1 x2 H fun r H' => Q r H') : ∃ r H', S_cellaretlaw26_FlatApart [x0, x1, x2] H r H' ∧ Q r H' := by
  obtain ⟨r, H', h1, h2⟩ := (cellaretlaw26_FlatApart.ex x0 x1 x2 H).out h
  exact ⟨r, H', ⟨_, _, _, rfl, h1⟩, h2⟩

end Go.Sh

/- Worlds of blocks: plain facts. -/
namespace Go.Sh
open Go Go.Abs

def okSt (n : Nat) (s : St) : Prop := s.length = n ∧ ∀ b ∈ s, b.length = 48
def okWd (n : Nat) (c : Wd) : Prop := c ≠ [] ∧ ∀ s ∈ c, okSt n s
def okAll (n : Nat) (W : List Wd) : Prop := W ≠ [] ∧ ∀ c ∈ W, okWd n c
def lastS (c : Wd) : St := c.getLast?.getD []
theorem last_get {c : Wd} (h : c ≠ []) : c[c.length - 1]? = some (lastS c) := by
  unfold lastS
  rw [List.getLast?_eq_getElem?]
  have : c.length - 1 < c.length := by have := List.length_pos_iff.2 h; omega
  rw [List.getElem?_eq_getElem this]; rfl
theorem last_mem' {c : Wd} (h : c ≠ []) : lastS c ∈ c := List.mem_of_getElem? (last_get h)
def blocksOf (d : List UInt8) : St := (List.range (d.length / 48)).map fun i => (d.take (48 * (i + 1))).drop (48 * i)
def withS (s : St) (a : Nat) (d : List UInt8) : St := s.take a ++ blocksOf d ++ s.drop (a + d.length / 48)
def partS (s : St) (a n : Nat) : List UInt8 := ((s.take (a + n)).drop a).flatten
def mayE (n : Nat) (a k : Int) : Int := if k < 1 then 2 else if a < 0 ∨ (n : Int) < k ∨ (n : Int) - k < a then 3 else 0
def dataE (n : Nat) (a : Int) (d : List UInt8) : Int := if d.length % 48 ≠ 0 then 2 else mayE n a (d.length / 48 : Nat)
def writeW (W : List Wd) (a : Nat) (d : List UInt8) : List Wd := W.map fun c => c ++ [withS (lastS c) a d]
def sees (a : Nat) (d : List UInt8) (c : Wd) : Bool := decide (partS (lastS c) a (d.length / 48) = d)
def sawW (W : List Wd) (a : Nat) (d : List UInt8) : List Wd := W.filter (sees a d)
def sawR (W : List Wd) (a : Nat) (d : List UInt8) : List Wd := if sawW W a d = [] then W else sawW W a d
def safeW (W : List Wd) : List Wd := W.map fun c => [lastS c]
def addS (out : List St) (s : St) : List St := if s ∈ out then out else out ++ [s]
def crashL (out l : List St) : List St := l.foldl addS out
def crashW (W : List Wd) : List Wd := (crashL [] W.flatten).map fun s => [s]
def alikeW (W : List Wd) (a n : Nat) (s : List UInt8) : Bool := W.all fun c => decide (partS (lastS c) a n = s)
def readS (W : List Wd) (a n : Nat) : List UInt8 := partS (lastS (W.headD [])) a n
theorem may_zero {n : Nat} {a k : Int} (h : mayE n a k = 0) : 1 ≤ k ∧ 0 ≤ a ∧ a + k ≤ n := by
  unfold mayE at h
  split at h
  · omega
  · split at h
    · omega
    · omega
theorem data_zero {n : Nat} {a : Int} {d : List UInt8} (h : dataE n a d = 0) : d.length % 48 = 0 ∧ 1 ≤ d.length / 48 ∧ 0 ≤ a ∧ a.toNat + d.length / 48 ≤ n := by
  unfold dataE at h
  split at h
  · omega
  · have := may_zero h
    omega
theorem flat48 {s : St} (h : ∀ b ∈ s, b.length = 48) : s.flatten.length = 48 * s.length := by
  induction s with
  | nil => rfl
  | cons b s ih =>
    simp only [List.flatten_cons, List.length_append, List.length_cons]
    rw [ih fun x hx => h x (List.mem_cons_of_mem _ hx), h b List.mem_cons_self]; omega
theorem take48 {s : St} (h : ∀ b ∈ s, b.length = 48) (k : Nat) : (s.take k).flatten = s.flatten.take (48 * k) := by
  by_cases hk : k ≤ s.length
  · have e : s.flatten = (s.take k).flatten ++ (s.drop k).flatten := by rw [← List.flatten_append, List.take_append_drop]
    have hl : (s.take k).flatten.length = 48 * k := by rw [flat48 fun b hb => h b (List.mem_of_mem_take hb), List.length_take, Nat.min_eq_left hk]
    rw [e, List.take_left' hl]
  · rw [List.take_of_length_le (by omega), List.take_of_length_le (by rw [flat48 h]; omega)]
theorem drop48 {s : St} (h : ∀ b ∈ s, b.length = 48) (k : Nat) : (s.drop k).flatten = s.flatten.drop (48 * k) := by
  by_cases hk : k ≤ s.length
  · have e : s.flatten = (s.take k).flatten ++ (s.drop k).flatten := by rw [← List.flatten_append, List.take_append_drop]
    have hl : (s.take k).flatten.length = 48 * k := by rw [flat48 fun b hb => h b (List.mem_of_mem_take hb), List.length_take, Nat.min_eq_left hk]
    rw [e, List.drop_left' hl]
  · rw [List.drop_of_length_le (by omega), List.drop_of_length_le (by rw [flat48 h]; omega)]; rfl
theorem part48 {s : St} (h : ∀ b ∈ s, b.length = 48) (a n : Nat) : partS s a n = (s.flatten.take (48 * a + 48 * n)).drop (48 * a) := by
  unfold partS
  rw [drop48 (fun b hb => h b (List.mem_of_mem_take hb)), take48 h, Nat.mul_add]
theorem blocks_len {d : List UInt8} : ∀ b ∈ blocksOf d, b.length = 48 := by
  intro b hb
  unfold blocksOf at hb
  obtain ⟨i, hi, rfl⟩ := List.mem_map.1 hb
  have := List.mem_range.1 hi
  rw [List.length_drop, List.length_take]
  omega
theorem blocks_flat {d : List UInt8} (h : d.length % 48 = 0) : (blocksOf d).flatten = d := by
  have key : ∀ k, k ≤ d.length / 48 → ((List.range k).map fun i => (d.take (48 * (i + 1))).drop (48 * i)).flatten = d.take (48 * k) := by
    intro k
    induction k with
    | zero => intro _; simp
    | succ k ih =>
      intro hk
      rw [List.range_succ, List.map_append, List.flatten_append, ih (by omega)]
      simp only [List.map_cons, List.map_nil, List.flatten_cons, List.flatten_nil, List.append_nil]
      have e : d.take (48 * (k + 1)) = d.take (48 * k) ++ (d.take (48 * (k + 1))).drop (48 * k) := by
        conv => lhs; rw [← List.take_append_drop (48 * k) (d.take (48 * (k + 1)))]
        rw [List.take_take, Nat.min_eq_left (by omega)]
      exact e.symm
  unfold blocksOf
  rw [key _ (Nat.le_refl _), List.take_of_length_le (by omega)]
theorem with_ok {n a : Nat} {s : St} {d : List UInt8} (h : okSt n s) (hd : a + d.length / 48 ≤ n) : okSt n (withS s a d) := by
  obtain ⟨h1, h2⟩ := h
  refine ⟨?_, fun b hb => ?_⟩
  · unfold withS blocksOf
    simp only [List.length_append, List.length_take, List.length_drop, List.length_map, List.length_range]
    omega
  · unfold withS at hb
    rcases List.mem_append.1 hb with hb | hb
    · rcases List.mem_append.1 hb with hb | hb
      · exact h2 b (List.mem_of_mem_take hb)
      · exact blocks_len b hb
    · exact h2 b (List.mem_of_mem_drop hb)
theorem with_flat {n a : Nat} {s : St} {d : List UInt8} (h : okSt n s) (hd : d.length % 48 = 0) : (withS s a d).flatten = s.flatten.take (48 * a) ++ d ++ s.flatten.drop (48 * a + d.length) := by
  unfold withS
  rw [List.flatten_append, List.flatten_append, take48 h.2, drop48 h.2, blocks_flat hd, show 48 * (a + d.length / 48) = 48 * a + d.length by omega]
theorem st_inj {n : Nat} {s t : St} (hs : okSt n s) (ht : okSt n t) (h : s.flatten = t.flatten) : s = t := by
  have key : ∀ (s t : St), s.length = t.length → (∀ b ∈ s, b.length = 48) → (∀ b ∈ t, b.length = 48) → s.flatten = t.flatten → s = t := by
    intro s
    induction s with
    | nil => intro t hl _ _ _; exact (List.eq_nil_of_length_eq_zero hl.symm).symm
    | cons x s ih =>
      intro t hl hs ht h
      cases t with
      | nil => cases hl
      | cons y t =>
        simp only [List.flatten_cons] at h
        obtain ⟨e1, e2⟩ := List.append_inj h (by rw [hs x List.mem_cons_self, ht y List.mem_cons_self])
        rw [e1, ih t (by simpa using hl) (fun b hb => hs b (List.mem_cons_of_mem _ hb)) (fun b hb => ht b (List.mem_cons_of_mem _ hb)) e2]
  exact key s t (by rw [hs.1, ht.1]) hs.2 ht.2 h
theorem write_ok {n a : Nat} {W : List Wd} {d : List UInt8} (h : okAll n W) (hd : a + d.length / 48 ≤ n) : okAll n (writeW W a d) := by
  obtain ⟨h1, h2⟩ := h
  refine ⟨by unfold writeW; simpa using h1, fun c hc => ?_⟩
  unfold writeW at hc
  obtain ⟨c0, hc0, rfl⟩ := List.mem_map.1 hc
  obtain ⟨g1, g2⟩ := h2 c0 hc0
  refine ⟨by simp, fun s hs => ?_⟩
  rcases List.mem_append.1 hs with hs | hs
  · exact g2 s hs
  · rw [List.mem_singleton] at hs; subst hs
    exact with_ok (g2 _ (last_mem' g1)) hd
theorem saw_ok {n a : Nat} {W : List Wd} {d : List UInt8} (h : okAll n W) : okAll n (sawR W a d) := by
  unfold sawR
  split
  · exact h
  · rename_i h1
    exact ⟨h1, fun c hc => h.2 c (List.mem_filter.1 hc).1⟩
theorem safe_ok {n : Nat} {W : List Wd} (h : okAll n W) : okAll n (safeW W) := by
  obtain ⟨h1, h2⟩ := h
  refine ⟨by unfold safeW; simpa using h1, fun c hc => ?_⟩
  unfold safeW at hc
  obtain ⟨c0, hc0, rfl⟩ := List.mem_map.1 hc
  obtain ⟨g1, g2⟩ := h2 c0 hc0
  refine ⟨by simp, fun s hs => ?_⟩
  rw [List.mem_singleton] at hs; subst hs
  exact g2 _ (last_mem' g1)
theorem crashL_mem : ∀ {l out : List St} {s : St}, s ∈ crashL out l ↔ s ∈ out ∨ s ∈ l
  | [], out, s => by simp [crashL]
  | x :: l, out, s => by
    show s ∈ crashL (addS out x) l ↔ _
    rw [crashL_mem]
    unfold addS
    by_cases hx : x ∈ out
    · rw [if_pos hx, List.mem_cons]
      constructor
      · rintro (h | h)
        · exact .inl h
        · exact .inr (.inr h)
      · rintro (h | h | h)
        · exact .inl h
        · exact .inl (h ▸ hx)
        · exact .inr h
    · rw [if_neg hx, List.mem_append, List.mem_singleton, List.mem_cons, or_assoc]
theorem crash_ok {n : Nat} {W : List Wd} (h : okAll n W) : okAll n (crashW W) := by
  obtain ⟨h1, h2⟩ := h
  have hm : ∀ s, s ∈ crashL [] W.flatten ↔ s ∈ W.flatten := fun s => by rw [crashL_mem]; simp
  refine ⟨fun e => ?_, fun c hc => ?_⟩
  · unfold crashW at e
    rw [List.map_eq_nil_iff] at e
    obtain ⟨c, hc⟩ := List.exists_mem_of_ne_nil W h1
    have := (hm (lastS c)).2 (List.mem_flatten.2 ⟨c, hc, last_mem' (h2 c hc).1⟩)
    rw [e] at this; cases this
  · unfold crashW at hc
    obtain ⟨s, hs, rfl⟩ := List.mem_map.1 hc
    obtain ⟨c', hc', hsc⟩ := List.mem_flatten.1 ((hm s).1 hs)
    refine ⟨by simp, fun t ht => ?_⟩
    rw [List.mem_singleton] at ht; subst ht
    exact (h2 c' hc').2 _ hsc
/-- How many states there are. -/
def total (W : List Wd) : Nat := W.flatten.length
theorem total_len {n : Nat} {W : List Wd} (h : okAll n W) : W.length ≤ total W := by
  unfold total
  have h2 := h.2
  clear h
  induction W with
  | nil => exact Nat.le_refl _
  | cons c W ih =>
    have := List.length_pos_iff.2 (h2 c List.mem_cons_self).1
    have := ih fun c hc => h2 c (List.mem_cons_of_mem _ hc)
    simp only [List.flatten_cons, List.length_append, List.length_cons]
    omega
theorem total_write (W : List Wd) (a : Nat) (d : List UInt8) : total (writeW W a d) = total W + W.length := by
  unfold total writeW
  induction W with
  | nil => rfl
  | cons c W ih =>
    simp only [List.map_cons, List.flatten_cons, List.length_append, List.length_cons, List.length_nil] at ih ⊢
    omega
theorem total_filter (W : List Wd) (f : Wd → Bool) : total (W.filter f) ≤ total W := by
  unfold total
  induction W with
  | nil => exact Nat.le_refl _
  | cons c W ih =>
    rw [List.filter_cons]
    split
    · simp only [List.flatten_cons, List.length_append]; omega
    · simp only [List.flatten_cons, List.length_append]; omega
theorem total_saw (W : List Wd) (a : Nat) (d : List UInt8) : total (sawR W a d) ≤ total W := by
  unfold sawR
  split
  · exact Nat.le_refl _
  · exact total_filter W _
theorem total_ones (l : List St) : total (l.map fun s => [s]) = l.length := by
  unfold total
  induction l with
  | nil => rfl
  | cons s l ih => simp only [List.map_cons, List.flatten_cons, List.length_append, List.length_cons, List.length_nil] at ih ⊢; omega
theorem total_safe {n : Nat} {W : List Wd} (h : okAll n W) : total (safeW W) ≤ total W := by
  have e : safeW W = (W.map lastS).map fun s => [s] := by unfold safeW; rw [List.map_map]; rfl
  rw [e, total_ones, List.length_map]
  exact total_len h
theorem crashL_len : ∀ (l out : List St), (crashL out l).length ≤ out.length + l.length
  | [], _ => Nat.le_refl _
  | x :: l, out => by
    show (crashL (addS out x) l).length ≤ _
    have := crashL_len l (addS out x)
    have h2 : (addS out x).length ≤ out.length + 1 := by
      unfold addS
      split
      · omega
      · simp
    rw [List.length_cons]; omega
theorem total_crash (W : List Wd) : total (crashW W) ≤ total W := by
  unfold crashW
  rw [total_ones]
  have := crashL_len W.flatten []
  simpa [total] using this
end Go.Sh

/- Worlds in memory; what is done to one. -/
namespace Go.Sh
open Go Go.Abs

/-- What nobody changes any more: states and worlds, all of whose blocks are told. -/
def StAt (I : List Nat) (B : AHeap) (sv : AVal) (s : St) : Prop := View B sv 1 s.length (strs s) ∧ ∀ i, slId sv = some i → i ∈ I
def WdAt (I : List Nat) (B : AHeap) (cv : AVal) (c : Wd) : Prop := (∀ i, slId cv = some i → i ∈ I) ∧ ∃ svs, View B cv 1 c.length svs ∧ ∀ (k : Nat) s, c[k]? = some s → ∃ sv, svs[k]? = some sv ∧ StAt I B sv s
theorem StAt.loc {I : List Nat} {B C : AHeap} {sv : AVal} {s : St} (h : StAt I B sv s) (e : ∀ i ∈ I, C[i]? = B[i]?) : StAt I C sv s :=
  ⟨View.loc (fun i hi => e i (h.2 i (by simpa using hi))) h.1, h.2⟩
theorem WdAt.loc {I : List Nat} {B C : AHeap} {cv : AVal} {c : Wd} (h : WdAt I B cv c) (e : ∀ i ∈ I, C[i]? = B[i]?) : WdAt I C cv c := by
  obtain ⟨h1, svs, h2, h3⟩ := h
  refine ⟨h1, svs, View.loc (fun i hi => e i (h1 i (by simpa using hi))) h2, fun k s hs => ?_⟩
  obtain ⟨sv, g1, g2⟩ := h3 k s hs
  exact ⟨sv, g1, g2.loc e⟩
theorem StAt.mono {I J : List Nat} {B : AHeap} {sv : AVal} {s : St} (h : StAt I B sv s) (e : ∀ i ∈ I, i ∈ J) : StAt J B sv s := ⟨h.1, fun i hi => e i (h.2 i hi)⟩
theorem WdAt.mono {I J : List Nat} {B : AHeap} {cv : AVal} {c : Wd} (h : WdAt I B cv c) (e : ∀ i ∈ I, i ∈ J) : WdAt J B cv c := by
  obtain ⟨h1, svs, h2, h3⟩ := h
  refine ⟨fun i hi => e i (h1 i hi), svs, h2, fun k s hs => ?_⟩
  obtain ⟨sv, g1, g2⟩ := h3 k s hs
  exact ⟨sv, g1, g2.mono e⟩
theorem v_pre {B C : AHeap} {sv : AVal} {es n : Nat} {cs : List AVal} (h : View B sv es n cs) (p : B <+: C) : View C sv es n cs := ((Sep.start B).quiet p).view h (fun _ _ h => h)
theorem StAt.pre {I : List Nat} {B C : AHeap} {sv : AVal} {s : St} (h : StAt I B sv s) (p : B <+: C) : StAt I C sv s := ⟨v_pre h.1 p, h.2⟩
theorem WdAt.pre {I : List Nat} {B C : AHeap} {cv : AVal} {c : Wd} (h : WdAt I B cv c) (p : B <+: C) : WdAt I C cv c := by
  obtain ⟨h1, svs, h2, h3⟩ := h
  refine ⟨h1, svs, v_pre h2 p, fun k s hs => ?_⟩
  obtain ⟨sv, g1, g2⟩ := h3 k s hs
  exact ⟨sv, g1, g2.pre p⟩
theorem view_sc {B : AHeap} {z : AVal} {es n : Nat} {cs : List AVal} (hz : View B z es n cs) : z.sc = true := by
  rcases hz with ⟨_, ⟨rfl, _⟩ | ⟨i, v, off, cp, kd, cs', rfl, _⟩⟩ <;> rfl
theorem WdAt.sc {I : List Nat} {B : AHeap} {cv : AVal} {c : Wd} (h : WdAt I B cv c) : cv.sc = true := by
  obtain ⟨_, _, h2, _⟩ := h
  exact view_sc h2
theorem WdAt.last {I : List Nat} {B : AHeap} {cv : AVal} {c : Wd} (h : WdAt I B cv c) (hc : c ≠ []) : ∃ svs sv, View B cv 1 c.length svs ∧ svs[c.length - 1]? = some sv ∧ StAt I B sv (lastS c) := by
  obtain ⟨_, svs, h2, h3⟩ := h
  obtain ⟨sv, g1, g2⟩ := h3 _ _ (last_get hc)
  exact ⟨svs, sv, h2, g1, g2⟩
def frozP (I : List Nat) (L : List (AVal × Wd)) : Part where
  ids := I
  ok B := (∀ i ∈ I, i < B.length) ∧ ∀ p ∈ L, WdAt I B p.1 p.2
  loc B C h k := ⟨fun i hi => by
    have := k.1 i hi
    have e := h i hi
    rw [List.getElem?_eq_getElem this] at e
    exact lt_of_some e, fun p hp => (k.2 p hp).loc h⟩
  live B h i hi := h.1 i hi
def newIds (B C : AHeap) : List Nat := List.range' B.length (C.length - B.length)
theorem mem_new {B C : AHeap} {i : Nat} : i ∈ newIds B C ↔ B.length ≤ i ∧ i < C.length := by
  unfold newIds
  rw [List.mem_range'_1]
  omega
section
variable {H0 B C : AHeap} {own : Nat → Prop} {R : List Part} {I : List Nat} {L L' : List (AVal × Wd)}
theorem froz_grow (h : Sep H0 own B (frozP I L :: R)) (p : B <+: C) : Sep H0 own C (frozP (I ++ newIds B C) L :: R) := by
  refine h.put p.length_le (fun i hi => ?_) (fun k hk _ => pre_get p hk) ⟨fun i hi => ?_, fun q hq => ?_⟩
  · rcases List.mem_append.1 hi with hi | hi
    · exact .inl hi
    · exact .inr (mem_new.1 hi).1
  · rcases List.mem_append.1 hi with hi | hi
    · exact Nat.lt_of_lt_of_le (h.head.1 i hi) p.length_le
    · exact (mem_new.1 hi).2
  · exact ((h.head.2 q hq).pre p).mono fun i hi => List.mem_append_left _ hi
theorem froz_add (h : Sep H0 own B (frozP I L :: R)) (k : ∀ p ∈ L', WdAt I B p.1 p.2) : Sep H0 own B (frozP I (L' ++ L) :: R) :=
  h.as rfl fun ho => ⟨ho.1, fun p hp => (List.mem_append.1 hp).elim (k p) (ho.2 p)⟩
theorem may_spec {p n : Nat} {lv : AVal} {a k : Int} (h : B[p]? = some (.cells 0 .exact [.int .i64 n, lv])) (hn : n ≤ 64) : ∃ C, S_flat_Flat_may [.ptr ⟨p, 0, 0⟩, .int .i64 a, .int .i64 k] B (.int .i64 (mayE n a k)) C ∧ B <+: C := by
  obtain ⟨r, C, h, rfl, k⟩ := flat_Flat_may.out (x0 := .ptr ⟨p, 0, 0⟩) (x1 := .int .i64 a) (x2 := .int .i64 k) (H := B) (Q := fun r C => r = .int .i64 (mayE n a k) ∧ B <+: C) (by
    unfold flat_Flat_may.w
    repeat first
    | with_reducible refine isB_F ?_
    | with_reducible refine vb_i (lss64 _ _ _) ?_
    | with_reducible refine vb_i (e_ptrNil _ _) ?_
    refine isB_c (fun h1 => ?_) (fun h1 => ?_)
    · have e : mayE n a k = 2 := if_pos h1
      rw [e]
      exact fin_ret (rvs_v (rvs_nil _)) ⟨List.prefix_refl _, rfl, List.prefix_refl _⟩
    repeat first
    | with_reducible refine vb_i (lss64 _ _ _) ?_
    refine isB_c (fun h2 => ?_) (fun h2 => ?_)
    · have e : mayE n a k = 3 := by unfold mayE; rw [if_neg h1, if_pos (by omega)]
      rw [e]
      exact fin_ret (rvs_v (rvs_nil _)) ⟨List.prefix_refl _, rfl, List.prefix_refl _⟩
    repeat first
    | refine vb_ld h rfl ?_
    | with_reducible refine vb_i (gtr64 _ _ _) ?_
    refine isB_c (fun h3 => ?_) (fun h3 => ?_)
    · have e : mayE n a k = 3 := by unfold mayE; rw [if_neg h1, if_pos (by omega)]
      rw [e]
      exact fin_ret (rvs_v (rvs_nil _)) ⟨List.prefix_refl _, rfl, List.prefix_refl _⟩
    repeat first
    | refine vb_ld h rfl ?_
    | with_reducible refine vb_i (gtr64 _ _ _) ?_
    | ((with_reducible refine vb_i (sub64 ?_ ?_) ?_); (· omega); (· omega))
    refine isB_c (fun h4 => ?_) (fun h4 => ?_)
    · have e : mayE n a k = 3 := by unfold mayE; rw [if_neg h1, if_pos (by omega)]
      rw [e]
      exact fin_ret (rvs_v (rvs_nil _)) ⟨List.prefix_refl _, rfl, List.prefix_refl _⟩
    · have e : mayE n a k = 0 := by unfold mayE; rw [if_neg h1, if_neg (by omega)]
      rw [e]
      exact fin_ret (rvs_v (rvs_nil _)) ⟨List.prefix_refl _, rfl, List.prefix_refl _⟩)
  exact ⟨C, h, k⟩
theorem may_nil {a k : AVal} : ∃ C, S_flat_Flat_may [.nilp, a, k] B (.int .i64 1) C ∧ B <+: C := by
  obtain ⟨r, C, h, rfl, k⟩ := flat_Flat_may.out (x0 := .nilp) (x1 := a) (x2 := k) (H := B) (Q := fun r C => r = .int .i64 1 ∧ B <+: C) (by
    unfold flat_Flat_may.w
    repeat first
    | with_reducible refine isB_T ?_
    | with_reducible refine vb_i (e_nilNil _) ?_
    exact fin_ret (rvs_v (rvs_nil _)) ⟨List.prefix_refl _, rfl, List.prefix_refl _⟩)
  exact ⟨C, h, k⟩
theorem data_spec {p n : Nat} {lv : AVal} {a : Int} {d : List UInt8} (h : B[p]? = some (.cells 0 .exact [.int .i64 n, lv])) (hn : n ≤ 64) (hd : d.length ≤ 1099511627776) : ∃ C, S_flat_Flat_data [.ptr ⟨p, 0, 0⟩, .int .i64 a, .str d] B (.int .i64 (dataE n a d)) C ∧ B <+: C := by
  obtain ⟨r, C, h, rfl, k⟩ := flat_Flat_data.out (x0 := .ptr ⟨p, 0, 0⟩) (x1 := .int .i64 a) (x2 := .str d) (H := B) (Q := fun r C => r = .int .i64 (dataE n a d) ∧ B <+: C) (by
    unfold flat_Flat_data.w
    refine JoinP.mk (fun e vs D => B = D ∧ ((e = .ret ∧ vs = [.int .i64 2] ∧ d.length % 48 ≠ 0) ∨ (e = .normal ∧ d.length % 48 = 0))) ?_ ?_
    · repeat first
      | with_reducible refine isB_T ?_
      | with_reducible refine vb_i (neq64 _ _ _) ?_
      | ((with_reducible refine vb_i (rem64 ?_ ?_) ?_); (· omega); (· omega))
      | with_reducible refine vb_i (e_lenSt _) ?_
      | with_reducible refine vb_i (e_ptrNilN _ _) ?_
      refine isB_c (fun h1 => ?_) (fun h1 => ?_)
      · exact ⟨rfl, .inl ⟨rfl, rfl, by omega⟩⟩
      · exact ⟨rfl, .inr ⟨rfl, by omega⟩⟩
    rintro _ _ _ ⟨rfl, ⟨rfl, rfl, h1⟩ | ⟨rfl, h1⟩⟩
    · repeat first
      | with_reducible refine onE_i ?_
      | ((with_reducible refine onE_s ?_ ?_); (· decide))
      try simp only [evB]
      have e : dataE n a d = 2 := if_pos h1
      rw [e]
      exact fin_ret (rvs_v (rvs_nil _)) ⟨List.prefix_refl _, rfl, List.prefix_refl _⟩
    · repeat first
      | with_reducible refine onE_i ?_
      | ((with_reducible refine vb_i (quo64 ?_ ?_ ?_) ?_); (· omega); (· omega); (· omega))
      | with_reducible refine vb_i (e_lenSt _) ?_
      have e : dataE n a d = mayE n a (d.length / 48 : Nat) := if_neg (by omega)
      rw [e, show (d.length : Int) / 48 = ((d.length / 48 : Nat) : Int) by omega]
      obtain ⟨C, hc, hp⟩ := may_spec (a := a) (k := (d.length / 48 : Nat)) h hn
      refine cb_i _ _ hc ?_
      exact fin_ret (rvs_v (rvs_nil _)) ⟨hp, rfl, hp⟩)
  exact ⟨C, h, k⟩
theorem data_nil {a : AVal} {d : List UInt8} (hd : d.length ≤ 1099511627776) : ∃ C, S_flat_Flat_data [.nilp, a, .str d] B (.int .i64 1) C ∧ B <+: C := by
  obtain ⟨r, C, h, rfl, k⟩ := flat_Flat_data.out (x0 := .nilp) (x1 := a) (x2 := .str d) (H := B) (Q := fun r C => r = .int .i64 1 ∧ B <+: C) (by
    unfold flat_Flat_data.w
    refine JoinP.mk (fun e vs D => B = D ∧ e = .normal) ?_ ?_
    · repeat first
      | with_reducible refine isB_F ?_
      | with_reducible refine vb_i (e_nilNilN _) ?_
      exact ⟨rfl, rfl⟩
    rintro _ _ _ ⟨rfl, rfl⟩
    repeat first
    | with_reducible refine onE_i ?_
    | ((with_reducible refine vb_i (quo64 ?_ ?_ ?_) ?_); (· omega); (· omega); (· omega))
    | with_reducible refine vb_i (e_lenSt _) ?_
    obtain ⟨C, hc, hp⟩ := may_nil (B := B) (a := a) (k := .int .i64 ((d.length : Int) / 48))
    refine cb_i _ _ hc ?_
    exact fin_ret (rvs_v (rvs_nil _)) ⟨hp, rfl, hp⟩)
  exact ⟨C, h, k⟩
theorem last_spec {cv sv : AVal} {n : Nat} {svs : List AVal} (hv : View B cv 1 n svs) (h0 : 0 < n) (hn : n ≤ 1099511627776) (hs : svs[n - 1]? = some sv) : ∃ C, S_flat_chain_last [cv] B sv C ∧ B <+: C := by
  obtain ⟨r, C, h, rfl, k⟩ := flat_chain_last.out (x0 := cv) (H := B) (Q := fun r C => r = sv ∧ B <+: C) (by
    unfold flat_chain_last.w
    refine vb_len hv ?_
    repeat first
    | ((with_reducible refine vb_i (sub64 ?_ ?_) ?_); (· omega); (· omega))
    | ((with_reducible apply vb_addr); (· first | exact hs.o0.view | exact hs.o1.view | exact hs.o2.view | exact hs.o3.view | exact hs.o4.view | exact hs.o5.view | exact hs.o6.view | exact hs.rv hv | exact hs.rv hv2 | exact hs.rv hv3 | exact hs.rv hv4 | exact hs.view hkv hko | assumption); (· omega); (· omega))
    rw [show ((n : Int) - 1).toNat = n - 1 by omega]
    refine vb_el0 hv hs ?_
    exact fin_ret (rvs_v (rvs_nil _)) ⟨List.prefix_refl _, rfl, List.prefix_refl _⟩)
  exact ⟨C, h, k⟩
theorem cloneS_spec {x : AVal} {s : St} (hv : View B x 1 s.length (strs s)) (h0 : 0 < s.length) (hn : s.length ≤ 1099511627776) :
    ∃ sv C, S_slices_Clone_flat_state_string [x] B sv C ∧ B <+: C ∧ Sep B (fun _ => False) C [.sl sv 1 s.length (strs s)] := by
  obtain ⟨r, C, h, k1, k⟩ := slices_Clone_flat_state_string.out (x0 := x) (H := B) (Q := fun sv C => Sep B (fun _ => False) C [.sl sv 1 s.length (strs s)] ∧ B <+: C) (by
    unfold slices_Clone_flat_state_string.w
    have hs : Sep B (fun _ => False) B [] := Sep.start B
    refine vb_i (v := .bool false) ?_ ?_
    · obtain ⟨_, ⟨rfl, e⟩ | ⟨i, v, off, c, kd, cs', rfl, _⟩⟩ := hv
      · omega
      · rfl
    refine isB_Fa rfl ?_
    refine s_row hs (cs := []) (by rfl) ?_
    intro i D _ hs
    have hs := s_own hs (n := 0) (es := 1) rfl
    refine s_appv hs (by decide) (hs.view hv (fun _ _ h => h)) (map_cell (fun _ => rfl) _) (by unfold room; omega) (by unfold room; omega) ?_
    intro s1 D1 hs
    have hp := hs.pre fun _ x => x
    rw [Nat.zero_add, List.nil_append] at hs
    exact fin_ret (rvs_v (rvs_nil _)) ⟨hp, hs, hp⟩)
  exact ⟨r, C, h, k, k1⟩
theorem eqS_spec {x y : AVal} {l k : St} (hv : View B x 1 l.length (strs l)) (hv2 : View B y 1 k.length (strs k)) (hl : l.length ≤ 9223372036854775807) :
    ∃ C, S_flat_state_same [x, y] B (.bool (decide (l = k))) C ∧ B <+: C := by
  obtain ⟨C, hc, hp⟩ : ∃ C, S_slices_Equal_flat_state_string [x, y] B (.bool (decide (l = k))) C ∧ B <+: C := by
    obtain ⟨r, C, h, rfl, k⟩ := slices_Equal_flat_state_string.out (x0 := x) (x1 := y) (H := B) (Q := fun r C => r = .bool (decide (l = k)) ∧ B <+: C) (by
      unfold slices_Equal_flat_state_string.w
      have hs : Sep B (fun _ => False) B [] := Sep.start B
      repeat first
      | with_reducible refine vb_i (neq64 _ _ _) ?_
      | ((with_reducible apply vb_len); (· first | exact hs.o0.view | exact hs.o1.view | exact hs.o2.view | exact hs.o3.view | exact hs.o4.view | exact hs.o5.view | exact hs.o6.view | exact hs.rv hv | exact hs.rv hv2 | exact hs.rv hv3 | exact hs.rv hv4 | exact hs.view hkv hko | assumption))
      by_cases hlk : l.length = k.length
      · repeat first
        | ((with_reducible refine isB_cf ?_ ?_); (· omega))
        | ((with_reducible apply vb_len); (· first | exact hs.o0.view | exact hs.o1.view | exact hs.o2.view | exact hs.o3.view | exact hs.o4.view | exact hs.o5.view | exact hs.o6.view | exact hs.rv hv | exact hs.rv hv2 | exact hs.rv hv3 | exact hs.rv hv4 | exact hs.view hkv hko | assumption))
        refine LoopP.ruleG (α := Nat) (fun j => [.int .i64 (j : Int)]) (fun j C => (j ≤ l.length ∧ upSame l k j) ∧ B = C) (fun j => l.length - j) 0 (by simp) ⟨⟨by omega, by simp [upSame]⟩, rfl⟩ ?_
        rintro j C Kn ⟨⟨hj, hu⟩, rfl⟩ hk
        unfold slices_Equal_flat_state_string.L4 slices_Equal_flat_state_string.L4.b
        try simp only [evB]
        by_cases hjn : j < l.length
        · have hx := strs_at hjn
          have hx2 := strs_at (l := k) (j := j) (by omega)
          repeat first
          | ((with_reducible refine isB_ct ?_ ?_); (· omega))
          | with_reducible refine vb_i (lss64 _ _ _) ?_
          | with_reducible refine vb_i (neqs _ _) ?_
          | ((with_reducible apply vb_addrN); (· first | exact hs.o0.view | exact hs.o1.view | exact hs.o2.view | exact hs.o3.view | exact hs.o4.view | exact hs.o5.view | exact hs.o6.view | exact hs.rv hv | exact hs.rv hv2 | exact hs.rv hv3 | exact hs.rv hv4 | exact hs.view hkv hko | assumption); (· omega))
          | ((with_reducible apply vb_el0); (· first | exact hs.o0.view | exact hs.o1.view | exact hs.o2.view | exact hs.o3.view | exact hs.o4.view | exact hs.o5.view | exact hs.o6.view | exact hs.rv hv | exact hs.rv hv2 | exact hs.rv hv3 | exact hs.rv hv4 | exact hs.view hkv hko | assumption); (· first | exact hx | exact hx2 | assumption))
          refine isB_c (fun h1 => ?_) (fun h1 => ?_)
          · repeat first
            | with_reducible refine onE_i ?_
            | ((with_reducible refine onE_s ?_ ?_); (· decide))
            try simp only [evB]
            have : ¬ l = k := fun e => h1 (by rw [e])
            rw [decide_eq_false this]
            exact fin_ret (rvs_v (rvs_nil _)) ⟨List.prefix_refl _, rfl, List.prefix_refl _⟩
          · have h1 := Decidable.not_not.1 h1
            repeat first
            | ((with_reducible refine vb_i (add64 ?_ ?_) ?_); (· omega); (· omega))
            exact hk (j + 1) _ ⟨⟨by omega, upSame_step hu (getD_some hjn) (by rw [h1]; exact getD_some (by omega))⟩, rfl⟩ (by omega)
        · obtain rfl : j = l.length := by omega
          repeat first
          | ((with_reducible refine isB_cf ?_ ?_); (· omega))
          | with_reducible refine onE_i ?_
          | with_reducible refine vb_i (lss64 _ _ _) ?_
          try simp only [evB]
          rw [decide_eq_true (upSame_end hu hlk)]
          exact fin_ret (rvs_v (rvs_nil _)) ⟨List.prefix_refl _, rfl, List.prefix_refl _⟩
      · repeat first
        | ((with_reducible refine isB_ct ?_ ?_); (· omega))
        have : ¬ l = k := fun e => hlk (by rw [e])
        rw [decide_eq_false this]
        exact fin_ret (rvs_v (rvs_nil _)) ⟨List.prefix_refl _, rfl, List.prefix_refl _⟩)
    exact ⟨C, h, k⟩
  obtain ⟨r, C, h, rfl, k⟩ := flat_state_same.out (x0 := x) (x1 := y) (H := B) (Q := fun r C => r = .bool (decide (l = k)) ∧ B <+: C) (by
    unfold flat_state_same.w
    refine cb_i _ _ hc ?_
    exact fin_ret (rvs_v (rvs_nil _)) ⟨hp, rfl, hp⟩)
  exact ⟨C, h, k⟩
theorem part_spec {x : AVal} {s : St} {a n : Nat} (hv : View B x 1 s.length (strs s)) (hn : a + n ≤ s.length) (hl : s.length ≤ 1024) (hb : ∀ b ∈ s, b.length = 48) :
    ∃ C, S_flat_state_part [x, .int .i64 (a : Int), .int .i64 (n : Int)] B (.str (partS s a n)) C ∧ B <+: C := by
  obtain ⟨r, C, h, rfl, k⟩ := flat_state_part.out (x0 := x) (x1 := .int .i64 (a : Int)) (x2 := .int .i64 (n : Int)) (H := B) (Q := fun r C => r = .str (partS s a n) ∧ B <+: C) (by
    unfold flat_state_part.w
    repeat first
    | ((with_reducible refine vb_i (add64 ?_ ?_) ?_); (· omega); (· omega))
    obtain ⟨w, g1, g2, _⟩ := slice_view (l := some (.int .i64 (a : Int))) (h := some (.int .i64 ((a : Int) + n))) hv (lo := a) (hi := a + n) (by simp [bnd]) (by simp [bnd]; omega) (by omega) hn
    refine vb_i g1 ?_
    have e : (List.drop (a * 1) (strs s)).take ((a + n - a) * 1) = strs ((s.take (a + n)).drop a) := by
      unfold strs
      rw [Nat.mul_one, Nat.mul_one, List.map_drop, List.map_take, List.drop_take]
    rw [e] at g2
    have hlen : ((s.take (a + n)).drop a).length = a + n - a := by rw [List.length_drop, List.length_take]; omega
    have hfl := flat48 (s := (s.take (a + n)).drop a) (fun b hb' => hb b (List.mem_of_mem_take (List.mem_of_mem_drop hb')))
    rw [← hlen] at g2
    refine cb_i _ _ ⟨rfl, w, [], (s.take (a + n)).drop a, rfl, g2, by omega, by rw [join_flat]; omega, rfl⟩ ?_
    rw [join_flat]
    exact fin_ret (rvs_v (rvs_nil _)) ⟨List.prefix_refl _, rfl, List.prefix_refl _⟩)
  exact ⟨C, h, k⟩
end
end Go.Sh

/- A state with other blocks; a world with one state more. -/
namespace Go.Sh
open Go Go.Abs

theorem blocks_get {d : List UInt8} {j : Nat} (h : j < d.length / 48) : (blocksOf d)[j]? = some ((d.take (48 * (j + 1))).drop (48 * j)) := by
  unfold blocksOf
  rw [List.getElem?_map, List.getElem?_range h]
  rfl
theorem blocks_length (d : List UInt8) : (blocksOf d).length = d.length / 48 := by simp [blocksOf]
/-- The first so many blocks are there. -/
def withJ (s : St) (a : Nat) (d : List UInt8) (j : Nat) : St := s.take a ++ (blocksOf d).take j ++ s.drop (a + j)
theorem withJ_len {s : St} {a j : Nat} {d : List UInt8} (h : a + j ≤ s.length) (hj : j ≤ d.length / 48) : (withJ s a d j).length = s.length := by
  unfold withJ
  simp only [List.length_append, List.length_take, List.length_drop, blocks_length]
  omega
theorem withJ_step {s : St} {a j : Nat} {d : List UInt8} (h : a + j < s.length) (hj : j < d.length / 48) : (withJ s a d j).set (a + j) ((d.take (48 * (j + 1))).drop (48 * j)) = withJ s a d (j + 1) := by
  unfold withJ
  rw [List.take_add_one, blocks_get hj]
  have e1 : (s.take a).length = a := by rw [List.length_take]; omega
  have e2 : ((blocksOf d).take j).length = j := by rw [List.length_take, blocks_length]; omega
  rw [List.set_append_right _ _ (by rw [List.length_append]; omega), List.length_append, e1, e2, Nat.sub_self, List.drop_eq_getElem_cons h, List.set_cons_zero]
  simp [Nat.add_assoc]
section
variable {B : AHeap}
theorem with_spec {x : AVal} {n a : Nat} {s : St} {d : List UInt8} (hv : View B x 1 s.length (strs s)) (hs0 : okSt n s) (hn : n ≤ 64) (h0 : 0 < n) (hd : a + d.length / 48 ≤ n) :
    ∃ sv C, S_flat_state_with [x, .int .i64 (a : Int), .str d] B sv C ∧ B <+: C ∧ Sep B (fun _ => False) C [.sl sv 1 (withS s a d).length (strs (withS s a d))] := by
  obtain ⟨h1, h2⟩ := hs0
  obtain ⟨r, C, h, k1, k⟩ := flat_state_with.out (x0 := x) (x1 := .int .i64 (a : Int)) (x2 := .str d) (H := B) (Q := fun sv C => Sep B (fun _ => False) C [.sl sv 1 (withS s a d).length (strs (withS s a d))] ∧ B <+: C) (by
    unfold flat_state_with.w
    obtain ⟨sv, C, hc, hp, hs⟩ := cloneS_spec hv (by omega) (by omega)
    refine cb_i _ _ hc ?_
    refine LoopP.ruleG (α := Nat) (fun j => [.int .i64 (j : Int)]) (fun j D => j ≤ d.length / 48 ∧ Sep B (fun _ => False) D [.sl sv 1 s.length (strs (withJ s a d j))]) (fun j => d.length / 48 - j) 0 (by simp) ⟨Nat.zero_le _, by simpa [withJ] using hs⟩ ?_
    clear hs hc hp
    rintro j D Kn ⟨hj, hs⟩ hk
    unfold flat_state_with.L3 flat_state_with.L3.b
    try simp only [evB]
    repeat first
    | with_reducible refine vb_i (lss64 _ _ _) ?_
    | ((with_reducible refine vb_i (quo64 ?_ ?_ ?_) ?_); (· omega); (· omega); (· omega))
    | with_reducible refine vb_i (e_lenSt _) ?_
    refine isB_c (fun h3 => ?_) (fun h3 => ?_)
    · repeat first
      | ((with_reducible refine vb_i (add64 ?_ ?_) ?_); (· omega); (· omega))
      | ((with_reducible refine vb_i (mul64 ?_ ?_) ?_); (· omega); (· omega))
      refine vb_i (e_sliceStr (by omega) (by omega) (by omega)) ?_
      rw [show (48 * ((j : Int) + 1)).toNat = 48 * (j + 1) by omega, show (48 * (j : Int)).toNat = 48 * j by omega]
      rw [show ((a : Int) + (j : Int)) = ((a + j : Nat) : Int) by omega]
      refine vb_addrN hs.o0.view (by omega) ?_
      refine s_el0 hs (by omega) rfl ?_
      intro D2 hs
      repeat first
      | ((with_reducible refine vb_i (add64 ?_ ?_) ?_); (· omega); (· omega))
      refine hk (j + 1) _ ⟨by omega, ?_⟩ (by omega)
      have e : (strs (withJ s a d j)).set (a + j) (.str ((d.take (48 * (j + 1))).drop (48 * j))) = strs (withJ s a d (j + 1)) := by
        unfold strs
        rw [← withJ_step (by omega) (by omega), List.map_set]
      rw [e] at hs
      exact hs
    · obtain rfl : j = d.length / 48 := by omega
      repeat first
      | with_reducible refine onE_i ?_
      have hp := hs.pre fun _ x => x
      have e : withJ s a d (d.length / 48) = withS s a d := by unfold withJ withS; rw [List.take_of_length_le (l := blocksOf d) (by rw [blocks_length]; exact Nat.le_refl _)]
      have hl := (with_ok (a := a) (d := d) ⟨h1, h2⟩ hd).1
      rw [e] at hs
      exact fin_ret (rvs_v (rvs_nil _)) ⟨hp, by rw [hl, ← h1]; exact hs, hp⟩)
  exact ⟨r, C, h, k, k1⟩
theorem view_rd {B : AHeap} {r : Ref} {n es : Nat} {c : Cap} {cs : List AVal} (h : View B (.slice r n c) es n cs) (h0 : 0 < n) : rdCells B r (n * es) = some cs := by
  obtain ⟨_, ⟨e, _⟩ | ⟨i, v, off, cp, kd, cs', e, h3, h4, h5, _⟩⟩ := h
  · cases e
  · cases e
    rw [rd_of (r := ⟨i, v, off⟩) h3 rfl (pos_mul h4), h5]
theorem grow_full {D : AHeap} {w sv : AVal} {m q : Nat} {svs : List AVal} (hw : View D w 1 m svs) (hc : w = .nils ∨ ∃ r, w = .slice r m (.ex m)) (h0 : 0 < m) (hm : m ≤ 1099511627776) (hq : D[q]? = some (.cells 0 .exact [sv])) :
    aAppendS D 1 24 w (.slice ⟨q, 0, 0⟩ 1 (.ex 1)) = some (.slice ⟨D.length, 0, 0⟩ (m + 1) (.op 1), D ++ [.cells 0 .opn (svs ++ [sv])]) := by
  rw [append_row hq rfl]
  rcases hc with rfl | ⟨r, rfl⟩
  · obtain ⟨_, ⟨_, e⟩ | ⟨_, _, _, _, _, _, e, _⟩⟩ := hw
    · omega
    · cases e
  · have hr := view_rd hw h0
    simp only [aAppendTo]
    rw [if_neg (by decide), if_neg (by omega), if_pos ⟨by unfold room; omega, by unfold room; omega⟩, hr]
theorem more_spec {I : List Nat} {cv : AVal} {c : Wd} {n p1 p3 : Nat} {a : Nat} {d : List UInt8} (hw : WdAt I B cv c) (hc : okWd n c) (hn : n ≤ 64) (h0 : 0 < n) (hl : c.length ≤ 1099511627776) (hp1 : B[p1]? = some (.cells 0 .exact [.int .i64 (a : Int)])) (hp3 : B[p3]? = some (.cells 0 .exact [.str d])) (hd : a + d.length / 48 ≤ n) :
    ∃ cv' C, S_flat_Flat_Write_1 [cv, .ptr ⟨p1, 0, 0⟩, .ptr ⟨p3, 0, 0⟩] B cv' C ∧ B <+: C ∧ WdAt (I ++ newIds B C) C cv' (c ++ [withS (lastS c) a d]) := by
  obtain ⟨hne, hok⟩ := hc
  have hcl := List.length_pos_iff.2 hne
  obtain ⟨r, C, h, k1, k⟩ := flat_Flat_Write_1.out (x0 := cv) (x1 := .ptr ⟨p1, 0, 0⟩) (x2 := .ptr ⟨p3, 0, 0⟩) (H := B) (Q := fun cv' C => WdAt (I ++ newIds B C) C cv' (c ++ [withS (lastS c) a d]) ∧ B <+: C) (by
    unfold flat_Flat_Write_1.w
    obtain ⟨hcv, svs, hv, hall⟩ := hw
    have hs : Sep B (fun _ => False) B [] := Sep.start B
    refine vb_len hv ?_
    refine vb_len hv ?_
    obtain ⟨w, g1, g2, g3, g4⟩ := slice_full (h := some (.int .i64 (c.length : Int))) (m := some (.int .i64 (c.length : Int))) hv (hi := c.length) (fun d => by simp [bnd]) (fun d => by simp [bnd]) rfl (Nat.le_refl _) (.inl hcl)
    refine vb_i g1 ?_
    rw [Nat.mul_one, List.take_of_length_le (by have := hv.1; omega)] at g2
    obtain ⟨sv, e1, hsv⟩ := hall _ _ (last_get hne)
    obtain ⟨C1, hc1, hp⟩ := last_spec hv hcl hl e1
    refine cb_i _ _ hc1 ?_
    have hs := hs.quiet hp
    refine vb_ld (x := .int .i64 (a : Int)) (by rw [pre_get hp (lt_of_some hp1)]; exact hp1) rfl ?_
    refine vb_ld (x := .str d) (by rw [pre_get hp (lt_of_some hp3)]; exact hp3) rfl ?_
    have hlast := hok _ (last_mem' hne)
    obtain ⟨sv', C2, hc2, hp2, hk2⟩ := with_spec (v_pre hsv.1 hp) hlast hn h0 hd
    refine cb_i _ _ hc2 ?_
    have hs := Sep.call01 hs (hk2.own_of fun _ h => h.elim)
    have hsc := view_sc hs.o0.view
    refine s_row hs (cs := [sv']) (by simp (disch := first | assumption | decide) only [evF, evS, fillCells]; rfl) ?_
    intro q D _ hs
    have hpD := hs.pre fun _ x => x
    have hq := hs.g0
    refine hb_i (grow_full (v_pre g2 hpD) g4 hcl hl hq) ?_
    have hpC : B <+: D ++ [.cells 0 .opn (svs ++ [sv'])] := pre_push hpD _
    have hI : ∀ i ∈ I, i ∈ I ++ newIds B (D ++ [.cells 0 .opn (svs ++ [sv'])]) := fun i hi => List.mem_append_left _ hi
    have hvl := hv.1
    refine fin_ret (rvs_v (rvs_nil _)) ⟨hpC, ⟨?_, svs ++ [sv'], ?_, fun k s hk => ?_⟩, hpC⟩
    · intro i hi
      cases hi
      exact List.mem_append_right _ (mem_new.2 ⟨hpD.length_le, by simp⟩)
    · have e : (c ++ [withS (lastS c) a d]).length = c.length + 1 := by simp
      rw [e]
      refine ⟨by simp; omega, .inr ⟨D.length, 0, 0, .op 1, .opn, svs ++ [sv'], rfl, by simp, fun _ => by simp; omega, ?_, rfl⟩⟩
      rw [List.drop_zero, List.take_of_length_le (by simp; omega)]
    · by_cases hkc : k < c.length
      · rw [List.getElem?_append_left hkc] at hk
        obtain ⟨sv2, q1, q2⟩ := hall k s hk
        exact ⟨sv2, by rw [List.getElem?_append_left (lt_some q1)]; exact q1, (q2.pre hpC).mono hI⟩
      · have hke : k = c.length := by have := lt_some hk; simp at this; omega
        subst hke
        rw [List.getElem?_append_right (Nat.le_refl _), Nat.sub_self] at hk
        cases hk
        refine ⟨sv', by rw [List.getElem?_append_right (by omega), hvl, Nat.mul_one, Nat.sub_self]; rfl, v_pre hs.o1.view (pre_app _ _), fun i hi => ?_⟩
        have hm := hs.mine _ (List.mem_cons_of_mem _ List.mem_cons_self) i (by simp only [Part.sl, hi]; simp)
        rcases hm with hm | hm
        · refine List.mem_append_right _ (mem_new.2 ⟨hm, ?_⟩)
          have := Own.lt hs.o1 hi
          simp; omega
        · exact hm.elim)
  exact ⟨r, C, h, k, k1⟩
end
end Go.Sh

/- A model is written to. -/
namespace Go.Sh
open Go Go.Abs

def rowOf {α : Type} (L : List (AVal × α)) (cvs : List AVal) (W : List α) : Prop := cvs.length = W.length ∧ ∀ (k : Nat) cv c, cvs[k]? = some cv → W[k]? = some c → (cv, c) ∈ L
/-- A model: how many blocks, and its row of worlds. -/
def flP (p n : Nat) (lv : AVal) (cvs : List AVal) : Part := (Part.obj p (.cells 0 .exact [.int .i64 n, lv])).and (Part.sl lv 1 cvs.length cvs)
section
variable {α : Type}
theorem rowOf.mono {L L' : List (AVal × α)} {cvs : List AVal} {W : List α} (h : rowOf L cvs W) (e : ∀ q ∈ L, q ∈ L') : rowOf L' cvs W := ⟨h.1, fun k cv c h1 h2 => e _ (h.2 k cv c h1 h2)⟩
theorem rowOf.get {L : List (AVal × α)} {cvs : List AVal} {W : List α} (h : rowOf L cvs W) {k : Nat} {c : α} (hc : W[k]? = some c) : ∃ cv, cvs[k]? = some cv ∧ (cv, c) ∈ L := by
  have hk : k < cvs.length := by rw [h.1]; exact lt_some hc
  exact ⟨_, List.getElem?_eq_getElem hk, h.2 k _ c (List.getElem?_eq_getElem hk) hc⟩
theorem rowOf.set {L L' : List (AVal × α)} {cvs : List AVal} {W : List α} (h : rowOf L cvs W) (e : ∀ q ∈ L, q ∈ L') {j : Nat} {cv : AVal} {c : α} (hm : (cv, c) ∈ L') : rowOf L' (cvs.set j cv) (W.set j c) := by
  refine ⟨by simp [h.1], fun k cv' c' h1 h2 => ?_⟩
  by_cases hkj : j = k
  · subst hkj
    have l1 : j < cvs.length := by have := lt_some h1; simpa using this
    have l2 : j < W.length := by have := lt_some h2; simpa using this
    rw [List.getElem?_set_self l1] at h1
    rw [List.getElem?_set_self l2] at h2
    cases h1; cases h2
    exact hm
  · rw [List.getElem?_set_ne hkj] at h1 h2
    exact e _ (h.2 k cv' c' h1 h2)
theorem rowOf.push {L L' : List (AVal × α)} {cvs : List AVal} {W : List α} (h : rowOf L cvs W) (e : ∀ q ∈ L, q ∈ L') {cv : AVal} {c : α} (hm : (cv, c) ∈ L') : rowOf L' (cvs ++ [cv]) (W ++ [c]) := by
  refine ⟨by simp [h.1], fun k cv' c' h1 h2 => ?_⟩
  by_cases hk : k < W.length
  · rw [List.getElem?_append_left (by rw [h.1]; exact hk)] at h1
    rw [List.getElem?_append_left hk] at h2
    exact e _ (h.2 k cv' c' h1 h2)
  · have hke : k = W.length := by have := lt_some h2; simp at this; omega
    subst hke
    rw [List.getElem?_append_right (Nat.le_refl _), Nat.sub_self] at h2
    rw [List.getElem?_append_right (by rw [h.1]; exact Nat.le_refl _), h.1, Nat.sub_self] at h1
    cases h1; cases h2
    exact hm
theorem rowOf.nil (L : List (AVal × α)) : rowOf L [] [] := ⟨rfl, fun _ _ _ h => by simp at h⟩
end
def mixW (f : Wd → Wd) (W : List Wd) (j : Nat) : List Wd := (W.take j).map f ++ W.drop j
theorem mix_at {f : Wd → Wd} {W : List Wd} {j : Nat} {c : Wd} (h : W[j]? = some c) : (mixW f W j)[j]? = some c := by
  have hj := lt_some h
  unfold mixW
  rw [List.getElem?_append_right (by rw [List.length_map, List.length_take]; omega), List.length_map, List.length_take, Nat.min_eq_left (by omega), Nat.sub_self, List.getElem?_drop, Nat.add_zero]
  exact h
theorem mix_step {f : Wd → Wd} {W : List Wd} {j : Nat} {c : Wd} (h : W[j]? = some c) : (mixW f W j).set j (f c) = mixW f W (j + 1) := by
  obtain ⟨hj, rfl⟩ := List.getElem?_eq_some_iff.1 h
  unfold mixW
  rw [List.set_append_right _ _ (by rw [List.length_map, List.length_take]; omega), List.length_map, List.length_take, Nat.min_eq_left (by omega), Nat.sub_self, List.drop_eq_getElem_cons hj, List.set_cons_zero, List.take_add_one, h, List.map_append]
  simp only [Option.toList_some, List.map_cons, List.map_nil, List.append_assoc, List.cons_append, List.nil_append]
theorem mix_all' (f : Wd → Wd) (W : List Wd) : mixW f W W.length = W.map f := by unfold mixW; simp
theorem mix_none (f : Wd → Wd) (W : List Wd) : mixW f W 0 = W := by unfold mixW; simp
theorem len_total {W : List Wd} {c : Wd} (h : c ∈ W) : c.length ≤ total W := by
  unfold total
  induction W with
  | nil => cases h
  | cons x W ih =>
    simp only [List.flatten_cons, List.length_append]
    rcases List.mem_cons.1 h with rfl | h
    · omega
    · have := ih h; omega
section
variable {H0 B : AHeap} {own : Nat → Prop} {R : List Part} {I : List Nat} {L : List (AVal × Wd)} {W : List Wd} {p n : Nat} {lv : AVal} {cvs : List AVal}
theorem flat_open (h : Sep H0 own B (flP p n lv cvs :: R)) : Sep H0 own B (.obj p (.cells 0 .exact [.int .i64 n, lv]) :: .sl lv 1 cvs.length cvs :: R) := h.split
theorem flat_shut (h : Sep H0 own B (.obj p (.cells 0 .exact [.int .i64 n, lv]) :: .sl lv 1 cvs.length cvs :: R)) : Sep H0 own B (flP p n lv cvs :: R) := h.join
theorem row_cells (hr : rowOf L cvs W) (hf : ∀ q ∈ L, WdAt I B q.1 q.2) : cvs.all AVal.isCell = true := by
  rw [List.all_eq_true]
  intro cv hcv
  obtain ⟨k, hk, e⟩ := List.getElem_of_mem hcv
  have h1 : cvs[k]? = some cv := by rw [← e]; exact List.getElem?_eq_getElem hk
  have h2 := List.getElem?_eq_getElem (l := W) (i := k) (by rw [← hr.1]; exact hk)
  exact sc_cell (hf _ (hr.2 k cv _ h1 h2)).sc
theorem write_flat {a : Int} {d : List UInt8} (hs : Sep H0 own B (flP p n lv cvs :: frozP I L :: R)) (hr : rowOf L cvs W) (hW : okAll n W) (hn : n ≤ 64) (h0 : 0 < n) (hT : total W ≤ 1099511627776) (hd : d.length ≤ 1099511627776) :
    ∃ cvs' I' L' C, S_flat_Flat_Write [.ptr ⟨p, 0, 0⟩, .int .i64 a, .str d] B (.int .i64 (dataE n a d)) C ∧ Sep H0 own C (flP p n lv cvs' :: frozP I' L' :: R) ∧ rowOf L' cvs' (if dataE n a d = 0 then writeW W a.toNat d else W) ∧ (∀ q ∈ L, q ∈ L') := by
  obtain ⟨r, C, h, rfl, cvs', I', L', k1, k2, k3⟩ := flat_Flat_Write.out (x0 := .ptr ⟨p, 0, 0⟩) (x1 := .int .i64 a) (x2 := .str d) (H := B) (Q := fun r C => r = .int .i64 (dataE n a d) ∧ ∃ cvs' I' L', Sep H0 own C (flP p n lv cvs' :: frozP I' L' :: R) ∧ rowOf L' cvs' (if dataE n a d = 0 then writeW W a.toNat d else W) ∧ (∀ q ∈ L, q ∈ L')) (by
    unfold flat_Flat_WriteV.w
    have hs := flat_open hs
    have hWl := total_len hW
    refine s_box hs rfl ?_
    intro p1 C1 _ hs
    simp only [AVal.cells] at hs
    refine s_box hs rfl ?_
    intro p3 C3 _ hs
    simp only [AVal.cells] at hs
    refine vb_ld (x := .int .i64 a) hs.g1 rfl ?_
    refine vb_ld (x := .str d) hs.g0 rfl ?_
    obtain ⟨C4, hc, hp⟩ := data_spec (a := a) (d := d) hs.g2 hn hd
    refine cb_i _ _ hc ?_
    have hs := hs.quiet hp
    clear hc hp
    repeat first
    | with_reducible refine vb_i (neq64 _ _ _) ?_
    refine isB_c (fun h1 => ?_) (fun h1 => ?_)
    · rw [if_neg h1]
      exact fin_ret (rvs_v (rvs_nil _)) ⟨rfl, cvs, I, L, flat_shut hs.tail.tail, hr, fun _ h => h⟩
    have h1 : dataE n a d = 0 := by omega
    rw [if_pos h1, h1]
    obtain ⟨hd48, hd1, ha0, han⟩ := data_zero h1
    have ea : a = ((a.toNat : Nat) : Int) := by omega
    repeat first
    | refine vb_ld hs.g2 rfl ?_
    | ((with_reducible apply vb_len); (· first | exact hs.o0.view | exact hs.o1.view | exact hs.o2.view | exact hs.o3.view | exact hs.o4.view | exact hs.o5.view | exact hs.o6.view | exact hs.rv hv | exact hs.rv hv2 | exact hs.rv hv3 | exact hs.rv hv4 | exact hs.view hkv hko | assumption))
    refine LoopP.ruleG (α := Nat × List AVal × List Nat × List (AVal × Wd)) (fun q => [.int .i64 (q.1 : Int)]) (fun q D => (q.1 ≤ W.length ∧ rowOf q.2.2.2 q.2.1 (mixW (fun c => c ++ [withS (lastS c) a.toNat d]) W q.1) ∧ ∀ x ∈ L, x ∈ q.2.2.2) ∧
      Sep H0 own D (.obj p3 (.cells 0 .exact [.str d]) :: .obj p1 (.cells 0 .exact [.int .i64 a]) :: .obj p (.cells 0 .exact [.int .i64 n, lv]) :: .sl lv 1 q.2.1.length q.2.1 :: frozP q.2.2.1 q.2.2.2 :: R)) (fun q => W.length - q.1) (0, cvs, I, L) (by simp)
      ⟨⟨Nat.zero_le _, by rw [mix_none]; exact hr, fun _ h => h⟩, hs⟩ ?_
    clear hs
    rintro ⟨j, cvs1, I1, L1⟩ D Kn ⟨⟨hj, hr1, hL1⟩, hs⟩ hk
    simp only at hj hr1 hL1 hs hk
    unfold flat_Flat_WriteV.L6 flat_Flat_WriteV.L6.b
    try simp only [evB]
    have hcl : cvs.length = W.length := hr.1
    have hcl1 : cvs1.length = W.length := by rw [hr1.1]; unfold mixW; simp; omega
    refine vb_i (lss64 _ _ _) ?_
    refine isB_c (fun h2 => ?_) (fun h2 => ?_)
    · have hjW : j < W.length := by omega
      have hb := List.getElem?_eq_getElem hjW
      have hmem := List.getElem_mem hjW
      generalize W[j] = c at hb hmem
      obtain ⟨cv, e1, e2⟩ := hr1.get (mix_at hb)
      have hw := hs.tail.tail.tail.tail.head.2 _ e2
      refine vb_addrN hs.o3.view (by omega) ?_
      refine vb_el0 hs.o3.view e1 ?_
      repeat first
      | refine vb_ld hs.g2 rfl ?_
      have hp1 := hs.g1
      rw [ea] at hp1
      obtain ⟨cv', E, hc, hp, hw'⟩ := more_spec (a := a.toNat) (d := d) hw (hW.2 c hmem) hn h0 (Nat.le_trans (len_total hmem) hT) hp1 hs.g0 han
      refine cb_i _ _ hc ?_
      have hs := froz_grow hs.f4 hp
      have hs := froz_add (L' := [(cv', c ++ [withS (lastS c) a.toNat d])]) hs (fun q hq => by rw [List.mem_singleton] at hq; subst hq; exact hw')
      have hs := hs.f4
      refine vb_addrN hs.o0.view (by omega) ?_
      refine s_el0 hs (by omega) hw'.sc ?_
      intro E2 hs
      repeat first
      | ((with_reducible refine vb_i (add64 ?_ ?_) ?_); (· omega); (· omega))
      refine hk (j + 1, cvs1.set j cv', I1 ++ newIds D E, (cv', c ++ [withS (lastS c) a.toNat d]) :: L1) _ ⟨⟨by simp only; omega, ?_, fun x hx => List.mem_cons_of_mem _ (hL1 x hx)⟩, ?_⟩ (by simp only; omega)
      · simp only
        rw [← mix_step hb]
        exact hr1.set (fun x hx => List.mem_cons_of_mem _ hx) List.mem_cons_self
      · simp only
        rw [List.length_set]
        exact hs.f4.f4.f4
    · obtain rfl : j = W.length := by omega
      repeat first
      | with_reducible refine onE_i ?_
      rw [mix_all'] at hr1
      exact fin_ret (rvs_v (rvs_nil _)) ⟨rfl, cvs1, I1, L1, flat_shut hs.tail.tail, hr1, hL1⟩)
  exact ⟨cvs', I', L', C, h, k1, k2, k3⟩
theorem write_nil {a : AVal} {d : List UInt8} (hd : d.length ≤ 1099511627776) (ha : a.sc = true) : ∃ C, S_flat_Flat_Write [.nilp, a, .str d] B (.int .i64 1) C ∧ B <+: C := by
  obtain ⟨r, C, h, rfl, k⟩ := flat_Flat_Write.out (x0 := .nilp) (x1 := a) (x2 := .str d) (H := B) (Q := fun r C => r = .int .i64 1 ∧ B <+: C) (by
    unfold flat_Flat_WriteV.w
    have hs : Sep B (fun _ => False) B [] := Sep.start B
    refine s_box hs (by cases a <;> simp_all [AVal.sc, AVal.defd]) ?_
    intro p1 C1 _ hs
    rw [sc_cells ha] at hs
    refine s_box hs rfl ?_
    intro p3 C3 _ hs
    simp only [AVal.cells] at hs
    refine vb_ld (x := a) hs.g1 rfl ?_
    refine vb_ld (x := .str d) hs.g0 rfl ?_
    obtain ⟨C4, hc, hp⟩ := data_nil (B := C3) (a := a) (d := d) hd
    refine cb_i _ _ hc ?_
    have hs := hs.quiet hp
    repeat first
    | ((with_reducible refine isB_ct ?_ ?_); (· omega))
    | with_reducible refine vb_i (neq64 _ _ _) ?_
    exact fin_ret (rvs_v (rvs_nil _)) ⟨rfl, hs.pre fun _ x => x⟩)
  exact ⟨C, h, k⟩
end
theorem vb_imp {r : Option AVal} {F G : AVal → Prop} (h : vb r F) (k : ∀ v, F v → G v) : vb r G := by
  cases r with
  | none => exact h
  | some v => exact k v h
theorem hb_imp {r : Option (AVal × AHeap)} {F G : AVal → AHeap → Prop} (h : hb r F) (k : ∀ v H, F v H → G v H) : hb r G := by
  rcases r with _ | ⟨v, H⟩
  · exact h
  · exact k v H h
theorem sb_imp {r : Option AHeap} {F G : AHeap → Prop} (h : sb r F) (k : ∀ H, F H → G H) : sb r G := by
  cases r with
  | none => exact h
  | some v => exact k v h
theorem cb_imp {R : AVal → AHeap → Prop} {F G : AVal → AHeap → Prop} (h : cb R F) (k : ∀ v H, R v H → F v H → G v H) : cb R G := by
  obtain ⟨v, H, h1, h2⟩ := h
  exact ⟨v, H, h1, k v H h1 h2⟩
theorem isB_imp {x : AVal} {F G : Bool → Prop} (h : isB x F) (k : ∀ b, F b → G b) : isB x G := by
  cases x <;> first | exact k _ h | exact h
theorem cond_imp {b : Bool} {A B A' B' : Prop} (h : cond b A B) (k1 : A → A') (k2 : B → B') : cond b A' B' := by
  cases b
  · exact k2 h
  · exact k1 h
theorem onE_imp {e x : AExit} {A B A' B' : Prop} (h : onE e x A B) (k1 : A → A') (k2 : B → B') : onE e x A' B' := by
  by_cases q : e = x
  · subst q
    rw [onE_same] at h ⊢
    exact k1 h
  · have : ∀ X Y, Go.Abs.onE e x X Y = Y := fun X Y => if_neg q
    rw [this] at h ⊢
    exact k2 h
theorem load_pre {H C : AHeap} {b : Bool} {n : Nat} {x v : AVal} (h : aLoad H b n x = some v) (p : H <+: C) : aLoad C b n x = some v := by
  have rd : ∀ (r : Ref) (m : Nat) cs, rdCells H r m = some cs → rdCells C r m = some cs := by
    intro r m cs h
    unfold rdCells at h ⊢
    split at h
    · rename_i w kd c e
      rw [pre_get p (lt_of_some e), e]
      exact h
    · cases h
  unfold aLoad at h ⊢
  split at h
  · rename_i r
    cases hr : rdCells H r (bif b then n else 1) with
    | none => rw [hr] at h; cases h
    | some cs => rw [hr] at h; rw [rd _ _ _ hr]; exact h
  · cases h
/-- A place is read ahead of a call that leaves what is there, or behind it. -/
theorem load_later {H : AHeap} {b : Bool} {n : Nat} {x : AVal} {R : AVal → AHeap → Prop} {F : AVal → AVal → AHeap → Prop} (hq : ∀ v C, R v C → H <+: C) (h : vb (aLoad H b n x) fun v => cb R fun w C => F v w C) :
    cb R fun w C => vb (aLoad C b n x) fun v => F v w C := by
  cases hv : aLoad H b n x with
  | none => rw [hv] at h; exact h.elim
  | some v =>
    rw [hv] at h
    obtain ⟨w, C, h1, h2⟩ := h
    exact ⟨w, C, h1, vb_i (load_pre hv (hq w C h1)) h2⟩
/-- Whatever order the region takes, it comes to the same. -/
theorem flat_Flat_Write.ok (args : List AVal) (H : AHeap) (r : AVal) (H' : AHeap) (h : S_flat_Flat_Write args H r H') : ∃ x0 x1 x2 : AVal, args = [x0, x1, x2] ∧ flat_Flat_Write.w x0 x1 x2 H fun r1 H1 => r1 = r ∧ H1 = H' := by
  obtain ⟨x0, x1, x2, h1, h⟩ := h
  refine ⟨x0, x1, x2, h1, ?_⟩
  unfold flat_Flat_WriteV.w at h
  unfold flat_Flat_Write.w
  refine hb_imp h fun v1 H2 h => hb_imp h fun v3 H4 h => vb_imp h fun v5 h => vb_imp h fun v6 h => cb_imp h fun v7 H8 _ h => vb_imp h fun v9 h => isB_imp h fun b10 h => cond_imp h (fun h => h) fun h => vb_imp h fun v11 h => vb_imp h fun v12 h => vb_imp h fun v13 h => vb_imp h fun v14 h => ?_
  refine LoopP.sub (fun vs H Kn Ke h => ?_) h fun vs H Kn Kn' Ke hk h => ?_
  · unfold flat_Flat_WriteV.L6 flat_Flat_WriteV.L6.b at h
    unfold flat_Flat_Write.L6 flat_Flat_Write.L6.b
    refine vb_imp h fun v18 h => isB_imp h fun b19 h => cond_imp h (fun h => vb_imp h fun v20 h => vb_imp h fun v21 h => ⟨h, ?_⟩) fun h => h
    exact vb_imp h fun v30 h => vb_imp h fun v31 h => load_later (fun v C hS => flat_Flat_Write_1.quiet hS) h
  · unfold flat_Flat_WriteV.L6 flat_Flat_WriteV.L6.b at h ⊢
    refine vb_imp h fun v18 h => isB_imp h fun b19 h => cond_imp h (fun h => vb_imp h fun v20 h => vb_imp h fun v21 h => vb_imp h fun v22 h => vb_imp h fun v23 h => vb_imp h fun v24 h => cb_imp h fun v25 H26 _ h => vb_imp h fun v27 h => sb_imp h fun H28 h => vb_imp h fun v29 h => hk _ _ h) fun h => h
section
variable {H0 B : AHeap} {own : Nat → Prop} {R : List Part} {I : List Nat} {L : List (AVal × Wd)} {W : List Wd} {p n : Nat} {lv : AVal} {cvs : List AVal}
def zeros48 (k : Int) : List UInt8 := zs (48 * k).toNat
def discW (n : Nat) (W : List Wd) (a k : Int) : List Wd := if mayE n a k = 0 then writeW W a.toNat (zs (48 * k.toNat)) else W
theorem disc_flat {a k : Int} (hs : Sep H0 own B (flP p n lv cvs :: frozP I L :: R)) (hr : rowOf L cvs W) (hW : okAll n W) (hn : n ≤ 64) (h0 : 0 < n) (hT : total W ≤ 1099511627776) :
    ∃ cvs' I' L' C, S_flat_Flat_Discard [.ptr ⟨p, 0, 0⟩, .int .i64 a, .int .i64 k] B (.int .i64 (mayE n a k)) C ∧ Sep H0 own C (flP p n lv cvs' :: frozP I' L' :: R) ∧ rowOf L' cvs' (discW n W a k) ∧ (∀ q ∈ L, q ∈ L') := by
  obtain ⟨r, C, h, rfl, cvs', I', L', k1, k2, k3⟩ := flat_Flat_Discard.out (x0 := .ptr ⟨p, 0, 0⟩) (x1 := .int .i64 a) (x2 := .int .i64 k) (H := B) (Q := fun r C => r = .int .i64 (mayE n a k) ∧ ∃ cvs' I' L', Sep H0 own C (flP p n lv cvs' :: frozP I' L' :: R) ∧ rowOf L' cvs' (discW n W a k) ∧ (∀ q ∈ L, q ∈ L')) (by
    unfold flat_Flat_Discard.w
    obtain ⟨C1, hc, hp⟩ := may_spec (a := a) (k := k) (flat_open hs).g0 hn
    refine cb_i _ _ hc ?_
    have hs := hs.quiet hp
    clear hc hp
    repeat first
    | with_reducible refine vb_i (neq64 _ _ _) ?_
    refine isB_c (fun h1 => ?_) (fun h1 => ?_)
    · have e : discW n W a k = W := if_neg h1
      rw [e]
      exact fin_ret (rvs_v (rvs_nil _)) ⟨rfl, cvs, I, L, hs, hr, fun _ h => h⟩
    have h1 : mayE n a k = 0 := by omega
    have hm := may_zero h1
    have e : discW n W a k = writeW W a.toNat (zs (48 * k.toNat)) := if_pos h1
    rw [e, h1]
    repeat first
    | ((with_reducible refine vb_i (mul64 ?_ ?_) ?_); (· omega); (· omega))
    refine s_make hs (n := 48 * k.toNat) (by omega) (by omega) (by omega) (by omega) ?_
    intro bv C2 _ _ hs
    have ez : fillCells (48 * k.toNat) [.int .u8 0] = (zs (48 * k.toNat)).map ofByte := by
      simp [fillCells, zs, ofByte]
    rw [ez] at hs
    refine vb_i (bytes_str hs.o0.view) ?_
    have hs := hs.tail
    have hzl := zs_len (48 * k.toNat)
    have hdE : dataE n a (zs (48 * k.toNat)) = 0 := by
      unfold dataE
      rw [if_neg (by rw [hzl]; omega), hzl, show 48 * k.toNat / 48 = k.toNat by omega, show ((k.toNat : Nat) : Int) = k by omega]
      exact h1
    obtain ⟨cvs', I', L', C3, hc, hs, hr', hL⟩ := write_flat (a := a) (d := zs (48 * k.toNat)) hs hr hW hn h0 hT (by rw [hzl]; omega)
    rw [hdE] at hc hr'
    refine cb_i _ _ hc ?_
    exact fin_ret (rvs_v (rvs_nil _)) ⟨rfl, cvs', I', L', hs, by simpa using hr', hL⟩)
  exact ⟨cvs', I', L', C, h, k1, k2, k3⟩
theorem disc_nil {a k : AVal} : ∃ C, S_flat_Flat_Discard [.nilp, a, k] B (.int .i64 1) C ∧ B <+: C := by
  obtain ⟨r, C, h, rfl, k⟩ := flat_Flat_Discard.out (x0 := .nilp) (x1 := a) (x2 := k) (H := B) (Q := fun r C => r = .int .i64 1 ∧ B <+: C) (by
    unfold flat_Flat_Discard.w
    obtain ⟨C1, hc, hp⟩ := may_nil (B := B) (a := a) (k := k)
    refine cb_i _ _ hc ?_
    repeat first
    | ((with_reducible refine isB_ct ?_ ?_); (· omega))
    | with_reducible refine vb_i (neq64 _ _ _) ?_
    exact fin_ret (rvs_v (rvs_nil _)) ⟨rfl, hp⟩)
  exact ⟨C, h, k⟩
end
end Go.Sh

/- A model is seen, made safe, read. -/
namespace Go.Sh
open Go Go.Abs

theorem headD_get {W : List Wd} (h : W ≠ []) : W[0]? = some (W.headD []) := by
  cases W with
  | nil => exact absurd rfl h
  | cons _ _ => rfl
theorem alike_take {W : List Wd} {a n : Nat} {s : List UInt8} {j : Nat} {c : Wd} (hc : W[j]? = some c) : alikeW (W.take (j + 1)) a n s = (alikeW (W.take j) a n s && decide (partS (lastS c) a n = s)) := by
  unfold alikeW
  rw [List.take_add_one, hc, List.all_append]
  simp
theorem alike_no {W : List Wd} {a n : Nat} {s : List UInt8} {j : Nat} {c : Wd} (hc : W[j]? = some c) (h : partS (lastS c) a n ≠ s) : alikeW W a n s = false := by
  unfold alikeW
  rw [List.all_eq_false]
  exact ⟨c, List.mem_of_getElem? hc, by simpa using h⟩
theorem saw_step {W : List Wd} {a : Nat} {d : List UInt8} {j : Nat} {c : Wd} (hc : W[j]? = some c) : sawW (W.take (j + 1)) a d = sawW (W.take j) a d ++ (if sees a d c = true then [c] else []) := by
  unfold sawW
  rw [List.take_add_one, hc, List.filter_append]
  congr 1
  cases h : sees a d c <;> simp [h]
theorem wd_one {I : List Nat} {C : AHeap} {sv : AVal} {s : St} (h : StAt I C sv s) : WdAt (I ++ newIds C (C ++ [.cells 0 .exact [sv]])) (C ++ [.cells 0 .exact [sv]]) (.slice ⟨C.length, 0, 0⟩ 1 (.ex 1)) [s] := by
  refine ⟨fun i hi => ?_, [sv], ?_, fun k t hk => ?_⟩
  · cases hi
    exact List.mem_append_right _ (mem_new.2 ⟨Nat.le_refl _, by simp⟩)
  · exact ⟨rfl, .inr ⟨C.length, 0, 0, .ex 1, .exact, [sv], rfl, by simp, fun _ => by simp, by rfl, Nat.le_refl _⟩⟩
  · have hk0 : k = 0 := by have := lt_some hk; simp at this; omega
    subst hk0
    cases hk
    exact ⟨sv, rfl, (h.pre (pre_app _ _)).mono fun i hi => List.mem_append_left _ hi⟩
theorem st_sc {I : List Nat} {C : AHeap} {sv : AVal} {s : St} (h : StAt I C sv s) : sv.sc = true := view_sc h.1
theorem e_row1 {C : AHeap} {sv : AVal} (h : sv.sc = true) : aBuildSlice C 1 [.nils] 1 [(0, sv)] = some (.slice ⟨C.length, 0, 0⟩ 1 (.ex 1), C ++ [.cells 0 .exact [sv]]) := by
  have dx : sv.defd = true := by cases sv <;> simp_all [AVal.sc, AVal.defd]
  rw [x_buildSlice]
  simp [fillA, fillCells, sc_cells h, dx, splice]
section
variable {H0 B : AHeap} {own : Nat → Prop} {R : List Part} {I : List Nat} {L : List (AVal × Wd)} {W : List Wd} {p n : Nat} {lv : AVal} {cvs : List AVal}
theorem worlds_spec (h : B[p]? = some (.cells 0 .exact [.int .i64 n, lv])) {k : Nat} (hv : View B lv 1 k cvs) : ∃ C, S_flat_Flat_Worlds [.ptr ⟨p, 0, 0⟩] B (.int .i64 k) C ∧ B <+: C := by
  obtain ⟨r, C, h, rfl, k⟩ := flat_Flat_Worlds.out (x0 := .ptr ⟨p, 0, 0⟩) (H := B) (Q := fun r C => r = .int .i64 k ∧ B <+: C) (by
    unfold flat_Flat_Worlds.w
    repeat first
    | refine vb_ld h rfl ?_
    | ((with_reducible apply vb_len); (· first | exact hs.o0.view | exact hs.o1.view | exact hs.o2.view | exact hs.o3.view | exact hs.o4.view | exact hs.o5.view | exact hs.o6.view | exact hs.rv hv | exact hs.rv hv2 | exact hs.rv hv3 | exact hs.rv hv4 | exact hs.view hkv hko | assumption))
    try refine vb_len hv ?_
    exact fin_ret (rvs_v (rvs_nil _)) ⟨List.prefix_refl _, rfl, List.prefix_refl _⟩)
  exact ⟨C, h, k⟩
theorem worlds_nil : ∃ C, S_flat_Flat_Worlds [.nilp] B (.int .i64 0) C ∧ B <+: C := by
  obtain ⟨r, C, h, rfl, k⟩ := flat_Flat_Worlds.out (x0 := .nilp) (H := B) (Q := fun r C => r = .int .i64 0 ∧ B <+: C) (by
    unfold flat_Flat_Worlds.w
    repeat first
    | with_reducible refine isB_T ?_
    | with_reducible refine vb_i (e_nilNil _) ?_
    exact fin_ret (rvs_v (rvs_nil _)) ⟨List.prefix_refl _, rfl, List.prefix_refl _⟩)
  exact ⟨C, h, k⟩
theorem total_step {W : List Wd} {j : Nat} {c : Wd} (hc : W[j]? = some c) : total (W.take (j + 1)) = total (W.take j) + c.length := by
  unfold total
  rw [List.take_add_one, hc, List.flatten_append]
  simp
theorem states_spec (hs : Sep H0 own B (flP p n lv cvs :: frozP I L :: R)) (hr : rowOf L cvs W) (hT : total W ≤ 1099511627776) (hl : W.length ≤ 1099511627776) : ∃ C, S_flat_Flat_States [.ptr ⟨p, 0, 0⟩] B (.int .i64 (total W)) C ∧ B <+: C := by
  obtain ⟨r, C, h, rfl, k⟩ := flat_Flat_States.out (x0 := .ptr ⟨p, 0, 0⟩) (H := B) (Q := fun r C => r = .int .i64 (total W) ∧ B <+: C) (by
    unfold flat_Flat_States.w
    have hs := flat_open hs
    have hf := hs.tail.tail.head.2
    have hcl := hr.1
    repeat first
    | refine vb_ld hs.g0 rfl ?_
    | ((with_reducible apply vb_len); (· first | exact hs.o0.view | exact hs.o1.view | exact hs.o2.view | exact hs.o3.view | exact hs.o4.view | exact hs.o5.view | exact hs.o6.view | exact hs.rv hv | exact hs.rv hv2 | exact hs.rv hv3 | exact hs.rv hv4 | exact hs.view hkv hko | assumption))
    refine LoopP.ruleG (α := Nat) (fun j => [.int .i64 (total (W.take j) : Nat), .int .i64 (j : Int)]) (fun j D => (j ≤ W.length ∧ total (W.take j) ≤ 1099511627776) ∧ B = D) (fun j => W.length - j) 0 (by simp [total]) ⟨⟨Nat.zero_le _, by simp [total]⟩, rfl⟩ ?_
    rintro j D Kn ⟨⟨hj, ht⟩, rfl⟩ hk
    unfold flat_Flat_States.L5 flat_Flat_States.L5.b
    try simp only [evB]
    refine vb_i (lss64 _ _ _) ?_
    refine isB_c (fun h1 => ?_) (fun h1 => ?_)
    · have hjW : j < W.length := by omega
      have hb := List.getElem?_eq_getElem hjW
      generalize W[j] = c at hb
      have hst := total_step hb
      have hmono : total (W.take (j + 1)) ≤ total W := by
        unfold total
        have := List.take_append_drop (j + 1) W
        have e : W.flatten = (W.take (j + 1)).flatten ++ (W.drop (j + 1)).flatten := by rw [← List.flatten_append, this]
        rw [e, List.length_append]; omega
      obtain ⟨cv, e1, e2⟩ := hr.get hb
      obtain ⟨_, svs, hv, _⟩ : WdAt I B cv c := hf _ e2
      refine vb_addrN hs.o1.view (by omega) ?_
      refine vb_el0 hs.o1.view e1 ?_
      refine vb_len hv ?_
      repeat first
      | ((with_reducible refine vb_i (add64 ?_ ?_) ?_); (· omega); (· omega))
      have := hk (j + 1) B ⟨⟨by omega, by omega⟩, rfl⟩ (by omega)
      rw [hst] at this
      exact this
    · obtain rfl : j = W.length := by omega
      repeat first
      | with_reducible refine onE_i ?_
      try simp only [evB]
      rw [List.take_length]
      exact fin_ret (rvs_v (rvs_nil _)) ⟨List.prefix_refl _, rfl, List.prefix_refl _⟩)
  exact ⟨C, h, k⟩
theorem states_nil : ∃ C, S_flat_Flat_States [.nilp] B (.int .i64 0) C ∧ B <+: C := by
  obtain ⟨r, C, h, rfl, k⟩ := flat_Flat_States.out (x0 := .nilp) (H := B) (Q := fun r C => r = .int .i64 0 ∧ B <+: C) (by
    unfold flat_Flat_States.w
    repeat first
    | with_reducible refine isB_T ?_
    | with_reducible refine vb_i (e_nilNil _) ?_
    exact fin_ret (rvs_v (rvs_nil _)) ⟨List.prefix_refl _, rfl, List.prefix_refl _⟩)
  exact ⟨C, h, k⟩
/-- The last state of a world. -/
theorem last_at {c : Wd} {cv : AVal} (hw : WdAt I B cv c) (hc : c ≠ []) (hl : c.length ≤ 1099511627776) : ∃ sv C, S_flat_chain_last [cv] B sv C ∧ B <+: C ∧ StAt I B sv (lastS c) := by
  obtain ⟨svs, sv, h1, h2, h3⟩ := hw.last hc
  obtain ⟨C, hc', hp⟩ := last_spec h1 (List.length_pos_iff.2 hc) hl h2
  exact ⟨sv, C, hc', hp, h3⟩
def readE (n : Nat) (W : List Wd) (a k : Int) : Int := if mayE n a k ≠ 0 then mayE n a k else if alikeW W a.toNat k.toNat (readS W a.toNat k.toNat) = true then 0 else 15
def readR (n : Nat) (W : List Wd) (a k : Int) : List UInt8 := if readE n W a k = 0 then readS W a.toNat k.toNat else []
theorem read_flat {a k : Int} (hs : Sep H0 own B (flP p n lv cvs :: frozP I L :: R)) (hr : rowOf L cvs W) (hW : okAll n W) (hn : n ≤ 64) (hT : total W ≤ 1099511627776) :
    ∃ C, S_flat_Flat_Read [.ptr ⟨p, 0, 0⟩, .int .i64 a, .int .i64 k] B (.tup [.str (readR n W a k), .int .i64 (readE n W a k)]) C ∧ B <+: C := by
  obtain ⟨r, C, h, rfl, k⟩ := flat_Flat_Read.out (x0 := .ptr ⟨p, 0, 0⟩) (x1 := .int .i64 a) (x2 := .int .i64 k) (H := B) (Q := fun r C => r = .tup [.str (readR n W a k), .int .i64 (readE n W a k)] ∧ B <+: C) (by
    unfold flat_Flat_Read.w
    have hs := flat_open hs
    have hWl := total_len hW
    have hcl := hr.1
    have h0 : B = B := rfl
    obtain ⟨C1, hc, hp⟩ := may_spec (a := a) (k := k) hs.g0 hn
    refine cb_i _ _ hc ?_
    have hs := hs.quiet hp
    clear hc
    repeat first
    | with_reducible refine vb_i (neq64 _ _ _) ?_
    refine isB_c (fun h1 => ?_) (fun h1 => ?_)
    · have e1 : readE n W a k = mayE n a k := if_pos h1
      have e2 : readR n W a k = [] := if_neg (by rw [e1]; exact h1)
      rw [e1, e2]
      exact fin_ret (rvs_v (rvs_v (rvs_nil _))) ⟨hp, rfl, hp⟩
    have h1 : mayE n a k = 0 := by omega
    obtain ⟨hk1, ha0, hak⟩ := may_zero h1
    have ea : a = ((a.toNat : Nat) : Int) := by omega
    have ek : k = ((k.toNat : Nat) : Int) := by omega
    have hf := hs.tail.tail.head.2
    have hb0 := headD_get hW.1
    have hmem0 := List.mem_of_getElem? hb0
    obtain ⟨cv0, e1, e2⟩ := hr.get hb0
    have hst : readS W a.toNat k.toNat = partS (lastS (W.headD [])) a.toNat k.toNat := rfl
    generalize W.headD [] = c0 at *
    repeat first
    | refine vb_ld hs.g0 rfl ?_
    refine vb_addr hs.o1.view (by omega) (by rw [hcl]; have := lt_some hb0; omega) ?_
    refine vb_el0 hs.o1.view (j := (0 : Int).toNat) e1 ?_
    obtain ⟨hne, hok⟩ := hW.2 c0 hmem0
    obtain ⟨sv, C2, hc, hp2, hsv⟩ := last_at (hf _ e2) hne (Nat.le_trans (len_total hmem0) hT)
    refine cb_i _ _ hc ?_
    have hs := hs.quiet hp2
    have hlast := hok _ (last_mem' hne)
    have hpa := part_spec (a := a.toNat) (n := k.toNat) (v_pre hsv.1 hp2) (by rw [hlast.1]; omega) (by rw [hlast.1]; omega) hlast.2
    rw [← ea, ← ek] at hpa
    obtain ⟨C3, hc, hp3⟩ := hpa
    refine cb_i _ _ hc ?_
    have hs := hs.quiet hp3
    have hpC := (hp.trans hp2).trans hp3
    clear hc
    repeat first
    | refine vb_ld hs.g0 rfl ?_
    | ((with_reducible apply vb_len); (· first | exact hs.o0.view | exact hs.o1.view | exact hs.o2.view | exact hs.o3.view | exact hs.o4.view | exact hs.o5.view | exact hs.o6.view | exact hs.rv hv | exact hs.rv hv2 | exact hs.rv hv3 | exact hs.rv hv4 | exact hs.view hkv hko | assumption))
    rw [← hst]
    obtain ⟨s, hS⟩ : ∃ s, readS W a.toNat k.toNat = s := ⟨_, rfl⟩
    rw [hS]
    refine LoopP.ruleG (α := Nat) (fun j => [.int .i64 (j : Int)]) (fun j D => (j ≤ W.length ∧ alikeW (W.take j) a.toNat k.toNat s = true) ∧ C3 <+: D) (fun j => W.length - j) 0 (by simp) ⟨⟨Nat.zero_le _, by simp [alikeW]⟩, List.prefix_refl _⟩ ?_
    rintro j D Kn ⟨⟨hj, hal⟩, hpD⟩ hk
    have hs := hs.quiet hpD
    have hf := hs.tail.tail.head.2
    unfold flat_Flat_Read.L6 flat_Flat_Read.L6.b
    try simp only [evB]
    refine vb_i (lss64 _ _ _) ?_
    refine isB_c (fun h2 => ?_) (fun h2 => ?_)
    · have hjW : j < W.length := by omega
      have hb := List.getElem?_eq_getElem hjW
      have hmem := List.getElem_mem hjW
      generalize W[j] = c at hb hmem
      obtain ⟨cv, e1, e2⟩ := hr.get hb
      refine vb_addrN hs.o1.view (by omega) ?_
      refine vb_el0 hs.o1.view e1 ?_
      obtain ⟨hne, hok⟩ := hW.2 c hmem
      obtain ⟨sv, D2, hc, hp2, hsv⟩ := last_at (hf _ e2) hne (Nat.le_trans (len_total hmem) hT)
      refine cb_i _ _ hc ?_
      have hs := hs.quiet hp2
      have hlast := hok _ (last_mem' hne)
      have hpa := part_spec (a := a.toNat) (n := k.toNat) (v_pre hsv.1 hp2) (by rw [hlast.1]; omega) (by rw [hlast.1]; omega) hlast.2
      rw [← ea, ← ek] at hpa
      obtain ⟨D3, hc, hp3⟩ := hpa
      refine cb_i _ _ hc ?_
      have hpE := (hpD.trans hp2).trans hp3
      refine vb_i (neqs _ _) ?_
      refine isB_c (fun h3 => ?_) (fun h3 => ?_)
      · have e3 : alikeW W a.toNat k.toNat s = false := alike_no hb h3
        have e1 : readE n W a k = 15 := by unfold readE; rw [if_neg (by omega), hS, e3]; rfl
        have e2 : readR n W a k = [] := if_neg (by rw [e1]; decide)
        rw [e1, e2]
        repeat first
        | with_reducible refine onE_i ?_
        | ((with_reducible refine onE_s ?_ ?_); (· decide))
        try simp only [evB]
        exact fin_ret (rvs_v (rvs_v (rvs_nil _))) ⟨hpC.trans hpE, rfl, hpC.trans hpE⟩
      · repeat first
        | ((with_reducible refine vb_i (add64 ?_ ?_) ?_); (· omega); (· omega))
        refine hk (j + 1) _ ⟨⟨by omega, ?_⟩, hpE⟩ (by omega)
        rw [alike_take hb, hal, Decidable.not_not.1 h3]
        simp
    · obtain rfl : j = W.length := by omega
      rw [List.take_length] at hal
      have e1 : readE n W a k = 0 := by unfold readE; rw [if_neg (by omega), hS, hal]; rfl
      have e2 : readR n W a k = s := by unfold readR; rw [if_pos e1, hS]
      rw [e1, e2]
      repeat first
      | with_reducible refine onE_i ?_
      try simp only [evB]
      exact fin_ret (rvs_v (rvs_v (rvs_nil _))) ⟨hpC.trans hpD, rfl, hpC.trans hpD⟩)
  exact ⟨C, h, k⟩
theorem read_nil {a k : AVal} : ∃ C, S_flat_Flat_Read [.nilp, a, k] B (.tup [.str [], .int .i64 1]) C ∧ B <+: C := by
  obtain ⟨r, C, h, rfl, k⟩ := flat_Flat_Read.out (x0 := .nilp) (x1 := a) (x2 := k) (H := B) (Q := fun r C => r = .tup [.str [], .int .i64 1] ∧ B <+: C) (by
    unfold flat_Flat_Read.w
    obtain ⟨C1, hc, hp⟩ := may_nil (B := B) (a := a) (k := k)
    refine cb_i _ _ hc ?_
    repeat first
    | ((with_reducible refine isB_ct ?_ ?_); (· omega))
    | with_reducible refine vb_i (neq64 _ _ _) ?_
    exact fin_ret (rvs_v (rvs_v (rvs_nil _))) ⟨hp, rfl, hp⟩)
  exact ⟨C, h, k⟩
theorem safe_flat (hs : Sep H0 own B (flP p n lv cvs :: frozP I L :: R)) (hr : rowOf L cvs W) (hW : okAll n W) (hT : total W ≤ 1099511627776) :
    ∃ cvs' I' L' C, S_flat_Flat_Safe [.ptr ⟨p, 0, 0⟩] B (.tup []) C ∧ Sep H0 own C (flP p n lv cvs' :: frozP I' L' :: R) ∧ rowOf L' cvs' (safeW W) ∧ (∀ q ∈ L, q ∈ L') := by
  obtain ⟨r, C, h, rfl, cvs', I', L', k1, k2, k3⟩ := flat_Flat_Safe.out (x0 := .ptr ⟨p, 0, 0⟩) (H := B) (Q := fun r C => r = .tup [] ∧ ∃ cvs' I' L', Sep H0 own C (flP p n lv cvs' :: frozP I' L' :: R) ∧ rowOf L' cvs' (safeW W) ∧ (∀ q ∈ L, q ∈ L')) (by
    unfold flat_Flat_Safe.w
    have hs := flat_open hs
    have hWl := total_len hW
    have hcl := hr.1
    repeat first
    | refine vb_ld hs.g0 rfl ?_
    | ((with_reducible apply vb_len); (· first | exact hs.o0.view | exact hs.o1.view | exact hs.o2.view | exact hs.o3.view | exact hs.o4.view | exact hs.o5.view | exact hs.o6.view | exact hs.rv hv | exact hs.rv hv2 | exact hs.rv hv3 | exact hs.rv hv4 | exact hs.view hkv hko | assumption))
    refine LoopP.ruleG (α := Nat × List AVal × List Nat × List (AVal × Wd)) (fun q => [.int .i64 (q.1 : Int)]) (fun q D => (q.1 ≤ W.length ∧ rowOf q.2.2.2 q.2.1 (mixW (fun c => [lastS c]) W q.1) ∧ ∀ x ∈ L, x ∈ q.2.2.2) ∧
      Sep H0 own D (.obj p (.cells 0 .exact [.int .i64 n, lv]) :: .sl lv 1 q.2.1.length q.2.1 :: frozP q.2.2.1 q.2.2.2 :: R)) (fun q => W.length - q.1) (0, cvs, I, L) (by simp)
      ⟨⟨Nat.zero_le _, by rw [mix_none]; exact hr, fun _ h => h⟩, hs⟩ ?_
    clear hs
    rintro ⟨j, cvs1, I1, L1⟩ D Kn ⟨⟨hj, hr1, hL1⟩, hs⟩ hk
    simp only at hj hr1 hL1 hs hk
    unfold flat_Flat_Safe.L2 flat_Flat_Safe.L2.b
    try simp only [evB]
    have hcl1 : cvs1.length = W.length := by rw [hr1.1]; unfold mixW; simp; omega
    refine vb_i (lss64 _ _ _) ?_
    refine isB_c (fun h2 => ?_) (fun h2 => ?_)
    · have hjW : j < W.length := by omega
      have hb := List.getElem?_eq_getElem hjW
      have hmem := List.getElem_mem hjW
      generalize W[j] = c at hb hmem
      obtain ⟨cv, e1, e2⟩ := hr1.get (mix_at hb)
      have hw : WdAt I1 D cv c := hs.tail.tail.head.2 _ e2
      refine vb_addrN hs.o1.view (by omega) ?_
      refine vb_el0 hs.o1.view e1 ?_
      repeat first
      | refine vb_ld hs.g0 rfl ?_
      obtain ⟨hne, hok⟩ := hW.2 c hmem
      obtain ⟨sv, E, hc, hp, hsv⟩ := last_at hw hne (Nat.le_trans (len_total hmem) hT)
      refine cb_i _ _ hc ?_
      have hs := hs.quiet hp
      have hsv := hsv.pre hp
      refine hb_i (e_row1 (st_sc hsv)) ?_
      have hs := froz_grow hs.f2 (pre_app E [.cells 0 .exact [sv]])
      have hw' := wd_one hsv
      have hs := froz_add (L' := [(.slice ⟨E.length, 0, 0⟩ 1 (.ex 1), [lastS c])]) hs (fun q hq => by rw [List.mem_singleton] at hq; subst hq; exact hw')
      have hs := hs.f2
      refine vb_addrN hs.o0.view (by omega) ?_
      refine s_el0 hs (by omega) rfl ?_
      intro E2 hs
      repeat first
      | ((with_reducible refine vb_i (add64 ?_ ?_) ?_); (· omega); (· omega))
      refine hk (j + 1, cvs1.set j (.slice ⟨E.length, 0, 0⟩ 1 (.ex 1)), I1 ++ newIds E (E ++ [.cells 0 .exact [sv]]), (.slice ⟨E.length, 0, 0⟩ 1 (.ex 1), [lastS c]) :: L1) _ ⟨⟨by simp only; omega, ?_, fun x hx => List.mem_cons_of_mem _ (hL1 x hx)⟩, ?_⟩ (by simp only; omega)
      · simp only
        rw [← mix_step hb]
        exact hr1.set (fun x hx => List.mem_cons_of_mem _ hx) List.mem_cons_self
      · simp only
        rw [List.length_set]
        exact hs.f2
    · obtain rfl : j = W.length := by omega
      repeat first
      | with_reducible refine onE_i ?_
      rw [mix_all'] at hr1
      exact fin_normal (rvs_nil _) ⟨rfl, cvs1, I1, L1, flat_shut hs, hr1, hL1⟩)
  exact ⟨cvs', I', L', C, h, k1, k2, k3⟩
theorem safe_nil : ∃ C, S_flat_Flat_Safe [.nilp] B (.tup []) C ∧ B <+: C := by
  obtain ⟨r, C, h, rfl, k⟩ := flat_Flat_Safe.out (x0 := .nilp) (H := B) (Q := fun r C => r = .tup [] ∧ B <+: C) (by
    unfold flat_Flat_Safe.w
    repeat first
    | with_reducible refine isB_T ?_
    | with_reducible refine vb_i (e_nilNil _) ?_
    exact fin_ret (rvs_nil _) ⟨rfl, List.prefix_refl _⟩)
  exact ⟨C, h, k⟩
end
end Go.Sh

/- A model is sifted, crashes, is copied, is made. -/
namespace Go.Sh
open Go Go.Abs

def sawE (n : Nat) (W : List Wd) (a : Int) (d : List UInt8) : Bool := decide (dataE n a d = 0 ∧ sawW W a.toNat d ≠ [])
def sawN (n : Nat) (W : List Wd) (a : Int) (d : List UInt8) : List Wd := if dataE n a d = 0 then sawR W a.toNat d else W
theorem total_mono (W : List Wd) (m : Nat) : total (W.take m) ≤ total W := by
  unfold total
  have e : W.flatten = (W.take m).flatten ++ (W.drop m).flatten := by rw [← List.flatten_append, List.take_append_drop]
  rw [e, List.length_append]; omega
theorem fill_nv {m : Int} {v : AVal} (h : v.sc = true) : fillA (fun k => ([(0, 1), (1, 1)] : List (Nat × Nat))[k]?) [.int .i64 0, .nils] [(0, .int .i64 m), (1, v)] = some [.int .i64 m, v] := by
  have dx : v.defd = true := by cases v <;> simp_all [AVal.sc, AVal.defd]
  simp [fillA, sc_cells h, dx, sc_cells (sc_int .i64 m), show (AVal.int .i64 m).defd = true from rfl, splice]
abbrev oneW (s : St) : Wd := [s]
section
variable {H0 B : AHeap} {own : Nat → Prop} {R : List Part} {I : List Nat} {L : List (AVal × Wd)} {W : List Wd} {p n : Nat} {lv : AVal} {cvs : List AVal}
theorem saw_flat {a : Int} {d : List UInt8} (hs : Sep H0 own B (flP p n lv cvs :: frozP I L :: R)) (hr : rowOf L cvs W) (hW : okAll n W) (hn : n ≤ 64) (hT : total W ≤ 1099511627776) (hd : d.length ≤ 1099511627776) :
    ∃ lv' cvs' C, S_flat_Flat_Saw [.ptr ⟨p, 0, 0⟩, .int .i64 a, .str d] B (.bool (sawE n W a d)) C ∧ Sep H0 own C (flP p n lv' cvs' :: frozP I L :: R) ∧ rowOf L cvs' (sawN n W a d) := by
  obtain ⟨r, C, h, rfl, lv', cvs', k1, k2⟩ := flat_Flat_Saw.out (x0 := .ptr ⟨p, 0, 0⟩) (x1 := .int .i64 a) (x2 := .str d) (H := B) (Q := fun r C => r = .bool (sawE n W a d) ∧ ∃ lv' cvs', Sep H0 own C (flP p n lv' cvs' :: frozP I L :: R) ∧ rowOf L cvs' (sawN n W a d)) (by
    unfold flat_Flat_Saw.w
    have h0 := flat_open hs
    have hWl := total_len hW
    have hcl := hr.1
    have hv := h0.o1.view
    have hp0 := h0.g0
    have hf := h0.tail.tail.head
    have hnl : ∀ i, slId lv = some i → ¬ i = p := fun i hi e => by
      have := (List.pairwise_cons.1 h0.apart).1 _ List.mem_cons_self p (by simp [Part.obj])
      subst e
      exact this (by simp [Part.sl, hi])
    have hnI : ∀ i ∈ I, i < B.length ∧ ¬ i = p := fun i hi => ⟨hf.1 i hi, fun e => by
      have := (List.pairwise_cons.1 h0.apart).1 _ (List.mem_cons_of_mem _ List.mem_cons_self) p (by simp [Part.obj])
      subst e
      exact this hi⟩
    have hk : Sep B (fun i => i = p) B [.obj p (.cells 0 .exact [.int .i64 n, lv])] := h0.sub1.own_of fun i ⟨r, hr, hi⟩ => by
      rw [List.mem_singleton] at hr; subst hr
      simpa [Part.obj] using hi
    have fin : ∀ {C : AHeap} {lv' : AVal} {cvs' : List AVal}, Sep B (fun i => i = p) C [.obj p (.cells 0 .exact [.int .i64 n, lv']), .sl lv' 1 cvs'.length cvs'] → Sep H0 own C (flP p n lv' cvs' :: frozP I L :: R) := by
      intro C lv' cvs' k
      have := Sep.call1 h0 (k.own_of fun i hi => ⟨_, List.mem_cons_self, by simp [Part.obj, hi]⟩)
      exact flat_shut (this.f2.tail)
    have same : ∀ {C : AHeap} {R' : List Part}, Sep B (fun i => i = p) C (.obj p (.cells 0 .exact [.int .i64 n, lv]) :: R') → Sep H0 own C (flP p n lv cvs :: frozP I L :: R) := by
      intro C R' k
      have := Sep.call1 h0 ((k.drop (R1 := [_])).own_of fun i hi => ⟨_, List.mem_cons_self, by simp [Part.obj, hi]⟩)
      exact flat_shut this
    have frame : ∀ {C : AHeap} {R' : List Part}, Sep B (fun i => i = p) C R' → ∀ k, k < B.length → (∀ r : Ref, AVal.ptr ⟨p, 0, 0⟩ = .ptr r → r.id ≠ k) → C[k]? = B[k]? := by
      intro C R' h k hk hne
      exact h.frame k hk fun e => hne ⟨p, 0, 0⟩ rfl e.symm
    obtain ⟨C1, hc, hp⟩ := data_spec (a := a) (d := d) hp0 hn hd
    refine cb_i _ _ hc ?_
    have hk := hk.quiet hp
    clear hc hp
    repeat first
    | with_reducible refine vb_i (neq64 _ _ _) ?_
    refine isB_c (fun h1 => ?_) (fun h1 => ?_)
    · have e1 : sawE n W a d = false := decide_eq_false (fun h => h1 h.1)
      have e2 : sawN n W a d = W := if_neg h1
      rw [e1, e2]
      exact fin_ret (rvs_v (rvs_nil _)) ⟨frame hk, rfl, lv, cvs, same hk, hr⟩
    have h1 : dataE n a d = 0 := by omega
    have e2 : sawN n W a d = sawR W a.toNat d := if_pos h1
    have e1 : sawE n W a d = decide (sawW W a.toNat d ≠ []) := decide_eq_decide.2 ⟨fun h => h.2, fun h => ⟨h1, h⟩⟩
    rw [e1, e2]
    obtain ⟨hd48, hd1, ha0, han⟩ := data_zero h1
    have ea : a = ((a.toNat : Nat) : Int) := by omega
    repeat first
    | refine vb_ld hk.g0 rfl ?_
    | ((with_reducible apply vb_len); (· first | exact hs.o0.view | exact hs.o1.view | exact hs.o2.view | exact hs.o3.view | exact hs.o4.view | exact hs.o5.view | exact hs.o6.view | exact hs.rv hv | exact hs.rv hv2 | exact hs.rv hv3 | exact hs.rv hv4 | exact hs.view hkv hko | assumption))
    refine LoopP.ruleG (α := Nat × AVal × List AVal) (fun q => [q.2.1, .int .i64 (q.1 : Int)]) (fun q D => (q.1 ≤ W.length ∧ rowOf L q.2.2 (sawW (W.take q.1) a.toNat d)) ∧
      Sep B (fun i => i = p) D [.obj p (.cells 0 .exact [.int .i64 n, lv]), .sl q.2.1 1 q.2.2.length q.2.2]) (fun q => W.length - q.1) (0, .nils, []) (by simp)
      ⟨⟨Nat.zero_le _, rowOf.nil L⟩, (s_nils hk 1).f1⟩ ?_
    clear hk
    rintro ⟨j, ov, ocvs⟩ D Kn ⟨⟨hj, hr1⟩, hs⟩ hk
    simp only at hj hr1 hs hk
    unfold flat_Flat_Saw.L5 flat_Flat_Saw.L5.b
    try simp only [evB]
    have hvD := hs.view hv hnl
    have hol : ocvs.length ≤ j := by
      rw [hr1.1]
      unfold sawW
      exact Nat.le_trans (List.length_filter_le _ _) (by rw [List.length_take]; omega)
    refine vb_i (lss64 _ _ _) ?_
    refine isB_c (fun h2 => ?_) (fun h2 => ?_)
    · have hjW : j < W.length := by omega
      have hb := List.getElem?_eq_getElem hjW
      have hmem := List.getElem_mem hjW
      generalize W[j] = c at hb hmem
      obtain ⟨cv, q1, q2⟩ := hr.get hb
      have hw : WdAt I D cv c := WdAt.loc (hf.2 _ q2) fun i hi => hs.frame i (hnI i hi).1 (hnI i hi).2
      refine vb_addrN hvD (by omega) ?_
      refine vb_el0 hvD q1 ?_
      obtain ⟨hne, hok⟩ := hW.2 c hmem
      obtain ⟨sv, D2, hc, hp2, hsv⟩ := last_at hw hne (Nat.le_trans (len_total hmem) hT)
      refine cb_i _ _ hc ?_
      have hs := hs.quiet hp2
      have hlast := hok _ (last_mem' hne)
      repeat first
      | ((with_reducible refine vb_i (quo64 ?_ ?_ ?_) ?_); (· omega); (· omega); (· omega))
      | with_reducible refine vb_i (e_lenSt _) ?_
      rw [show (d.length : Int) / 48 = ((d.length / 48 : Nat) : Int) by omega]
      have hpa := part_spec (a := a.toNat) (n := d.length / 48) (v_pre hsv.1 hp2) (by rw [hlast.1]; omega) (by rw [hlast.1]; omega) hlast.2
      rw [← ea] at hpa
      obtain ⟨D3, hc, hp3⟩ := hpa
      refine cb_i _ _ hc ?_
      have hs := hs.quiet hp3
      have hst := saw_step (a := a.toNat) (d := d) hb
      refine vb_i (eqls _ _) ?_
      refine isB_c (fun h3 => ?_) (fun h3 => ?_)
      · have hse : sees a.toNat d c = true := decide_eq_true h3
        rw [hse, if_pos rfl] at hst
        have hsc := hw.sc
        refine s_push (m := 1) (xs := [cv]) hs.f1 (by simp (disch := first | assumption | decide) only [evF, evS, fillCells]; rfl) (by decide) rfl (by simp [sc_cell hsc]) (by unfold room; omega) (by unfold room; omega) ?_
        intro ov' D4 hs
        repeat first
        | ((with_reducible refine vb_i (add64 ?_ ?_) ?_); (· omega); (· omega))
        refine hk (j + 1, ov', ocvs ++ [cv]) _ ⟨⟨by simp only; omega, ?_⟩, ?_⟩ (by simp only; omega)
        · simp only
          rw [hst]
          exact hr1.push (fun _ h => h) q2
        · simp only
          rw [List.length_append]
          exact (hs.f1).drop (R1 := [_, _])
      · have hse : sees a.toNat d c = false := decide_eq_false h3
        rw [hse, if_neg (by decide), List.append_nil] at hst
        repeat first
        | ((with_reducible refine vb_i (add64 ?_ ?_) ?_); (· omega); (· omega))
        refine hk (j + 1, ov, ocvs) _ ⟨⟨by simp only; omega, ?_⟩, hs⟩ (by simp only; omega)
        simp only
        rw [hst]
        exact hr1
    · obtain rfl : j = W.length := by omega
      clear hk
      rw [List.take_length] at hr1
      repeat first
      | with_reducible refine onE_i ?_
      try simp only [evB]
      have hlen := hr1.1
      by_cases hz : ocvs.length = 0
      · have e0 : sawW W a.toNat d = [] := List.eq_nil_of_length_eq_zero (by omega)
        refine JoinP.mk (fun e vs E => D = E ∧ e = .normal) ?_ ?_
        · refine vb_len hs.o1.view ?_
          refine vb_i (gtr64 _ _ _) ?_
          refine isB_cf (by omega) ?_
          exact ⟨rfl, rfl⟩
        rintro _ _ _ ⟨rfl, rfl⟩
        rw [onE_same]
        refine vb_len hs.o1.view ?_
        refine vb_i (gtr64 _ _ _) ?_
        have e3 : sawR W a.toNat d = W := if_pos e0
        rw [e3]
        refine fin_ret (rvs_v (rvs_nil _)) ⟨frame hs, ?_, lv, cvs, same hs, hr⟩
        rw [e0, decide_eq_false (by omega), decide_eq_false (by simp)]; rfl
      · have e0 : sawW W a.toNat d ≠ [] := fun e => hz (by rw [hlen, e]; rfl)
        have e3 : sawR W a.toNat d = sawW W a.toNat d := if_neg e0
        have hosc := view_sc hs.o1.view
        refine JoinP.mk (fun e vs E => Sep B (fun i => i = p) E [.obj p (.cells 0 .exact [.int .i64 n, ov]), .sl ov 1 ocvs.length ocvs] ∧ e = .normal) ?_ ?_
        · refine vb_len hs.o1.view ?_
          refine vb_i (gtr64 _ _ _) ?_
          refine isB_ct (by omega) ?_
          repeat first
          | with_reducible refine vb_i (e_nilCheck _) ?_
          | with_reducible refine vb_i (e_fieldAddr _ _) ?_
          | ((with_reducible first | apply s_store1 hs | apply s_store1 hs.f1 | apply s_store1 hs.f2 | apply s_store1 hs.f3); (· rfl); (· first | rfl | assumption); (· simp only [List.length_cons, List.length_nil]; omega); intro _ hs; try simp only [List.set_cons_zero, List.set_cons_succ, Nat.add_zero, Nat.zero_add] at hs)
          exact ⟨hs, rfl⟩
        clear hs
        rintro _ _ E ⟨hs, rfl⟩
        rw [onE_same]
        refine vb_len hs.o1.view ?_
        refine vb_i (gtr64 _ _ _) ?_
        rw [e3]
        refine fin_ret (rvs_v (rvs_nil _)) ⟨frame hs, ?_, ov, ocvs, fin hs, hr1⟩
        rw [decide_eq_true (by omega), decide_eq_true e0]; rfl)
  exact ⟨lv', cvs', C, h, k1, k2⟩
theorem saw_nil {a : AVal} {d : List UInt8} (hd : d.length ≤ 1099511627776) : ∃ C, S_flat_Flat_Saw [.nilp, a, .str d] B (.bool false) C ∧ B <+: C := by
  obtain ⟨r, C, h, rfl, k⟩ := flat_Flat_Saw.out (x0 := .nilp) (x1 := a) (x2 := .str d) (H := B) (Q := fun r C => r = .bool false ∧ B <+: C) (by
    unfold flat_Flat_Saw.w
    obtain ⟨C1, hc, hp⟩ := data_nil (B := B) (a := a) (d := d) hd
    refine cb_i _ _ hc ?_
    repeat first
    | ((with_reducible refine isB_ct ?_ ?_); (· omega))
    | with_reducible refine vb_i (neq64 _ _ _) ?_
    exact fin_ret (rvs_v (rvs_nil _)) ⟨fun k hk _ => pre_get hp hk, rfl, hp⟩)
  exact ⟨C, h, k⟩
theorem copy_flat (hs : Sep H0 own B (flP p n lv cvs :: frozP I L :: R)) (hr : rowOf L cvs W) (hW : okAll n W) (hT : total W ≤ 1099511627776) : ∃ q lv' C, S_flat_Flat_Copy [.ptr ⟨p, 0, 0⟩] B (.ptr ⟨q, 0, 0⟩) C ∧ B <+: C ∧ Sep B (fun _ => False) C [flP q n lv' cvs] := by
  obtain ⟨r, C, h, ⟨q, lv', rfl, k1⟩, k⟩ := flat_Flat_Copy.out (x0 := .ptr ⟨p, 0, 0⟩) (H := B) (Q := fun r C => (∃ q lv', r = .ptr ⟨q, 0, 0⟩ ∧ Sep B (fun _ => False) C [flP q n lv' cvs]) ∧ B <+: C) (by
    unfold flat_Flat_Copy.w
    have h0 := flat_open hs
    have hcl := hr.1
    have hWl := total_len hW
    have hv := h0.o1.view
    have hcell := row_cells hr h0.tail.tail.head.2
    have hk : Sep B (fun _ => False) B [] := Sep.start B
    have hpos : 0 < cvs.length := by rw [hcl]; exact List.length_pos_iff.2 hW.1
    repeat first
    | refine vb_ld h0.g0 rfl ?_
    obtain ⟨v, C1, hc, hs1⟩ : ∃ v C, S_slices_Clone_flat_chain_flat_chain [lv] B v C ∧ Sep B (fun _ => False) C [.sl v 1 cvs.length cvs] := by
      obtain ⟨r, C, h, k1, _⟩ := slices_Clone_flat_chain_flat_chain.out (x0 := lv) (H := B) (Q := fun sv C => Sep B (fun _ => False) C [.sl sv 1 cvs.length cvs] ∧ B <+: C) (by
        unfold slices_Clone_flat_chain_flat_chain.w
        refine vb_i (v := .bool false) ?_ ?_
        · obtain ⟨_, ⟨rfl, e⟩ | ⟨i, v, off, c, kd, cs', rfl, _⟩⟩ := hv
          · omega
          · rfl
        refine isB_Fa rfl ?_
        refine s_row hk (cs := []) (by rfl) ?_
        intro i D _ hs
        have hs := s_own hs (n := 0) (es := 1) rfl
        refine s_appv hs (by decide) (hs.view hv (fun _ _ h => h)) hcell (by unfold room; omega) (by unfold room; omega) ?_
        intro s1 D1 hs
        have hp := hs.pre fun _ x => x
        rw [Nat.zero_add, List.nil_append] at hs
        exact fin_ret (rvs_v (rvs_nil _)) ⟨hp, hs, hp⟩)
      exact ⟨r, C, h, k1⟩
    refine cb_i _ _ hc ?_
    have hsc := view_sc hs1.o0.view
    refine vb_bld (fill_nv hsc) ?_
    refine s_box hs1 rfl ?_
    intro q C2 _ hs2
    simp only [AVal.cells] at hs2
    have hp := hs2.pre fun _ x => x
    exact fin_ret (rvs_v (rvs_nil _)) ⟨hp, ⟨q, v, rfl, flat_shut hs2⟩, hp⟩)
  exact ⟨q, lv', C, h, k, k1⟩
theorem copy_nil' : ∃ C, S_flat_Flat_Copy [.nilp] B .nilp C ∧ B <+: C := by
  obtain ⟨r, C, h, rfl, k⟩ := flat_Flat_Copy.out (x0 := .nilp) (H := B) (Q := fun r C => r = .nilp ∧ B <+: C) (by
    unfold flat_Flat_Copy.w
    repeat first
    | with_reducible refine isB_T ?_
    | with_reducible refine vb_i (e_nilNil _) ?_
    exact fin_ret (rvs_v (rvs_nil _)) ⟨List.prefix_refl _, rfl, List.prefix_refl _⟩)
  exact ⟨C, h, k⟩
end
end Go.Sh

/- A model crashes; a new model. -/
namespace Go.Sh
open Go Go.Abs

theorem crash_app (out l k : List St) : crashL out (l ++ k) = crashL (crashL out l) k := List.foldl_append
theorem crash_step {c : Wd} {k : Nat} {s : St} (h : c[k]? = some s) (out : List St) : crashL out (c.take (k + 1)) = addS (crashL out (c.take k)) s := by
  rw [List.take_add_one, h, crash_app]
  rfl
def newW (n : Nat) : List Wd := [[List.replicate n (zs 48)]]
theorem new_ok {n : Nat} : okAll n (newW n) := by
  refine ⟨by simp [newW], fun c hc => ?_⟩
  simp only [newW, List.mem_singleton] at hc
  subst hc
  refine ⟨by simp, fun s hs => ?_⟩
  rw [List.mem_singleton] at hs
  subst hs
  refine ⟨by simp, fun b hb => ?_⟩
  obtain ⟨_, rfl⟩ := List.mem_replicate.1 hb
  exact zs_len 48
section
variable {H0 B : AHeap} {own : Nat → Prop} {R : List Part} {I : List Nat} {L : List (AVal × Wd)} {W : List Wd} {p n : Nat} {lv : AVal} {cvs : List AVal}
theorem there_spec {po : Nat} {ov sv : AVal} {ocvs : List AVal} {acc : List St} {s : St} (hpo : B[po]? = some (.cells 0 .exact [ov])) (hv : View B ov 1 ocvs.length ocvs) (hr : rowOf L ocvs (acc.map oneW)) (hf : ∀ q ∈ L, WdAt I B q.1 q.2)
    (hsv : StAt I B sv s) (hs : s.length ≤ 64) (hl : acc.length ≤ 1099511627776) : ∃ C, S_flat_Flat_Crash_1 [sv, .ptr ⟨po, 0, 0⟩] B (.bool (decide (s ∈ acc))) C ∧ B <+: C := by
  obtain ⟨r, C, h, rfl, k⟩ := flat_Flat_Crash_1.out (x0 := sv) (x1 := .ptr ⟨po, 0, 0⟩) (H := B) (Q := fun r C => r = .bool (decide (s ∈ acc)) ∧ B <+: C) (by
    unfold flat_Flat_Crash_1.w
    have hcl : ocvs.length = acc.length := by have := hr.1; rwa [List.length_map] at this
    refine vb_ld hpo rfl ?_
    refine vb_len hv ?_
    refine LoopP.ruleG (α := Nat) (fun j => [.bool false, .int .i64 (j : Int)]) (fun j D => (j ≤ acc.length ∧ s ∉ acc.take j) ∧ B <+: D) (fun j => acc.length - j) 0 (by simp) ⟨⟨Nat.zero_le _, by simp⟩, List.prefix_refl _⟩ ?_
    rintro j D Kn ⟨⟨hj, hno⟩, hp⟩ hk
    unfold flat_Flat_Crash_1.L4 flat_Flat_Crash_1.L4.b
    try simp only [evB]
    have hvD := v_pre hv hp
    refine vb_i (lss64 _ _ _) ?_
    refine isB_c (fun h1 => ?_) (fun h1 => ?_)
    · have hjW : j < acc.length := by omega
      have hb := List.getElem?_eq_getElem hjW
      generalize acc[j] = t at hb
      have hb' : (acc.map oneW)[j]? = some [t] := by rw [List.getElem?_map, hb]; rfl
      obtain ⟨cv, e1, e2⟩ := hr.get hb'
      obtain ⟨_, svs, hcv, hall⟩ : WdAt I D cv [t] := (hf _ e2).pre hp
      obtain ⟨tv, q1, q2⟩ := hall 0 t rfl
      refine vb_addrN hvD (by omega) ?_
      refine vb_el0 hvD e1 ?_
      refine vb_addr hcv (by omega) (by simp) ?_
      refine vb_el0 hcv (j := (0 : Int).toNat) q1 ?_
      obtain ⟨E, hc, hpE⟩ := eqS_spec (v_pre hsv.1 hp) q2.1 (by omega)
      refine cb_i _ _ hc ?_
      refine isB_c (fun h2 => ?_) (fun h2 => ?_)
      · repeat first
        | with_reducible refine onE_i ?_
        try simp only [evB]
        have hm : s ∈ acc := by rw [h2]; exact List.mem_of_getElem? hb
        rw [decide_eq_true hm]
        exact fin_ret (rvs_v (rvs_nil _)) ⟨hp.trans hpE, rfl, hp.trans hpE⟩
      · repeat first
        | ((with_reducible refine vb_i (add64 ?_ ?_) ?_); (· omega); (· omega))
        refine hk (j + 1) _ ⟨⟨by omega, fun hm => ?_⟩, hp.trans hpE⟩ (by omega)
        rw [List.take_add_one, hb] at hm
        simp only [Option.toList_some, List.mem_append, List.mem_singleton] at hm
        exact hm.elim hno h2
    · obtain rfl : j = acc.length := by omega
      rw [List.take_length] at hno
      repeat first
      | with_reducible refine onE_i ?_
      try simp only [evB]
      rw [decide_eq_false hno]
      exact fin_ret (rvs_v (rvs_nil _)) ⟨hp, rfl, hp⟩)
  exact ⟨C, h, k⟩
set_option maxHeartbeats 400000 in
theorem crash_flat (hs : Sep H0 own B (flP p n lv cvs :: frozP I L :: R)) (hr : rowOf L cvs W) (hW : okAll n W) (hn : n ≤ 64) (hT : total W ≤ 1099511627776) :
    ∃ lv' cvs' I' L' C, S_flat_Flat_Crash [.ptr ⟨p, 0, 0⟩] B (.tup []) C ∧ Sep H0 own C (flP p n lv' cvs' :: frozP I' L' :: R) ∧ rowOf L' cvs' (crashW W) ∧ (∀ q ∈ L, q ∈ L') := by
  obtain ⟨r, C, h, rfl, lv', cvs', I', L', k1, k2, k3⟩ := flat_Flat_Crash.out (x0 := .ptr ⟨p, 0, 0⟩) (H := B) (Q := fun r C => r = .tup [] ∧ ∃ lv' cvs' I' L', Sep H0 own C (flP p n lv' cvs' :: frozP I' L' :: R) ∧ rowOf L' cvs' (crashW W) ∧ (∀ q ∈ L, q ∈ L')) (by
    unfold flat_Flat_Crash.w
    have hs := flat_open hs
    have hWl := total_len hW
    have hcl := hr.1
    repeat first
    | refine vb_ld hs.g1 rfl ?_
    | with_reducible refine isB_F ?_
    | with_reducible refine vb_i (e_ptrNil _ _) ?_
    | ((with_reducible apply vb_len); (· first | exact hs.o0.view | exact hs.o1.view | exact hs.o2.view | exact hs.o3.view | exact hs.o4.view | exact hs.o5.view | exact hs.o6.view | exact hs.rv hv | exact hs.rv hv2 | exact hs.rv hv3 | exact hs.rv hv4 | exact hs.view hkv hko | assumption))
    | ((with_reducible refine s_alloc hs ?_); intro _ _ _ hs)
    rename_i po C0 _
    have hs := (s_nils hs 1).f1
    refine LoopP.ruleG (α := (Nat × AVal × List AVal) × List Nat × List (AVal × Wd)) (fun q => [.int .i64 (q.1.1 : Int)]) (fun q D => (q.1.1 ≤ W.length ∧ rowOf q.2.2 q.1.2.2 ((crashL [] (W.take q.1.1).flatten).map oneW) ∧ ∀ x ∈ L, x ∈ q.2.2) ∧
      Sep H0 own D (.obj po (.cells 0 .exact [q.1.2.1]) :: .sl q.1.2.1 1 q.1.2.2.length q.1.2.2 :: .obj p (.cells 0 .exact [.int .i64 n, lv]) :: .sl lv 1 cvs.length cvs :: frozP q.2.1 q.2.2 :: R)) (fun q => W.length - q.1.1) ((0, .nils, []), I, L) (by simp)
      ⟨⟨Nat.zero_le _, rowOf.nil L, fun _ h => h⟩, hs⟩ ?_
    clear hs
    rintro ⟨⟨j, ov, ocvs⟩, I1, L1⟩ D Kn ⟨⟨hj, hr1, hL1⟩, hs⟩ hk
    simp only at hj hr1 hL1 hs hk
    unfold flat_Flat_Crash.L4 flat_Flat_Crash.L4.b
    try simp only [evB]
    refine vb_i (lss64 _ _ _) ?_
    refine isB_c (fun h2 => ?_) (fun h2 => ?_)
    · have hjW : j < W.length := by omega
      have hb := List.getElem?_eq_getElem hjW
      have hmem := List.getElem_mem hjW
      generalize W[j] = c at hb hmem
      obtain ⟨cv, e1, e2⟩ := hr.get hb
      have hw : WdAt I1 D cv c := hs.tail.tail.tail.tail.head.2 _ (hL1 _ e2)
      obtain ⟨hne, hok⟩ := hW.2 c hmem
      have hts := total_step hb
      have htm := total_mono W (j + 1)
      have hfl : (W.take (j + 1)).flatten = (W.take j).flatten ++ c := by rw [List.take_add_one, hb, List.flatten_append]; simp
      obtain ⟨hcv, svs, hcvv, hall⟩ := hw
      refine vb_addrN hs.o3.view (by omega) ?_
      refine vb_el0 hs.o3.view e1 ?_
      refine vb_len hcvv ?_
      have hclen : c.length ≤ 1099511627776 := Nat.le_trans (len_total hmem) hT
      refine LoopP.ruleG (α := (Nat × AVal × List AVal) × List Nat × List (AVal × Wd)) (fun q => [.int .i64 (q.1.1 : Int)]) (fun q E => (q.1.1 ≤ c.length ∧ rowOf q.2.2 q.1.2.2 ((crashL (crashL [] (W.take j).flatten) (c.take q.1.1)).map oneW) ∧ (∀ x ∈ L1, x ∈ q.2.2)) ∧
        Sep H0 own E (.obj po (.cells 0 .exact [q.1.2.1]) :: .sl q.1.2.1 1 q.1.2.2.length q.1.2.2 :: .obj p (.cells 0 .exact [.int .i64 n, lv]) :: .sl lv 1 cvs.length cvs :: frozP q.2.1 q.2.2 :: R)) (fun q => c.length - q.1.1) ((0, ov, ocvs), I1, L1) (by simp)
        ⟨⟨Nat.zero_le _, hr1, fun _ h => h⟩, hs⟩ ?_
      clear hs hcvv hall hcv
      rintro ⟨⟨k, ov2, ocvs2⟩, I2, L2⟩ E Kn' ⟨⟨hk1, hr2, hL2⟩, hs⟩ hk'
      simp only at hk1 hr2 hL2 hs hk'
      obtain ⟨_, svs, hcvv, hall⟩ : WdAt I2 E cv c := hs.tail.tail.tail.tail.head.2 _ (hL2 _ (hL1 _ e2))
      unfold flat_Flat_Crash.L7 flat_Flat_Crash.L7.b
      try simp only [evB]
      have hal := crashL_len (c.take k) (crashL [] (W.take j).flatten)
      have hal2 := crashL_len (W.take j).flatten []
      have htk : (c.take k).length ≤ c.length := by rw [List.length_take]; omega
      unfold total at hts htm
      simp only [List.length_nil] at hal2
      refine vb_i (lss64 _ _ _) ?_
      refine isB_c (fun h3 => ?_) (fun h3 => ?_)
      · have hkc : k < c.length := by omega
        have hb2 := List.getElem?_eq_getElem hkc
        have hmem2 := List.getElem_mem hkc
        generalize c[k] = s at hb2 hmem2
        obtain ⟨sv, q1, q2⟩ := hall k s hb2
        have hst := crash_step hb2 (crashL [] (W.take j).flatten)
        have htk2 : (c.take k).length + 1 ≤ c.length := by rw [List.length_take]; omega
        generalize crashL (crashL [] (W.take j).flatten) (c.take k) = acc at *
        have hol : ocvs2.length = acc.length := by have := hr2.1; rwa [List.length_map] at this
        refine vb_addrN hcvv (by omega) ?_
        refine vb_el0 hcvv q1 ?_
        have hsl := (hok s hmem2).1
        unfold total at hT
        obtain ⟨E2, hc, hp⟩ := there_spec hs.g0 hs.o1.view hr2 hs.tail.tail.tail.tail.head.2 q2 (by omega) (by omega)
        refine cb_i _ _ hc ?_
        have hs := hs.quiet hp
        have q2 := q2.pre hp
        clear hc hp
        by_cases hin : s ∈ acc
        · have hadd : addS acc s = acc := if_pos hin
          rw [hadd] at hst
          rw [decide_eq_true hin]
          refine vb_i (v := .bool false) rfl ?_
          refine isB_Fa rfl ?_
          repeat first
          | ((with_reducible refine vb_i (add64 ?_ ?_) ?_); (· omega); (· omega))
          refine hk' ((k + 1, ov2, ocvs2), I2, L2) _ ⟨⟨by simp only; omega, ?_, hL2⟩, hs⟩ (by simp only; omega)
          simp only
          rw [hst]
          exact hr2
        · have hadd : addS acc s = acc ++ [s] := if_neg hin
          rw [hadd] at hst
          rw [decide_eq_false hin]
          refine vb_i (v := .bool true) rfl ?_
          refine isB_Tr rfl ?_
          refine vb_ld hs.g0 rfl ?_
          refine hb_i (e_row1 (st_sc q2)) ?_
          have hpE : E2 <+: E2 ++ [.cells 0 .exact [sv]] := pre_app _ _
          have hw' := wd_one q2
          have hs := froz_grow hs.f4 hpE
          have hs := froz_add (L' := [(.slice ⟨E2.length, 0, 0⟩ 1 (.ex 1), [s])]) hs (fun q hq => by rw [List.mem_singleton] at hq; subst hq; exact hw')
          have hs := hs.f2
          generalize E2 ++ [AObj.cells 0 .exact [sv]] = E3 at *
          generalize I2 ++ newIds E2 E3 = I3 at *
          generalize AVal.slice ⟨E2.length, 0, 0⟩ 1 (.ex 1) = nv at *
          have hnsc := hw'.sc
          refine s_push (m := 1) (xs := [nv]) hs (by simp (disch := first | assumption | decide) only [evF, evS, fillCells]; rfl) (by decide) rfl (by simp [sc_cell hnsc]) (by unfold room; omega) (by unfold room; omega) ?_
          intro ov3 E4 hs
          have hosc := view_sc hs.o0.view
          have hs := hs.f2
          refine s_store1 hs rfl hosc (by simp) ?_
          intro E5 hs
          simp only [List.set_cons_zero] at hs
          repeat first
          | ((with_reducible refine vb_i (add64 ?_ ?_) ?_); (· omega); (· omega))
          refine hk' ((k + 1, ov3, ocvs2 ++ [nv]), I3, (nv, [s]) :: L2) _ ⟨⟨by simp only; omega, ?_, fun x hx => List.mem_cons_of_mem _ (hL2 x hx)⟩, ?_⟩ (by simp only; omega)
          · simp only
            rw [hst, List.map_append]
            exact hr2.push (fun x hx => List.mem_cons_of_mem _ hx) List.mem_cons_self
          · simp only
            rw [List.length_append]
            exact hs.f4.f4.f4.f2.f4.f4.f4.b2
      · obtain rfl : k = c.length := by omega
        rw [List.take_length] at hr2
        repeat first
        | with_reducible refine onE_i ?_
        | ((with_reducible refine vb_i (add64 ?_ ?_) ?_); (· omega); (· omega))
        refine hk ((j + 1, ov2, ocvs2), I2, L2) _ ⟨⟨by simp only; omega, ?_, fun x hx => hL2 x (hL1 x hx)⟩, hs⟩ (by simp only; omega)
        simp only
        rw [hfl, crash_app]
        exact hr2
    · obtain rfl : j = W.length := by omega
      rw [List.take_length] at hr1
      have hosc := view_sc hs.o1.view
      clear hk
      repeat first
      | with_reducible refine onE_i ?_
      | with_reducible refine vb_i (e_nilCheck _) ?_
      | with_reducible refine vb_i (e_fieldAddr _ _) ?_
      | ((with_reducible apply vb_ld); (· first | exact hs.g0 | exact hs.g1 | exact hs.g2 | exact hs.g3 | exact hs.g4 | exact hs.g5 | exact hs.g6 | exact hs.rd hg | exact hs.rd hg2 | exact hs.rd hg3 | exact hs.rd hg4 | assumption); (· rfl))
      | ((with_reducible first | apply s_store1 hs | apply s_store1 hs.f1 | apply s_store1 hs.f2 | apply s_store1 hs.f3); (· rfl); (· first | rfl | assumption); (· simp only [List.length_cons, List.length_nil]; omega); intro _ hs; try simp only [List.set_cons_zero, List.set_cons_succ, Nat.add_zero, Nat.zero_add] at hs)
      first
        | exact fin_normal (rvs_nil _) ⟨rfl, ov, ocvs, I1, L1, flat_shut (hs.f2.tail.f1.f2.f1.tail), hr1, hL1⟩
        | exact fin_normal (rvs_nil _) ⟨rfl, ov, ocvs, I1, L1, flat_shut (hs.f1.tail.f1.f2.tail.f1), hr1, hL1⟩)
  exact ⟨lv', cvs', I', L', C, h, k1, k2, k3⟩
theorem crash_nil' : ∃ C, S_flat_Flat_Crash [.nilp] B (.tup []) C ∧ B <+: C := by
  obtain ⟨r, C, h, rfl, k⟩ := flat_Flat_Crash.out (x0 := .nilp) (H := B) (Q := fun r C => r = .tup [] ∧ B <+: C) (by
    unfold flat_Flat_Crash.w
    repeat first
    | with_reducible refine isB_T ?_
    | with_reducible refine vb_i (e_nilNil _) ?_
    exact fin_ret (rvs_nil _) ⟨rfl, List.prefix_refl _⟩)
  exact ⟨C, h, k⟩
theorem new_bad {m : Int} (h : m < 1 ∨ 64 < m) : ∃ C, S_flat_New [.int .i64 m] B (.tup [.nilp, .int .i64 2]) C ∧ B <+: C := by
  obtain ⟨r, C, h, rfl, k⟩ := flat_New.out (x0 := .int .i64 m) (H := B) (Q := fun r C => r = .tup [.nilp, .int .i64 2] ∧ B <+: C) (by
    unfold flat_New.w
    refine JoinP.mk (fun e vs D => B = D ∧ e = .ret ∧ vs = [.nilp, .int .i64 2]) ?_ ?_
    · repeat first
      | with_reducible refine vb_i (lss64 _ _ _) ?_
      refine isB_c (fun h1 => ?_) (fun h1 => ?_)
      · exact ⟨rfl, rfl, rfl⟩
      · repeat first
        | ((with_reducible refine isB_ct ?_ ?_); (· omega))
        | with_reducible refine vb_i (gtr64 _ _ _) ?_
        exact ⟨rfl, rfl, rfl⟩
    rintro _ _ _ ⟨rfl, rfl, rfl⟩
    repeat first
    | with_reducible refine onE_i ?_
    | ((with_reducible refine onE_s ?_ ?_); (· decide))
    try simp only [evB]
    exact fin_ret (rvs_v (rvs_v (rvs_nil _))) ⟨List.prefix_refl _, rfl, List.prefix_refl _⟩)
  exact ⟨C, h, k⟩
theorem rep_step (n j : Nat) (hj : j < n) : ((List.replicate j (zs 48) ++ List.replicate (n - j) []).set j (zs 48)) = List.replicate (j + 1) (zs 48) ++ List.replicate (n - (j + 1)) ([] : List UInt8) := by
  rw [List.set_append_right _ _ (by simp), List.length_replicate, Nat.sub_self, show n - j = (n - (j + 1)) + 1 by omega, List.replicate_succ, List.set_cons_zero, List.replicate_succ']
  simp
theorem new_good {n : Nat} (h1 : 1 ≤ n) (h2 : n ≤ 64) : ∃ q lv cv I C, S_flat_New [.int .i64 (n : Int)] B (.tup [.ptr ⟨q, 0, 0⟩, .int .i64 0]) C ∧ B <+: C ∧ Sep B (fun _ => False) C [flP q n lv [cv], frozP I [(cv, [List.replicate n (zs 48)])]] := by
  obtain ⟨r, C, h, ⟨q, lv, cv, I, rfl, k1⟩, k⟩ := flat_New.out (x0 := .int .i64 (n : Int)) (H := B) (Q := fun r C => (∃ q lv cv I, r = .tup [.ptr ⟨q, 0, 0⟩, .int .i64 0] ∧ Sep B (fun _ => False) C [flP q n lv [cv], frozP I [(cv, [List.replicate n (zs 48)])]]) ∧ B <+: C) (by
    unfold flat_New.w
    have hs : Sep B (fun _ => False) B [] := Sep.start B
    refine JoinP.mk (fun e vs D => B = D ∧ e = .normal) ?_ ?_
    · repeat first
      | ((with_reducible refine isB_cf ?_ ?_); (· omega))
      | with_reducible refine vb_i (lss64 _ _ _) ?_
      | with_reducible refine vb_i (gtr64 _ _ _) ?_
      exact ⟨rfl, rfl⟩
    rintro _ _ _ ⟨rfl, rfl⟩
    rw [onE_same]
    refine s_make hs (n := n) (by omega) (by omega) (by omega) (by omega) ?_
    intro sv C1 _ _ hs
    have ez : fillCells n [AVal.str []] = strs (List.replicate 0 (zs 48) ++ List.replicate (n - 0) []) := by
      simp [fillCells, strs]
    rw [ez] at hs
    have hl0 : [AVal.str []].length = 1 := rfl
    rw [hl0] at hs
    refine vb_len hs.o0.view ?_
    refine LoopP.ruleG (α := Nat) (fun j => [.int .i64 (j : Int)]) (fun j D => j ≤ n ∧ Sep B (fun _ => False) D [.sl sv 1 n (strs (List.replicate j (zs 48) ++ List.replicate (n - j) []))]) (fun j => n - j) 0 (by simp) ⟨Nat.zero_le _, hs⟩ ?_
    clear hs ez
    rintro j D Kn ⟨hj, hs⟩ hk
    unfold flat_New.L5 flat_New.L5.b
    try simp only [evB]
    repeat first
    | with_reducible refine vb_i (lss64 _ _ _) ?_
    refine isB_c (fun h3 => ?_) (fun h3 => ?_)
    · refine s_make hs (n := 48) (by omega) (by omega) (by omega) (by omega) ?_
      intro bv C2 _ _ hs
      have ez : fillCells 48 [.int .u8 0] = (zs 48).map ofByte := by simp [fillCells, zs, ofByte]
      rw [ez] at hs
      refine vb_i (bytes_str hs.o0.view) ?_
      have hs := hs.tail
      refine vb_addrN hs.o0.view (by omega) ?_
      refine s_el0 hs (by omega) rfl ?_
      intro D2 hs
      repeat first
      | ((with_reducible refine vb_i (add64 ?_ ?_) ?_); (· omega); (· omega))
      refine hk (j + 1) _ ⟨by omega, ?_⟩ (by omega)
      have e : (strs (List.replicate j (zs 48) ++ List.replicate (n - j) [])).set j (.str (zs 48)) = strs (List.replicate (j + 1) (zs 48) ++ List.replicate (n - (j + 1)) []) := by
        unfold strs
        rw [← rep_step n j (by omega), List.map_set]
      rw [e] at hs
      exact hs
    · obtain rfl : j = n := by omega
      clear hk
      repeat first
      | with_reducible refine onE_i ?_
      rw [Nat.sub_self, List.replicate_zero, List.append_nil] at hs
      have hsc := view_sc hs.o0.view
      have hst : ∀ {E : AHeap}, Own E sv 1 j (strs (List.replicate j (zs 48))) → StAt (1 :: (slId sv).toList) E sv (List.replicate j (zs 48)) := fun h => ⟨by rw [List.length_replicate]; exact h.view, fun i hi => by rw [hi]; simp⟩
      refine hb_i (e_row1 hsc) ?_
      have hs := hs.new (.cells 0 .exact [sv])
      have hs := hs.join
      have hs := Sep.as (b := frozP (D.length :: (slId sv).toList) [(.slice ⟨D.length, 0, 0⟩ 1 (.ex 1), [List.replicate j (zs 48)])]) hs rfl (fun ⟨g1, g2, _⟩ => by
        refine ⟨fun i hi => ?_, fun q hq => ?_⟩
        · rcases List.mem_cons.1 hi with rfl | hi
          · exact lt_of_some g1
          · exact Own.lt g2 (by simpa using hi)
        · rw [List.mem_singleton] at hq
          subst hq
          refine ⟨fun i hi => by cases hi; exact List.mem_cons_self, [sv], ⟨rfl, .inr ⟨D.length, 0, 0, .ex 1, .exact, [sv], rfl, g1, fun _ => by simp, by rfl, Nat.le_refl _⟩⟩, fun k t hk => ?_⟩
          have hk0 : k = 0 := by have := lt_some hk; simp at this; omega
          subst hk0
          cases hk
          exact ⟨sv, rfl, by rw [List.length_replicate]; exact Own.view g2, fun i hi => by rw [hi]; simp⟩)
      generalize AVal.slice ⟨D.length, 0, 0⟩ 1 (.ex 1) = cv at *
      have hcs : cv.sc = true := (hs.head.2 _ List.mem_cons_self).sc
      refine s_row hs (cs := [cv]) (by simp (disch := first | assumption | decide) only [evF, evS, fillCells]; rfl) ?_
      intro il E _ hs
      have hs := s_own hs (n := 1) (es := 1) rfl
      refine vb_bld (fill_nv rfl) ?_
      refine s_box hs rfl ?_
      intro q E2 _ hs
      simp only [AVal.cells] at hs
      have hp := hs.pre fun _ x => x
      exact fin_ret (rvs_v (rvs_v (rvs_nil _))) ⟨hp, ⟨q, _, cv, _, rfl, flat_shut hs⟩, hp⟩)
  exact ⟨q, lv, cv, I, C, h, k, k1⟩
end
end Go.Sh
