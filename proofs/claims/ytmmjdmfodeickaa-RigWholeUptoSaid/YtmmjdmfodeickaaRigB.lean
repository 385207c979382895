/- One text of these: RigW2, RigQ1, RigQ2, RigQ3, RigQ4, RigQ5, RigQ6, RigQ7, RigQ8, RigA. -/
import Derived.Test.YtmmjdmfodeickaaRigA
import Derived.Test.YtmmjdmfodeickaaAbsF
import Derived.Test.YtmmjdmfodeickaaAbsE

/- What Go functions come to over abstract values, printed by a program (wx.py); of each function its own text is what is told of it. -/
namespace Go.Sh
open Go Go.Abs

def cellaretref10_New.L3.b (x0 : AVal) (v2 : AVal) (x4_3 : AVal) (H4 : AHeap) (Kn5 : List AVal → AHeap → Prop) (Ke6 : AExit → List AVal → AHeap → Prop) : Prop :=
  vb (aBin .lss x4_3 x0) fun v7 =>
  isB v7 fun b8 => cond b8
    (vb (aNilCheck v2) fun v9 =>
    vb (aFieldAddr 0 v9) fun v10 =>
    vb (aLoad H4 false 1 v10) fun v11 =>
    cb (S_cellaretref01_Zeros [.int .i64 64] H4) fun v12 H13 =>
    hb (aBuildSlice H13 1 [.str []] 1 [(0, v12)]) fun v14 H15 =>
    hb (aAppendS H15 1 16 v11 v14) fun v16 H17 =>
    vb (aNilCheck v2) fun v18 =>
    vb (aFieldAddr 0 v18) fun v19 =>
    sb (aStore H17 1 v19 v16) fun H20 =>
    vb (aNilCheck v2) fun v21 =>
    vb (aFieldAddr 1 v21) fun v22 =>
    vb (aLoad H20 false 1 v22) fun v23 =>
    cb (S_cellaretref01_Zeros [.int .i64 64] H20) fun v24 H25 =>
    hb (aBuildSlice H25 1 [.str []] 1 [(0, v24)]) fun v26 H27 =>
    hb (aAppendS H27 1 16 v23 v26) fun v28 H29 =>
    vb (aNilCheck v2) fun v30 =>
    vb (aFieldAddr 1 v30) fun v31 =>
    sb (aStore H29 1 v31 v28) fun H32 =>
    vb (aNilCheck v2) fun v33 =>
    vb (aFieldAddr 2 v33) fun v34 =>
    vb (aLoad H32 false 1 v34) fun v35 =>
    hb (aBuildSlice H32 1 [.bool false] 1 [(0, .bool false)]) fun v36 H37 =>
    hb (aAppendS H37 1 1 v35 v36) fun v38 H39 =>
    vb (aNilCheck v2) fun v40 =>
    vb (aFieldAddr 2 v40) fun v41 =>
    sb (aStore H39 1 v41 v38) fun H42 =>
    vb (aBin .add x4_3 (.int .i64 1)) fun v43 =>
    Kn5 [v43] H42)
    (Ke6 (.exit 0) [] H4)

def cellaretref10_New.L3 (x0 : AVal) (v2 : AVal) : Body := fun vs H Kn Ke => cellaretref10_New.L3.b x0 v2 (vs.getD 0 .undef) H Kn Ke

def cellaretref10_New.w (x0 : AVal) (H : AHeap) (K : AVal → AHeap → Prop) : Prop :=
  vb (aBuild [.nils, .nils, .nils] (fun k => ([(0, 1), (1, 1), (2, 1)] : List (Nat × Nat))[k]?) []) fun v1 =>
  hb (aBox H v1) fun v2 H3 =>
  LoopP (cellaretref10_New.L3 x0 v2) [.int .i64 0] H3 fun e44 vs45 H46 =>
    onE e44 (.exit 0)
      (fin .ret [.v (v2)] H46 K)
    (False)

def S_cellaretref10_New : Abs.Spec := fun args H r H' => ∃ x0 : AVal, args = [x0] ∧ (cellaretref10_New.w x0 H fun r1 H1 => r1 = r ∧ H1 = H') ∧ H <+: H'
theorem cellaretref10_New.ok (args : List AVal) (H : AHeap) (r : AVal) (H' : AHeap) (h : S_cellaretref10_New args H r H') : ∃ x0 : AVal, args = [x0] ∧ cellaretref10_New.w x0 H fun r1 H1 => r1 = r ∧ H1 = H' := by
  obtain ⟨x0, h1, h2, _⟩ := h
  exact ⟨x0, h1, h2⟩
theorem cellaretref10_New.quiet {args : List AVal} {H : AHeap} {r : AVal} {H' : AHeap} (h : S_cellaretref10_New args H r H') : H <+: H' := by
  obtain ⟨_, _, _, h⟩ := h
  exact h
set_option maxRecDepth 100000 in
theorem cellaretref10_New.ex (x0 : AVal) (H : AHeap) : Ex fun K : AVal × AHeap → Prop => cellaretref10_New.w x0 H fun r H => K (r, H) := by
  unfold cellaretref10_New.w
  repeat with_reducible first
    | exact Ex.pt _
    | exact Ex.fin
    | exact Ex.no
    | refine Ex.vb fun _ => ?_
    | refine Ex.hb fun _ _ => ?_
    | refine Ex.sb fun _ => ?_
    | refine Ex.cb fun _ _ => ?_
    | refine Ex.isB fun _ => ?_
    | refine Ex.cond ?_ ?_
    | refine Ex.onE ?_ ?_
    | refine Ex.join ?_ fun _ _ _ => ?_
    | refine Ex.loop (fun _ _ => ?_) fun _ _ _ => ?_
    | (unfold cellaretref10_New.L3; unfold cellaretref10_New.L3.b)

theorem cellaretref10_New.out {x0 : AVal} {H : AHeap} {Q : AVal → AHeap → Prop} (h : cellaretref10_New.w x0 H fun r H' => (H <+: H') ∧ Q r H') : ∃ r H', S_cellaretref10_New [x0] H r H' ∧ Q r H' := by
  obtain ⟨r, H', h1, h2⟩ := (cellaretref10_New.ex x0 H).out h
  exact ⟨r, H', ⟨_, rfl, h1, h2.1⟩, h2.2⟩

def cellaretref10_put.w (x0 : AVal) (x1 : AVal) (x2 : AVal) (H : AHeap) (K : AVal → AHeap → Prop) : Prop :=
  hb (aBuildSlice H 1 [.str []] 0 []) fun v1 H2 =>
  hb (aAppendS H2 1 16 v1 x0) fun v3 H4 =>
  vb (aIndexAddr 1 v3 x1) fun v5 =>
  sb (aStore H4 1 v5 x2) fun H6 =>
  fin .ret [.v (v3)] H6 K

def S_cellaretref10_put : Abs.Spec := fun args H r H' => ∃ x0 x1 x2 : AVal, args = [x0, x1, x2] ∧ (cellaretref10_put.w x0 x1 x2 H fun r1 H1 => r1 = r ∧ H1 = H') ∧ H <+: H'
theorem cellaretref10_put.ok (args : List AVal) (H : AHeap) (r : AVal) (H' : AHeap) (h : S_cellaretref10_put args H r H') : ∃ x0 x1 x2 : AVal, args = [x0, x1, x2] ∧ cellaretref10_put.w x0 x1 x2 H fun r1 H1 => r1 = r ∧ H1 = H' := by
  obtain ⟨x0, x1, x2, h1, h2, _⟩ := h
  exact ⟨x0, x1, x2, h1, h2⟩
theorem cellaretref10_put.quiet {args : List AVal} {H : AHeap} {r : AVal} {H' : AHeap} (h : S_cellaretref10_put args H r H') : H <+: H' := by
  obtain ⟨_, _, _, _, _, h⟩ := h
  exact h
set_option maxRecDepth 100000 in
theorem cellaretref10_put.ex (x0 x1 x2 : AVal) (H : AHeap) : Ex fun K : AVal × AHeap → Prop => cellaretref10_put.w x0 x1 x2 H fun r H => K (r, H) := by
  unfold cellaretref10_put.w
  repeat with_reducible first
    | exact Ex.pt _
    | exact Ex.fin
    | exact Ex.no
    | refine Ex.vb fun _ => ?_
    | refine Ex.hb fun _ _ => ?_
    | refine Ex.sb fun _ => ?_
    | refine Ex.cb fun _ _ => ?_
    | refine Ex.isB fun _ => ?_
    | refine Ex.cond ?_ ?_
    | refine Ex.onE ?_ ?_
    | refine Ex.join ?_ fun _ _ _ => ?_
    | refine Ex.loop (fun _ _ => ?_) fun _ _ _ => ?_

theorem cellaretref10_put.out {x0 x1 x2 : AVal} {H : AHeap} {Q : AVal → AHeap → Prop} (h : cellaretref10_put.w x0 x1 x2 H fun r H' => (H <+: H') ∧ Q r H') : ∃ r H', S_cellaretref10_put [x0, x1, x2] H r H' ∧ Q r H' := by
  obtain ⟨r, H', h1, h2⟩ := (cellaretref10_put.ex x0 x1 x2 H).out h
  exact ⟨r, H', ⟨_, _, _, rfl, h1, h2.1⟩, h2.2⟩

def cellaretref10_mark.w (x0 : AVal) (x1 : AVal) (x2 : AVal) (H : AHeap) (K : AVal → AHeap → Prop) : Prop :=
  hb (aBuildSlice H 1 [.bool false] 0 []) fun v1 H2 =>
  hb (aAppendS H2 1 1 v1 x0) fun v3 H4 =>
  vb (aIndexAddr 1 v3 x1) fun v5 =>
  sb (aStore H4 1 v5 x2) fun H6 =>
  fin .ret [.v (v3)] H6 K

def S_cellaretref10_mark : Abs.Spec := fun args H r H' => ∃ x0 x1 x2 : AVal, args = [x0, x1, x2] ∧ (cellaretref10_mark.w x0 x1 x2 H fun r1 H1 => r1 = r ∧ H1 = H') ∧ H <+: H'
theorem cellaretref10_mark.ok (args : List AVal) (H : AHeap) (r : AVal) (H' : AHeap) (h : S_cellaretref10_mark args H r H') : ∃ x0 x1 x2 : AVal, args = [x0, x1, x2] ∧ cellaretref10_mark.w x0 x1 x2 H fun r1 H1 => r1 = r ∧ H1 = H' := by
  obtain ⟨x0, x1, x2, h1, h2, _⟩ := h
  exact ⟨x0, x1, x2, h1, h2⟩
theorem cellaretref10_mark.quiet {args : List AVal} {H : AHeap} {r : AVal} {H' : AHeap} (h : S_cellaretref10_mark args H r H') : H <+: H' := by
  obtain ⟨_, _, _, _, _, h⟩ := h
  exact h
set_option maxRecDepth 100000 in
theorem cellaretref10_mark.ex (x0 x1 x2 : AVal) (H : AHeap) : Ex fun K : AVal × AHeap → Prop => cellaretref10_mark.w x0 x1 x2 H fun r H => K (r, H) := by
  unfold cellaretref10_mark.w
  repeat with_reducible first
    | exact Ex.pt _
    | exact Ex.fin
    | exact Ex.no
    | refine Ex.vb fun _ => ?_
    | refine Ex.hb fun _ _ => ?_
    | refine Ex.sb fun _ => ?_
    | refine Ex.cb fun _ _ => ?_
    | refine Ex.isB fun _ => ?_
    | refine Ex.cond ?_ ?_
    | refine Ex.onE ?_ ?_
    | refine Ex.join ?_ fun _ _ _ => ?_
    | refine Ex.loop (fun _ _ => ?_) fun _ _ _ => ?_

theorem cellaretref10_mark.out {x0 x1 x2 : AVal} {H : AHeap} {Q : AVal → AHeap → Prop} (h : cellaretref10_mark.w x0 x1 x2 H fun r H' => (H <+: H') ∧ Q r H') : ∃ r H', S_cellaretref10_mark [x0, x1, x2] H r H' ∧ Q r H' := by
  obtain ⟨r, H', h1, h2⟩ := (cellaretref10_mark.ex x0 x1 x2 H).out h
  exact ⟨r, H', ⟨_, _, _, rfl, h1, h2.1⟩, h2.2⟩

def cellaretref10_Dev_Write.w (x0 : AVal) (x1 : AVal) (x2 : AVal) (H : AHeap) (K : AVal → AHeap → Prop) : Prop :=
  vb (aNilCheck x0) fun v1 =>
  vb (aFieldAddr 0 v1) fun v2 =>
  vb (aLoad H false 1 v2) fun v3 =>
  cb (S_cellaretref10_put [v3, x1, x2] H) fun v4 H5 =>
  vb (aNilCheck x0) fun v6 =>
  vb (aFieldAddr 0 v6) fun v7 =>
  sb (aStore H5 1 v7 v4) fun H8 =>
  vb (aNilCheck x0) fun v9 =>
  vb (aFieldAddr 2 v9) fun v10 =>
  vb (aLoad H8 false 1 v10) fun v11 =>
  cb (S_cellaretref10_mark [v11, x1, .bool true] H8) fun v12 H13 =>
  vb (aNilCheck x0) fun v14 =>
  vb (aFieldAddr 2 v14) fun v15 =>
  sb (aStore H13 1 v15 v12) fun H16 =>
  fin .normal [] H16 K

def S_cellaretref10_Dev_Write : Abs.Spec := fun args H r H' => ∃ x0 x1 x2 : AVal, args = [x0, x1, x2] ∧ (cellaretref10_Dev_Write.w x0 x1 x2 H fun r1 H1 => r1 = r ∧ H1 = H')
theorem cellaretref10_Dev_Write.ok (args : List AVal) (H : AHeap) (r : AVal) (H' : AHeap) (h : S_cellaretref10_Dev_Write args H r H') : ∃ x0 x1 x2 : AVal, args = [x0, x1, x2] ∧ cellaretref10_Dev_Write.w x0 x1 x2 H fun r1 H1 => r1 = r ∧ H1 = H' := by
  obtain ⟨x0, x1, x2, h1, h2⟩ := h
  exact ⟨x0, x1, x2, h1, h2⟩
set_option maxRecDepth 100000 in
theorem cellaretref10_Dev_Write.ex (x0 x1 x2 : AVal) (H : AHeap) : Ex fun K : AVal × AHeap → Prop => cellaretref10_Dev_Write.w x0 x1 x2 H fun r H => K (r, H) := by
  unfold cellaretref10_Dev_Write.w
  repeat with_reducible first
    | exact Ex.pt _
    | exact Ex.fin
    | exact Ex.no
    | refine Ex.vb fun _ => ?_
    | refine Ex.hb fun _ _ => ?_
    | refine Ex.sb fun _ => ?_
    | refine Ex.cb fun _ _ => ?_
    | refine Ex.isB fun _ => ?_
    | refine Ex.cond ?_ ?_
    | refine Ex.onE ?_ ?_
    | refine Ex.join ?_ fun _ _ _ => ?_
    | refine Ex.loop (fun _ _ => ?_) fun _ _ _ => ?_

theorem cellaretref10_Dev_Write.out {x0 x1 x2 : AVal} {H : AHeap} {Q : AVal → AHeap → Prop} (h : cellaretref10_Dev_Write.w x0 x1 x2 H fun r H' => Q r H') : ∃ r H', S_cellaretref10_Dev_Write [x0, x1, x2] H r H' ∧ Q r H' := by
  obtain ⟨r, H', h1, h2⟩ := (cellaretref10_Dev_Write.ex x0 x1 x2 H).out h
  exact ⟨r, H', ⟨_, _, _, rfl, h1⟩, h2⟩

def cellaretref10_Dev_Flush.w (x0 : AVal) (H : AHeap) (K : AVal → AHeap → Prop) : Prop :=
  hb (aBuildSlice H 1 [.str []] 0 []) fun v1 H2 =>
  vb (aNilCheck x0) fun v3 =>
  vb (aFieldAddr 0 v3) fun v4 =>
  vb (aLoad H2 false 1 v4) fun v5 =>
  hb (aAppendS H2 1 16 v1 v5) fun v6 H7 =>
  vb (aNilCheck x0) fun v8 =>
  vb (aFieldAddr 1 v8) fun v9 =>
  sb (aStore H7 1 v9 v6) fun H10 =>
  vb (aNilCheck x0) fun v11 =>
  vb (aFieldAddr 0 v11) fun v12 =>
  vb (aLoad H10 false 1 v12) fun v13 =>
  vb (lenSl v13) fun v14 =>
  hb (aMakeSlice H10 1 [.bool false] v14 v14) fun v15 H16 =>
  vb (aNilCheck x0) fun v17 =>
  vb (aFieldAddr 2 v17) fun v18 =>
  sb (aStore H16 1 v18 v15) fun H19 =>
  fin .normal [] H19 K

def S_cellaretref10_Dev_Flush : Abs.Spec := fun args H r H' => ∃ x0 : AVal, args = [x0] ∧ (cellaretref10_Dev_Flush.w x0 H fun r1 H1 => r1 = r ∧ H1 = H')
theorem cellaretref10_Dev_Flush.ok (args : List AVal) (H : AHeap) (r : AVal) (H' : AHeap) (h : S_cellaretref10_Dev_Flush args H r H') : ∃ x0 : AVal, args = [x0] ∧ cellaretref10_Dev_Flush.w x0 H fun r1 H1 => r1 = r ∧ H1 = H' := by
  obtain ⟨x0, h1, h2⟩ := h
  exact ⟨x0, h1, h2⟩
set_option maxRecDepth 100000 in
theorem cellaretref10_Dev_Flush.ex (x0 : AVal) (H : AHeap) : Ex fun K : AVal × AHeap → Prop => cellaretref10_Dev_Flush.w x0 H fun r H => K (r, H) := by
  unfold cellaretref10_Dev_Flush.w
  repeat with_reducible first
    | exact Ex.pt _
    | exact Ex.fin
    | exact Ex.no
    | refine Ex.vb fun _ => ?_
    | refine Ex.hb fun _ _ => ?_
    | refine Ex.sb fun _ => ?_
    | refine Ex.cb fun _ _ => ?_
    | refine Ex.isB fun _ => ?_
    | refine Ex.cond ?_ ?_
    | refine Ex.onE ?_ ?_
    | refine Ex.join ?_ fun _ _ _ => ?_
    | refine Ex.loop (fun _ _ => ?_) fun _ _ _ => ?_

theorem cellaretref10_Dev_Flush.out {x0 : AVal} {H : AHeap} {Q : AVal → AHeap → Prop} (h : cellaretref10_Dev_Flush.w x0 H fun r H' => Q r H') : ∃ r H', S_cellaretref10_Dev_Flush [x0] H r H' ∧ Q r H' := by
  obtain ⟨r, H', h1, h2⟩ := (cellaretref10_Dev_Flush.ex x0 H).out h
  exact ⟨r, H', ⟨_, rfl, h1⟩, h2⟩

def cellaretref10_Dev_Tamper.w (x0 : AVal) (x1 : AVal) (x2 : AVal) (H : AHeap) (K : AVal → AHeap → Prop) : Prop :=
  vb (aNilCheck x0) fun v1 =>
  vb (aFieldAddr 0 v1) fun v2 =>
  vb (aLoad H false 1 v2) fun v3 =>
  cb (S_cellaretref10_put [v3, x1, x2] H) fun v4 H5 =>
  vb (aNilCheck x0) fun v6 =>
  vb (aFieldAddr 0 v6) fun v7 =>
  sb (aStore H5 1 v7 v4) fun H8 =>
  vb (aNilCheck x0) fun v9 =>
  vb (aFieldAddr 1 v9) fun v10 =>
  vb (aLoad H8 false 1 v10) fun v11 =>
  cb (S_cellaretref10_put [v11, x1, x2] H8) fun v12 H13 =>
  vb (aNilCheck x0) fun v14 =>
  vb (aFieldAddr 1 v14) fun v15 =>
  sb (aStore H13 1 v15 v12) fun H16 =>
  fin .normal [] H16 K

def S_cellaretref10_Dev_Tamper : Abs.Spec := fun args H r H' => ∃ x0 x1 x2 : AVal, args = [x0, x1, x2] ∧ (cellaretref10_Dev_Tamper.w x0 x1 x2 H fun r1 H1 => r1 = r ∧ H1 = H')
theorem cellaretref10_Dev_Tamper.ok (args : List AVal) (H : AHeap) (r : AVal) (H' : AHeap) (h : S_cellaretref10_Dev_Tamper args H r H') : ∃ x0 x1 x2 : AVal, args = [x0, x1, x2] ∧ cellaretref10_Dev_Tamper.w x0 x1 x2 H fun r1 H1 => r1 = r ∧ H1 = H' := by
  obtain ⟨x0, x1, x2, h1, h2⟩ := h
  exact ⟨x0, x1, x2, h1, h2⟩
set_option maxRecDepth 100000 in
theorem cellaretref10_Dev_Tamper.ex (x0 x1 x2 : AVal) (H : AHeap) : Ex fun K : AVal × AHeap → Prop => cellaretref10_Dev_Tamper.w x0 x1 x2 H fun r H => K (r, H) := by
  unfold cellaretref10_Dev_Tamper.w
  repeat with_reducible first
    | exact Ex.pt _
    | exact Ex.fin
    | exact Ex.no
    | refine Ex.vb fun _ => ?_
    | refine Ex.hb fun _ _ => ?_
    | refine Ex.sb fun _ => ?_
    | refine Ex.cb fun _ _ => ?_
    | refine Ex.isB fun _ => ?_
    | refine Ex.cond ?_ ?_
    | refine Ex.onE ?_ ?_
    | refine Ex.join ?_ fun _ _ _ => ?_
    | refine Ex.loop (fun _ _ => ?_) fun _ _ _ => ?_

theorem cellaretref10_Dev_Tamper.out {x0 x1 x2 : AVal} {H : AHeap} {Q : AVal → AHeap → Prop} (h : cellaretref10_Dev_Tamper.w x0 x1 x2 H fun r H' => Q r H') : ∃ r H', S_cellaretref10_Dev_Tamper [x0, x1, x2] H r H' ∧ Q r H' := by
  obtain ⟨r, H', h1, h2⟩ := (cellaretref10_Dev_Tamper.ex x0 x1 x2 H).out h
  exact ⟨r, H', ⟨_, _, _, rfl, h1⟩, h2⟩

def cellaretref10_Dev_Crash.L8.b (x0 : AVal) (v1 : AVal) (vs15 : List AVal) (x5_8 : AVal) (x6_8 : AVal) (H17 : AHeap) (Kn18 : List AVal → AHeap → Prop) (Ke19 : AExit → List AVal → AHeap → Prop) : Prop :=
  JoinP (fun Kj20 => vb (aNilCheck x0) fun v21 =>
    vb (aFieldAddr 0 v21) fun v22 =>
    vb (aLoad H17 false 1 v22) fun v23 =>
    vb (lenSl v23) fun v24 =>
    vb (aBin .lss x6_8 v24) fun v25 =>
    isB v25 fun b26 => cond b26
      (vb (aNilCheck x0) fun v27 =>
          vb (aFieldAddr 1 v27) fun v28 =>
            vb (aLoad H17 false 1 v28) fun v29 =>
              vb (lenSl v29) fun v30 =>
                vb (aBin .lss x6_8 v30) fun v31 =>
                  isB v31 fun b32 => cond b32
                    (vb (aNilCheck x0) fun v33 =>
                        vb (aFieldAddr 2 v33) fun v34 =>
                          vb (aLoad H17 false 1 v34) fun v35 =>
                            vb (lenSl v35) fun v36 =>
                              vb (aBin .lss x6_8 v36) fun v37 =>
                                isB v37 fun b38 => cond b38
                                  (Kj20 .normal [] H17)
                                  (Kj20 (.exit 0) [] H17))
                    (Kj20 (.exit 0) [] H17))
      (Kj20 (.exit 0) [] H17))
  (fun e39 vs40 H41 =>
    onE e39 (.exit 0)
      (Ke19 (.exit 0) [x5_8] H41)
    (onE e39 .normal
      (vb (aNilCheck x0) fun v42 =>
      vb (aFieldAddr 1 v42) fun v43 =>
      vb (aLoad H41 false 1 v43) fun v44 =>
      vb (aIndexAddr 1 v44 x6_8) fun v45 =>
      vb (aLoad H41 false 1 v45) fun v46 =>
      vb (aBin .rem x6_8 (.int .i64 64)) fun v47 =>
      JoinP (fun Kj48 => vb (aNilCheck x0) fun v49 =>
        vb (aFieldAddr 2 v49) fun v50 =>
        vb (aLoad H41 false 1 v50) fun v51 =>
        vb (aIndexAddr 1 v51 x6_8) fun v52 =>
        vb (aLoad H41 false 1 v52) fun v53 =>
        vb (aUn .not v53) fun v54 =>
        isB v54 fun b55 => cond b55
          (vb (aNilCheck x0) fun v56 =>
                      vb (aFieldAddr 0 v56) fun v57 =>
                      vb (aLoad H41 false 1 v57) fun v58 =>
                      vb (aIndexAddr 1 v58 x6_8) fun v59 =>
                      vb (aLoad H41 false 1 v59) fun v60 =>
                      Kj48 .normal [v60] H41)
          (vb (aFieldAddr 0 v1) fun v61 =>
            vb (aLoad H41 false 1 v61) fun v62 =>
              vb (lenSl v62) fun v63 =>
                vb (aBin .lss v47 v63) fun v64 =>
                  isB v64 fun b65 => cond b65
                      (vb (aFieldAddr 0 v1) fun v66 =>
                      vb (aLoad H41 false 1 v66) fun v67 =>
                        vb (aIndexAddr 1 v67 v47) fun v68 =>
                            vb (aLoad H41 false 1 v68) fun v69 =>
                              isB v69 fun b70 => cond b70
                                  (vb (aNilCheck x0) fun v71 =>
                                  vb (aFieldAddr 0 v71) fun v72 =>
                                  vb (aLoad H41 false 1 v72) fun v73 =>
                                  vb (aIndexAddr 1 v73 x6_8) fun v74 =>
                                  vb (aLoad H41 false 1 v74) fun v75 =>
                                  Kj48 .normal [v75] H41)
                                  (vb (aFieldAddr 1 v1) fun v76 =>
                                  vb (aLoad H41 false 1 v76) fun v77 =>
                                  vb (aBin .eql x6_8 v77) fun v78 =>
                                  isB v78 fun b79 => cond b79
                                    (vb (aNilCheck x0) fun v80 =>
                                    vb (aFieldAddr 0 v80) fun v81 =>
                                    vb (aLoad H41 false 1 v81) fun v82 =>
                                    vb (aIndexAddr 1 v82 x6_8) fun v83 =>
                                    vb (aLoad H41 false 1 v83) fun v84 =>
                                    vb (aSliceStr v84 none (some (vs15.getD 0 .undef))) fun v85 =>
                                    vb (aNilCheck x0) fun v86 =>
                                    vb (aFieldAddr 1 v86) fun v87 =>
                                    vb (aLoad H41 false 1 v87) fun v88 =>
                                    vb (aIndexAddr 1 v88 x6_8) fun v89 =>
                                    vb (aLoad H41 false 1 v89) fun v90 =>
                                    vb (aSliceStr v90 (some (vs15.getD 0 .undef)) none) fun v91 =>
                                    vb (aBin .add v85 v91) fun v92 =>
                                    Kj48 .normal [v92] H41)
                                    (Kj48 .normal [v46] H41)))
                      (vb (aFieldAddr 1 v1) fun v93 =>
                                vb (aLoad H41 false 1 v93) fun v94 =>
                                vb (aBin .eql x6_8 v94) fun v95 =>
                                isB v95 fun b96 => cond b96
                                  (vb (aNilCheck x0) fun v97 =>
                                  vb (aFieldAddr 0 v97) fun v98 =>
                                  vb (aLoad H41 false 1 v98) fun v99 =>
                                  vb (aIndexAddr 1 v99 x6_8) fun v100 =>
                                  vb (aLoad H41 false 1 v100) fun v101 =>
                                  vb (aSliceStr v101 none (some (vs15.getD 0 .undef))) fun v102 =>
                                  vb (aNilCheck x0) fun v103 =>
                                  vb (aFieldAddr 1 v103) fun v104 =>
                                  vb (aLoad H41 false 1 v104) fun v105 =>
                                  vb (aIndexAddr 1 v105 x6_8) fun v106 =>
                                  vb (aLoad H41 false 1 v106) fun v107 =>
                                  vb (aSliceStr v107 (some (vs15.getD 0 .undef)) none) fun v108 =>
                                  vb (aBin .add v102 v108) fun v109 =>
                                  Kj48 .normal [v109] H41)
                                  (Kj48 .normal [v46] H41))))
      (fun e110 vs111 H112 =>
        onE e110 .normal
          (hb (aBuildSlice H112 1 [.str []] 1 [(0, vs111.getD 0 .undef)]) fun v113 H114 =>
          hb (aAppendS H114 1 16 x5_8 v113) fun v115 H116 =>
          vb (aBin .add x6_8 (.int .i64 1)) fun v117 =>
          Kn18 [v115, v117] H116)
        (False)))
    (False)))

def cellaretref10_Dev_Crash.L8 (x0 : AVal) (v1 : AVal) (vs15 : List AVal) : Body := fun vs H Kn Ke => cellaretref10_Dev_Crash.L8.b x0 v1 vs15 (vs.getD 0 .undef) (vs.getD 1 .undef) H Kn Ke

def cellaretref10_Dev_Crash.w (x0 : AVal) (x1 : AVal) (H : AHeap) (K : AVal → AHeap → Prop) : Prop :=
  hb (aBox H x1) fun v1 H2 =>
  vb (aFieldAddr 2 v1) fun v3 =>
  vb (aLoad H2 false 1 v3) fun v4 =>
  JoinP (fun Kj5 => vb (aBin .lss v4 (.int .i64 0)) fun v6 =>
    isB v6 fun b7 => cond b7
      (Kj5 .normal [.int .i64 0] H2)
      (Kj5 .normal [v4] H2))
  (fun e8 vs9 H10 =>
    onE e8 .normal
      (JoinP (fun Kj11 => vb (aBin .gtr (vs9.getD 0 .undef) (.int .i64 64)) fun v12 =>
        isB v12 fun b13 => cond b13
          (Kj11 .normal [.int .i64 64] H10)
          (Kj11 .normal [vs9.getD 0 .undef] H10))
      (fun e14 vs15 H16 =>
        onE e14 .normal
          (LoopP (cellaretref10_Dev_Crash.L8 x0 v1 vs15) [.nils, .int .i64 0] H16 fun e118 vs119 H120 =>
            onE e118 (.exit 0)
              (vb (aNilCheck x0) fun v121 =>
              vb (aFieldAddr 0 v121) fun v122 =>
              sb (aStore H120 1 v122 (vs119.getD 0 .undef)) fun H123 =>
              cb (S_cellaretref10_Dev_Flush [x0] H123) fun v124 H125 =>
              fin .normal [] H125 K)
            (False))
        (False)))
    (False))

def S_cellaretref10_Dev_Crash : Abs.Spec := fun args H r H' => ∃ x0 x1 : AVal, args = [x0, x1] ∧ (cellaretref10_Dev_Crash.w x0 x1 H fun r1 H1 => r1 = r ∧ H1 = H')
theorem cellaretref10_Dev_Crash.ok (args : List AVal) (H : AHeap) (r : AVal) (H' : AHeap) (h : S_cellaretref10_Dev_Crash args H r H') : ∃ x0 x1 : AVal, args = [x0, x1] ∧ cellaretref10_Dev_Crash.w x0 x1 H fun r1 H1 => r1 = r ∧ H1 = H' := by
  obtain ⟨x0, x1, h1, h2⟩ := h
  exact ⟨x0, x1, h1, h2⟩
set_option maxRecDepth 100000 in
theorem cellaretref10_Dev_Crash.ex (x0 x1 : AVal) (H : AHeap) : Ex fun K : AVal × AHeap → Prop => cellaretref10_Dev_Crash.w x0 x1 H fun r H => K (r, H) := by
  unfold cellaretref10_Dev_Crash.w
  repeat with_reducible first
    | exact Ex.pt _
    | exact Ex.fin
    | exact Ex.no
    | refine Ex.vb fun _ => ?_
    | refine Ex.hb fun _ _ => ?_
    | refine Ex.sb fun _ => ?_
    | refine Ex.cb fun _ _ => ?_
    | refine Ex.isB fun _ => ?_
    | refine Ex.cond ?_ ?_
    | refine Ex.onE ?_ ?_
    | refine Ex.join ?_ fun _ _ _ => ?_
    | refine Ex.loop (fun _ _ => ?_) fun _ _ _ => ?_
    | (unfold cellaretref10_Dev_Crash.L8; unfold cellaretref10_Dev_Crash.L8.b)

theorem cellaretref10_Dev_Crash.out {x0 x1 : AVal} {H : AHeap} {Q : AVal → AHeap → Prop} (h : cellaretref10_Dev_Crash.w x0 x1 H fun r H' => Q r H') : ∃ r H', S_cellaretref10_Dev_Crash [x0, x1] H r H' ∧ Q r H' := by
  obtain ⟨r, H', h1, h2⟩ := (cellaretref10_Dev_Crash.ex x0 x1 H).out h
  exact ⟨r, H', ⟨_, _, rfl, h1⟩, h2⟩

def cellaretref12_New.w (H : AHeap) (K : AVal → AHeap → Prop) : Prop :=
  cb (S_cellaretref10_New [.int .i64 288] H) fun v1 H2 =>
  cb (S_cellaretref10_New [.int .i64 288] H2) fun v3 H4 =>
  vb (aBuild [.nilp, .nilp] (fun k => some (k * 1, 1)) [(0, v1), (1, v3)]) fun v5 =>
  cb (S_cellaretref01_Zeros [.int .i64 96] H4) fun v6 H7 =>
  vb (aBuild [.nilp, .nilp, .str [], .bool false, .int .i64 0, .int .i64 0, .int .i64 0, .int .i64 0, .int .i64 0, .int .i64 0, .str []] (fun k => ([(0, 2), (2, 1), (3, 1), (4, 1), (5, 1), (6, 1), (7, 1), (8, 2), (10, 1)] : List (Nat × Nat))[k]?) [(0, v5), (1, v6)]) fun v8 =>
  hb (aBox H7 v8) fun v9 H10 =>
  fin .ret [.v (v9)] H10 K

def S_cellaretref12_New : Abs.Spec := fun args H r H' => args = [] ∧ (cellaretref12_New.w H fun r1 H1 => r1 = r ∧ H1 = H') ∧ H <+: H'
theorem cellaretref12_New.ok (args : List AVal) (H : AHeap) (r : AVal) (H' : AHeap) (h : S_cellaretref12_New args H r H') : args = [] ∧ cellaretref12_New.w H fun r1 H1 => r1 = r ∧ H1 = H' := by
  obtain ⟨h1, h2, _⟩ := h
  exact ⟨h1, h2⟩
theorem cellaretref12_New.quiet {args : List AVal} {H : AHeap} {r : AVal} {H' : AHeap} (h : S_cellaretref12_New args H r H') : H <+: H' := by
  obtain ⟨_, _, h⟩ := h
  exact h
set_option maxRecDepth 100000 in
theorem cellaretref12_New.ex (H : AHeap) : Ex fun K : AVal × AHeap → Prop => cellaretref12_New.w H fun r H => K (r, H) := by
  unfold cellaretref12_New.w
  repeat with_reducible first
    | exact Ex.pt _
    | exact Ex.fin
    | exact Ex.no
    | refine Ex.vb fun _ => ?_
    | refine Ex.hb fun _ _ => ?_
    | refine Ex.sb fun _ => ?_
    | refine Ex.cb fun _ _ => ?_
    | refine Ex.isB fun _ => ?_
    | refine Ex.cond ?_ ?_
    | refine Ex.onE ?_ ?_
    | refine Ex.join ?_ fun _ _ _ => ?_
    | refine Ex.loop (fun _ _ => ?_) fun _ _ _ => ?_

theorem cellaretref12_New.out {H : AHeap} {Q : AVal → AHeap → Prop} (h : cellaretref12_New.w H fun r H' => (H <+: H') ∧ Q r H') : ∃ r H', S_cellaretref12_New [] H r H' ∧ Q r H' := by
  obtain ⟨r, H', h1, h2⟩ := (cellaretref12_New.ex H).out h
  exact ⟨r, H', ⟨rfl, h1, h2.1⟩, h2.2⟩

def cellaretref12_less.w (x0 : AVal) (H : AHeap) (K : AVal → AHeap → Prop) : Prop :=
  vb (aBin .gtr x0 (.int .i64 0)) fun v1 =>
  isB v1 fun b2 => cond b2
    (vb (aBin .sub x0 (.int .i64 1)) fun v3 =>
    fin .ret [.v (v3)] H K)
    (fin .ret [.v (.int .i64 0)] H K)

def S_cellaretref12_less : Abs.Spec := fun args H r H' => ∃ x0 : AVal, args = [x0] ∧ (cellaretref12_less.w x0 H fun r1 H1 => r1 = r ∧ H1 = H') ∧ H <+: H'
theorem cellaretref12_less.ok (args : List AVal) (H : AHeap) (r : AVal) (H' : AHeap) (h : S_cellaretref12_less args H r H') : ∃ x0 : AVal, args = [x0] ∧ cellaretref12_less.w x0 H fun r1 H1 => r1 = r ∧ H1 = H' := by
  obtain ⟨x0, h1, h2, _⟩ := h
  exact ⟨x0, h1, h2⟩
theorem cellaretref12_less.quiet {args : List AVal} {H : AHeap} {r : AVal} {H' : AHeap} (h : S_cellaretref12_less args H r H') : H <+: H' := by
  obtain ⟨_, _, _, h⟩ := h
  exact h
set_option maxRecDepth 100000 in
theorem cellaretref12_less.ex (x0 : AVal) (H : AHeap) : Ex fun K : AVal × AHeap → Prop => cellaretref12_less.w x0 H fun r H => K (r, H) := by
  unfold cellaretref12_less.w
  repeat with_reducible first
    | exact Ex.pt _
    | exact Ex.fin
    | exact Ex.no
    | refine Ex.vb fun _ => ?_
    | refine Ex.hb fun _ _ => ?_
    | refine Ex.sb fun _ => ?_
    | refine Ex.cb fun _ _ => ?_
    | refine Ex.isB fun _ => ?_
    | refine Ex.cond ?_ ?_
    | refine Ex.onE ?_ ?_
    | refine Ex.join ?_ fun _ _ _ => ?_
    | refine Ex.loop (fun _ _ => ?_) fun _ _ _ => ?_

theorem cellaretref12_less.out {x0 : AVal} {H : AHeap} {Q : AVal → AHeap → Prop} (h : cellaretref12_less.w x0 H fun r H' => (H <+: H') ∧ Q r H') : ∃ r H', S_cellaretref12_less [x0] H r H' ∧ Q r H' := by
  obtain ⟨r, H', h1, h2⟩ := (cellaretref12_less.ex x0 H).out h
  exact ⟨r, H', ⟨_, rfl, h1, h2.1⟩, h2.2⟩

def cellaretref12_Rig_Step.w (x0 : AVal) (H : AHeap) (K : AVal → AHeap → Prop) : Prop :=
  vb (aNilCheck x0) fun v1 =>
  vb (aFieldAddr 3 v1) fun v2 =>
  vb (aLoad H false 1 v2) fun v3 =>
  isB v3 fun b4 => cond b4
    (fin .ret [.v (.int .i64 11)] H K)
    (vb (aNilCheck x0) fun v5 =>
    vb (aFieldAddr 4 v5) fun v6 =>
    vb (aLoad H false 1 v6) fun v7 =>
    vb (aBin .add v7 (.int .i64 1)) fun v8 =>
    vb (aNilCheck x0) fun v9 =>
    vb (aFieldAddr 4 v9) fun v10 =>
    sb (aStore H 1 v10 v8) fun H11 =>
    JoinP (fun Kj12 => vb (aNilCheck x0) fun v13 =>
      vb (aFieldAddr 5 v13) fun v14 =>
      vb (aLoad H11 false 1 v14) fun v15 =>
      vb (aBin .eql v15 (.int .i64 1)) fun v16 =>
      isB v16 fun b17 => cond b17
        (vb (aNilCheck x0) fun v18 =>
        vb (aFieldAddr 8 v18) fun v19 =>
        vb (aIndexAddrArr 2 1 v19 (.int .i64 0)) fun v20 =>
        vb (aLoad H11 false 1 v20) fun v21 =>
        vb (aNilCheck x0) fun v22 =>
        vb (aFieldAddr 0 v22) fun v23 =>
        vb (aIndexAddrArr 2 1 v23 v21) fun v24 =>
        vb (aLoad H11 false 1 v24) fun v25 =>
        vb (aNilCheck x0) fun v26 =>
        vb (aFieldAddr 8 v26) fun v27 =>
        vb (aIndexAddrArr 2 1 v27 (.int .i64 1)) fun v28 =>
        vb (aLoad H11 false 1 v28) fun v29 =>
        vb (aNilCheck x0) fun v30 =>
        vb (aFieldAddr 10 v30) fun v31 =>
        vb (aLoad H11 false 1 v31) fun v32 =>
        cb (S_cellaretref10_Dev_Tamper [v25, v29, v32] H11) fun v33 H34 =>
        Kj12 .normal [] H34)
        (Kj12 .normal [] H11))
    (fun e35 vs36 H37 =>
      onE e35 .normal
        (JoinP (fun Kj38 => vb (aNilCheck x0) fun v39 =>
          vb (aFieldAddr 7 v39) fun v40 =>
          vb (aLoad H37 false 1 v40) fun v41 =>
          vb (aBin .eql v41 (.int .i64 1)) fun v42 =>
          isB v42 fun b43 => cond b43
            (Kj38 .normal [.int .i64 10] H37)
            (Kj38 .normal [.int .i64 0] H37))
        (fun e44 vs45 H46 =>
          onE e44 .normal
            (JoinP (fun Kj47 => vb (aNilCheck x0) fun v48 =>
              vb (aFieldAddr 6 v48) fun v49 =>
              vb (aLoad H46 false 1 v49) fun v50 =>
              vb (aBin .eql v50 (.int .i64 1)) fun v51 =>
              isB v51 fun b52 => cond b52
                (vb (aNilCheck x0) fun v53 =>
                vb (aFieldAddr 3 v53) fun v54 =>
                sb (aStore H46 1 v54 (.bool true)) fun H55 =>
                Kj47 .normal [.int .i64 11] H55)
                (Kj47 .normal [vs45.getD 0 .undef] H46))
            (fun e56 vs57 H58 =>
              onE e56 .normal
                (vb (aNilCheck x0) fun v59 =>
                vb (aFieldAddr 5 v59) fun v60 =>
                vb (aLoad H58 false 1 v60) fun v61 =>
                cb (S_cellaretref12_less [v61] H58) fun v62 H63 =>
                vb (aNilCheck x0) fun v64 =>
                vb (aFieldAddr 5 v64) fun v65 =>
                sb (aStore H63 1 v65 v62) fun H66 =>
                vb (aNilCheck x0) fun v67 =>
                vb (aFieldAddr 7 v67) fun v68 =>
                vb (aLoad H66 false 1 v68) fun v69 =>
                cb (S_cellaretref12_less [v69] H66) fun v70 H71 =>
                vb (aNilCheck x0) fun v72 =>
                vb (aFieldAddr 7 v72) fun v73 =>
                sb (aStore H71 1 v73 v70) fun H74 =>
                vb (aNilCheck x0) fun v75 =>
                vb (aFieldAddr 6 v75) fun v76 =>
                vb (aLoad H74 false 1 v76) fun v77 =>
                cb (S_cellaretref12_less [v77] H74) fun v78 H79 =>
                vb (aNilCheck x0) fun v80 =>
                vb (aFieldAddr 6 v80) fun v81 =>
                sb (aStore H79 1 v81 v78) fun H82 =>
                fin .ret [.v (vs57.getD 0 .undef)] H82 K)
              (False)))
          (False)))
      (False)))

def S_cellaretref12_Rig_Step : Abs.Spec := fun args H r H' => ∃ x0 : AVal, args = [x0] ∧ (cellaretref12_Rig_Step.w x0 H fun r1 H1 => r1 = r ∧ H1 = H')
theorem cellaretref12_Rig_Step.ok (args : List AVal) (H : AHeap) (r : AVal) (H' : AHeap) (h : S_cellaretref12_Rig_Step args H r H') : ∃ x0 : AVal, args = [x0] ∧ cellaretref12_Rig_Step.w x0 H fun r1 H1 => r1 = r ∧ H1 = H' := by
  obtain ⟨x0, h1, h2⟩ := h
  exact ⟨x0, h1, h2⟩
set_option maxRecDepth 100000 in
theorem cellaretref12_Rig_Step.ex (x0 : AVal) (H : AHeap) : Ex fun K : AVal × AHeap → Prop => cellaretref12_Rig_Step.w x0 H fun r H => K (r, H) := by
  unfold cellaretref12_Rig_Step.w
  repeat with_reducible first
    | exact Ex.pt _
    | exact Ex.fin
    | exact Ex.no
    | refine Ex.vb fun _ => ?_
    | refine Ex.hb fun _ _ => ?_
    | refine Ex.sb fun _ => ?_
    | refine Ex.cb fun _ _ => ?_
    | refine Ex.isB fun _ => ?_
    | refine Ex.cond ?_ ?_
    | refine Ex.onE ?_ ?_
    | refine Ex.join ?_ fun _ _ _ => ?_
    | refine Ex.loop (fun _ _ => ?_) fun _ _ _ => ?_

theorem cellaretref12_Rig_Step.out {x0 : AVal} {H : AHeap} {Q : AVal → AHeap → Prop} (h : cellaretref12_Rig_Step.w x0 H fun r H' => Q r H') : ∃ r H', S_cellaretref12_Rig_Step [x0] H r H' ∧ Q r H' := by
  obtain ⟨r, H', h1, h2⟩ := (cellaretref12_Rig_Step.ex x0 H).out h
  exact ⟨r, H', ⟨_, rfl, h1⟩, h2⟩

def cellaretref12_Rig_Crash.w (x0 : AVal) (x1 : AVal) (x2 : AVal) (H : AHeap) (K : AVal → AHeap → Prop) : Prop :=
  hb (aBox H x1) fun v1 H2 =>
  hb (aBox H2 x2) fun v3 H4 =>
  vb (aNilCheck x0) fun v5 =>
  vb (aFieldAddr 0 v5) fun v6 =>
  vb (aIndexAddrArr 2 1 v6 (.int .i64 0)) fun v7 =>
  vb (aLoad H4 false 1 v7) fun v8 =>
  vb (aLoad H4 true 3 v1) fun v9 =>
  cb (S_cellaretref10_Dev_Crash [v8, v9] H4) fun v10 H11 =>
  vb (aNilCheck x0) fun v12 =>
  vb (aFieldAddr 0 v12) fun v13 =>
  vb (aIndexAddrArr 2 1 v13 (.int .i64 1)) fun v14 =>
  vb (aLoad H11 false 1 v14) fun v15 =>
  vb (aLoad H11 true 3 v3) fun v16 =>
  cb (S_cellaretref10_Dev_Crash [v15, v16] H11) fun v17 H18 =>
  vb (aNilCheck x0) fun v19 =>
  vb (aFieldAddr 3 v19) fun v20 =>
  sb (aStore H18 1 v20 (.bool false)) fun H21 =>
  vb (aNilCheck x0) fun v22 =>
  vb (aFieldAddr 5 v22) fun v23 =>
  sb (aStore H21 1 v23 (.int .i64 0)) fun H24 =>
  vb (aNilCheck x0) fun v25 =>
  vb (aFieldAddr 6 v25) fun v26 =>
  sb (aStore H24 1 v26 (.int .i64 0)) fun H27 =>
  vb (aNilCheck x0) fun v28 =>
  vb (aFieldAddr 7 v28) fun v29 =>
  sb (aStore H27 1 v29 (.int .i64 0)) fun H30 =>
  fin .normal [] H30 K

def S_cellaretref12_Rig_Crash : Abs.Spec := fun args H r H' => ∃ x0 x1 x2 : AVal, args = [x0, x1, x2] ∧ (cellaretref12_Rig_Crash.w x0 x1 x2 H fun r1 H1 => r1 = r ∧ H1 = H')
theorem cellaretref12_Rig_Crash.ok (args : List AVal) (H : AHeap) (r : AVal) (H' : AHeap) (h : S_cellaretref12_Rig_Crash args H r H') : ∃ x0 x1 x2 : AVal, args = [x0, x1, x2] ∧ cellaretref12_Rig_Crash.w x0 x1 x2 H fun r1 H1 => r1 = r ∧ H1 = H' := by
  obtain ⟨x0, x1, x2, h1, h2⟩ := h
  exact ⟨x0, x1, x2, h1, h2⟩
set_option maxRecDepth 100000 in
theorem cellaretref12_Rig_Crash.ex (x0 x1 x2 : AVal) (H : AHeap) : Ex fun K : AVal × AHeap → Prop => cellaretref12_Rig_Crash.w x0 x1 x2 H fun r H => K (r, H) := by
  unfold cellaretref12_Rig_Crash.w
  repeat with_reducible first
    | exact Ex.pt _
    | exact Ex.fin
    | exact Ex.no
    | refine Ex.vb fun _ => ?_
    | refine Ex.hb fun _ _ => ?_
    | refine Ex.sb fun _ => ?_
    | refine Ex.cb fun _ _ => ?_
    | refine Ex.isB fun _ => ?_
    | refine Ex.cond ?_ ?_
    | refine Ex.onE ?_ ?_
    | refine Ex.join ?_ fun _ _ _ => ?_
    | refine Ex.loop (fun _ _ => ?_) fun _ _ _ => ?_

theorem cellaretref12_Rig_Crash.out {x0 x1 x2 : AVal} {H : AHeap} {Q : AVal → AHeap → Prop} (h : cellaretref12_Rig_Crash.w x0 x1 x2 H fun r H' => Q r H') : ∃ r H', S_cellaretref12_Rig_Crash [x0, x1, x2] H r H' ∧ Q r H' := by
  obtain ⟨r, H', h1, h2⟩ := (cellaretref12_Rig_Crash.ex x0 x1 x2 H).out h
  exact ⟨r, H', ⟨_, _, _, rfl, h1⟩, h2⟩

def cellaretlaw12_few.w (x0 : AVal) (H : AHeap) (K : AVal → AHeap → Prop) : Prop :=
  hb (aBox H x0) fun v1 H2 =>
  vb (aFieldAddr 4 v1) fun v3 =>
  vb (aLoad H2 false 1 v3) fun v4 =>
  vb (lenSt v4) fun v5 =>
  vb (aBin .lss v5 (.int .i64 300)) fun v6 =>
  fin .ret [.v (v6)] H2 K

def S_cellaretlaw12_few : Abs.Spec := fun args H r H' => ∃ x0 : AVal, args = [x0] ∧ (cellaretlaw12_few.w x0 H fun r1 H1 => r1 = r ∧ H1 = H') ∧ H <+: H'
theorem cellaretlaw12_few.ok (args : List AVal) (H : AHeap) (r : AVal) (H' : AHeap) (h : S_cellaretlaw12_few args H r H') : ∃ x0 : AVal, args = [x0] ∧ cellaretlaw12_few.w x0 H fun r1 H1 => r1 = r ∧ H1 = H' := by
  obtain ⟨x0, h1, h2, _⟩ := h
  exact ⟨x0, h1, h2⟩
theorem cellaretlaw12_few.quiet {args : List AVal} {H : AHeap} {r : AVal} {H' : AHeap} (h : S_cellaretlaw12_few args H r H') : H <+: H' := by
  obtain ⟨_, _, _, h⟩ := h
  exact h
set_option maxRecDepth 100000 in
theorem cellaretlaw12_few.ex (x0 : AVal) (H : AHeap) : Ex fun K : AVal × AHeap → Prop => cellaretlaw12_few.w x0 H fun r H => K (r, H) := by
  unfold cellaretlaw12_few.w
  repeat with_reducible first
    | exact Ex.pt _
    | exact Ex.fin
    | exact Ex.no
    | refine Ex.vb fun _ => ?_
    | refine Ex.hb fun _ _ => ?_
    | refine Ex.sb fun _ => ?_
    | refine Ex.cb fun _ _ => ?_
    | refine Ex.isB fun _ => ?_
    | refine Ex.cond ?_ ?_
    | refine Ex.onE ?_ ?_
    | refine Ex.join ?_ fun _ _ _ => ?_
    | refine Ex.loop (fun _ _ => ?_) fun _ _ _ => ?_

theorem cellaretlaw12_few.out {x0 : AVal} {H : AHeap} {Q : AVal → AHeap → Prop} (h : cellaretlaw12_few.w x0 H fun r H' => (H <+: H') ∧ Q r H') : ∃ r H', S_cellaretlaw12_few [x0] H r H' ∧ Q r H' := by
  obtain ⟨r, H', h1, h2⟩ := (cellaretlaw12_few.ex x0 H).out h
  exact ⟨r, H', ⟨_, rfl, h1, h2.1⟩, h2.2⟩

def cellaretlaw12_text.w (x0 : AVal) (x1 : AVal) (H : AHeap) (K : AVal → AHeap → Prop) : Prop :=
  hb (aBox H x0) fun v1 H2 =>
  JoinP (fun Kj3 => vb (aFieldAddr 5 v1) fun v4 =>
    vb (aLoad H2 false 1 v4) fun v5 =>
    isB v5 fun b6 => cond b6
      (vb (aFieldAddr 4 v1) fun v7 =>
              vb (aLoad H2 false 1 v7) fun v8 =>
              Kj3 .ret [v8] H2)
      (vb (aFieldAddr 4 v1) fun v9 =>
      vb (aLoad H2 false 1 v9) fun v10 =>
        vb (lenSt v10) fun v11 =>
          vb (aBin .gtr v11 x1) fun v12 =>
              isB v12 fun b13 => cond b13
                (vb (aFieldAddr 4 v1) fun v14 =>
                vb (aLoad H2 false 1 v14) fun v15 =>
                Kj3 .ret [v15] H2)
                (Kj3 .normal [.str []] H2)))
  (fun e16 vs17 H18 =>
    onE e16 .normal
      (vb (aFieldAddr 4 v1) fun v19 =>
      vb (aLoad H18 false 1 v19) fun v20 =>
      cb (S_cellaretref01_Full [v20, x1] H18) fun v21 H22 =>
      fin .ret [.v (v21)] H22 K)
    (onE e16 .ret
      (fin .ret [.v (vs17.getD 0 .undef)] H18 K)
    (False)))

def S_cellaretlaw12_text : Abs.Spec := fun args H r H' => ∃ x0 x1 : AVal, args = [x0, x1] ∧ (cellaretlaw12_text.w x0 x1 H fun r1 H1 => r1 = r ∧ H1 = H') ∧ H <+: H'
theorem cellaretlaw12_text.ok (args : List AVal) (H : AHeap) (r : AVal) (H' : AHeap) (h : S_cellaretlaw12_text args H r H') : ∃ x0 x1 : AVal, args = [x0, x1] ∧ cellaretlaw12_text.w x0 x1 H fun r1 H1 => r1 = r ∧ H1 = H' := by
  obtain ⟨x0, x1, h1, h2, _⟩ := h
  exact ⟨x0, x1, h1, h2⟩
theorem cellaretlaw12_text.quiet {args : List AVal} {H : AHeap} {r : AVal} {H' : AHeap} (h : S_cellaretlaw12_text args H r H') : H <+: H' := by
  obtain ⟨_, _, _, _, h⟩ := h
  exact h
set_option maxRecDepth 100000 in
theorem cellaretlaw12_text.ex (x0 x1 : AVal) (H : AHeap) : Ex fun K : AVal × AHeap → Prop => cellaretlaw12_text.w x0 x1 H fun r H => K (r, H) := by
  unfold cellaretlaw12_text.w
  repeat with_reducible first
    | exact Ex.pt _
    | exact Ex.fin
    | exact Ex.no
    | refine Ex.vb fun _ => ?_
    | refine Ex.hb fun _ _ => ?_
    | refine Ex.sb fun _ => ?_
    | refine Ex.cb fun _ _ => ?_
    | refine Ex.isB fun _ => ?_
    | refine Ex.cond ?_ ?_
    | refine Ex.onE ?_ ?_
    | refine Ex.join ?_ fun _ _ _ => ?_
    | refine Ex.loop (fun _ _ => ?_) fun _ _ _ => ?_

theorem cellaretlaw12_text.out {x0 x1 : AVal} {H : AHeap} {Q : AVal → AHeap → Prop} (h : cellaretlaw12_text.w x0 x1 H fun r H' => (H <+: H') ∧ Q r H') : ∃ r H', S_cellaretlaw12_text [x0, x1] H r H' ∧ Q r H' := by
  obtain ⟨r, H', h1, h2⟩ := (cellaretlaw12_text.ex x0 x1 H).out h
  exact ⟨r, H', ⟨_, _, rfl, h1, h2.1⟩, h2.2⟩

def cellaretlaw12_may.w (x0 : AVal) (H : AHeap) (K : AVal → AHeap → Prop) : Prop :=
  hb (aBox H x0) fun v1 H2 =>
  JoinP (fun Kj3 => vb (aFieldAddr 1 v1) fun v4 =>
    vb (aLoad H2 false 1 v4) fun v5 =>
    vb (aBin .lss v5 (.int .i64 0)) fun v6 =>
    isB v6 fun b7 => cond b7
      (Kj3 .ret [.int .i64 2] H2)
      (vb (aFieldAddr 1 v1) fun v8 =>
      vb (aLoad H2 false 1 v8) fun v9 =>
        vb (aBin .gtr v9 (.int .i64 1)) fun v10 =>
          isB v10 fun b11 => cond b11
            (Kj3 .ret [.int .i64 2] H2)
            (Kj3 .normal [.int .i64 0] H2)))
  (fun e12 vs13 H14 =>
    onE e12 .normal
      (JoinP (fun Kj15 => vb (aFieldAddr 2 v1) fun v16 =>
        vb (aLoad H14 false 1 v16) fun v17 =>
        vb (aBin .lss v17 (.int .i64 0)) fun v18 =>
        isB v18 fun b19 => cond b19
          (Kj15 .ret [.int .i64 3] H14)
          (vb (aFieldAddr 2 v1) fun v20 =>
          vb (aLoad H14 false 1 v20) fun v21 =>
            vb (aBin .gtr v21 (.int .i64 287)) fun v22 =>
              isB v22 fun b23 => cond b23
                (Kj15 .ret [.int .i64 3] H14)
                (Kj15 .normal [vs13.getD 0 .undef] H14)))
      (fun e24 vs25 H26 =>
        onE e24 .normal
          (fin .ret [.v (.int .i64 0)] H26 K)
        (onE e24 .ret
          (fin .ret [.v (vs25.getD 0 .undef)] H26 K)
        (False))))
    (onE e12 .ret
      (fin .ret [.v (vs13.getD 0 .undef)] H14 K)
    (False)))

def S_cellaretlaw12_may : Abs.Spec := fun args H r H' => ∃ x0 : AVal, args = [x0] ∧ (cellaretlaw12_may.w x0 H fun r1 H1 => r1 = r ∧ H1 = H') ∧ H <+: H'
theorem cellaretlaw12_may.ok (args : List AVal) (H : AHeap) (r : AVal) (H' : AHeap) (h : S_cellaretlaw12_may args H r H') : ∃ x0 : AVal, args = [x0] ∧ cellaretlaw12_may.w x0 H fun r1 H1 => r1 = r ∧ H1 = H' := by
  obtain ⟨x0, h1, h2, _⟩ := h
  exact ⟨x0, h1, h2⟩
theorem cellaretlaw12_may.quiet {args : List AVal} {H : AHeap} {r : AVal} {H' : AHeap} (h : S_cellaretlaw12_may args H r H') : H <+: H' := by
  obtain ⟨_, _, _, h⟩ := h
  exact h
set_option maxRecDepth 100000 in
theorem cellaretlaw12_may.ex (x0 : AVal) (H : AHeap) : Ex fun K : AVal × AHeap → Prop => cellaretlaw12_may.w x0 H fun r H => K (r, H) := by
  unfold cellaretlaw12_may.w
  repeat with_reducible first
    | exact Ex.pt _
    | exact Ex.fin
    | exact Ex.no
    | refine Ex.vb fun _ => ?_
    | refine Ex.hb fun _ _ => ?_
    | refine Ex.sb fun _ => ?_
    | refine Ex.cb fun _ _ => ?_
    | refine Ex.isB fun _ => ?_
    | refine Ex.cond ?_ ?_
    | refine Ex.onE ?_ ?_
    | refine Ex.join ?_ fun _ _ _ => ?_
    | refine Ex.loop (fun _ _ => ?_) fun _ _ _ => ?_

theorem cellaretlaw12_may.out {x0 : AVal} {H : AHeap} {Q : AVal → AHeap → Prop} (h : cellaretlaw12_may.w x0 H fun r H' => (H <+: H') ∧ Q r H') : ∃ r H', S_cellaretlaw12_may [x0] H r H' ∧ Q r H' := by
  obtain ⟨r, H', h1, h2⟩ := (cellaretlaw12_may.ex x0 H).out h
  exact ⟨r, H', ⟨_, rfl, h1, h2.1⟩, h2.2⟩

def cellaretlaw12_block.w (x0 : AVal) (x1 : AVal) (H : AHeap) (K : AVal → AHeap → Prop) : Prop :=
  hb (aBox H x0) fun v1 H2 =>
  vb (aLoad H2 true 12 v1) fun v3 =>
  cb (S_cellaretlaw12_may [v3] H2) fun v4 H5 =>
  JoinP (fun Kj6 => vb (aBin .eql v4 (.int .i64 0)) fun v7 =>
    isB v7 fun b8 => cond b8
      (vb (lenSt x1) fun v9 =>
        vb (aBin .neq v9 (.int .i64 64)) fun v10 =>
          isB v10 fun b11 => cond b11
            (Kj6 .ret [.int .i64 6] H5)
            (Kj6 .normal [.int .i64 0] H5))
      (Kj6 .normal [.int .i64 0] H5))
  (fun e12 vs13 H14 =>
    onE e12 .normal
      (fin .ret [.v (v4)] H14 K)
    (onE e12 .ret
      (fin .ret [.v (vs13.getD 0 .undef)] H14 K)
    (False)))

def S_cellaretlaw12_block : Abs.Spec := fun args H r H' => ∃ x0 x1 : AVal, args = [x0, x1] ∧ (cellaretlaw12_block.w x0 x1 H fun r1 H1 => r1 = r ∧ H1 = H') ∧ H <+: H'
theorem cellaretlaw12_block.ok (args : List AVal) (H : AHeap) (r : AVal) (H' : AHeap) (h : S_cellaretlaw12_block args H r H') : ∃ x0 x1 : AVal, args = [x0, x1] ∧ cellaretlaw12_block.w x0 x1 H fun r1 H1 => r1 = r ∧ H1 = H' := by
  obtain ⟨x0, x1, h1, h2, _⟩ := h
  exact ⟨x0, x1, h1, h2⟩
theorem cellaretlaw12_block.quiet {args : List AVal} {H : AHeap} {r : AVal} {H' : AHeap} (h : S_cellaretlaw12_block args H r H') : H <+: H' := by
  obtain ⟨_, _, _, _, h⟩ := h
  exact h
set_option maxRecDepth 100000 in
theorem cellaretlaw12_block.ex (x0 x1 : AVal) (H : AHeap) : Ex fun K : AVal × AHeap → Prop => cellaretlaw12_block.w x0 x1 H fun r H => K (r, H) := by
  unfold cellaretlaw12_block.w
  repeat with_reducible first
    | exact Ex.pt _
    | exact Ex.fin
    | exact Ex.no
    | refine Ex.vb fun _ => ?_
    | refine Ex.hb fun _ _ => ?_
    | refine Ex.sb fun _ => ?_
    | refine Ex.cb fun _ _ => ?_
    | refine Ex.isB fun _ => ?_
    | refine Ex.cond ?_ ?_
    | refine Ex.onE ?_ ?_
    | refine Ex.join ?_ fun _ _ _ => ?_
    | refine Ex.loop (fun _ _ => ?_) fun _ _ _ => ?_

theorem cellaretlaw12_block.out {x0 x1 : AVal} {H : AHeap} {Q : AVal → AHeap → Prop} (h : cellaretlaw12_block.w x0 x1 H fun r H' => (H <+: H') ∧ Q r H') : ∃ r H', S_cellaretlaw12_block [x0, x1] H r H' ∧ Q r H' := by
  obtain ⟨r, H', h1, h2⟩ := (cellaretlaw12_block.ex x0 x1 H).out h
  exact ⟨r, H', ⟨_, _, rfl, h1, h2.1⟩, h2.2⟩

def cellaretlaw12_awake.w (H : AHeap) (K : AVal → AHeap → Prop) : Prop :=
  cb (S_rig_New [] H) fun v1 H2 =>
  cb (S_cellaretref01_Full [.str [97], .int .i64 64] H2) fun v3 H4 =>
  JoinP (fun Kj5 => vb (aEql false .ptr H4 v1 .nilp) fun v6 =>
    isB v6 fun b7 => cond b7
      (Kj5 .ret [.bool false] H4)
      (cb (S_rig_Rig_Arm [v1, .int .i64 2] H4) fun v8 H9 =>
        vb (aBin .neq v8 (.int .i64 0)) fun v10 =>
          isB v10 fun b11 => cond b11
            (Kj5 .ret [.bool false] H9)
            (Kj5 .normal [.bool false] H9)))
  (fun e12 vs13 H14 =>
    onE e12 .normal
      (cb (S_rig_Rig_Read [v1, .int .i64 0, .int .i64 5] H14) fun v15 H16 =>
      vb (aExtract v15 0) fun v17 =>
      vb (aExtract v15 1) fun v18 =>
      cb (S_rig_Rig_Write [v1, .int .i64 0, .int .i64 5, v3] H16) fun v19 H20 =>
      cb (S_rig_Rig_Down [v1] H20) fun v21 H22 =>
      vb (aBuild [.nils, .int .i64 0, .int .i64 0] (fun k => ([(0, 1), (1, 1), (2, 1)] : List (Nat × Nat))[k]?) []) fun v23 =>
      vb (aBuild [.nils, .int .i64 0, .int .i64 0] (fun k => ([(0, 1), (1, 1), (2, 1)] : List (Nat × Nat))[k]?) []) fun v24 =>
      cb (S_rig_Rig_Crash [v1, v23, v24] H22) fun v25 H26 =>
      cb (S_rig_Rig_Read [v1, .int .i64 0, .int .i64 5] H26) fun v27 H28 =>
      vb (aExtract v27 0) fun v29 =>
      vb (aExtract v27 1) fun v30 =>
      vb (aBin .eql v18 (.int .i64 0)) fun v31 =>
      isB v31 fun b32 => cond b32
        (vb (aBin .eql v19 (.int .i64 11)) fun v33 =>
          isB v33 fun b34 => cond b34
            (isB v21 fun b35 => cond b35
              (vb (aBin .eql v30 (.int .i64 0)) fun v36 =>
                isB v36 fun b37 => cond b37
                  (cb (S_cellaretref01_Zeros [.int .i64 64] H28) fun v38 H39 =>
                    vb (aBin .eql v29 v38) fun v40 =>
                      isB v40 fun b41 => cond b41
                        (cb (S_rig_Rig_Calls [v1] H39) fun v42 H43 =>
                          vb (aBin .eql v42 (.int .i64 3)) fun v44 =>
                            isB v44 fun b45 => cond b45
                              (cb (S_rig_Rig_Dev [v1, .int .i64 1] H43) fun v46 H47 =>
                                vb (aEql true .ptr H47 v46 .nilp) fun v48 =>
                                  fin .ret [.v (v48)] H47 K)
                              (fin .ret [.v (.bool false)] H43 K))
                        (fin .ret [.v (.bool false)] H39 K))
                  (fin .ret [.v (.bool false)] H28 K))
              (fin .ret [.v (.bool false)] H28 K))
            (fin .ret [.v (.bool false)] H28 K))
        (fin .ret [.v (.bool false)] H28 K))
    (onE e12 .ret
      (fin .ret [.v (vs13.getD 0 .undef)] H14 K)
    (False)))

def S_cellaretlaw12_awake : Abs.Spec := fun args H r H' => args = [] ∧ (cellaretlaw12_awake.w H fun r1 H1 => r1 = r ∧ H1 = H') ∧ H <+: H'
theorem cellaretlaw12_awake.ok (args : List AVal) (H : AHeap) (r : AVal) (H' : AHeap) (h : S_cellaretlaw12_awake args H r H') : args = [] ∧ cellaretlaw12_awake.w H fun r1 H1 => r1 = r ∧ H1 = H' := by
  obtain ⟨h1, h2, _⟩ := h
  exact ⟨h1, h2⟩
theorem cellaretlaw12_awake.quiet {args : List AVal} {H : AHeap} {r : AVal} {H' : AHeap} (h : S_cellaretlaw12_awake args H r H') : H <+: H' := by
  obtain ⟨_, _, h⟩ := h
  exact h
set_option maxRecDepth 100000 in
theorem cellaretlaw12_awake.ex (H : AHeap) : Ex fun K : AVal × AHeap → Prop => cellaretlaw12_awake.w H fun r H => K (r, H) := by
  unfold cellaretlaw12_awake.w
  repeat with_reducible first
    | exact Ex.pt _
    | exact Ex.fin
    | exact Ex.no
    | refine Ex.vb fun _ => ?_
    | refine Ex.hb fun _ _ => ?_
    | refine Ex.sb fun _ => ?_
    | refine Ex.cb fun _ _ => ?_
    | refine Ex.isB fun _ => ?_
    | refine Ex.cond ?_ ?_
    | refine Ex.onE ?_ ?_
    | refine Ex.join ?_ fun _ _ _ => ?_
    | refine Ex.loop (fun _ _ => ?_) fun _ _ _ => ?_

theorem cellaretlaw12_awake.out {H : AHeap} {Q : AVal → AHeap → Prop} (h : cellaretlaw12_awake.w H fun r H' => (H <+: H') ∧ Q r H') : ∃ r H', S_cellaretlaw12_awake [] H r H' ∧ Q r H' := by
  obtain ⟨r, H', h1, h2⟩ := (cellaretlaw12_awake.ex H).out h
  exact ⟨r, H', ⟨rfl, h1, h2.1⟩, h2.2⟩

def cellaretlaw12_writes.w (x0 : AVal) (x1 : AVal) (x2 : AVal) (H : AHeap) (K : AVal → AHeap → Prop) : Prop :=
  hb (aBox H x2) fun v1 H2 =>
  vb (aLoad H2 true 12 v1) fun v3 =>
  cb (S_cellaretlaw12_text [v3, .int .i64 64] H2) fun v4 H5 =>
  vb (aFieldAddr 1 v1) fun v6 =>
  vb (aLoad H5 false 1 v6) fun v7 =>
  vb (aFieldAddr 2 v1) fun v8 =>
  vb (aLoad H5 false 1 v8) fun v9 =>
  cb (S_rig_Rig_Write [x0, v7, v9, v4] H5) fun v10 H11 =>
  vb (aLoad H11 true 12 v1) fun v12 =>
  cb (S_cellaretlaw12_block [v12, v4] H11) fun v13 H14 =>
  vb (aBin .neq v13 (.int .i64 0)) fun v15 =>
  isB v15 fun b16 => cond b16
    (vb (aBin .eql v10 v13) fun v17 =>
    fin .ret [.v (v17)] H14 K)
    (cb (S_cellaretref12_Rig_Step [x1] H14) fun v18 H19 =>
    JoinP (fun Kj20 => vb (aBin .eql v18 (.int .i64 0)) fun v21 =>
      isB v21 fun b22 => cond b22
        (vb (aFieldAddr 1 v1) fun v23 =>
        vb (aLoad H19 false 1 v23) fun v24 =>
        vb (aNilCheck x1) fun v25 =>
        vb (aFieldAddr 0 v25) fun v26 =>
        vb (aIndexAddrArr 2 1 v26 v24) fun v27 =>
        vb (aLoad H19 false 1 v27) fun v28 =>
        vb (aFieldAddr 2 v1) fun v29 =>
        vb (aLoad H19 false 1 v29) fun v30 =>
        cb (S_cellaretref10_Dev_Write [v28, v30, v4] H19) fun v31 H32 =>
        Kj20 .normal [] H32)
        (Kj20 .normal [] H19))
    (fun e33 vs34 H35 =>
      onE e33 .normal
        (vb (aBin .eql v10 v18) fun v36 =>
        fin .ret [.v (v36)] H35 K)
      (False)))

def S_cellaretlaw12_writes : Abs.Spec := fun args H r H' => ∃ x0 x1 x2 : AVal, args = [x0, x1, x2] ∧ (cellaretlaw12_writes.w x0 x1 x2 H fun r1 H1 => r1 = r ∧ H1 = H')
theorem cellaretlaw12_writes.ok (args : List AVal) (H : AHeap) (r : AVal) (H' : AHeap) (h : S_cellaretlaw12_writes args H r H') : ∃ x0 x1 x2 : AVal, args = [x0, x1, x2] ∧ cellaretlaw12_writes.w x0 x1 x2 H fun r1 H1 => r1 = r ∧ H1 = H' := by
  obtain ⟨x0, x1, x2, h1, h2⟩ := h
  exact ⟨x0, x1, x2, h1, h2⟩
set_option maxRecDepth 100000 in
theorem cellaretlaw12_writes.ex (x0 x1 x2 : AVal) (H : AHeap) : Ex fun K : AVal × AHeap → Prop => cellaretlaw12_writes.w x0 x1 x2 H fun r H => K (r, H) := by
  unfold cellaretlaw12_writes.w
  repeat with_reducible first
    | exact Ex.pt _
    | exact Ex.fin
    | exact Ex.no
    | refine Ex.vb fun _ => ?_
    | refine Ex.hb fun _ _ => ?_
    | refine Ex.sb fun _ => ?_
    | refine Ex.cb fun _ _ => ?_
    | refine Ex.isB fun _ => ?_
    | refine Ex.cond ?_ ?_
    | refine Ex.onE ?_ ?_
    | refine Ex.join ?_ fun _ _ _ => ?_
    | refine Ex.loop (fun _ _ => ?_) fun _ _ _ => ?_

theorem cellaretlaw12_writes.out {x0 x1 x2 : AVal} {H : AHeap} {Q : AVal → AHeap → Prop} (h : cellaretlaw12_writes.w x0 x1 x2 H fun r H' => Q r H') : ∃ r H', S_cellaretlaw12_writes [x0, x1, x2] H r H' ∧ Q r H' := by
  obtain ⟨r, H', h1, h2⟩ := (cellaretlaw12_writes.ex x0 x1 x2 H).out h
  exact ⟨r, H', ⟨_, _, _, rfl, h1⟩, h2⟩

def cellaretlaw12_reads.w (x0 : AVal) (x1 : AVal) (x2 : AVal) (H : AHeap) (K : AVal → AHeap → Prop) : Prop :=
  hb (aBox H x2) fun v1 H2 =>
  vb (aFieldAddr 1 v1) fun v3 =>
  vb (aLoad H2 false 1 v3) fun v4 =>
  vb (aFieldAddr 2 v1) fun v5 =>
  vb (aLoad H2 false 1 v5) fun v6 =>
  cb (S_rig_Rig_Read [x0, v4, v6] H2) fun v7 H8 =>
  vb (aExtract v7 0) fun v9 =>
  vb (aExtract v7 1) fun v10 =>
  vb (aLoad H8 true 12 v1) fun v11 =>
  cb (S_cellaretlaw12_may [v11] H8) fun v12 H13 =>
  vb (aBin .neq v12 (.int .i64 0)) fun v14 =>
  isB v14 fun b15 => cond b15
    (vb (aBin .eql v9 (.str [])) fun v16 =>
    isB v16 fun b17 => cond b17
      (vb (aBin .eql v10 v12) fun v18 =>
          fin .ret [.v (v18)] H13 K)
      (fin .ret [.v (.bool false)] H13 K))
    (cb (S_cellaretref12_Rig_Step [x1] H13) fun v19 H20 =>
    vb (aBin .neq v19 (.int .i64 0)) fun v21 =>
    isB v21 fun b22 => cond b22
      (vb (aBin .eql v9 (.str [])) fun v23 =>
      isB v23 fun b24 => cond b24
        (vb (aBin .eql v10 v19) fun v25 =>
            fin .ret [.v (v25)] H20 K)
        (fin .ret [.v (.bool false)] H20 K))
      (vb (aBin .eql v10 (.int .i64 0)) fun v26 =>
      isB v26 fun b27 => cond b27
        (vb (aFieldAddr 1 v1) fun v28 =>
            vb (aLoad H20 false 1 v28) fun v29 =>
              vb (aNilCheck x1) fun v30 =>
                vb (aFieldAddr 0 v30) fun v31 =>
                  vb (aIndexAddrArr 2 1 v31 v29) fun v32 =>
                    vb (aLoad H20 false 1 v32) fun v33 =>
                      vb (aNilCheck v33) fun v34 =>
                        vb (aFieldAddr 0 v34) fun v35 =>
                          vb (aLoad H20 false 1 v35) fun v36 =>
                            vb (aFieldAddr 2 v1) fun v37 =>
                              vb (aLoad H20 false 1 v37) fun v38 =>
                                vb (aIndexAddr 1 v36 v38) fun v39 =>
                                  vb (aLoad H20 false 1 v39) fun v40 =>
                                    vb (aBin .eql v9 v40) fun v41 =>
                                      fin .ret [.v (v41)] H20 K)
        (fin .ret [.v (.bool false)] H20 K)))

def S_cellaretlaw12_reads : Abs.Spec := fun args H r H' => ∃ x0 x1 x2 : AVal, args = [x0, x1, x2] ∧ (cellaretlaw12_reads.w x0 x1 x2 H fun r1 H1 => r1 = r ∧ H1 = H')
theorem cellaretlaw12_reads.ok (args : List AVal) (H : AHeap) (r : AVal) (H' : AHeap) (h : S_cellaretlaw12_reads args H r H') : ∃ x0 x1 x2 : AVal, args = [x0, x1, x2] ∧ cellaretlaw12_reads.w x0 x1 x2 H fun r1 H1 => r1 = r ∧ H1 = H' := by
  obtain ⟨x0, x1, x2, h1, h2⟩ := h
  exact ⟨x0, x1, x2, h1, h2⟩
set_option maxRecDepth 100000 in
theorem cellaretlaw12_reads.ex (x0 x1 x2 : AVal) (H : AHeap) : Ex fun K : AVal × AHeap → Prop => cellaretlaw12_reads.w x0 x1 x2 H fun r H => K (r, H) := by
  unfold cellaretlaw12_reads.w
  repeat with_reducible first
    | exact Ex.pt _
    | exact Ex.fin
    | exact Ex.no
    | refine Ex.vb fun _ => ?_
    | refine Ex.hb fun _ _ => ?_
    | refine Ex.sb fun _ => ?_
    | refine Ex.cb fun _ _ => ?_
    | refine Ex.isB fun _ => ?_
    | refine Ex.cond ?_ ?_
    | refine Ex.onE ?_ ?_
    | refine Ex.join ?_ fun _ _ _ => ?_
    | refine Ex.loop (fun _ _ => ?_) fun _ _ _ => ?_

theorem cellaretlaw12_reads.out {x0 x1 x2 : AVal} {H : AHeap} {Q : AVal → AHeap → Prop} (h : cellaretlaw12_reads.w x0 x1 x2 H fun r H' => Q r H') : ∃ r H', S_cellaretlaw12_reads [x0, x1, x2] H r H' ∧ Q r H' := by
  obtain ⟨r, H', h1, h2⟩ := (cellaretlaw12_reads.ex x0 x1 x2 H).out h
  exact ⟨r, H', ⟨_, _, _, rfl, h1⟩, h2⟩

def cellaretlaw12_regs.w (x0 : AVal) (x1 : AVal) (x2 : AVal) (H : AHeap) (K : AVal → AHeap → Prop) : Prop :=
  hb (aBox H x2) fun v1 H2 =>
  vb (aFieldAddr 0 v1) fun v3 =>
  vb (aLoad H2 false 1 v3) fun v4 =>
  vb (aBin .eql v4 (.int .i64 6)) fun v5 =>
  isB v5 fun b6 => cond b6
    (cb (S_rig_Rig_Reg [x0] H2) fun v7 H8 =>
    vb (aExtract v7 0) fun v9 =>
    vb (aExtract v7 1) fun v10 =>
    cb (S_cellaretref12_Rig_Step [x1] H8) fun v11 H12 =>
    vb (aBin .neq v11 (.int .i64 0)) fun v13 =>
    isB v13 fun b14 => cond b14
      (vb (aBin .eql v9 (.str [])) fun v15 =>
      isB v15 fun b16 => cond b16
        (vb (aBin .eql v10 v11) fun v17 =>
            fin .ret [.v (v17)] H12 K)
        (fin .ret [.v (.bool false)] H12 K))
      (vb (aNilCheck x1) fun v18 =>
      vb (aFieldAddr 2 v18) fun v19 =>
      vb (aLoad H12 false 1 v19) fun v20 =>
      vb (aBin .eql v9 v20) fun v21 =>
      isB v21 fun b22 => cond b22
        (vb (aBin .eql v10 (.int .i64 0)) fun v23 =>
          fin .ret [.v (v23)] H12 K)
        (fin .ret [.v (.bool false)] H12 K)))
    (vb (aLoad H2 true 12 v1) fun v24 =>
    cb (S_cellaretlaw12_text [v24, .int .i64 96] H2) fun v25 H26 =>
    cb (S_rig_Rig_SetReg [x0, v25] H26) fun v27 H28 =>
    vb (lenSt v25) fun v29 =>
    vb (aBin .neq v29 (.int .i64 96)) fun v30 =>
    isB v30 fun b31 => cond b31
      (vb (aBin .eql v27 (.int .i64 6)) fun v32 =>
      fin .ret [.v (v32)] H28 K)
      (cb (S_cellaretref12_Rig_Step [x1] H28) fun v33 H34 =>
      JoinP (fun Kj35 => vb (aBin .eql v33 (.int .i64 0)) fun v36 =>
        isB v36 fun b37 => cond b37
          (vb (aNilCheck x1) fun v38 =>
          vb (aFieldAddr 2 v38) fun v39 =>
          sb (aStore H34 1 v39 v25) fun H40 =>
          Kj35 .normal [] H40)
          (Kj35 .normal [] H34))
      (fun e41 vs42 H43 =>
        onE e41 .normal
          (vb (aBin .eql v27 v33) fun v44 =>
          fin .ret [.v (v44)] H43 K)
        (False))))

def S_cellaretlaw12_regs : Abs.Spec := fun args H r H' => ∃ x0 x1 x2 : AVal, args = [x0, x1, x2] ∧ (cellaretlaw12_regs.w x0 x1 x2 H fun r1 H1 => r1 = r ∧ H1 = H')
theorem cellaretlaw12_regs.ok (args : List AVal) (H : AHeap) (r : AVal) (H' : AHeap) (h : S_cellaretlaw12_regs args H r H') : ∃ x0 x1 x2 : AVal, args = [x0, x1, x2] ∧ cellaretlaw12_regs.w x0 x1 x2 H fun r1 H1 => r1 = r ∧ H1 = H' := by
  obtain ⟨x0, x1, x2, h1, h2⟩ := h
  exact ⟨x0, x1, x2, h1, h2⟩
set_option maxRecDepth 100000 in
theorem cellaretlaw12_regs.ex (x0 x1 x2 : AVal) (H : AHeap) : Ex fun K : AVal × AHeap → Prop => cellaretlaw12_regs.w x0 x1 x2 H fun r H => K (r, H) := by
  unfold cellaretlaw12_regs.w
  repeat with_reducible first
    | exact Ex.pt _
    | exact Ex.fin
    | exact Ex.no
    | refine Ex.vb fun _ => ?_
    | refine Ex.hb fun _ _ => ?_
    | refine Ex.sb fun _ => ?_
    | refine Ex.cb fun _ _ => ?_
    | refine Ex.isB fun _ => ?_
    | refine Ex.cond ?_ ?_
    | refine Ex.onE ?_ ?_
    | refine Ex.join ?_ fun _ _ _ => ?_
    | refine Ex.loop (fun _ _ => ?_) fun _ _ _ => ?_

theorem cellaretlaw12_regs.out {x0 x1 x2 : AVal} {H : AHeap} {Q : AVal → AHeap → Prop} (h : cellaretlaw12_regs.w x0 x1 x2 H fun r H' => Q r H') : ∃ r H', S_cellaretlaw12_regs [x0, x1, x2] H r H' ∧ Q r H' := by
  obtain ⟨r, H', h1, h2⟩ := (cellaretlaw12_regs.ex x0 x1 x2 H).out h
  exact ⟨r, H', ⟨_, _, _, rfl, h1⟩, h2⟩

def cellaretlaw12_comes.w (x0 : AVal) (x1 : AVal) (x2 : AVal) (H : AHeap) (K : AVal → AHeap → Prop) : Prop :=
  hb (aBox H x2) fun v1 H2 =>
  JoinP (fun Kj3 => vb (aFieldAddr 3 v1) fun v4 =>
    vb (aLoad H2 false 1 v4) fun v5 =>
    vb (aBin .geq v5 (.int .i64 1)) fun v6 =>
    isB v6 fun b7 => cond b7
      (vb (aFieldAddr 3 v1) fun v8 =>
      vb (aLoad H2 false 1 v8) fun v9 =>
        vb (aBin .leq v9 (.int .i64 1099511627776)) fun v10 =>
          Kj3 .normal [v10] H2)
      (Kj3 .normal [.bool false] H2))
  (fun e11 vs12 H13 =>
    onE e11 .normal
      (JoinP (fun Kj14 => vb (aUn .not (vs12.getD 0 .undef)) fun v15 =>
        isB v15 fun b16 => cond b16
          (Kj14 .normal [.int .i64 2] H13)
          (Kj14 .normal [.int .i64 0] H13))
      (fun e17 vs18 H19 =>
        onE e17 .normal
          (vb (aFieldAddr 0 v1) fun v20 =>
          vb (aLoad H19 false 1 v20) fun v21 =>
          vb (aBin .eql v21 (.int .i64 9)) fun v22 =>
          isB v22 fun b23 => cond b23
            (vb (aLoad H19 true 12 v1) fun v24 =>
            cb (S_cellaretlaw12_text [v24, .int .i64 64] H19) fun v25 H26 =>
            JoinP (fun Kj27 => isB (vs12.getD 0 .undef) fun b28 => cond b28
                (vb (aLoad H26 true 12 v1) fun v29 =>
                cb (S_cellaretlaw12_block [v29, v25] H26) fun v30 H31 =>
                Kj27 .normal [v30] H31)
                (Kj27 .normal [vs18.getD 0 .undef] H26))
            (fun e32 vs33 H34 =>
              onE e32 .normal
                (JoinP (fun Kj35 => vb (aBin .eql (vs33.getD 0 .undef) (.int .i64 0)) fun v36 =>
                  isB v36 fun b37 => cond b37
                    (vb (aFieldAddr 3 v1) fun v38 =>
                    vb (aLoad H34 false 1 v38) fun v39 =>
                    vb (aNilCheck x1) fun v40 =>
                    vb (aFieldAddr 5 v40) fun v41 =>
                    sb (aStore H34 1 v41 v39) fun H42 =>
                    vb (aFieldAddr 1 v1) fun v43 =>
                    vb (aLoad H42 false 1 v43) fun v44 =>
                    vb (aFieldAddr 2 v1) fun v45 =>
                    vb (aLoad H42 false 1 v45) fun v46 =>
                    vb (aBuild [.int .i64 0, .int .i64 0] (fun k => some (k * 1, 1)) [(0, v44), (1, v46)]) fun v47 =>
                    vb (aNilCheck x1) fun v48 =>
                    vb (aFieldAddr 8 v48) fun v49 =>
                    sb (aStore H42 2 v49 v47) fun H50 =>
                    vb (aNilCheck x1) fun v51 =>
                    vb (aFieldAddr 10 v51) fun v52 =>
                    sb (aStore H50 1 v52 v25) fun H53 =>
                    Kj35 .normal [] H53)
                    (Kj35 .normal [] H34))
                (fun e54 vs55 H56 =>
                  onE e54 .normal
                    (vb (aFieldAddr 3 v1) fun v57 =>
                    vb (aLoad H56 false 1 v57) fun v58 =>
                    vb (aFieldAddr 1 v1) fun v59 =>
                    vb (aLoad H56 false 1 v59) fun v60 =>
                    vb (aFieldAddr 2 v1) fun v61 =>
                    vb (aLoad H56 false 1 v61) fun v62 =>
                    cb (S_rig_Rig_Later [x0, v58, v60, v62, v25] H56) fun v63 H64 =>
                    vb (aBin .eql v63 (vs33.getD 0 .undef)) fun v65 =>
                    fin .ret [.v (v65)] H64 K)
                  (False)))
              (False)))
            (vb (aBin .eql v21 (.int .i64 10)) fun v66 =>
            isB v66 fun b67 => cond b67
              (JoinP (fun Kj68 => isB (vs12.getD 0 .undef) fun b69 => cond b69
                  (vb (aFieldAddr 3 v1) fun v70 =>
                  vb (aLoad H19 false 1 v70) fun v71 =>
                  vb (aNilCheck x1) fun v72 =>
                  vb (aFieldAddr 6 v72) fun v73 =>
                  sb (aStore H19 1 v73 v71) fun H74 =>
                  Kj68 .normal [] H74)
                  (Kj68 .normal [] H19))
              (fun e75 vs76 H77 =>
                onE e75 .normal
                  (vb (aFieldAddr 3 v1) fun v78 =>
                  vb (aLoad H77 false 1 v78) fun v79 =>
                  cb (S_rig_Rig_Arm [x0, v79] H77) fun v80 H81 =>
                  vb (aBin .eql v80 (vs18.getD 0 .undef)) fun v82 =>
                  fin .ret [.v (v82)] H81 K)
                (False)))
              (JoinP (fun Kj83 => isB (vs12.getD 0 .undef) fun b84 => cond b84
                  (vb (aFieldAddr 3 v1) fun v85 =>
                  vb (aLoad H19 false 1 v85) fun v86 =>
                  vb (aNilCheck x1) fun v87 =>
                  vb (aFieldAddr 7 v87) fun v88 =>
                  sb (aStore H19 1 v88 v86) fun H89 =>
                  Kj83 .normal [] H89)
                  (Kj83 .normal [] H19))
              (fun e90 vs91 H92 =>
                onE e90 .normal
                  (vb (aFieldAddr 3 v1) fun v93 =>
                  vb (aLoad H92 false 1 v93) fun v94 =>
                  cb (S_rig_Rig_Fault [x0, v94] H92) fun v95 H96 =>
                  vb (aBin .eql v95 (vs18.getD 0 .undef)) fun v97 =>
                  fin .ret [.v (v97)] H96 K)
                (False)))))
        (False)))
    (False))

def S_cellaretlaw12_comes : Abs.Spec := fun args H r H' => ∃ x0 x1 x2 : AVal, args = [x0, x1, x2] ∧ (cellaretlaw12_comes.w x0 x1 x2 H fun r1 H1 => r1 = r ∧ H1 = H')
theorem cellaretlaw12_comes.ok (args : List AVal) (H : AHeap) (r : AVal) (H' : AHeap) (h : S_cellaretlaw12_comes args H r H') : ∃ x0 x1 x2 : AVal, args = [x0, x1, x2] ∧ cellaretlaw12_comes.w x0 x1 x2 H fun r1 H1 => r1 = r ∧ H1 = H' := by
  obtain ⟨x0, x1, x2, h1, h2⟩ := h
  exact ⟨x0, x1, x2, h1, h2⟩
set_option maxRecDepth 100000 in
theorem cellaretlaw12_comes.ex (x0 x1 x2 : AVal) (H : AHeap) : Ex fun K : AVal × AHeap → Prop => cellaretlaw12_comes.w x0 x1 x2 H fun r H => K (r, H) := by
  unfold cellaretlaw12_comes.w
  repeat with_reducible first
    | exact Ex.pt _
    | exact Ex.fin
    | exact Ex.no
    | refine Ex.vb fun _ => ?_
    | refine Ex.hb fun _ _ => ?_
    | refine Ex.sb fun _ => ?_
    | refine Ex.cb fun _ _ => ?_
    | refine Ex.isB fun _ => ?_
    | refine Ex.cond ?_ ?_
    | refine Ex.onE ?_ ?_
    | refine Ex.join ?_ fun _ _ _ => ?_
    | refine Ex.loop (fun _ _ => ?_) fun _ _ _ => ?_

theorem cellaretlaw12_comes.out {x0 x1 x2 : AVal} {H : AHeap} {Q : AVal → AHeap → Prop} (h : cellaretlaw12_comes.w x0 x1 x2 H fun r H' => Q r H') : ∃ r H', S_cellaretlaw12_comes [x0, x1, x2] H r H' ∧ Q r H' := by
  obtain ⟨r, H', h1, h2⟩ := (cellaretlaw12_comes.ex x0 x1 x2 H).out h
  exact ⟨r, H', ⟨_, _, _, rfl, h1⟩, h2⟩

def cellaretlaw12_do.w (x0 : AVal) (x1 : AVal) (x2 : AVal) (H : AHeap) (K : AVal → AHeap → Prop) : Prop :=
  hb (aBox H x2) fun v1 H2 =>
  vb (aFieldAddr 0 v1) fun v3 =>
  vb (aLoad H2 false 1 v3) fun v4 =>
  JoinP (fun Kj5 => vb (aBin .eql v4 (.int .i64 0)) fun v6 =>
    isB v6 fun b7 => cond b7
      (Kj5 .normal [v6] H2)
      (vb (aBin .eql v4 (.int .i64 1)) fun v8 =>
      isB v8 fun b9 => cond b9
        (Kj5 .normal [v8] H2)
        (vb (aBin .eql v4 (.int .i64 2)) fun v10 =>
        Kj5 .normal [v10] H2)))
  (fun e11 vs12 H13 =>
    onE e11 .normal
      (isB (vs12.getD 0 .undef) fun b14 => cond b14
        (vb (aLoad H13 true 12 v1) fun v15 =>
        cb (S_cellaretlaw12_writes [x0, x1, v15] H13) fun v16 H17 =>
        fin .ret [.v (v16)] H17 K)
        (vb (aBin .eql v4 (.int .i64 5)) fun v18 =>
        isB v18 fun b19 => cond b19
          (vb (aFieldAddr 1 v1) fun v20 =>
          vb (aLoad H13 false 1 v20) fun v21 =>
          cb (S_rig_Rig_Flush [x0, v21] H13) fun v22 H23 =>
          JoinP (fun Kj24 => vb (aFieldAddr 1 v1) fun v25 =>
            vb (aLoad H23 false 1 v25) fun v26 =>
            vb (aBin .lss v26 (.int .i64 0)) fun v27 =>
            isB v27 fun b28 => cond b28
              (vb (aBin .eql v22 (.int .i64 2)) fun v29 =>
                  Kj24 .ret [v29] H23)
              (vb (aFieldAddr 1 v1) fun v30 =>
              vb (aLoad H23 false 1 v30) fun v31 =>
                vb (aBin .gtr v31 (.int .i64 1)) fun v32 =>
                  isB v32 fun b33 => cond b33
                    (vb (aBin .eql v22 (.int .i64 2)) fun v34 =>
                    Kj24 .ret [v34] H23)
                    (Kj24 .normal [.bool false] H23)))
          (fun e35 vs36 H37 =>
            onE e35 .normal
              (cb (S_cellaretref12_Rig_Step [x1] H37) fun v38 H39 =>
              JoinP (fun Kj40 => vb (aBin .eql v38 (.int .i64 0)) fun v41 =>
                isB v41 fun b42 => cond b42
                  (vb (aFieldAddr 1 v1) fun v43 =>
                  vb (aLoad H39 false 1 v43) fun v44 =>
                  vb (aNilCheck x1) fun v45 =>
                  vb (aFieldAddr 0 v45) fun v46 =>
                  vb (aIndexAddrArr 2 1 v46 v44) fun v47 =>
                  vb (aLoad H39 false 1 v47) fun v48 =>
                  cb (S_cellaretref10_Dev_Flush [v48] H39) fun v49 H50 =>
                  Kj40 .normal [] H50)
                  (Kj40 .normal [] H39))
              (fun e51 vs52 H53 =>
                onE e51 .normal
                  (vb (aBin .eql v22 v38) fun v54 =>
                  fin .ret [.v (v54)] H53 K)
                (False)))
            (onE e35 .ret
              (fin .ret [.v (vs36.getD 0 .undef)] H37 K)
            (False))))
          (JoinP (fun Kj55 => vb (aBin .eql v4 (.int .i64 6)) fun v56 =>
            isB v56 fun b57 => cond b57
              (Kj55 .normal [v56] H13)
              (vb (aBin .eql v4 (.int .i64 7)) fun v58 =>
              Kj55 .normal [v58] H13))
          (fun e59 vs60 H61 =>
            onE e59 .normal
              (isB (vs60.getD 0 .undef) fun b62 => cond b62
                (vb (aLoad H61 true 12 v1) fun v63 =>
                cb (S_cellaretlaw12_regs [x0, x1, v63] H61) fun v64 H65 =>
                fin .ret [.v (v64)] H65 K)
                (vb (aBin .eql v4 (.int .i64 8)) fun v66 =>
                isB v66 fun b67 => cond b67
                  (vb (aLoad H61 true 12 v1) fun v68 =>
                  cb (S_cellaretlaw12_text [v68, .int .i64 64] H61) fun v69 H70 =>
                  vb (aLoad H70 true 12 v1) fun v71 =>
                  cb (S_cellaretlaw12_block [v71, v69] H70) fun v72 H73 =>
                  JoinP (fun Kj74 => vb (aBin .eql v72 (.int .i64 0)) fun v75 =>
                    isB v75 fun b76 => cond b76
                      (vb (aFieldAddr 1 v1) fun v77 =>
                      vb (aLoad H73 false 1 v77) fun v78 =>
                      vb (aNilCheck x1) fun v79 =>
                      vb (aFieldAddr 0 v79) fun v80 =>
                      vb (aIndexAddrArr 2 1 v80 v78) fun v81 =>
                      vb (aLoad H73 false 1 v81) fun v82 =>
                      vb (aFieldAddr 2 v1) fun v83 =>
                      vb (aLoad H73 false 1 v83) fun v84 =>
                      cb (S_cellaretref10_Dev_Tamper [v82, v84, v69] H73) fun v85 H86 =>
                      Kj74 .normal [] H86)
                      (Kj74 .normal [] H73))
                  (fun e87 vs88 H89 =>
                    onE e87 .normal
                      (vb (aFieldAddr 1 v1) fun v90 =>
                      vb (aLoad H89 false 1 v90) fun v91 =>
                      vb (aFieldAddr 2 v1) fun v92 =>
                      vb (aLoad H89 false 1 v92) fun v93 =>
                      cb (S_rig_Rig_Tamper [x0, v91, v93, v69] H89) fun v94 H95 =>
                      vb (aBin .eql v94 v72) fun v96 =>
                      fin .ret [.v (v96)] H95 K)
                    (False)))
                  (JoinP (fun Kj97 => vb (aBin .eql v4 (.int .i64 9)) fun v98 =>
                    isB v98 fun b99 => cond b99
                      (Kj97 .normal [v98] H61)
                      (vb (aBin .eql v4 (.int .i64 10)) fun v100 =>
                      isB v100 fun b101 => cond b101
                        (Kj97 .normal [v100] H61)
                        (vb (aBin .eql v4 (.int .i64 11)) fun v102 =>
                        Kj97 .normal [v102] H61)))
                  (fun e103 vs104 H105 =>
                    onE e103 .normal
                      (isB (vs104.getD 0 .undef) fun b106 => cond b106
                        (vb (aLoad H105 true 12 v1) fun v107 =>
                        cb (S_cellaretlaw12_comes [x0, x1, v107] H105) fun v108 H109 =>
                        fin .ret [.v (v108)] H109 K)
                        (vb (aBin .eql v4 (.int .i64 12)) fun v110 =>
                        isB v110 fun b111 => cond b111
                          (vb (aFieldAddr 6 v1) fun v112 =>
                          vb (aLoad H105 true 3 v112) fun v113 =>
                          vb (aFieldAddr 9 v1) fun v114 =>
                          vb (aLoad H105 true 3 v114) fun v115 =>
                          cb (S_cellaretref12_Rig_Crash [x1, v113, v115] H105) fun v116 H117 =>
                          vb (aFieldAddr 6 v1) fun v118 =>
                          vb (aLoad H117 true 3 v118) fun v119 =>
                          vb (aFieldAddr 9 v1) fun v120 =>
                          vb (aLoad H117 true 3 v120) fun v121 =>
                          cb (S_rig_Rig_Crash [x0, v119, v121] H117) fun v122 H123 =>
                          vb (aBin .eql v122 (.int .i64 0)) fun v124 =>
                          fin .ret [.v (v124)] H123 K)
                          (vb (aLoad H105 true 12 v1) fun v125 =>
                          cb (S_cellaretlaw12_reads [x0, x1, v125] H105) fun v126 H127 =>
                          fin .ret [.v (v126)] H127 K)))
                    (False)))))
            (False)))))
    (False))

def S_cellaretlaw12_do : Abs.Spec := fun args H r H' => ∃ x0 x1 x2 : AVal, args = [x0, x1, x2] ∧ (cellaretlaw12_do.w x0 x1 x2 H fun r1 H1 => r1 = r ∧ H1 = H')
theorem cellaretlaw12_do.ok (args : List AVal) (H : AHeap) (r : AVal) (H' : AHeap) (h : S_cellaretlaw12_do args H r H') : ∃ x0 x1 x2 : AVal, args = [x0, x1, x2] ∧ cellaretlaw12_do.w x0 x1 x2 H fun r1 H1 => r1 = r ∧ H1 = H' := by
  obtain ⟨x0, x1, x2, h1, h2⟩ := h
  exact ⟨x0, x1, x2, h1, h2⟩
set_option maxRecDepth 100000 in
theorem cellaretlaw12_do.ex (x0 x1 x2 : AVal) (H : AHeap) : Ex fun K : AVal × AHeap → Prop => cellaretlaw12_do.w x0 x1 x2 H fun r H => K (r, H) := by
  unfold cellaretlaw12_do.w
  repeat with_reducible first
    | exact Ex.pt _
    | exact Ex.fin
    | exact Ex.no
    | refine Ex.vb fun _ => ?_
    | refine Ex.hb fun _ _ => ?_
    | refine Ex.sb fun _ => ?_
    | refine Ex.cb fun _ _ => ?_
    | refine Ex.isB fun _ => ?_
    | refine Ex.cond ?_ ?_
    | refine Ex.onE ?_ ?_
    | refine Ex.join ?_ fun _ _ _ => ?_
    | refine Ex.loop (fun _ _ => ?_) fun _ _ _ => ?_

theorem cellaretlaw12_do.out {x0 x1 x2 : AVal} {H : AHeap} {Q : AVal → AHeap → Prop} (h : cellaretlaw12_do.w x0 x1 x2 H fun r H' => Q r H') : ∃ r H', S_cellaretlaw12_do [x0, x1, x2] H r H' ∧ Q r H' := by
  obtain ⟨r, H', h1, h2⟩ := (cellaretlaw12_do.ex x0 x1 x2 H).out h
  exact ⟨r, H', ⟨_, _, _, rfl, h1⟩, h2⟩

def cellaretlaw12_RigNone.w (x0 : AVal) (H : AHeap) (K : AVal → AHeap → Prop) : Prop :=
  hb (aBox H x0) fun v1 H2 =>
  vb (aLoad H2 true 12 v1) fun v3 =>
  cb (S_cellaretlaw12_few [v3] H2) fun v4 H5 =>
  vb (aUn .not v4) fun v6 =>
  isB v6 fun b7 => cond b7
    (cb (S_cellaretlaw12_awake [] H5) fun v8 H9 =>
    fin .ret [.v (v8)] H9 K)
    (vb (aFieldAddr 1 v1) fun v10 =>
    vb (aLoad H5 false 1 v10) fun v11 =>
    vb (aFieldAddr 2 v1) fun v12 =>
    vb (aLoad H5 false 1 v12) fun v13 =>
    cb (S_rig_Rig_Read [.nilp, v11, v13] H5) fun v14 H15 =>
    vb (aExtract v14 0) fun v16 =>
    vb (aExtract v14 1) fun v17 =>
    cb (S_rig_Rig_Reg [.nilp] H15) fun v18 H19 =>
    vb (aExtract v18 0) fun v20 =>
    vb (aExtract v18 1) fun v21 =>
    cb (S_rig_New [] H19) fun v22 H23 =>
    vb (aFieldAddr 1 v1) fun v24 =>
    vb (aLoad H23 false 1 v24) fun v25 =>
    cb (S_rig_Rig_Dev [v22, v25] H23) fun v26 H27 =>
    vb (aEql true .ptr H27 v26 .nilp) fun v28 =>
    cb (S_cellaretlaw12_awake [] H27) fun v29 H30 =>
    isB v29 fun b31 => cond b31
      (vb (aBin .add v16 v20) fun v32 =>
          vb (aBin .eql v32 (.str [])) fun v33 =>
            isB v33 fun b34 => cond b34
              (vb (aBin .eql v17 (.int .i64 1)) fun v35 =>
                isB v35 fun b36 => cond b36
                  (vb (aBin .eql v21 (.int .i64 1)) fun v37 =>
                    isB v37 fun b38 => cond b38
                      (vb (aFieldAddr 1 v1) fun v39 =>
                        vb (aLoad H30 false 1 v39) fun v40 =>
                          vb (aFieldAddr 2 v1) fun v41 =>
                            vb (aLoad H30 false 1 v41) fun v42 =>
                              vb (aFieldAddr 4 v1) fun v43 =>
                                vb (aLoad H30 false 1 v43) fun v44 =>
                                  cb (S_rig_Rig_Write [.nilp, v40, v42, v44] H30) fun v45 H46 =>
                                    vb (aBin .eql v45 (.int .i64 1)) fun v47 =>
                                      isB v47 fun b48 => cond b48
                                        (vb (aFieldAddr 1 v1) fun v49 =>
                                          vb (aLoad H46 false 1 v49) fun v50 =>
                                            cb (S_rig_Rig_Flush [.nilp, v50] H46) fun v51 H52 =>
                                              vb (aBin .eql v51 (.int .i64 1)) fun v53 =>
                                                isB v53 fun b54 => cond b54
                                                  (vb (aFieldAddr 4 v1) fun v55 =>
                                                    vb (aLoad H52 false 1 v55) fun v56 =>
                                                      cb (S_rig_Rig_SetReg [.nilp, v56] H52) fun v57 H58 =>
                                                        vb (aBin .eql v57 (.int .i64 1)) fun v59 =>
                                                          isB v59 fun b60 => cond b60
                                                            (vb (aFieldAddr 1 v1) fun v61 =>
                                                              vb (aLoad H58 false 1 v61) fun v62 =>
                                                                vb (aFieldAddr 2 v1) fun v63 =>
                                                                  vb (aLoad H58 false 1 v63) fun v64 =>
                                                                    vb (aFieldAddr 4 v1) fun v65 =>
                                                                      vb (aLoad H58 false 1 v65) fun v66 =>
                                                                        cb (S_rig_Rig_Tamper [.nilp, v62, v64, v66] H58) fun v67 H68 =>
                                                                          vb (aBin .eql v67 (.int .i64 1)) fun v69 =>
                                                                            isB v69 fun b70 => cond b70
                                                                              (vb (aFieldAddr 3 v1) fun v71 =>
                                                                                vb (aLoad H68 false 1 v71) fun v72 =>
                                                                                  vb (aFieldAddr 1 v1) fun v73 =>
                                                                                    vb (aLoad H68 false 1 v73) fun v74 =>
                                                                                      vb (aFieldAddr 2 v1) fun v75 =>
                                                                                        vb (aLoad H68 false 1 v75) fun v76 =>
                                                                                          vb (aFieldAddr 4 v1) fun v77 =>
                                                                                            vb (aLoad H68 false 1 v77) fun v78 =>
                                                                                              cb (S_rig_Rig_Later [.nilp, v72, v74, v76, v78] H68) fun v79 H80 =>
                                                                                                vb (aBin .eql v79 (.int .i64 1)) fun v81 =>
                                                                                                  isB v81 fun b82 => cond b82
                                                                                                    (vb (aFieldAddr 3 v1) fun v83 =>
                                                                                                      vb (aLoad H80 false 1 v83) fun v84 =>
                                                                                                        cb (S_rig_Rig_Arm [.nilp, v84] H80) fun v85 H86 =>
                                                                                                          vb (aBin .eql v85 (.int .i64 1)) fun v87 =>
                                                                                                            isB v87 fun b88 => cond b88
                                                                                                              (vb (aFieldAddr 3 v1) fun v89 =>
                                                                                                                vb (aLoad H86 false 1 v89) fun v90 =>
                                                                                                                  cb (S_rig_Rig_Fault [.nilp, v90] H86) fun v91 H92 =>
                                                                                                                    vb (aBin .eql v91 (.int .i64 1)) fun v93 =>
                                                                                                                      isB v93 fun b94 => cond b94
                                                                                                                        (vb (aFieldAddr 6 v1) fun v95 =>
                                                                                                                          vb (aLoad H92 true 3 v95) fun v96 =>
                                                                                                                            vb (aFieldAddr 9 v1) fun v97 =>
                                                                                                                              vb (aLoad H92 true 3 v97) fun v98 =>
                                                                                                                                cb (S_rig_Rig_Crash [.nilp, v96, v98] H92) fun v99 H100 =>
                                                                                                                                  vb (aBin .eql v99 (.int .i64 1)) fun v101 =>
                                                                                                                                    isB v101 fun b102 => cond b102
                                                                                                                                      (cb (S_rig_Rig_Down [.nilp] H100) fun v103 H104 =>
                                                                                                                                        vb (aUn .not v103) fun v105 =>
                                                                                                                                          isB v105 fun b106 => cond b106
                                                                                                                                            (cb (S_rig_Rig_Calls [.nilp] H104) fun v107 H108 =>
                                                                                                                                              vb (aBin .eql v107 (.int .i64 0)) fun v109 =>
                                                                                                                                                isB v109 fun b110 => cond b110
                                                                                                                                                  (vb (aFieldAddr 1 v1) fun v111 =>
                                                                                                                                                    vb (aLoad H108 false 1 v111) fun v112 =>
                                                                                                                                                      cb (S_rig_Rig_Dev [.nilp, v112] H108) fun v113 H114 =>
                                                                                                                                                        vb (aEql false .ptr H114 v113 .nilp) fun v115 =>
                                                                                                                                                          isB v115 fun b116 => cond b116
                                                                                                                                                            (cb (S_rig_Rig_Copy [.nilp] H114) fun v117 H118 =>
                                                                                                                                                              vb (aEql false .ptr H118 v117 .nilp) fun v119 =>
                                                                                                                                                                isB v119 fun b120 => cond b120
                                                                                                                                                                  (vb (aFieldAddr 1 v1) fun v121 =>
                                                                                                                                                                    vb (aLoad H118 false 1 v121) fun v122 =>
                                                                                                                                                                      vb (aBin .eql v122 (.int .i64 0)) fun v123 =>
                                                                                                                                                                        isB v123 fun b124 => cond b124
                                                                                                                                                                            (vb (aEql false .bool H118 v28 (.bool true)) fun v125 =>
                                                                                                                                                                                    fin .ret [.v (v125)] H118 K)
                                                                                                                                                                            (vb (aFieldAddr 1 v1) fun v126 =>
                                                                                                                                                                            vb (aLoad H118 false 1 v126) fun v127 =>
                                                                                                                                                                              vb (aBin .eql v127 (.int .i64 1)) fun v128 =>
                                                                                                                                                                                vb (aEql false .bool H118 v28 v128) fun v129 =>
                                                                                                                                                                                    fin .ret [.v (v129)] H118 K))
                                                                                                                                                                  (fin .ret [.v (.bool false)] H118 K))
                                                                                                                                                            (fin .ret [.v (.bool false)] H114 K))
                                                                                                                                                  (fin .ret [.v (.bool false)] H108 K))
                                                                                                                                            (fin .ret [.v (.bool false)] H104 K))
                                                                                                                                      (fin .ret [.v (.bool false)] H100 K))
                                                                                                                        (fin .ret [.v (.bool false)] H92 K))
                                                                                                              (fin .ret [.v (.bool false)] H86 K))
                                                                                                    (fin .ret [.v (.bool false)] H80 K))
                                                                              (fin .ret [.v (.bool false)] H68 K))
                                                            (fin .ret [.v (.bool false)] H58 K))
                                                  (fin .ret [.v (.bool false)] H52 K))
                                        (fin .ret [.v (.bool false)] H46 K))
                      (fin .ret [.v (.bool false)] H30 K))
                  (fin .ret [.v (.bool false)] H30 K))
              (fin .ret [.v (.bool false)] H30 K))
      (fin .ret [.v (.bool false)] H30 K))

def cellaretlaw12_RigWhole.L7.b (x0 : AVal) (v1 : AVal) (v15 : AVal) (x4_7 : AVal) (x6_7 : AVal) (H17 : AHeap) (Kn18 : List AVal → AHeap → Prop) (Ke19 : AExit → List AVal → AHeap → Prop) : Prop :=
  JoinP (fun Kj20 => vb (lenSl x0) fun v21 =>
    vb (aBin .lss x6_7 v21) fun v22 =>
    isB v22 fun b23 => cond b23
      (vb (aBin .lss x6_7 (.int .i64 40)) fun v24 =>
        isB v24 fun b25 => cond b25
          (Kj20 .normal [] H17)
          (Kj20 (.exit 0) [] H17))
      (Kj20 (.exit 0) [] H17))
  (fun e26 vs27 H28 =>
    onE e26 (.exit 0)
      (Ke19 (.exit 0) [.undef, x4_7] H28)
    (onE e26 .normal
      (vb (aIndexAddr 12 x0 x6_7) fun v29 =>
      vb (aLoad H28 true 12 v29) fun v30 =>
      cb (S_cellaretlaw12_few [v30] H28) fun v31 H32 =>
      vb (aUn .not v31) fun v33 =>
      isB v33 fun b34 => cond b34
        (vb (aBin .add x6_7 (.int .i64 1)) fun v35 =>
        Kn18 [x4_7, v35] H32)
        (JoinP (fun Kj36 => vb (aIndexAddr 12 x0 x6_7) fun v37 =>
          vb (aFieldAddr 0 v37) fun v38 =>
          vb (aLoad H32 false 1 v38) fun v39 =>
          vb (aBin .eql v39 (.int .i64 7)) fun v40 =>
          isB v40 fun b41 => cond b41
            (vb (aIndexAddr 12 x0 x6_7) fun v42 =>
            vb (aLoad H32 true 12 v42) fun v43 =>
            cb (S_cellaretlaw12_text [v43, .int .i64 96] H32) fun v44 H45 =>
            cb (S_rig_Rig_SetReg [v1, v44] H45) fun v46 H47 =>
            vb (aBin .eql v46 (.int .i64 0)) fun v48 =>
            isB v48 fun b49 => cond b49
              (Kj36 .normal [v44] H47)
              (Kj36 .normal [x4_7] H47))
            (vb (aIndexAddr 12 x0 x6_7) fun v50 =>
            vb (aLoad H32 true 12 v50) fun v51 =>
            cb (S_cellaretlaw12_do [v1, v15, v51] H32) fun v52 H53 =>
            Kj36 .normal [x4_7] H53))
        (fun e54 vs55 H56 =>
          onE e54 .normal
            (cb (S_rig_Rig_Reg [v1] H56) fun v57 H58 =>
            vb (aExtract v57 0) fun v59 =>
            vb (aExtract v57 1) fun v60 =>
            vb (aBin .eql v60 (.int .i64 0)) fun v61 =>
            isB v61 fun b62 => cond b62
              (vb (aBin .neq v59 (vs55.getD 0 .undef)) fun v63 =>
                  isB v63 fun b64 => cond b64
                    (Ke19 .ret [.bool false, vs55.getD 0 .undef] H58)
                    (vb (aBin .add x6_7 (.int .i64 1)) fun v65 =>
                    Kn18 [vs55.getD 0 .undef, v65] H58))
              (vb (aBin .add x6_7 (.int .i64 1)) fun v66 =>
                  Kn18 [vs55.getD 0 .undef, v66] H58))
          (False))))
    (False)))

def cellaretlaw12_RigWhole.L7 (x0 : AVal) (v1 : AVal) (v15 : AVal) : Body := fun vs H Kn Ke => cellaretlaw12_RigWhole.L7.b x0 v1 v15 (vs.getD 0 .undef) (vs.getD 1 .undef) H Kn Ke

def cellaretlaw12_RigWhole.w (x0 : AVal) (H : AHeap) (K : AVal → AHeap → Prop) : Prop :=
  cb (S_rig_New [] H) fun v1 H2 =>
  JoinP (fun Kj3 => vb (aEql false .ptr H2 v1 .nilp) fun v4 =>
    isB v4 fun b5 => cond b5
      (Kj3 .ret [.bool false] H2)
      (cb (S_cellaretlaw12_awake [] H2) fun v6 H7 =>
      vb (aUn .not v6) fun v8 =>
        isB v8 fun b9 => cond b9
          (Kj3 .ret [.bool false] H7)
          (Kj3 .normal [.bool false] H7)))
  (fun e10 vs11 H12 =>
    onE e10 .normal
      (cb (S_cellaretref01_Zeros [.int .i64 96] H12) fun v13 H14 =>
      cb (S_cellaretref12_New [] H14) fun v15 H16 =>
      LoopP (cellaretlaw12_RigWhole.L7 x0 v1 v15) [v13, .int .i64 0] H16 fun e67 vs68 H69 =>
        onE e67 (.exit 0)
          (vb (aBuild [.nils, .int .i64 0, .int .i64 0] (fun k => ([(0, 1), (1, 1), (2, 1)] : List (Nat × Nat))[k]?) []) fun v70 =>
          vb (aBuild [.nils, .int .i64 0, .int .i64 0] (fun k => ([(0, 1), (1, 1), (2, 1)] : List (Nat × Nat))[k]?) []) fun v71 =>
          cb (S_rig_Rig_Crash [v1, v70, v71] H69) fun v72 H73 =>
          cb (S_rig_Rig_Reg [v1] H73) fun v74 H75 =>
          vb (aExtract v74 0) fun v76 =>
          vb (aExtract v74 1) fun v77 =>
          vb (aBin .eql v76 (vs68.getD 1 .undef)) fun v78 =>
          isB v78 fun b79 => cond b79
            (vb (aBin .eql v77 (.int .i64 0)) fun v80 =>
              fin .ret [.v (v80)] H75 K)
            (fin .ret [.v (.bool false)] H75 K))
        (onE e67 .ret
          (fin .ret [.v (vs68.getD 0 .undef)] H69 K)
        (False)))
    (onE e10 .ret
      (fin .ret [.v (vs11.getD 0 .undef)] H12 K)
    (False)))

end Go.Sh

/- The document's devices, as far as a rig's register needs them: they stay well. -/
namespace Go.Sh
open Go Go.Abs

structure RD where
  a : AVal
  b : AVal
  c : AVal
  la : List (List UInt8)
  lb : List (List UInt8)
  lc : List Bool
def bools (l : List Bool) : List AVal := l.map AVal.bool
theorem strs_len' (l : List (List UInt8)) : (l.map AVal.str).length = l.length := by simp
abbrev strL (l : List (List UInt8)) : List AVal := l.map AVal.str
theorem bools_len (l : List Bool) : (bools l).length = l.length := by simp [bools]
structure RDok (x : RD) : Prop where
  la : x.la.length = 288
  lb : x.lb.length = 288
  lc : x.lc.length = 288
  sa : ∀ s ∈ x.la, s.length = 64
  sb : ∀ s ∈ x.lb, s.length = 64
def Part.rd (p : Nat) (x : RD) : Part := (Part.obj p (.cells 0 .exact [x.a, x.b, x.c])).and ((Part.sl x.a 1 288 (strL x.la)).and ((Part.sl x.b 1 288 (strL x.lb)).and (Part.sl x.c 1 288 (bools x.lc))))
section
variable {H0 B : AHeap} {own : Nat → Prop} {R : List Part} {p : Nat} {x : RD}
theorem rd_open (h : Sep H0 own B (Part.rd p x :: R)) : Sep H0 own B (.obj p (.cells 0 .exact [x.a, x.b, x.c]) :: .sl x.a 1 288 (strL x.la) :: .sl x.b 1 288 (strL x.lb) :: .sl x.c 1 288 (bools x.lc) :: R) :=
  h.split.f1.split.f1.split.f3.f3.f1
theorem rd_close (h : Sep H0 own B (.obj p (.cells 0 .exact [x.a, x.b, x.c]) :: .sl x.a 1 288 (strL x.la) :: .sl x.b 1 288 (strL x.lb) :: .sl x.c 1 288 (bools x.lc) :: R)) : Sep H0 own B (Part.rd p x :: R) :=
  h.b3.b3.join.b2.b2.join.f1.join
theorem ref_put_spec {y : AVal} {l : List (List UInt8)} {i : Int} {s : List UInt8} (hv : View B y 1 288 (strL l)) (hl : l.length = 288) (h0 : 0 ≤ i) (h1 : i < 288) :
    ∃ r C, S_cellaretref10_put [y, .int .i64 i, .str s] B r C ∧ Sep B (fun _ => False) C [.sl r 1 288 (strL (l.set i.toNat s))] := by
  refine cellaretref10_put.out ?_
  unfold cellaretref10_put.w
  have hs0 : Sep B (fun _ => False) B [] := Sep.start B
  refine s_row (cs := []) hs0 rfl fun j C pC hs => ?_
  have hs : Sep B (fun _ => False) C [.sl (.slice ⟨j, 0, 0⟩ 0 (.ex 0)) 1 0 []] := hs.as rfl fun ho => ⟨rfl, .inr (.inl ⟨j, 0, rfl, ho⟩)⟩
  refine s_appv hs (by decide) (hv.pre pC) (map_cell (fun _ => rfl) l) (by unfold room; omega) (by unfold room; omega) fun sv C hs => ?_
  rw [List.nil_append, Nat.zero_add] at hs
  refine vb_addr hs.o0.view h0 (by omega) ?_
  have hi : i.toNat < 288 := by omega
  refine s_el0 hs hi rfl ?_
  intro D hs
  refine fin_ret (rvs_v (rvs_nil _)) ⟨hs.pre fun _ x => x, ?_⟩
  rw [← List.map_set] at hs
  exact hs
theorem ref_mark_spec {y : AVal} {l : List Bool} {i : Int} {b : Bool} (hv : View B y 1 288 (bools l)) (hl : l.length = 288) (h0 : 0 ≤ i) (h1 : i < 288) :
    ∃ r C, S_cellaretref10_mark [y, .int .i64 i, .bool b] B r C ∧ Sep B (fun _ => False) C [.sl r 1 288 (bools (l.set i.toNat b))] := by
  refine cellaretref10_mark.out ?_
  unfold cellaretref10_mark.w
  have hs0 : Sep B (fun _ => False) B [] := Sep.start B
  refine s_row (cs := []) hs0 rfl fun j C pC hs => ?_
  have hs : Sep B (fun _ => False) C [.sl (.slice ⟨j, 0, 0⟩ 0 (.ex 0)) 1 0 []] := hs.as rfl fun ho => ⟨rfl, .inr (.inl ⟨j, 0, rfl, ho⟩)⟩
  refine s_appv hs (by decide) (hv.pre pC) (map_cell (fun _ => rfl) l) (by unfold room; omega) (by unfold room; omega) fun sv C hs => ?_
  rw [List.nil_append, Nat.zero_add] at hs
  refine vb_addr hs.o0.view h0 (by omega) ?_
  have hi : i.toNat < 288 := by omega
  refine s_el0 hs hi rfl ?_
  intro D hs
  refine fin_ret (rvs_v (rvs_nil _)) ⟨hs.pre fun _ x => x, ?_⟩
  unfold bools at hs ⊢
  rw [← List.map_set] at hs
  exact hs
theorem set_all {l : List (List UInt8)} {i : Nat} {s : List UInt8} (h : ∀ t ∈ l, t.length = 64) (hs : s.length = 64) : ∀ t ∈ l.set i s, t.length = 64 := fun t ht =>
  (List.mem_or_eq_of_mem_set ht).elim (h t) (fun e => e ▸ hs)
theorem sl_sc {sv : AVal} {es n : Nat} {cs : List AVal} (h : (Part.sl sv es n cs).ok B) : sv.sc = true := Own.sc h
theorem ref_Write_spec (h : Sep H0 own B (Part.rd p x :: R)) (hx : RDok x) {i : Int} {s : List UInt8} (h0 : 0 ≤ i) (h1 : i < 288) (hl : s.length = 64) :
    ∃ r C, S_cellaretref10_Dev_Write [.ptr ⟨p, 0, 0⟩, .int .i64 i, .str s] B r C ∧ ∃ x', RDok x' ∧ Sep H0 own C (Part.rd p x' :: R) := by
  refine cellaretref10_Dev_Write.out ?_
  unfold cellaretref10_Dev_Write.w
  have hs := rd_open h
  repeat first
  | with_reducible refine vb_i (e_nilCheck _) ?_
  | with_reducible refine vb_i (e_fieldAddr _ _) ?_
  | ((with_reducible apply vb_ld); (· first | exact hs.g0 | exact hs.g1 | exact hs.g2 | exact hs.g3 | exact hs.g4 | exact hs.g5 | exact hs.g6 | exact hs.rd hg | exact hs.rd hg2 | exact hs.rd hg3 | exact hs.rd hg4 | assumption); (· rfl))
  obtain ⟨a', C, hS, hC⟩ := ref_put_spec (s := s) hs.o1.view hx.la h0 h1
  refine cb_i _ _ hS ?_
  replace hs := Sep.q0 hs hC
  have hsc := sl_sc hs.head
  replace hs := hs.f1
  repeat first
  | (with_reducible apply s_store1 hs); (· rfl); (· exact hsc); (· simp only [List.length_cons, List.length_nil]; omega); intro _ hs; try simp only [List.set_cons_zero, List.set_cons_succ, Nat.add_zero, Nat.zero_add] at hs
  | with_reducible refine vb_i (e_nilCheck _) ?_
  | with_reducible refine vb_i (e_fieldAddr _ _) ?_
  | ((with_reducible apply vb_ld); (· first | exact hs.g0 | exact hs.g1 | exact hs.g2 | exact hs.g3 | exact hs.g4 | exact hs.g5 | exact hs.g6 | exact hs.rd hg | exact hs.rd hg2 | exact hs.rd hg3 | exact hs.rd hg4 | assumption); (· rfl))
  obtain ⟨c', D, hS, hD⟩ := ref_mark_spec (b := true) hs.o4.view hx.lc h0 h1
  refine cb_i _ _ hS ?_
  replace hs := Sep.q0 hs hD
  have hsc := sl_sc hs.head
  replace hs := hs.f1
  repeat first
  | (with_reducible apply s_store1 hs); (· rfl); (· exact hsc); (· simp only [List.length_cons, List.length_nil]; omega); intro _ hs; try simp only [List.set_cons_zero, List.set_cons_succ, Nat.add_zero, Nat.zero_add] at hs
  | with_reducible refine vb_i (e_nilCheck _) ?_
  | with_reducible refine vb_i (e_fieldAddr _ _) ?_
  refine fin_normal (rvs_nil _) ⟨⟨a', x.b, c', x.la.set i.toNat s, x.lb, x.lc.set i.toNat true⟩, ⟨by rw [List.length_set]; exact hx.la, hx.lb, by rw [List.length_set]; exact hx.lc, set_all hx.sa hl, hx.sb⟩, rd_close hs.f3.tail.f4.tail.f3.f3.f2⟩
theorem ref_Tamper_spec (h : Sep H0 own B (Part.rd p x :: R)) (hx : RDok x) {i : Int} {s : List UInt8} (h0 : 0 ≤ i) (h1 : i < 288) (hl : s.length = 64) :
    ∃ r C, S_cellaretref10_Dev_Tamper [.ptr ⟨p, 0, 0⟩, .int .i64 i, .str s] B r C ∧ ∃ x', RDok x' ∧ Sep H0 own C (Part.rd p x' :: R) := by
  refine cellaretref10_Dev_Tamper.out ?_
  unfold cellaretref10_Dev_Tamper.w
  have hs := rd_open h
  repeat first
  | with_reducible refine vb_i (e_nilCheck _) ?_
  | with_reducible refine vb_i (e_fieldAddr _ _) ?_
  | ((with_reducible apply vb_ld); (· first | exact hs.g0 | exact hs.g1 | exact hs.g2 | exact hs.g3 | exact hs.g4 | exact hs.g5 | exact hs.g6 | exact hs.rd hg | exact hs.rd hg2 | exact hs.rd hg3 | exact hs.rd hg4 | assumption); (· rfl))
  obtain ⟨a', C, hS, hC⟩ := ref_put_spec (s := s) hs.o1.view hx.la h0 h1
  refine cb_i _ _ hS ?_
  replace hs := Sep.q0 hs hC
  have hsc := sl_sc hs.head
  replace hs := hs.f1
  repeat first
  | (with_reducible apply s_store1 hs); (· rfl); (· exact hsc); (· simp only [List.length_cons, List.length_nil]; omega); intro _ hs; try simp only [List.set_cons_zero, List.set_cons_succ, Nat.add_zero, Nat.zero_add] at hs
  | with_reducible refine vb_i (e_nilCheck _) ?_
  | with_reducible refine vb_i (e_fieldAddr _ _) ?_
  | ((with_reducible apply vb_ld); (· first | exact hs.g0 | exact hs.g1 | exact hs.g2 | exact hs.g3 | exact hs.g4 | exact hs.g5 | exact hs.g6 | exact hs.rd hg | exact hs.rd hg2 | exact hs.rd hg3 | exact hs.rd hg4 | assumption); (· rfl))
  obtain ⟨b', D, hS, hD⟩ := ref_put_spec (s := s) hs.o3.view hx.lb h0 h1
  refine cb_i _ _ hS ?_
  replace hs := Sep.q0 hs hD
  have hsc := sl_sc hs.head
  replace hs := hs.f1
  repeat first
  | (with_reducible apply s_store1 hs); (· rfl); (· exact hsc); (· simp only [List.length_cons, List.length_nil]; omega); intro _ hs; try simp only [List.set_cons_zero, List.set_cons_succ, Nat.add_zero, Nat.zero_add] at hs
  | with_reducible refine vb_i (e_nilCheck _) ?_
  | with_reducible refine vb_i (e_fieldAddr _ _) ?_
  refine fin_normal (rvs_nil _) ⟨⟨a', b', x.c, x.la.set i.toNat s, x.lb.set i.toNat s, x.lc⟩, ⟨by rw [List.length_set]; exact hx.la, by rw [List.length_set]; exact hx.lb, hx.lc, set_all hx.sa hl, set_all hx.sb hl⟩, rd_close ?_⟩
  exact hs.f3.tail.f3.tail.f2.f1
theorem ref_Flush_spec (h : Sep H0 own B (Part.rd p x :: R)) (hx : RDok x) :
    ∃ r C, S_cellaretref10_Dev_Flush [.ptr ⟨p, 0, 0⟩] B r C ∧ ∃ x', RDok x' ∧ Sep H0 own C (Part.rd p x' :: R) := by
  refine cellaretref10_Dev_Flush.out ?_
  unfold cellaretref10_Dev_Flush.w
  have hs := rd_open h
  have hll := hx.la
  refine s_row (cs := []) hs rfl fun j C pC hs => ?_
  have hs : Sep H0 own C (.sl (.slice ⟨j, 0, 0⟩ 0 (.ex 0)) 1 0 [] :: _) := hs.as rfl fun ho => ⟨rfl, .inr (.inl ⟨j, 0, rfl, ho⟩)⟩
  repeat first
  | with_reducible refine vb_i (e_nilCheck _) ?_
  | with_reducible refine vb_i (e_fieldAddr _ _) ?_
  | ((with_reducible apply vb_ld); (· first | exact hs.g0 | exact hs.g1 | exact hs.g2 | exact hs.g3 | exact hs.g4 | exact hs.g5 | exact hs.g6 | exact hs.rd hg | exact hs.rd hg2 | exact hs.rd hg3 | exact hs.rd hg4 | assumption); (· rfl))
  refine s_appv hs (by decide) hs.o2.view (map_cell (fun _ => rfl) x.la) (by unfold room; omega) (by unfold room; omega) fun b' C hs => ?_
  rw [List.nil_append, Nat.zero_add] at hs
  have hsc := sl_sc hs.head
  replace hs := hs.f1
  repeat first
  | (with_reducible apply s_store1 hs); (· rfl); (· exact hsc); (· simp only [List.length_cons, List.length_nil]; omega); intro _ hs; try simp only [List.set_cons_zero, List.set_cons_succ, Nat.add_zero, Nat.zero_add] at hs
  | with_reducible refine vb_i (e_nilCheck _) ?_
  | with_reducible refine vb_i (e_fieldAddr _ _) ?_
  | ((with_reducible apply vb_ld); (· first | exact hs.g0 | exact hs.g1 | exact hs.g2 | exact hs.g3 | exact hs.g4 | exact hs.g5 | exact hs.g6 | exact hs.rd hg | exact hs.rd hg2 | exact hs.rd hg3 | exact hs.rd hg4 | assumption); (· rfl))
  | ((with_reducible apply vb_len); (· first | exact hs.o0.view | exact hs.o1.view | exact hs.o2.view | exact hs.o3.view | exact hs.o4.view | exact hs.o5.view | exact hs.o6.view | exact hs.rv hv | exact hs.rv hv2 | exact hs.rv hv3 | exact hs.rv hv4 | exact hs.view hkv hko | assumption))
  refine s_make hs rfl rfl (by omega) (by omega) fun c' D pD _ hs => ?_
  rw [fill_one] at hs
  have hsc := sl_sc hs.head
  replace hs := hs.f1
  repeat first
  | (with_reducible apply s_store1 hs); (· rfl); (· exact hsc); (· simp only [List.length_cons, List.length_nil]; omega); intro _ hs; try simp only [List.set_cons_zero, List.set_cons_succ, Nat.add_zero, Nat.zero_add] at hs
  | with_reducible refine vb_i (e_nilCheck _) ?_
  | with_reducible refine vb_i (e_fieldAddr _ _) ?_
  refine fin_normal (rvs_nil _) ⟨⟨x.a, b', c', x.la, x.la, List.replicate 288 false⟩, ⟨hx.la, hx.la, List.length_replicate, hx.sa, hx.sa⟩, rd_close ?_⟩
  unfold bools
  rw [List.map_replicate]
  exact hs.f4.tail.f4.tail.f3.f1.f3.f2.f2
end
end Go.Sh

/- A crash of the document's device. -/
namespace Go.Sh
open Go Go.Abs

section
variable {H0 B : AHeap} {own : Nat → Prop} {R : List Part} {p : Nat} {x : RD}
theorem get_of' {α : Type} {l : List α} {k : Nat} (h : k < l.length) : ∃ a, l[k]? = some a := ⟨_, List.getElem?_eq_getElem h⟩
theorem strL_get {l : List (List UInt8)} {k : Nat} {s : List UInt8} (h : l[k]? = some s) : (strL l)[k]? = some (.str s) := by simp [h]
theorem bools_get {l : List Bool} {k : Nat} {b : Bool} (h : l[k]? = some b) : (bools l)[k]? = some (.bool b) := by simp [bools, h]
theorem addS {a b : List UInt8} (h : a.length + b.length ≤ 4611686018427387904) : aBin .add (.str a) (.str b) = some (.str (a ++ b)) := adds h
set_option maxHeartbeats 1000000 in
set_option maxRecDepth 20000 in
theorem ref_Crash_spec (h : Sep H0 own B (Part.rd p x :: R)) (hx : RDok x) {kv : AVal} {keep : List Bool} {torn n : Int} (hkv : Lw H0 kv keep) (hko : ∀ i, slId kv = some i → ¬ own i) :
    ∃ r C, S_cellaretref10_Dev_Crash [.ptr ⟨p, 0, 0⟩, .agg [kv, .int .i64 torn, .int .i64 n]] B r C ∧ ∃ x', RDok x' ∧ Sep H0 own C (Part.rd p x' :: R) := by
  refine cellaretref10_Dev_Crash.out ?_
  unfold cellaretref10_Dev_Crash.w
  have hll := hx.la
  have hlb := hx.lb
  have hlc := hx.lc
  refine s_box h rfl fun j C pC hs => ?_
  simp only [AVal.cells] at hs
  repeat first
  | with_reducible refine vb_i (e_fieldAddr _ _) ?_
  | ((with_reducible apply vb_ld); (· first | exact hs.g0 | exact hs.g1 | exact hs.g2 | exact hs.g3 | exact hs.g4 | exact hs.g5 | exact hs.g6 | exact hs.rd hg | exact hs.rd hg2 | exact hs.rd hg3 | exact hs.rd hg4 | assumption); (· rfl))
  refine JoinP.mk (fun e vs D => C = D ∧ e = .normal ∧ ∃ m : Int, vs = [.int .i64 m] ∧ 0 ≤ m) ?_ ?_
  · refine vb_i (lss64 _ _ _) ?_
    refine isB_c (fun h1 => ?_) (fun h1 => ?_)
    · exact ⟨rfl, rfl, 0, rfl, by decide⟩
    · exact ⟨rfl, rfl, n, rfl, by omega⟩
  rintro _ _ _ ⟨rfl, rfl, m, rfl, hm0⟩
  refine onE_i ?_
  try simp only [evB]
  refine JoinP.mk (fun e vs D => C = D ∧ e = .normal ∧ ∃ m : Int, vs = [.int .i64 m] ∧ 0 ≤ m ∧ m ≤ 64) ?_ ?_
  · refine vb_i (gtr64 _ _ _) ?_
    refine isB_c (fun h1 => ?_) (fun h1 => ?_)
    · exact ⟨rfl, rfl, 64, rfl, by decide, by decide⟩
    · exact ⟨rfl, rfl, m, rfl, hm0, by omega⟩
  rintro _ _ _ ⟨rfl, rfl, m, rfl, hm0, hm1⟩
  refine onE_i ?_
  refine LoopP.ruleG (α := Nat × AVal × List (List UInt8)) (fun a => [a.2.1, .int .i64 (a.1 : Int)])
    (fun a D => (a.1 ≤ 288 ∧ a.2.2.length = a.1 ∧ ∀ s ∈ a.2.2, s.length = 64) ∧ Sep H0 own D (.sl a.2.1 1 a.2.2.length (strL a.2.2) :: .obj j (.cells 0 .exact [kv, .int .i64 torn, .int .i64 n]) :: Part.rd p x :: R)) (fun a => 288 - a.1) (0, .nils, []) (by simp)
    ⟨⟨Nat.zero_le _, rfl, fun _ h => by cases h⟩, s_nils hs 1⟩ ?_
  clear hs
  rintro ⟨k, sv, l⟩ D Kn ⟨⟨hk, hl, h64⟩, hs⟩ hnx
  unfold cellaretref10_Dev_Crash.L8 cellaretref10_Dev_Crash.L8.b
  try simp only [evB]
  simp only at hs hk hl h64
  have ho := rd_open hs.f2
  have hg := ho.g0
  refine JoinP.mk (fun e vs E => D = E ∧ ((e = .normal ∧ k < 288) ∨ (e = .exit 0 ∧ k = 288))) ?_ ?_
  · repeat first
    | (with_reducible apply vb_ld); (· exact hg); (· rfl)
    | (with_reducible apply vb_len); (· exact ho.o1.view)
    | with_reducible refine vb_i (lss64 _ _ _) ?_
    | with_reducible refine vb_i (e_nilCheck _) ?_
    | with_reducible refine vb_i (e_fieldAddr _ _) ?_
    refine isB_c (fun h1 => ?_) (fun h1 => ?_)
    · repeat first
      | (with_reducible apply vb_ld); (· exact hg); (· rfl)
      | (with_reducible apply vb_len); (· exact ho.o2.view)
      | (with_reducible apply vb_len); (· exact ho.o3.view)
      | ((with_reducible refine isB_ct ?_ ?_); (· omega))
      | with_reducible refine vb_i (lss64 _ _ _) ?_
      | with_reducible refine vb_i (e_nilCheck _) ?_
      | with_reducible refine vb_i (e_fieldAddr _ _) ?_
      exact ⟨rfl, .inl ⟨rfl, by omega⟩⟩
    · exact ⟨rfl, .inr ⟨rfl, by omega⟩⟩
  rintro _ _ _ ⟨rfl, ⟨rfl, hk2⟩ | ⟨rfl, hk2⟩⟩
  rotate_left
  · refine onE_i ?_
    refine onE_i ?_
    try simp only [evB]
    have hsc := sl_sc hs.head
    refine vb_i (e_nilCheck _) ?_
    refine vb_i (e_fieldAddr _ _) ?_
    refine s_store1 ho rfl hsc (by show 0 < 3; decide) fun E hs => ?_
    have hl2 : l.length = 288 := by omega
    rw [hl2] at hs
    have hx2 : RDok ⟨sv, x.b, x.c, l, x.lb, x.lc⟩ := ⟨hl2, hx.lb, hx.lc, h64, hx.sb⟩
    have hr : Sep H0 own E (Part.rd p ⟨sv, x.b, x.c, l, x.lb, x.lc⟩ :: .obj j (.cells 0 .exact [kv, .int .i64 torn, .int .i64 n]) :: R) := rd_close hs.f1.tail.f3.f1
    obtain ⟨r, F, hS, x', hx', hF⟩ := ref_Flush_spec hr hx2
    refine cb_i _ _ hS ?_
    exact fin_normal (rvs_nil _) ⟨x', hx', hF.f1.tail⟩
  refine onE_s (by decide) ?_
  refine onE_i ?_
  obtain ⟨sa, hga0⟩ := get_of' (l := x.la) (k := k) (by omega)
  obtain ⟨sb, hgb0⟩ := get_of' (l := x.lb) (k := k) (by omega)
  obtain ⟨bc, hgc0⟩ := get_of' (l := x.lc) (k := k) (by omega)
  have hga := strL_get hga0
  have hgb := strL_get hgb0
  have hgc := bools_get hgc0
  have hsa := hx.sa sa (List.mem_of_getElem? hga0)
  have hsb := hx.sb sb (List.mem_of_getElem? hgb0)
  repeat first
  | (with_reducible apply vb_ld); (· exact hg); (· rfl)
  | (with_reducible apply vb_addrN); (· exact ho.o2.view); (· omega)
  | (with_reducible apply vb_el0); (· exact ho.o2.view); (· exact hgb)
  | ((with_reducible refine vb_i (rem64 ?_ ?_) ?_); (· omega); (· omega))
  | with_reducible refine vb_i (e_nilCheck _) ?_
  | with_reducible refine vb_i (e_fieldAddr _ _) ?_
  have hmod : ((k : Int) % 64) = ((k % 64 : Nat) : Int) := by omega
  refine JoinP.mk (fun e vs E => D = E ∧ e = .normal ∧ ∃ t : List UInt8, vs = [.str t] ∧ t.length = 64) ?_ ?_
  · repeat first
    | (with_reducible apply vb_ld); (· exact hg); (· rfl)
    | (with_reducible apply vb_addrN); (· exact ho.o3.view); (· omega)
    | (with_reducible apply vb_el0); (· exact ho.o3.view); (· exact hgc)
    | with_reducible refine vb_i (e_not _) ?_
    | with_reducible refine vb_i (e_nilCheck _) ?_
    | with_reducible refine vb_i (e_fieldAddr _ _) ?_
    refine isB_bb (fun hb => ?_) (fun hb => ?_)
    · repeat first
      | (with_reducible apply vb_ld); (· exact hg); (· rfl)
      | (with_reducible apply vb_addrN); (· exact ho.o1.view); (· omega)
      | (with_reducible apply vb_el0); (· exact ho.o1.view); (· exact hga)
      | with_reducible refine vb_i (e_nilCheck _) ?_
      | with_reducible refine vb_i (e_fieldAddr _ _) ?_
      exact ⟨rfl, rfl, sa, rfl, hsa⟩
    repeat first
    | refine vb_i (lw_len hkv) ?_
    | with_reducible refine vb_i (lss64 _ _ _) ?_
    | with_reducible refine vb_i (e_fieldAddr _ _) ?_
    | ((with_reducible apply vb_ld); (· first | exact hs.g0 | exact hs.g1 | exact hs.g2 | exact hs.g3 | exact hs.g4 | exact hs.g5 | exact hs.g6 | exact hs.rd hg | exact hs.rd hg2 | exact hs.rd hg3 | exact hs.rd hg4 | assumption); (· rfl))
    refine isB_c (fun h1 => ?_) (fun h1 => ?_)
    · repeat first
      | with_reducible refine vb_i (e_fieldAddr _ _) ?_
      | ((with_reducible apply vb_ld); (· first | exact hs.g0 | exact hs.g1 | exact hs.g2 | exact hs.g3 | exact hs.g4 | exact hs.g5 | exact hs.g6 | exact hs.rd hg | exact hs.rd hg2 | exact hs.rd hg3 | exact hs.rd hg4 | assumption); (· rfl))
      have hk0 : 0 ≤ (k : Int) % 64 := by omega
      obtain ⟨kb, hkb⟩ := get_of' (l := keep) (k := ((k : Int) % 64).toNat) (by omega)
      refine vb_addr (hs.view (hkv.at (by omega)) hko) hk0 h1 ?_
      refine vb_el0 (hs.view (hkv.at (by omega)) hko) (by rw [List.getElem?_map, hkb]; rfl) ?_
      refine isB_bb (fun hb2 => ?_) (fun hb2 => ?_)
      · repeat first
        | (with_reducible apply vb_ld); (· exact hg); (· rfl)
        | (with_reducible apply vb_addrN); (· exact ho.o1.view); (· omega)
        | (with_reducible apply vb_el0); (· exact ho.o1.view); (· exact hga)
        | with_reducible refine vb_i (e_nilCheck _) ?_
        | with_reducible refine vb_i (e_fieldAddr _ _) ?_
        exact ⟨rfl, rfl, sa, rfl, hsa⟩
      repeat first
      | with_reducible refine vb_i (eql64 _ _ _) ?_
      | with_reducible refine vb_i (e_fieldAddr _ _) ?_
      | ((with_reducible apply vb_ld); (· first | exact hs.g0 | exact hs.g1 | exact hs.g2 | exact hs.g3 | exact hs.g4 | exact hs.g5 | exact hs.g6 | exact hs.rd hg | exact hs.rd hg2 | exact hs.rd hg3 | exact hs.rd hg4 | assumption); (· rfl))
      refine isB_c (fun h2 => ?_) (fun h2 => ?_)
      · repeat first
        | (with_reducible apply vb_ld); (· exact hg); (· rfl)
        | (with_reducible apply vb_addrN); (· exact ho.o1.view); (· omega)
        | (with_reducible apply vb_addrN); (· exact ho.o2.view); (· omega)
        | (with_reducible apply vb_el0); (· exact ho.o1.view); (· exact hga)
        | (with_reducible apply vb_el0); (· exact ho.o2.view); (· exact hgb)
        | (with_reducible refine vb_i (e_sliceStrTo ?_ ?_) ?_); (· exact hm0); (· omega)
        | (with_reducible refine vb_i (e_sliceStrFrom ?_ ?_) ?_); (· exact hm0); (· omega)
        | (with_reducible refine vb_i (addS ?_) ?_); (· simp only [List.length_take, List.length_drop]; omega)
        | with_reducible refine vb_i (e_nilCheck _) ?_
        | with_reducible refine vb_i (e_fieldAddr _ _) ?_
        exact ⟨rfl, rfl, _, rfl, by simp only [List.length_append, List.length_take, List.length_drop]; omega⟩
      · skip
        exact ⟨rfl, rfl, sb, rfl, hsb⟩
    · repeat first
      | with_reducible refine vb_i (eql64 _ _ _) ?_
      | with_reducible refine vb_i (e_fieldAddr _ _) ?_
      | ((with_reducible apply vb_ld); (· first | exact hs.g0 | exact hs.g1 | exact hs.g2 | exact hs.g3 | exact hs.g4 | exact hs.g5 | exact hs.g6 | exact hs.rd hg | exact hs.rd hg2 | exact hs.rd hg3 | exact hs.rd hg4 | assumption); (· rfl))
      refine isB_c (fun h2 => ?_) (fun h2 => ?_)
      · repeat first
        | (with_reducible apply vb_ld); (· exact hg); (· rfl)
        | (with_reducible apply vb_addrN); (· exact ho.o1.view); (· omega)
        | (with_reducible apply vb_addrN); (· exact ho.o2.view); (· omega)
        | (with_reducible apply vb_el0); (· exact ho.o1.view); (· exact hga)
        | (with_reducible apply vb_el0); (· exact ho.o2.view); (· exact hgb)
        | (with_reducible refine vb_i (e_sliceStrTo ?_ ?_) ?_); (· exact hm0); (· omega)
        | (with_reducible refine vb_i (e_sliceStrFrom ?_ ?_) ?_); (· exact hm0); (· omega)
        | (with_reducible refine vb_i (addS ?_) ?_); (· simp only [List.length_take, List.length_drop]; omega)
        | with_reducible refine vb_i (e_nilCheck _) ?_
        | with_reducible refine vb_i (e_fieldAddr _ _) ?_
        exact ⟨rfl, rfl, _, rfl, by simp only [List.length_append, List.length_take, List.length_drop]; omega⟩
      · skip
        exact ⟨rfl, rfl, sb, rfl, hsb⟩
  rintro _ _ _ ⟨rfl, rfl, t, rfl, ht⟩
  refine onE_i ?_
  try simp only [evB]
  refine s_push (m := 1) (xs := [.str t]) hs rfl (by decide) rfl rfl (by unfold room; omega) (by unfold room; omega) fun sv' C2 hs => ?_
  refine vb_i (add64 (by omega) (by omega)) ?_
  refine hnx (k + 1, sv', l ++ [t]) C2 ⟨⟨by omega, by simp only [List.length_append, List.length_cons, List.length_nil]; omega, fun s hs => (List.mem_append.1 hs).elim (h64 s) (fun h => by simp at h; exact h ▸ ht)⟩, ?_⟩ (by simp only; omega)
  simp only [List.length_append, List.length_cons, List.length_nil, List.map_append, List.map_cons, List.map_nil]
  exact hs
end
end Go.Sh

/- The document's rig stays well. -/
namespace Go.Sh
open Go Go.Abs

structure XV where
  d0 : RD
  d1 : RD
  reg : List UInt8
  down : Bool
  calls : Int
  later : Int
  arm : Int
  fault : Int
  a0 : Int
  a1 : Int
  s : List UInt8
structure XL where
  p : Nat
  q0 : Nat
  q1 : Nat
def xcells (L : XL) (x : XV) : List AVal := [.ptr ⟨L.q0, 0, 0⟩, .ptr ⟨L.q1, 0, 0⟩, .str x.reg, .bool x.down, .int .i64 x.calls, .int .i64 x.later, .int .i64 x.arm, .int .i64 x.fault, .int .i64 x.a0, .int .i64 x.a1, .str x.s]
def xparts (L : XL) (x : XV) (R : List Part) : List Part := .obj L.p (.cells 0 .exact (xcells L x)) :: Part.rd L.q0 x.d0 :: Part.rd L.q1 x.d1 :: R
structure XOk (x : XV) : Prop where
  d0 : RDok x.d0
  d1 : RDok x.d1
  later : 0 ≤ x.later ∧ x.later ≤ 1099511627776
  arm : 0 ≤ x.arm ∧ x.arm ≤ 1099511627776
  fault : 0 ≤ x.fault ∧ x.fault ≤ 1099511627776
  calls : 0 ≤ x.calls
  a0 : x.a0 = 0 ∨ x.a0 = 1
  a1 : 0 ≤ x.a1 ∧ x.a1 < 288
  s : x.s.length = 64 ∨ x.later = 0
def XL.q (L : XL) (d : Int) : Nat := if d = 0 then L.q0 else L.q1
def XV.dev (x : XV) (d : Int) : RD := if d = 0 then x.d0 else x.d1
def XV.setDev (x : XV) (d : Int) (y : RD) : XV := if d = 0 then { x with d0 := y } else { x with d1 := y }
theorem XOk.dev {x : XV} (h : XOk x) (d : Int) : RDok (x.dev d) := by
  unfold XV.dev
  split
  · exact h.d0
  · exact h.d1
theorem XOk.setDev {x : XV} (h : XOk x) (d : Int) {y : RD} (hy : RDok y) : XOk (x.setDev d y) := by
  unfold XV.setDev
  split
  · exact ⟨hy, h.d1, h.later, h.arm, h.fault, h.calls, h.a0, h.a1, h.s⟩
  · exact ⟨h.d0, hy, h.later, h.arm, h.fault, h.calls, h.a0, h.a1, h.s⟩
theorem setDev_same (x : XV) (d : Int) (y : RD) : (x.setDev d y).calls = x.calls ∧ (x.setDev d y).later = x.later ∧ (x.setDev d y).arm = x.arm ∧ (x.setDev d y).fault = x.fault ∧ (x.setDev d y).s = x.s := by
  unfold XV.setDev; split <;> exact ⟨rfl, rfl, rfl, rfl, rfl⟩
section
variable {H0 B : AHeap} {own : Nat → Prop} {R X : List Part} {L : XL} {x : XV}
set_option maxRecDepth 20000 in
theorem ref_New10_spec : ∃ r C, S_cellaretref10_New [.int .i64 288] B r C ∧ ∃ q y, r = .ptr ⟨q, 0, 0⟩ ∧ RDok y ∧ Sep B (fun _ => False) C [Part.rd q y] := by
  refine cellaretref10_New.out ?_
  unfold cellaretref10_New.w
  have hs : Sep B (fun _ => False) B [] := Sep.start B
  repeat first
  | ((with_reducible apply s_box hs); (· rfl); intro _ _ _ hs; try simp only [AVal.cells] at hs)
  | ((with_reducible apply vb_bld); (· first | rfl | (simp only [evF, evS]; rfl)))
  rename_i p D pD
  have hs : Sep B (fun _ => False) D [.obj p (.cells 0 .exact [.nils, .nils, .nils])] := hs
  refine LoopP.ruleG (α := Nat) (fun k => [.int .i64 (k : Int)])
    (fun k E => k ≤ 288 ∧ ∃ y : RD, y.la.length = k ∧ y.lb.length = k ∧ y.lc.length = k ∧ (∀ s ∈ y.la, s.length = 64) ∧ (∀ s ∈ y.lb, s.length = 64) ∧
      Sep B (fun _ => False) E [.obj p (.cells 0 .exact [y.a, y.b, y.c]), .sl y.a 1 y.la.length (strL y.la), .sl y.b 1 y.lb.length (strL y.lb), .sl y.c 1 y.lc.length (bools y.lc)]) (fun k => 288 - k) 0 (by simp)
    ⟨Nat.zero_le _, ⟨.nils, .nils, .nils, [], [], []⟩, rfl, rfl, rfl, (fun _ h => by cases h), (fun _ h => by cases h), (s_nils (s_nils (s_nils hs 1) 1) 1).f3⟩ ?_
  clear hs
  rintro k E Kn ⟨hk, y, h1, h2, h3, h4, h5, hs⟩ hnx
  unfold cellaretref10_New.L3 cellaretref10_New.L3.b
  try simp only [evB]
  refine vb_i (lss64 _ _ _) ?_
  refine isB_c (fun hlt => ?_) (fun hlt => ?_)
  rotate_left
  · have : k = 288 := by omega
    subst this
    refine onE_i ?_
    rw [h1, h2, h3] at hs
    have hfin : Sep B (fun _ => False) E [Part.rd p y] := rd_close hs
    exact fin_ret (rvs_v (rvs_nil _)) ⟨hfin.pre fun _ x => x, p, y, rfl, ⟨h1, h2, h3, h4, h5⟩, hfin⟩
  repeat first
  | with_reducible refine vb_i (e_nilCheck _) ?_
  | with_reducible refine vb_i (e_fieldAddr _ _) ?_
  | ((with_reducible apply vb_ld); (· first | exact hs.g0 | exact hs.g1 | exact hs.g2 | exact hs.g3 | exact hs.g4 | exact hs.g5 | exact hs.g6 | exact hs.rd hg | exact hs.rd hg2 | exact hs.rd hg3 | exact hs.rd hg4 | assumption); (· rfl))
  refine cb_i _ _ ⟨64, rfl, by decide, rfl, rfl⟩ ?_
  refine s_push (m := 1) (xs := [.str (zs 64)]) hs.f1 rfl (by decide) rfl rfl (by unfold room; omega) (by unfold room; omega) fun a' C2 hs => ?_
  have hsc := sl_sc hs.head
  replace hs := hs.f1
  repeat first
  | (with_reducible apply s_store1 hs); (· rfl); (· exact hsc); (· simp only [List.length_cons, List.length_nil]; omega); intro _ hs; try simp only [List.set_cons_zero, List.set_cons_succ, Nat.add_zero, Nat.zero_add] at hs
  | with_reducible refine vb_i (e_nilCheck _) ?_
  | with_reducible refine vb_i (e_fieldAddr _ _) ?_
  | ((with_reducible apply vb_ld); (· first | exact hs.g0 | exact hs.g1 | exact hs.g2 | exact hs.g3 | exact hs.g4 | exact hs.g5 | exact hs.g6 | exact hs.rd hg | exact hs.rd hg2 | exact hs.rd hg3 | exact hs.rd hg4 | assumption); (· rfl))
  refine cb_i _ _ ⟨64, rfl, by decide, rfl, rfl⟩ ?_
  refine s_push (m := 1) (xs := [.str (zs 64)]) hs.f2 rfl (by decide) rfl rfl (by unfold room; omega) (by unfold room; omega) fun b' C3 hs => ?_
  have hsc := sl_sc hs.head
  replace hs := hs.f1
  repeat first
  | (with_reducible apply s_store1 hs); (· rfl); (· exact hsc); (· simp only [List.length_cons, List.length_nil]; omega); intro _ hs; try simp only [List.set_cons_zero, List.set_cons_succ, Nat.add_zero, Nat.zero_add] at hs
  | with_reducible refine vb_i (e_nilCheck _) ?_
  | with_reducible refine vb_i (e_fieldAddr _ _) ?_
  | ((with_reducible apply vb_ld); (· first | exact hs.g0 | exact hs.g1 | exact hs.g2 | exact hs.g3 | exact hs.g4 | exact hs.g5 | exact hs.g6 | exact hs.rd hg | exact hs.rd hg2 | exact hs.rd hg3 | exact hs.rd hg4 | assumption); (· rfl))
  refine s_push (m := 1) (xs := [.bool false]) hs.f3 rfl (by decide) rfl rfl (by unfold room; omega) (by unfold room; omega) fun c' C4 hs => ?_
  have hsc := sl_sc hs.head
  replace hs := hs.f1
  repeat first
  | (with_reducible apply s_store1 hs); (· rfl); (· exact hsc); (· simp only [List.length_cons, List.length_nil]; omega); intro _ hs; try simp only [List.set_cons_zero, List.set_cons_succ, Nat.add_zero, Nat.zero_add] at hs
  | ((with_reducible refine vb_i (add64 ?_ ?_) ?_); (· omega); (· omega))
  | with_reducible refine vb_i (e_nilCheck _) ?_
  | with_reducible refine vb_i (e_fieldAddr _ _) ?_
  have hz : (zs 64).length = 64 := by simp [zs]
  refine hnx (k + 1) _ ⟨by omega, ⟨a', b', c', y.la ++ [zs 64], y.lb ++ [zs 64], y.lc ++ [false]⟩, by simp [h1], by simp [h2], by simp [h3], fun s hs => (List.mem_append.1 hs).elim (h4 s) (fun h => by simp at h; exact h ▸ hz),
    fun s hs => (List.mem_append.1 hs).elim (h5 s) (fun h => by simp at h; exact h ▸ hz), ?_⟩ (by omega)
  simp only [List.length_append, List.length_cons, List.length_nil, List.map_append, List.map_cons, List.map_nil, bools]
  exact hs.f3.f1.f3.f2.f2
theorem ref_less_spec {n : Int} (h0 : 0 ≤ n) (h1 : n ≤ 1099511627776) : ∃ m : Int, S_cellaretref12_less [.int .i64 n] B (.int .i64 m) B ∧ 0 ≤ m ∧ m ≤ 1099511627776 ∧ (n = 0 → m = 0) := by
  by_cases hn : n = 0
  · refine ⟨0, ⟨_, rfl, ?_, List.prefix_refl _⟩, by decide, by decide, fun _ => rfl⟩
    unfold cellaretref12_less.w
    refine vb_i (gtr64 _ _ _) ?_
    refine isB_cf (by omega) ?_
    exact fin_ret (rvs_v (rvs_nil _)) ⟨rfl, rfl⟩
  · refine ⟨n - 1, ⟨_, rfl, ?_, List.prefix_refl _⟩, by omega, by omega, fun e => absurd e hn⟩
    unfold cellaretref12_less.w
    refine vb_i (gtr64 _ _ _) ?_
    refine isB_ct (by omega) ?_
    refine vb_i (sub64 (by omega) (by omega)) ?_
    exact fin_ret (rvs_v (rvs_nil _)) ⟨rfl, rfl⟩
theorem xp_in (h : Sep H0 own B (X ++ xparts L x R)) : Sep H0 own B (xparts L x (X ++ R)) := sep_rot (A := X) (C := [_, _, _]) h
theorem xp_out (h : Sep H0 own B (xparts L x (X ++ R))) : Sep H0 own B (X ++ xparts L x R) := sep_rot (A := [_, _, _]) (C := X) h
theorem xp_drop (h : Sep H0 own B (xparts L x (X ++ R))) : Sep H0 own B (xparts L x R) := sep_tails (xp_out h)
theorem xp_at {d : Int} (hd : d = 0 ∨ d = 1) (h : Sep H0 own B (xparts L x R)) : ∃ Y, Sep H0 own B (Part.rd (L.q d) (x.dev d) :: Y) ∧ ∀ C y, Sep H0 own C (Part.rd (L.q d) y :: Y) → Sep H0 own C (xparts L (x.setDev d y) R) := by
  rcases hd with rfl | rfl
  · exact ⟨_, h.f1, fun C y k => k.f1⟩
  · exact ⟨_, h.f2, fun C y k => k.b2⟩
theorem xp_ptr {d : Int} (hd : d = 0 ∨ d = 1) (h : Sep H0 own B (xparts L x R)) {K : AVal → Prop} (k : K (.ptr ⟨L.q d, 0, 0⟩)) :
    vb (aLoad B false 1 (.ptr ⟨L.p, 0, 0 + 0 + d.toNat * 1⟩)) K := by
  have hg := h.g0
  rcases hd with rfl | rfl
  · exact vb_ld hg rfl k
  · exact vb_ld hg rfl k
theorem ref_New12_spec : ∃ r C, S_cellaretref12_New [] B r C ∧ ∃ L x, r = .ptr ⟨L.p, 0, 0⟩ ∧ XOk x ∧ x.calls = 0 ∧ Sep B (fun _ => False) C (xparts L x []) := by
  refine cellaretref12_New.out ?_
  unfold cellaretref12_New.w
  have hs : Sep B (fun _ => False) B [] := Sep.start B
  obtain ⟨_, C, hS, q0, y0, rfl, h0, hC⟩ := ref_New10_spec (B := B)
  refine cb_i _ _ hS ?_
  replace hs := Sep.q0 hs hC
  obtain ⟨_, C, hS, q1, y1, rfl, h1, hC⟩ := ref_New10_spec (B := C)
  refine cb_i _ _ hS ?_
  replace hs := Sep.q0 hs hC
  refine vb_i (v := .agg [.ptr ⟨q0, 0, 0⟩, .ptr ⟨q1, 0, 0⟩]) rfl ?_
  refine cb_i _ _ ⟨96, rfl, by decide, rfl, rfl⟩ ?_
  refine vb_i (v := .agg [.ptr ⟨q0, 0, 0⟩, .ptr ⟨q1, 0, 0⟩, .str (zs 96), .bool false, .int .i64 0, .int .i64 0, .int .i64 0, .int .i64 0, .int .i64 0, .int .i64 0, .str []]) rfl ?_
  refine s_box hs rfl fun p D _ hs => ?_
  have r0 : (0 : Int) ≤ 0 ∧ (0 : Int) ≤ 1099511627776 := by decide
  have r1 : (0 : Int) ≤ 0 ∧ (0 : Int) < 288 := by decide
  have hfin : Sep B (fun _ => False) D (xparts ⟨p, q0, q1⟩ ⟨y0, y1, zs 96, false, 0, 0, 0, 0, 0, 0, []⟩ []) := hs.f2.f1
  exact fin_ret (rvs_v (rvs_nil _)) ⟨hfin.pre fun _ x => x, _, _, rfl, ⟨h0, h1, r0, r0, r0, Int.le_refl 0, .inl rfl, r1, .inr rfl⟩, rfl, hfin⟩
end
end Go.Sh

/- The document's rig stays well, on. -/
namespace Go.Sh
open Go Go.Abs

section
variable {H0 B : AHeap} {own : Nat → Prop} {R X : List Part} {L : XL} {x : XV}
set_option maxRecDepth 20000 in
theorem ref_Step_spec (h : Sep H0 own B (xparts L x R)) (hx : XOk x) (hc : x.calls < 4611686018427387904) :
    ∃ r C, S_cellaretref12_Rig_Step [.ptr ⟨L.p, 0, 0⟩] B r C ∧ ∃ (e : Int) (x' : XV), r = .int .i64 e ∧ XOk x' ∧ x'.calls ≤ x.calls + 1 ∧ Sep H0 own C (xparts L x' R) := by
  refine cellaretref12_Rig_Step.out ?_
  unfold cellaretref12_Rig_Step.w
  have hs := h
  unfold xparts xcells at hs
  have hcl := hx.calls
  repeat first
  | with_reducible refine vb_i (e_nilCheck _) ?_
  | with_reducible refine vb_i (e_fieldAddr _ _) ?_
  | ((with_reducible apply vb_ld); (· first | exact hs.g0 | exact hs.g1 | exact hs.g2 | exact hs.g3 | exact hs.g4 | exact hs.g5 | exact hs.g6 | exact hs.rd hg | exact hs.rd hg2 | exact hs.rd hg3 | exact hs.rd hg4 | assumption); (· rfl))
  refine isB_bb (fun hd => ?_) (fun hd => ?_)
  · exact fin_ret (rvs_v (rvs_nil _)) ⟨11, x, rfl, hx, by omega, h⟩
  repeat first
  | ((with_reducible refine vb_i (add64 ?_ ?_) ?_); (· omega); (· omega))
  | with_reducible refine vb_i (e_nilCheck _) ?_
  | with_reducible refine vb_i (e_fieldAddr _ _) ?_
  | ((with_reducible apply vb_ld); (· first | exact hs.g0 | exact hs.g1 | exact hs.g2 | exact hs.g3 | exact hs.g4 | exact hs.g5 | exact hs.g6 | exact hs.rd hg | exact hs.rd hg2 | exact hs.rd hg3 | exact hs.rd hg4 | assumption); (· rfl))
  | ((with_reducible first | apply s_store1 hs | apply s_store1 hs.f1 | apply s_store1 hs.f2 | apply s_store1 hs.f3); (· rfl); (· first | rfl | assumption); (· simp only [List.length_cons, List.length_nil]; omega); intro _ hs; try simp only [List.set_cons_zero, List.set_cons_succ, Nat.add_zero, Nat.zero_add] at hs)
  have hx1 : XOk { x with calls := x.calls + 1 } := ⟨hx.d0, hx.d1, hx.later, hx.arm, hx.fault, by show 0 ≤ x.calls + 1; omega, hx.a0, hx.a1, hx.s⟩
  have h1 : Sep H0 own _ (xparts L { x with calls := x.calls + 1 } R) := hs
  have hc1 : ({ x with calls := x.calls + 1 } : XV).calls ≤ x.calls + 1 := Int.le_refl _
  generalize ({ x with calls := x.calls + 1 } : XV) = x1 at hx1 h1 hc1
  clear hs h hx hd hcl
  refine JoinP.mk (fun e vs D => e = .normal ∧ ∃ x2 : XV, XOk x2 ∧ x2.calls ≤ x.calls + 1 ∧ Sep H0 own D (xparts L x2 R)) ?_ ?_
  · have hs := h1
    unfold xparts xcells at hs
    repeat first
    | with_reducible refine vb_i (eql64 _ _ _) ?_
    | with_reducible refine vb_i (e_nilCheck _) ?_
    | with_reducible refine vb_i (e_fieldAddr _ _) ?_
    | ((with_reducible apply vb_ld); (· first | exact hs.g0 | exact hs.g1 | exact hs.g2 | exact hs.g3 | exact hs.g4 | exact hs.g5 | exact hs.g6 | exact hs.rd hg | exact hs.rd hg2 | exact hs.rd hg3 | exact hs.rd hg4 | assumption); (· rfl))
    refine isB_c (fun hl => ?_) (fun hl => ?_)
    · have hls : x1.s.length = 64 := hx1.s.resolve_right (by omega)
      refine vb_i (e_nilCheck _) (vb_i (e_fieldAddr _ _) (vb_i (e_idxAddrArr (by decide) (by decide)) ?_))
      refine vb_ld h1.g0 (x := .int .i64 x1.a0) rfl ?_
      refine vb_i (e_nilCheck _) (vb_i (e_fieldAddr _ _) ?_)
      have ha0 := hx1.a0
      refine vb_i (e_idxAddrArr (by omega) (by omega)) ?_
      refine xp_ptr ha0 h1 ?_
      refine vb_i (e_nilCheck _) (vb_i (e_fieldAddr _ _) (vb_i (e_idxAddrArr (by decide) (by decide)) ?_))
      refine vb_ld h1.g0 (x := .int .i64 x1.a1) rfl ?_
      repeat first
      | with_reducible refine vb_i (e_nilCheck _) ?_
      | with_reducible refine vb_i (e_fieldAddr _ _) ?_
      | ((with_reducible apply vb_ld); (· first | exact hs.g0 | exact hs.g1 | exact hs.g2 | exact hs.g3 | exact hs.g4 | exact hs.g5 | exact hs.g6 | exact hs.rd hg | exact hs.rd hg2 | exact hs.rd hg3 | exact hs.rd hg4 | assumption); (· rfl))
      obtain ⟨Y, hY, hback⟩ := xp_at ha0 h1
      obtain ⟨r, D, hS, y, hy, hD⟩ := ref_Tamper_spec hY (hx1.dev _) hx1.a1.1 hx1.a1.2 hls
      refine cb_i _ _ hS ?_
      exact ⟨rfl, _, hx1.setDev _ hy, by rw [(setDev_same _ _ _).1]; exact hc1, hback _ _ hD⟩
    · exact ⟨rfl, x1, hx1, hc1, h1⟩
  clear h1 hx1 hc1
  rintro _ _ D ⟨rfl, x1, hx1, hc1, h1⟩
  refine onE_i ?_
  refine JoinP.mk (fun e vs E => D = E ∧ e = .normal ∧ ∃ m : Int, vs = [.int .i64 m]) ?_ ?_
  · have hs := h1
    unfold xparts xcells at hs
    repeat first
    | with_reducible refine vb_i (eql64 _ _ _) ?_
    | with_reducible refine vb_i (e_nilCheck _) ?_
    | with_reducible refine vb_i (e_fieldAddr _ _) ?_
    | ((with_reducible apply vb_ld); (· first | exact hs.g0 | exact hs.g1 | exact hs.g2 | exact hs.g3 | exact hs.g4 | exact hs.g5 | exact hs.g6 | exact hs.rd hg | exact hs.rd hg2 | exact hs.rd hg3 | exact hs.rd hg4 | assumption); (· rfl))
    refine isB_c (fun hl => ?_) (fun hl => ?_)
    · exact ⟨rfl, rfl, 10, rfl⟩
    · exact ⟨rfl, rfl, 0, rfl⟩
  rintro _ _ _ ⟨rfl, rfl, m, rfl⟩
  refine onE_i ?_
  refine JoinP.mk (fun e vs E => e = .normal ∧ ∃ (m : Int) (x2 : XV), vs = [.int .i64 m] ∧ XOk x2 ∧ x2.calls ≤ x.calls + 1 ∧ Sep H0 own E (xparts L x2 R)) ?_ ?_
  · have hs := h1
    unfold xparts xcells at hs
    repeat first
    | with_reducible refine vb_i (eql64 _ _ _) ?_
    | with_reducible refine vb_i (e_nilCheck _) ?_
    | with_reducible refine vb_i (e_fieldAddr _ _) ?_
    | ((with_reducible apply vb_ld); (· first | exact hs.g0 | exact hs.g1 | exact hs.g2 | exact hs.g3 | exact hs.g4 | exact hs.g5 | exact hs.g6 | exact hs.rd hg | exact hs.rd hg2 | exact hs.rd hg3 | exact hs.rd hg4 | assumption); (· rfl))
    refine isB_c (fun hl => ?_) (fun hl => ?_)
    · repeat first
      | with_reducible refine vb_i (e_nilCheck _) ?_
      | with_reducible refine vb_i (e_fieldAddr _ _) ?_
      | ((with_reducible first | apply s_store1 hs | apply s_store1 hs.f1 | apply s_store1 hs.f2 | apply s_store1 hs.f3); (· rfl); (· first | rfl | assumption); (· simp only [List.length_cons, List.length_nil]; omega); intro _ hs; try simp only [List.set_cons_zero, List.set_cons_succ, Nat.add_zero, Nat.zero_add] at hs)
      exact ⟨rfl, 11, { x1 with down := true }, rfl, ⟨hx1.d0, hx1.d1, hx1.later, hx1.arm, hx1.fault, hx1.calls, hx1.a0, hx1.a1, hx1.s⟩, hc1, hs⟩
    · exact ⟨rfl, m, x1, rfl, hx1, hc1, h1⟩
  clear h1 hx1 hc1
  rintro _ _ E ⟨rfl, m, x1, rfl, hx1, hc1, hs⟩
  refine onE_i ?_
  unfold xparts xcells at hs
  try simp only [evB]
  repeat first
  | with_reducible refine vb_i (e_nilCheck _) ?_
  | with_reducible refine vb_i (e_fieldAddr _ _) ?_
  | ((with_reducible apply vb_ld); (· first | exact hs.g0 | exact hs.g1 | exact hs.g2 | exact hs.g3 | exact hs.g4 | exact hs.g5 | exact hs.g6 | exact hs.rd hg | exact hs.rd hg2 | exact hs.rd hg3 | exact hs.rd hg4 | assumption); (· rfl))
  obtain ⟨n1, hS1, a1, b1, z1⟩ := ref_less_spec hx1.later.1 hx1.later.2 (B := E)
  refine cb_i _ _ hS1 ?_
  repeat first
  | with_reducible refine vb_i (e_nilCheck _) ?_
  | with_reducible refine vb_i (e_fieldAddr _ _) ?_
  | ((with_reducible apply vb_ld); (· first | exact hs.g0 | exact hs.g1 | exact hs.g2 | exact hs.g3 | exact hs.g4 | exact hs.g5 | exact hs.g6 | exact hs.rd hg | exact hs.rd hg2 | exact hs.rd hg3 | exact hs.rd hg4 | assumption); (· rfl))
  | ((with_reducible first | apply s_store1 hs | apply s_store1 hs.f1 | apply s_store1 hs.f2 | apply s_store1 hs.f3); (· rfl); (· first | rfl | assumption); (· simp only [List.length_cons, List.length_nil]; omega); intro _ hs; try simp only [List.set_cons_zero, List.set_cons_succ, Nat.add_zero, Nat.zero_add] at hs)
  rename_i E1
  obtain ⟨n2, hS2, a2, b2, _⟩ := ref_less_spec hx1.fault.1 hx1.fault.2 (B := E1)
  refine cb_i _ _ hS2 ?_
  repeat first
  | with_reducible refine vb_i (e_nilCheck _) ?_
  | with_reducible refine vb_i (e_fieldAddr _ _) ?_
  | ((with_reducible apply vb_ld); (· first | exact hs.g0 | exact hs.g1 | exact hs.g2 | exact hs.g3 | exact hs.g4 | exact hs.g5 | exact hs.g6 | exact hs.rd hg | exact hs.rd hg2 | exact hs.rd hg3 | exact hs.rd hg4 | assumption); (· rfl))
  | ((with_reducible first | apply s_store1 hs | apply s_store1 hs.f1 | apply s_store1 hs.f2 | apply s_store1 hs.f3); (· rfl); (· first | rfl | assumption); (· simp only [List.length_cons, List.length_nil]; omega); intro _ hs; try simp only [List.set_cons_zero, List.set_cons_succ, Nat.add_zero, Nat.zero_add] at hs)
  rename_i E2
  obtain ⟨n3, hS3, a3, b3, _⟩ := ref_less_spec hx1.arm.1 hx1.arm.2 (B := E2)
  refine cb_i _ _ hS3 ?_
  repeat first
  | with_reducible refine vb_i (e_nilCheck _) ?_
  | with_reducible refine vb_i (e_fieldAddr _ _) ?_
  | ((with_reducible first | apply s_store1 hs | apply s_store1 hs.f1 | apply s_store1 hs.f2 | apply s_store1 hs.f3); (· rfl); (· first | rfl | assumption); (· simp only [List.length_cons, List.length_nil]; omega); intro _ hs; try simp only [List.set_cons_zero, List.set_cons_succ, Nat.add_zero, Nat.zero_add] at hs)
  exact fin_ret (rvs_v (rvs_nil _)) ⟨m, { x1 with later := n1, fault := n2, arm := n3 }, rfl, ⟨hx1.d0, hx1.d1, ⟨a1, b1⟩, ⟨a3, b3⟩, ⟨a2, b2⟩, hx1.calls, hx1.a0, hx1.a1, hx1.s.imp id z1⟩, hc1, hs⟩
theorem ref_Crash12_spec (h : Sep H0 own B (xparts L x R)) (hx : XOk x) {x0 x1 : AVal} {k0 k1 : List Bool} {t0 n0 t1 n1 : Int} (hv0 : Lw H0 x0 k0) (hv1 : Lw H0 x1 k1)
    (ho0 : ∀ i, slId x0 = some i → ¬ own i) (ho1 : ∀ i, slId x1 = some i → ¬ own i) :
    ∃ r C, S_cellaretref12_Rig_Crash [.ptr ⟨L.p, 0, 0⟩, .agg [x0, .int .i64 t0, .int .i64 n0], .agg [x1, .int .i64 t1, .int .i64 n1]] B r C ∧ ∃ x', XOk x' ∧ x'.calls = x.calls ∧ Sep H0 own C (xparts L x' R) := by
  refine cellaretref12_Rig_Crash.out ?_
  unfold cellaretref12_Rig_Crash.w
  refine s_box h rfl fun b0 _ _ hs => s_box hs rfl fun b1 _ _ hs => ?_
  simp only [AVal.cells] at hs
  have hd : Sep H0 own _ (xparts L x _) := xp_in (X := [_, _]) hs
  repeat first
  | with_reducible refine vb_i (e_nilCheck _) ?_
  | with_reducible refine vb_i (e_fieldAddr _ _) ?_
  | ((with_reducible apply vb_ld); (· first | exact hs.g0 | exact hs.g1 | exact hs.g2 | exact hs.g3 | exact hs.g4 | exact hs.g5 | exact hs.g6 | exact hs.rd hg | exact hs.rd hg2 | exact hs.rd hg3 | exact hs.rd hg4 | assumption); (· rfl))
  | ((with_reducible apply vb_ldA); (· first | exact hs.g0 | exact hs.g1 | exact hs.g2 | exact hs.g3 | exact hs.g4 | exact hs.g5 | exact hs.g6 | exact hs.rd hg | exact hs.rd hg2 | exact hs.rd hg3 | exact hs.rd hg4 | assumption); (· rfl))
  | ((with_reducible refine vb_i (e_idxAddrArr ?_ ?_) ?_); (· omega); (· omega))
  obtain ⟨r, E, hS, y0, hy0, hE⟩ := ref_Crash_spec hd.f1 hx.d0 hv0 ho0 (torn := t0) (n := n0)
  refine cb_i _ _ hS ?_
  replace hs := xp_out (X := [_, _]) (x := { x with d0 := y0 }) hE.f1
  repeat first
  | with_reducible refine vb_i (e_nilCheck _) ?_
  | with_reducible refine vb_i (e_fieldAddr _ _) ?_
  | ((with_reducible apply vb_ld); (· first | exact hs.g0 | exact hs.g1 | exact hs.g2 | exact hs.g3 | exact hs.g4 | exact hs.g5 | exact hs.g6 | exact hs.rd hg | exact hs.rd hg2 | exact hs.rd hg3 | exact hs.rd hg4 | assumption); (· rfl))
  | ((with_reducible apply vb_ldA); (· first | exact hs.g0 | exact hs.g1 | exact hs.g2 | exact hs.g3 | exact hs.g4 | exact hs.g5 | exact hs.g6 | exact hs.rd hg | exact hs.rd hg2 | exact hs.rd hg3 | exact hs.rd hg4 | assumption); (· rfl))
  | ((with_reducible refine vb_i (e_idxAddrArr ?_ ?_) ?_); (· omega); (· omega))
  obtain ⟨r, E, hS, y1, hy1, hE⟩ := ref_Crash_spec (xp_in (X := [_, _]) hs).f2 hx.d1 hv1 ho1 (torn := t1) (n := n1)
  refine cb_i _ _ hS ?_
  replace hs := xp_drop (X := [_, _]) (x := { x with d0 := y0, d1 := y1 }) hE.b2
  unfold xparts xcells at hs
  repeat first
  | with_reducible refine vb_i (e_nilCheck _) ?_
  | with_reducible refine vb_i (e_fieldAddr _ _) ?_
  | ((with_reducible first | apply s_store1 hs | apply s_store1 hs.f1 | apply s_store1 hs.f2 | apply s_store1 hs.f3); (· rfl); (· first | rfl | assumption); (· simp only [List.length_cons, List.length_nil]; omega); intro _ hs; try simp only [List.set_cons_zero, List.set_cons_succ, Nat.add_zero, Nat.zero_add] at hs)
  exact fin_normal (rvs_nil _) ⟨{ x with d0 := y0, d1 := y1, down := false, later := 0, arm := 0, fault := 0 }, ⟨hy0, hy1, ⟨Int.le_refl 0, (by decide : (0 : Int) ≤ 1099511627776)⟩, ⟨Int.le_refl 0, (by decide : (0 : Int) ≤ 1099511627776)⟩, ⟨Int.le_refl 0, (by decide : (0 : Int) ≤ 1099511627776)⟩, hx.calls, hx.a0, hx.a1, .inr rfl⟩, rfl, hs⟩
end
end Go.Sh

/- Calls of a rig and of the document's one. -/
namespace Go.Sh
open Go Go.Abs

structure A12 where
  kind : Int
  d : Int
  i : Int
  n : Int
  s : List UInt8
  raw : Bool
  kx : AVal
  tx : Int
  nx : Int
  ky : AVal
  ty : Int
  ny : Int
def a12C (a : A12) : List AVal := [.int .i64 a.kind, .int .i64 a.d, .int .i64 a.i, .int .i64 a.n, .str a.s, .bool a.raw, a.kx, .int .i64 a.tx, .int .i64 a.nx, a.ky, .int .i64 a.ty, .int .i64 a.ny]
theorem a12_len (a : A12) : (a12C a).length = 12 := rfl
def text12 (raw : Bool) (s : List UInt8) (n : Nat) : List UInt8 := if raw = true ∨ n < s.length then s else full s n
section
variable {v : RV}
theorem le_1 (n : Int) : n ≤ n + 1 := by omega
theorem strike_reg : v.strike.reg = v.reg := by
  unfold RV.strike RV.setDev
  split
  · split <;> rfl
  · rfl
theorem step_same : v.step.reg = v.reg ∧ v.step.calls ≤ v.calls + 1 := by
  unfold RV.step
  split
  · exact ⟨rfl, le_1 _⟩
  · exact ⟨strike_reg, Int.le_refl _⟩
theorem rsetDev_same (d : Int) (l : List Bk) : (v.setDev d l).reg = v.reg ∧ (v.setDev d l).calls = v.calls := by
  unfold RV.setDev; split <;> exact ⟨rfl, rfl⟩
theorem write_same (d i : Int) (s : List UInt8) : (v.write d i s).reg = v.reg ∧ (v.write d i s).calls ≤ v.calls + 1 := by
  unfold RV.write
  split
  · split
    · rw [(rsetDev_same _ _).1, (rsetDev_same _ _).2]; exact step_same
    · exact step_same
  · exact ⟨rfl, le_1 _⟩
theorem flush_same (d : Int) : (v.flush d).reg = v.reg ∧ (v.flush d).calls ≤ v.calls + 1 := by
  unfold RV.flush
  split
  · split
    · rw [(rsetDev_same _ _).1, (rsetDev_same _ _).2]; exact step_same
    · exact step_same
  · exact ⟨rfl, le_1 _⟩
theorem ask_same (d i : Int) : (v.ask d i).reg = v.reg ∧ (v.ask d i).calls ≤ v.calls + 1 := by
  unfold RV.ask
  split
  · exact step_same
  · exact ⟨rfl, le_1 _⟩
theorem tamper_same (d i : Int) (s : List UInt8) : (v.tamper d i s).reg = v.reg ∧ (v.tamper d i s).calls ≤ v.calls + 1 := by
  unfold RV.tamper
  split
  · rw [(rsetDev_same _ _).1, (rsetDev_same _ _).2]; exact ⟨rfl, le_1 _⟩
  · exact ⟨rfl, le_1 _⟩
theorem later_same (n d i : Int) (s : List UInt8) : (v.setLater n d i s).reg = v.reg ∧ (v.setLater n d i s).calls ≤ v.calls + 1 := by
  unfold RV.setLater; split <;> exact ⟨rfl, le_1 _⟩
theorem arm_same (n : Int) : (v.setArm n).reg = v.reg ∧ (v.setArm n).calls ≤ v.calls + 1 := by
  unfold RV.setArm; split <;> exact ⟨rfl, le_1 _⟩
theorem fault_same (n : Int) : (v.setFault n).reg = v.reg ∧ (v.setFault n).calls ≤ v.calls + 1 := by
  unfold RV.setFault; split <;> exact ⟨rfl, le_1 _⟩
end
/-- What a call of both leaves. -/
structure Did (v v' : RV) (x x' : XV) : Prop where
  w : WR v'
  k : XOk x'
  cv : v'.calls ≤ v.calls + 1
  cx : x'.calls ≤ x.calls + 1
  reg : v'.reg = v.reg
section
variable {H0 B : AHeap} {own : Nat → Prop} {R : List Part} {L : RL} {v : RV} {M : XL} {x : XV} {Z : Part}
theorem c_x (h : Sep H0 own B (rparts L v (Z :: xparts M x R))) : Sep H0 own B (xparts M x (rparts L v (Z :: R))) := sep_rot (A := [_, _, _, _]) (C := [_, _, _]) h
theorem c_r (h : Sep H0 own B (xparts M x (rparts L v (Z :: R)))) : Sep H0 own B (rparts L v (Z :: xparts M x R)) := sep_rot (A := [_, _, _]) (C := [_, _, _, _]) h
theorem c_drop (h : Sep H0 own B (rparts L v (Z :: xparts M x R))) : Sep H0 own B (rparts L v (xparts M x R)) := rp_drop (X := [Z]) h
theorem few12 (a : A12) : ∃ C, S_cellaretlaw12_few [.agg (a12C a)] B (.bool (decide (a.s.length < 300))) C ∧ B <+: C := by
  obtain ⟨r, C, h, rfl, k⟩ := cellaretlaw12_few.out (x0 := .agg (a12C a)) (H := B) (Q := fun r C => r = .bool (decide (a.s.length < 300)) ∧ B <+: C) (by
    unfold cellaretlaw12_few.w
    have hs : Sep B (fun _ => False) B [] := Sep.start B
    refine s_box hs rfl fun j C _ hs => ?_
    simp only [AVal.cells, a12C] at hs
    repeat first
    | with_reducible refine vb_i (lss64 _ _ _) ?_
    | with_reducible refine vb_i (e_lenSt _) ?_
    | with_reducible refine vb_i (e_fieldAddr _ _) ?_
    | ((with_reducible apply vb_ld); (· first | exact hs.g0 | exact hs.g1 | exact hs.g2 | exact hs.g3 | exact hs.g4 | exact hs.g5 | exact hs.g6 | exact hs.rd hg | exact hs.rd hg2 | exact hs.rd hg3 | exact hs.rd hg4 | assumption); (· rfl))
    have e : decide ((a.s.length : Int) < 300) = decide (a.s.length < 300) := decide_eq_decide.2 (by omega)
    rw [e]
    have hp := hs.pre fun _ x => x
    exact fin_ret (vs := [.bool (decide (a.s.length < 300))]) (rvs_v (rvs_nil _)) ⟨hp, by simp only [tup1], hp⟩)
  exact ⟨C, h, k⟩
theorem text12_spec (a : A12) {n : Nat} (hn : n ≤ 1048576) : ∃ C, S_cellaretlaw12_text [.agg (a12C a), .int .i64 (n : Int)] B (.str (text12 a.raw a.s n)) C ∧ B <+: C := by
  obtain ⟨r, C, h, rfl, k⟩ := cellaretlaw12_text.out (x0 := .agg (a12C a)) (x1 := .int .i64 (n : Int)) (H := B) (Q := fun r C => r = .str (text12 a.raw a.s n) ∧ B <+: C) (by
    unfold cellaretlaw12_text.w
    have hs : Sep B (fun _ => False) B [] := Sep.start B
    refine s_box hs rfl fun j C _ hs => ?_
    simp only [AVal.cells, a12C] at hs
    refine JoinP.mk (fun e vs D => C = D ∧ ((e = .ret ∧ vs = [.str a.s] ∧ (a.raw = true ∨ n < a.s.length)) ∨ (e = .normal ∧ ¬ (a.raw = true ∨ n < a.s.length)))) ?_ ?_
    · repeat first
      | with_reducible refine vb_i (e_fieldAddr _ _) ?_
      | ((with_reducible apply vb_ld); (· first | exact hs.g0 | exact hs.g1 | exact hs.g2 | exact hs.g3 | exact hs.g4 | exact hs.g5 | exact hs.g6 | exact hs.rd hg | exact hs.rd hg2 | exact hs.rd hg3 | exact hs.rd hg4 | assumption); (· rfl))
      refine isB_bb (fun h1 => ?_) (fun h1 => ?_)
      · repeat first
        | with_reducible refine vb_i (e_fieldAddr _ _) ?_
        | ((with_reducible apply vb_ld); (· first | exact hs.g0 | exact hs.g1 | exact hs.g2 | exact hs.g3 | exact hs.g4 | exact hs.g5 | exact hs.g6 | exact hs.rd hg | exact hs.rd hg2 | exact hs.rd hg3 | exact hs.rd hg4 | assumption); (· rfl))
        exact ⟨rfl, .inl ⟨rfl, rfl, .inl h1⟩⟩
      · repeat first
        | with_reducible refine vb_i (gtr64 _ _ _) ?_
        | with_reducible refine vb_i (e_lenSt _) ?_
        | with_reducible refine vb_i (e_fieldAddr _ _) ?_
        | ((with_reducible apply vb_ld); (· first | exact hs.g0 | exact hs.g1 | exact hs.g2 | exact hs.g3 | exact hs.g4 | exact hs.g5 | exact hs.g6 | exact hs.rd hg | exact hs.rd hg2 | exact hs.rd hg3 | exact hs.rd hg4 | assumption); (· rfl))
        refine isB_c (fun h2 => ?_) (fun h2 => ?_)
        · repeat first
          | with_reducible refine vb_i (e_fieldAddr _ _) ?_
          | ((with_reducible apply vb_ld); (· first | exact hs.g0 | exact hs.g1 | exact hs.g2 | exact hs.g3 | exact hs.g4 | exact hs.g5 | exact hs.g6 | exact hs.rd hg | exact hs.rd hg2 | exact hs.rd hg3 | exact hs.rd hg4 | assumption); (· rfl))
          exact ⟨rfl, .inl ⟨rfl, rfl, .inr (by omega)⟩⟩
        · exact ⟨rfl, .inr ⟨rfl, by rw [h1]; simp; omega⟩⟩
    rintro _ _ _ ⟨rfl, ⟨rfl, rfl, h1⟩ | ⟨rfl, h1⟩⟩
    · repeat first
      | with_reducible refine onE_i ?_
      | ((with_reducible refine onE_s ?_ ?_); (· decide))
      try simp only [evB]
      exact fin_ret (rvs_v (rvs_nil _)) ⟨hs.pre fun _ x => x, by unfold text12; rw [if_pos h1]; rfl, hs.pre fun _ x => x⟩
    · repeat first
      | with_reducible refine onE_i ?_
      | with_reducible refine vb_i (e_fieldAddr _ _) ?_
      | ((with_reducible apply vb_ld); (· first | exact hs.g0 | exact hs.g1 | exact hs.g2 | exact hs.g3 | exact hs.g4 | exact hs.g5 | exact hs.g6 | exact hs.rd hg | exact hs.rd hg2 | exact hs.rd hg3 | exact hs.rd hg4 | assumption); (· rfl))
      refine cb_i (.str (full a.s n)) _ ⟨a.s, n, rfl, hn, rfl, rfl⟩ ?_
      exact fin_ret (rvs_v (rvs_nil _)) ⟨hs.pre fun _ x => x, by unfold text12; rw [if_neg h1]; rfl, hs.pre fun _ x => x⟩)
  exact ⟨C, h, k⟩
theorem may12_spec (a : A12) : ∃ C, S_cellaretlaw12_may [.agg (a12C a)] B (.int .i64 (mayR a.d a.i)) C ∧ B <+: C := by
  obtain ⟨r, C, h, rfl, k⟩ := cellaretlaw12_may.out (x0 := .agg (a12C a)) (H := B) (Q := fun r C => r = .int .i64 (mayR a.d a.i) ∧ B <+: C) (by
    unfold cellaretlaw12_may.w mayR
    have hs : Sep B (fun _ => False) B [] := Sep.start B
    refine s_box hs rfl fun j C _ hs => ?_
    simp only [AVal.cells, a12C] at hs
    refine JoinP.mk (fun e vs D => C = D ∧ ((e = .ret ∧ vs = [.int .i64 2] ∧ (a.d < 0 ∨ 2 ≤ a.d)) ∨ (e = .normal ∧ vs = [.int .i64 0] ∧ ¬ (a.d < 0 ∨ 2 ≤ a.d)))) ?_ ?_
    · repeat first
      | with_reducible refine vb_i (lss64 _ _ _) ?_
      | with_reducible refine vb_i (e_fieldAddr _ _) ?_
      | ((with_reducible apply vb_ld); (· first | exact hs.g0 | exact hs.g1 | exact hs.g2 | exact hs.g3 | exact hs.g4 | exact hs.g5 | exact hs.g6 | exact hs.rd hg | exact hs.rd hg2 | exact hs.rd hg3 | exact hs.rd hg4 | assumption); (· rfl))
      refine isB_c (fun h1 => ?_) (fun h1 => ?_)
      · exact ⟨rfl, .inl ⟨rfl, rfl, .inl h1⟩⟩
      · repeat first
        | with_reducible refine vb_i (gtr64 _ _ _) ?_
        | with_reducible refine vb_i (e_fieldAddr _ _) ?_
        | ((with_reducible apply vb_ld); (· first | exact hs.g0 | exact hs.g1 | exact hs.g2 | exact hs.g3 | exact hs.g4 | exact hs.g5 | exact hs.g6 | exact hs.rd hg | exact hs.rd hg2 | exact hs.rd hg3 | exact hs.rd hg4 | assumption); (· rfl))
        refine isB_c (fun h2 => ?_) (fun h2 => ?_)
        · exact ⟨rfl, .inl ⟨rfl, rfl, .inr (by omega)⟩⟩
        · exact ⟨rfl, .inr ⟨rfl, rfl, by omega⟩⟩
    rintro _ _ _ ⟨rfl, ⟨rfl, rfl, h1⟩ | ⟨rfl, rfl, h1⟩⟩
    · refine onE_s (by decide) (onE_i ?_)
      try simp only [evB]
      exact fin_ret (rvs_v (rvs_nil _)) ⟨hs.pre fun _ x => x, by rw [if_pos h1]; rfl, hs.pre fun _ x => x⟩
    refine onE_i ?_
    try simp only [evB]
    rw [if_neg h1]
    refine JoinP.mk (fun e vs D => C = D ∧ ((e = .ret ∧ vs = [.int .i64 3] ∧ (a.i < 0 ∨ 288 ≤ a.i)) ∨ (e = .normal ∧ ¬ (a.i < 0 ∨ 288 ≤ a.i)))) ?_ ?_
    · repeat first
      | with_reducible refine vb_i (lss64 _ _ _) ?_
      | with_reducible refine vb_i (e_fieldAddr _ _) ?_
      | ((with_reducible apply vb_ld); (· first | exact hs.g0 | exact hs.g1 | exact hs.g2 | exact hs.g3 | exact hs.g4 | exact hs.g5 | exact hs.g6 | exact hs.rd hg | exact hs.rd hg2 | exact hs.rd hg3 | exact hs.rd hg4 | assumption); (· rfl))
      refine isB_c (fun h1 => ?_) (fun h1 => ?_)
      · exact ⟨rfl, .inl ⟨rfl, rfl, .inl h1⟩⟩
      · repeat first
        | with_reducible refine vb_i (gtr64 _ _ _) ?_
        | with_reducible refine vb_i (e_fieldAddr _ _) ?_
        | ((with_reducible apply vb_ld); (· first | exact hs.g0 | exact hs.g1 | exact hs.g2 | exact hs.g3 | exact hs.g4 | exact hs.g5 | exact hs.g6 | exact hs.rd hg | exact hs.rd hg2 | exact hs.rd hg3 | exact hs.rd hg4 | assumption); (· rfl))
        refine isB_c (fun h2 => ?_) (fun h2 => ?_)
        · exact ⟨rfl, .inl ⟨rfl, rfl, .inr (by omega)⟩⟩
        · exact ⟨rfl, .inr ⟨rfl, by omega⟩⟩
    rintro _ _ _ ⟨rfl, ⟨rfl, rfl, h2⟩ | ⟨rfl, h2⟩⟩
    · refine onE_s (by decide) (onE_i ?_)
      try simp only [evB]
      exact fin_ret (rvs_v (rvs_nil _)) ⟨hs.pre fun _ x => x, by rw [if_pos h2]; rfl, hs.pre fun _ x => x⟩
    · refine onE_i ?_
      exact fin_ret (rvs_v (rvs_nil _)) ⟨hs.pre fun _ x => x, by rw [if_neg h2]; rfl, hs.pre fun _ x => x⟩)
  exact ⟨C, h, k⟩
theorem block12_spec (a : A12) (t : List UInt8) : ∃ C, S_cellaretlaw12_block [.agg (a12C a), .str t] B (.int .i64 (tamperE a.d a.i t)) C ∧ B <+: C := by
  obtain ⟨r, C, h, rfl, k⟩ := cellaretlaw12_block.out (x0 := .agg (a12C a)) (x1 := .str t) (H := B) (Q := fun r C => r = .int .i64 (tamperE a.d a.i t) ∧ B <+: C) (by
    unfold cellaretlaw12_block.w tamperE
    have hs : Sep B (fun _ => False) B [] := Sep.start B
    refine s_box hs rfl fun j C _ hs => ?_
    refine vb_ldA hs.g0 rfl ?_
    obtain ⟨D, hS, hD⟩ := may12_spec a (B := C)
    refine cb_i _ _ hS ?_
    replace hs := hs.quiet hD
    refine JoinP.mk (fun e vs E => D = E ∧ ((e = .ret ∧ vs = [.int .i64 6] ∧ mayR a.d a.i = 0 ∧ t.length ≠ 64) ∨ (e = .normal ∧ (mayR a.d a.i = 0 → t.length = 64)))) ?_ ?_
    · refine vb_i (eql64 _ _ _) ?_
      refine isB_c (fun h1 => ?_) (fun h1 => ?_)
      · refine vb_i (e_lenSt _) ?_
        refine vb_i (neq64 _ _ _) ?_
        refine isB_c (fun h2 => ?_) (fun h2 => ?_)
        · exact ⟨rfl, .inl ⟨rfl, rfl, h1, by omega⟩⟩
        · exact ⟨rfl, .inr ⟨rfl, fun _ => by omega⟩⟩
      · exact ⟨rfl, .inr ⟨rfl, fun h => absurd h h1⟩⟩
    rintro _ _ _ ⟨rfl, ⟨rfl, rfl, h1, h2⟩ | ⟨rfl, h1⟩⟩
    · refine onE_s (by decide) (onE_i ?_)
      try simp only [evB]
      exact fin_ret (rvs_v (rvs_nil _)) ⟨hs.pre fun _ x => x, by rw [if_pos h1, if_neg h2]; rfl, hs.pre fun _ x => x⟩
    · refine onE_i ?_
      refine fin_ret (rvs_v (rvs_nil _)) ⟨hs.pre fun _ x => x, ?_, hs.pre fun _ x => x⟩
      by_cases h2 : mayR a.d a.i = 0
      · rw [if_pos h2, if_pos (h1 h2), h2]; rfl
      · rw [if_neg h2]; rfl)
  exact ⟨C, h, k⟩
theorem writes12 (h : Sep H0 own B (rparts L v (xparts M x R))) (hw : WR v) (hx : XOk x) (hc : v.calls < 4611686018427387904) (hcx : x.calls < 4611686018427387904) (a : A12) :
    ∃ r C, S_cellaretlaw12_writes [.ptr ⟨L.p, 0, 0⟩, .ptr ⟨M.p, 0, 0⟩, .agg (a12C a)] B r C ∧ ∃ (b : Bool) (v' : RV) (x' : XV), r = .bool b ∧ Did v v' x x' ∧ Sep H0 own C (rparts L v' (xparts M x' R)) := by
  refine cellaretlaw12_writes.out ?_
  unfold cellaretlaw12_writes.w
  refine s_box h rfl fun j C _ hs => ?_
  have hs : Sep H0 own C (.obj j (.cells 0 .exact (a12C a)) :: rparts L v (xparts M x R)) := hs
  refine vb_ldA hs.g0 rfl ?_
  obtain ⟨C1, hS, hC⟩ := text12_spec a (n := 64) (B := C) (by decide)
  refine cb_i _ _ hS ?_
  replace hs := hs.quiet hC
  generalize text12 a.raw a.s 64 = t
  refine vb_i (e_fieldAddr _ _) (vb_ld hs.g0 (x := .int .i64 a.d) rfl ?_)
  refine vb_i (e_fieldAddr _ _) (vb_ld hs.g0 (x := .int .i64 a.i) rfl ?_)
  obtain ⟨C2, hS, hC⟩ := rig_Write_spec (rp_in (X := [_]) hs) hw hc a.d a.i t
  refine cb_i _ _ hS ?_
  obtain ⟨e1, e2⟩ := write_same (v := v) a.d a.i t
  have hw' := hw.write a.d a.i t
  generalize v.write a.d a.i t = v1 at *
  generalize v.writeE a.d a.i t = m1 at *
  replace hs := hC
  refine vb_ldA hs.g3 rfl ?_
  obtain ⟨C3, hS, hC⟩ := block12_spec a t (B := C2)
  refine cb_i _ _ hS ?_
  replace hs := hs.quiet hC
  refine vb_i (neq64 _ _ _) ?_
  refine isB_c (fun hm => ?_) (fun hm => ?_)
  · refine vb_i (eql64 _ _ _) ?_
    exact fin_ret (rvs_v (rvs_nil _)) ⟨_, v1, x, rfl, ⟨hw', hx, e2, by omega, e1⟩, c_drop hs⟩
  obtain ⟨hm, hl⟩ := tamper_ok (Classical.not_not.1 hm)
  obtain ⟨hd, hi0, hi1⟩ := mayR_ok hm
  obtain ⟨_, C4, hS, m2, x1, rfl, hx1, hcx1, hC⟩ := ref_Step_spec (c_x hs) hx hcx
  refine cb_i _ _ hS ?_
  replace hs := c_r hC
  refine JoinP.mk (fun e vs D => e = .normal ∧ ∃ x2 : XV, XOk x2 ∧ x2.calls ≤ x.calls + 1 ∧ Sep H0 own D (rparts L v1 (.obj j (.cells 0 .exact (a12C a)) :: xparts M x2 R))) ?_ ?_
  · refine vb_i (eql64 _ _ _) ?_
    refine isB_c (fun h1 => ?_) (fun h1 => ?_)
    · refine vb_i (e_fieldAddr _ _) (vb_ld hs.g3 (x := .int .i64 a.d) rfl ?_)
      refine vb_i (e_nilCheck _) (vb_i (e_fieldAddr _ _) (vb_i (e_idxAddrArr (by omega) (by omega)) ?_))
      refine xp_ptr hd (c_x hs) ?_
      refine vb_i (e_fieldAddr _ _) (vb_ld hs.g3 (x := .int .i64 a.i) rfl ?_)
      obtain ⟨Y, hY, hback⟩ := xp_at hd (c_x hs)
      obtain ⟨r, D, hS, y, hy, hD⟩ := ref_Write_spec hY (hx1.dev _) hi0 hi1 hl
      refine cb_i _ _ hS ?_
      exact ⟨rfl, _, hx1.setDev _ hy, by rw [(setDev_same _ _ _).1]; exact hcx1, c_r (hback _ _ hD)⟩
    · exact ⟨rfl, x1, hx1, hcx1, hs⟩
  rintro _ _ D ⟨rfl, x2, hx2, hcx2, hs⟩
  refine onE_i ?_
  refine vb_i (eql64 _ _ _) ?_
  exact fin_ret (rvs_v (rvs_nil _)) ⟨_, v1, x2, rfl, ⟨hw', hx2, e2, hcx2, e1⟩, c_drop hs⟩
end
end Go.Sh

/- Calls of a rig and of the document's one, on. -/
namespace Go.Sh
open Go Go.Abs

section
variable {H0 B : AHeap} {own : Nat → Prop} {R : List Part} {L : RL} {v : RV} {M : XL} {x : XV} {Z : Part}
theorem reads12 (h : Sep H0 own B (rparts L v (xparts M x R))) (hw : WR v) (hx : XOk x) (hc : v.calls < 4611686018427387904) (hcx : x.calls < 4611686018427387904) (a : A12) :
    ∃ r C, S_cellaretlaw12_reads [.ptr ⟨L.p, 0, 0⟩, .ptr ⟨M.p, 0, 0⟩, .agg (a12C a)] B r C ∧ ∃ (b : Bool) (v' : RV) (x' : XV), r = .bool b ∧ Did v v' x x' ∧ Sep H0 own C (rparts L v' (xparts M x' R)) := by
  refine cellaretlaw12_reads.out ?_
  unfold cellaretlaw12_reads.w
  refine s_box h rfl fun j C _ hs => ?_
  have hs : Sep H0 own C (.obj j (.cells 0 .exact (a12C a)) :: rparts L v (xparts M x R)) := hs
  refine vb_i (e_fieldAddr _ _) (vb_ld hs.g0 (x := .int .i64 a.d) rfl ?_)
  refine vb_i (e_fieldAddr _ _) (vb_ld hs.g0 (x := .int .i64 a.i) rfl ?_)
  obtain ⟨C2, hS, hC⟩ := rig_Read_spec (rp_in (X := [_]) hs) hw hc a.d a.i
  refine cb_i _ _ hS ?_
  obtain ⟨e1, e2⟩ := ask_same (v := v) a.d a.i
  have hw' := hw.ask a.d a.i
  generalize v.ask a.d a.i = v1 at *
  generalize v.askE a.d a.i = m1 at *
  generalize v.readS a.d a.i = t at *
  replace hs := hC
  refine vb_i e_ext0 (vb_i e_ext1 ?_)
  refine vb_ldA hs.g3 rfl ?_
  obtain ⟨C3, hS, hC⟩ := may12_spec a (B := C2)
  refine cb_i _ _ hS ?_
  replace hs := hs.quiet hC
  refine vb_i (neq64 _ _ _) ?_
  refine isB_c (fun hm => ?_) (fun hm => ?_)
  · refine vb_i (eqls _ _) ?_
    refine isB_c (fun h1 => ?_) (fun h1 => ?_)
    · refine vb_i (eql64 _ _ _) ?_
      exact fin_ret (rvs_v (rvs_nil _)) ⟨_, v1, x, rfl, ⟨hw', hx, e2, le_1 _, e1⟩, c_drop hs⟩
    · exact fin_ret (rvs_v (rvs_nil _)) ⟨_, v1, x, rfl, ⟨hw', hx, e2, le_1 _, e1⟩, c_drop hs⟩
  have hm := Classical.not_not.1 hm
  obtain ⟨hd, hi0, hi1⟩ := mayR_ok hm
  obtain ⟨_, C4, hS, m2, x1, rfl, hx1, hcx1, hC⟩ := ref_Step_spec (c_x hs) hx hcx
  refine cb_i _ _ hS ?_
  replace hs := c_r hC
  have hD : Did v v1 x x1 := ⟨hw', hx1, e2, hcx1, e1⟩
  refine vb_i (neq64 _ _ _) ?_
  refine isB_c (fun h1 => ?_) (fun h1 => ?_)
  · refine vb_i (eqls _ _) ?_
    refine isB_c (fun h1 => ?_) (fun h1 => ?_)
    · refine vb_i (eql64 _ _ _) ?_
      exact fin_ret (rvs_v (rvs_nil _)) ⟨_, v1, x1, rfl, hD, c_drop hs⟩
    · exact fin_ret (rvs_v (rvs_nil _)) ⟨_, v1, x1, rfl, hD, c_drop hs⟩
  refine vb_i (eql64 _ _ _) ?_
  refine isB_c (fun h2 => ?_) (fun h2 => ?_)
  rotate_left
  · exact fin_ret (rvs_v (rvs_nil _)) ⟨_, v1, x1, rfl, hD, c_drop hs⟩
  refine vb_i (e_fieldAddr _ _) (vb_ld hs.g3 (x := .int .i64 a.d) rfl ?_)
  refine vb_i (e_nilCheck _) (vb_i (e_fieldAddr _ _) (vb_i (e_idxAddrArr (by omega) (by omega)) ?_))
  refine xp_ptr hd (c_x hs) ?_
  obtain ⟨Y, hY, _⟩ := xp_at hd (c_x hs)
  have ho := rd_open hY
  have hy := hx1.dev a.d
  generalize x1.dev a.d = y at *
  refine vb_i (e_nilCheck _) (vb_i (e_fieldAddr _ _) (vb_ld ho.g0 (x := y.a) rfl ?_))
  refine vb_i (e_fieldAddr _ _) (vb_ld hs.g3 (x := .int .i64 a.i) rfl ?_)
  refine vb_addr ho.o1.view hi0 (by omega) ?_
  obtain ⟨sa, hsa⟩ := get_of' (l := y.la) (k := a.i.toNat) (by rw [hy.la]; omega)
  refine vb_el0 ho.o1.view (strL_get hsa) ?_
  refine vb_i (eqls _ _) ?_
  exact fin_ret (rvs_v (rvs_nil _)) ⟨_, v1, x1, rfl, hD, c_drop hs⟩
theorem regs12 (h : Sep H0 own B (rparts L v (xparts M x R))) (hw : WR v) (hx : XOk x) (hc : v.calls < 4611686018427387904) (hcx : x.calls < 4611686018427387904) (a : A12) (hk : a.kind = 6) :
    ∃ r C, S_cellaretlaw12_regs [.ptr ⟨L.p, 0, 0⟩, .ptr ⟨M.p, 0, 0⟩, .agg (a12C a)] B r C ∧ ∃ (b : Bool) (v' : RV) (x' : XV), r = .bool b ∧ Did v v' x x' ∧ Sep H0 own C (rparts L v' (xparts M x' R)) := by
  refine cellaretlaw12_regs.out ?_
  unfold cellaretlaw12_regs.w
  refine s_box h rfl fun j C _ hs => ?_
  have hs : Sep H0 own C (.obj j (.cells 0 .exact (a12C a)) :: rparts L v (xparts M x R)) := hs
  refine vb_i (e_fieldAddr _ _) (vb_ld hs.g0 (x := .int .i64 a.kind) rfl ?_)
  refine vb_i (eql64 _ _ _) ?_
  refine isB_ct hk ?_
  obtain ⟨C2, hS, hC⟩ := rig_Reg_spec (rp_in (X := [_]) hs) hw hc
  refine cb_i _ _ hS ?_
  obtain ⟨e1, e2⟩ := step_same (v := v)
  have hw' := hw.step
  generalize (if v.err = 0 then v.step.reg else []) = t at *
  generalize v.step = v1 at *
  generalize v.err = m1 at *
  replace hs := hC
  refine vb_i e_ext0 (vb_i e_ext1 ?_)
  obtain ⟨_, C4, hS, m2, x1, rfl, hx1, hcx1, hC⟩ := ref_Step_spec (c_x hs) hx hcx
  refine cb_i _ _ hS ?_
  replace hs := c_r hC
  have hD : Did v v1 x x1 := ⟨hw', hx1, e2, hcx1, e1⟩
  refine vb_i (neq64 _ _ _) ?_
  refine isB_c (fun h1 => ?_) (fun h1 => ?_)
  · refine vb_i (eqls _ _) ?_
    refine isB_c (fun h1 => ?_) (fun h1 => ?_)
    · refine vb_i (eql64 _ _ _) ?_
      exact fin_ret (rvs_v (rvs_nil _)) ⟨_, v1, x1, rfl, hD, c_drop hs⟩
    · exact fin_ret (rvs_v (rvs_nil _)) ⟨_, v1, x1, rfl, hD, c_drop hs⟩
  · refine vb_i (e_nilCheck _) (vb_i (e_fieldAddr _ _) (vb_ld (c_x hs).g0 (x := .str x1.reg) rfl ?_))
    refine vb_i (eqls _ _) ?_
    refine isB_c (fun h1 => ?_) (fun h1 => ?_)
    · refine vb_i (eql64 _ _ _) ?_
      exact fin_ret (rvs_v (rvs_nil _)) ⟨_, v1, x1, rfl, hD, c_drop hs⟩
    · exact fin_ret (rvs_v (rvs_nil _)) ⟨_, v1, x1, rfl, hD, c_drop hs⟩
theorem later_split (n d i : Int) (t : List UInt8) : laterE n d i t = if rightN n then tamperE d i t else 2 := rfl
theorem comes12 (h : Sep H0 own B (rparts L v (xparts M x R))) (hw : WR v) (hx : XOk x) (a : A12) :
    ∃ r C, S_cellaretlaw12_comes [.ptr ⟨L.p, 0, 0⟩, .ptr ⟨M.p, 0, 0⟩, .agg (a12C a)] B r C ∧ ∃ (b : Bool) (v' : RV) (x' : XV), r = .bool b ∧ Did v v' x x' ∧ Sep H0 own C (rparts L v' (xparts M x' R)) := by
  refine cellaretlaw12_comes.out ?_
  unfold cellaretlaw12_comes.w
  refine s_box h rfl fun j C _ hs => ?_
  have hs : Sep H0 own C (.obj j (.cells 0 .exact (a12C a)) :: rparts L v (xparts M x R)) := hs
  replace hs := rp_in (X := [_]) hs
  refine JoinP.mk (fun e vs D => C = D ∧ e = .normal ∧ vs = [.bool (decide (rightN a.n))]) ?_ ?_
  · refine vb_i (e_fieldAddr _ _) (vb_ld hs.g3 (x := .int .i64 a.n) rfl ?_)
    refine vb_i (geq64 _ _ _) ?_
    refine isB_c (fun h1 => ?_) (fun h1 => ?_)
    · refine vb_i (e_fieldAddr _ _) (vb_ld hs.g3 (x := .int .i64 a.n) rfl ?_)
      refine vb_i (leq64 _ _ _) ?_
      refine ⟨rfl, rfl, ?_⟩
      have : decide (rightN a.n) = decide (a.n ≤ 1099511627776) := decide_eq_decide.2 ⟨fun h => h.2, fun h => ⟨h1, h⟩⟩
      rw [this]
    · exact ⟨rfl, rfl, by rw [decide_eq_false (fun h : rightN a.n => h1 h.1)]⟩
  rintro _ _ _ ⟨rfl, rfl, rfl⟩
  refine onE_i ?_
  refine JoinP.mk (fun e vs D => C = D ∧ e = .normal ∧ vs = [.int .i64 (if rightN a.n then 0 else 2)]) ?_ ?_
  · refine vb_i e_notd ?_
    refine isB_c (fun h1 => ?_) (fun h1 => ?_)
    · exact ⟨rfl, rfl, by rw [if_neg h1]⟩
    · exact ⟨rfl, rfl, by rw [if_pos (Classical.not_not.1 h1)]⟩
  rintro _ _ _ ⟨rfl, rfl, rfl⟩
  refine onE_i ?_
  try simp only [evB]
  refine vb_i (e_fieldAddr _ _) (vb_ld hs.g3 (x := .int .i64 a.kind) rfl ?_)
  refine vb_i (eql64 _ _ _) ?_
  refine isB_c (fun h9 => ?_) (fun h9 => ?_)
  · refine vb_ldA hs.g3 rfl ?_
    obtain ⟨C1, hS, hC⟩ := text12_spec a (n := 64) (B := C) (by decide)
    refine cb_i _ _ hS ?_
    replace hs := hs.quiet hC
    generalize text12 a.raw a.s 64 = t
    refine JoinP.mk (fun e vs D => e = .normal ∧ vs = [.int .i64 (laterE a.n a.d a.i t)] ∧ C1 <+: D) ?_ ?_
    · refine isB_c (fun h1 => ?_) (fun h1 => ?_)
      · refine vb_ldA hs.g3 rfl ?_
        obtain ⟨C3, hS, hC⟩ := block12_spec a t (B := C1)
        refine cb_i _ _ hS ?_
        exact ⟨rfl, by rw [later_split, if_pos h1], hC⟩
      · exact ⟨rfl, by rw [later_split, if_neg h1, if_neg h1], List.prefix_refl _⟩
    rintro _ _ C3 ⟨rfl, rfl, hp⟩
    replace hs := hs.quiet hp
    refine onE_i ?_
    try simp only [evB]
    refine JoinP.mk (fun e vs D => e = .normal ∧ ∃ x2 : XV, XOk x2 ∧ x2.calls ≤ x.calls + 1 ∧ Sep H0 own D (rparts L v (.obj j (.cells 0 .exact (a12C a)) :: xparts M x2 R))) ?_ ?_
    · refine vb_i (eql64 _ _ _) ?_
      refine isB_c (fun h1 => ?_) (fun h1 => ?_)
      · obtain ⟨hr, hm, hl⟩ := later_ok h1
        obtain ⟨hd, hi0, hi1⟩ := mayR_ok hm
        refine vb_i (e_fieldAddr _ _) (vb_ld hs.g3 (x := .int .i64 a.n) rfl ?_)
        refine vb_i (e_nilCheck _) (vb_i (e_fieldAddr _ _) ?_)
        refine s_store1 (c_x hs) rfl rfl (by show 5 < 11; decide) fun D1 hs => ?_
        have hg : D1[j]? = some (.cells 0 .exact (a12C a)) := Sep.g6 hs
        refine vb_i (e_fieldAddr _ _) (vb_ld hg (x := .int .i64 a.d) rfl ?_)
        refine vb_i (e_fieldAddr _ _) (vb_ld hg (x := .int .i64 a.i) rfl ?_)
        refine vb_i (v := .agg [.int .i64 a.d, .int .i64 a.i]) rfl ?_
        refine vb_i (e_nilCheck _) (vb_i (e_fieldAddr _ _) ?_)
        refine s_storeN hs rfl rfl (by show 8 + 2 ≤ 11; decide) rfl fun D2 hs => ?_
        refine vb_i (e_nilCheck _) (vb_i (e_fieldAddr _ _) ?_)
        refine s_store1 hs rfl rfl (by show 10 < 11; decide) fun D3 hs => ?_
        refine ⟨rfl, { x with later := a.n, a0 := a.d, a1 := a.i, s := t }, ⟨hx.d0, hx.d1, ⟨by have := hr.1; show 0 ≤ a.n; omega, hr.2⟩, hx.arm, hx.fault, hx.calls, hd, ⟨hi0, hi1⟩, .inl hl⟩, le_1 _, c_r ?_⟩
        exact hs
      · exact ⟨rfl, x, hx, le_1 _, hs⟩
    rintro _ _ D ⟨rfl, x2, hx2, hcx2, hs⟩
    refine onE_i ?_
    refine vb_i (e_fieldAddr _ _) (vb_ld hs.g3 (x := .int .i64 a.n) rfl ?_)
    refine vb_i (e_fieldAddr _ _) (vb_ld hs.g3 (x := .int .i64 a.d) rfl ?_)
    refine vb_i (e_fieldAddr _ _) (vb_ld hs.g3 (x := .int .i64 a.i) rfl ?_)
    obtain ⟨E, hS, hE⟩ := rig_Later_spec hs a.n a.d a.i t
    refine cb_i _ _ hS ?_
    refine vb_i (eql64 _ _ _) ?_
    exact fin_ret (rvs_v (rvs_nil _)) ⟨_, _, x2, rfl, ⟨hw.setLater _ _ _ _, hx2, (later_same _ _ _ _).2, hcx2, (later_same _ _ _ _).1⟩, c_drop hE⟩
  refine vb_i (eql64 _ _ _) ?_
  refine isB_c (fun h10 => ?_) (fun h10 => ?_)
  · refine JoinP.mk (fun e vs D => e = .normal ∧ ∃ x2 : XV, XOk x2 ∧ x2.calls ≤ x.calls + 1 ∧ Sep H0 own D (rparts L v (.obj j (.cells 0 .exact (a12C a)) :: xparts M x2 R))) ?_ ?_
    · refine isB_c (fun h1 => ?_) (fun h1 => ?_)
      · refine vb_i (e_fieldAddr _ _) (vb_ld hs.g3 (x := .int .i64 a.n) rfl ?_)
        refine vb_i (e_nilCheck _) (vb_i (e_fieldAddr _ _) ?_)
        refine s_store1 (c_x hs) rfl rfl (by show 6 < 11; decide) fun D1 hs => ?_
        exact ⟨rfl, { x with arm := a.n }, ⟨hx.d0, hx.d1, hx.later, ⟨by have := h1.1; show 0 ≤ a.n; omega, h1.2⟩, hx.fault, hx.calls, hx.a0, hx.a1, hx.s⟩, le_1 _, c_r hs⟩
      · exact ⟨rfl, x, hx, le_1 _, hs⟩
    rintro _ _ D ⟨rfl, x2, hx2, hcx2, hs⟩
    refine onE_i ?_
    refine vb_i (e_fieldAddr _ _) (vb_ld hs.g3 (x := .int .i64 a.n) rfl ?_)
    obtain ⟨E, hS, hE⟩ := rig_Arm_spec hs a.n
    refine cb_i _ _ hS ?_
    refine vb_i (eql64 _ _ _) ?_
    exact fin_ret (rvs_v (rvs_nil _)) ⟨_, _, x2, rfl, ⟨hw.setArm _, hx2, (arm_same _).2, hcx2, (arm_same _).1⟩, c_drop hE⟩
  · refine JoinP.mk (fun e vs D => e = .normal ∧ ∃ x2 : XV, XOk x2 ∧ x2.calls ≤ x.calls + 1 ∧ Sep H0 own D (rparts L v (.obj j (.cells 0 .exact (a12C a)) :: xparts M x2 R))) ?_ ?_
    · refine isB_c (fun h1 => ?_) (fun h1 => ?_)
      · refine vb_i (e_fieldAddr _ _) (vb_ld hs.g3 (x := .int .i64 a.n) rfl ?_)
        refine vb_i (e_nilCheck _) (vb_i (e_fieldAddr _ _) ?_)
        refine s_store1 (c_x hs) rfl rfl (by show 7 < 11; decide) fun D1 hs => ?_
        exact ⟨rfl, { x with fault := a.n }, ⟨hx.d0, hx.d1, hx.later, hx.arm, ⟨by have := h1.1; show 0 ≤ a.n; omega, h1.2⟩, hx.calls, hx.a0, hx.a1, hx.s⟩, le_1 _, c_r hs⟩
      · exact ⟨rfl, x, hx, le_1 _, hs⟩
    rintro _ _ D ⟨rfl, x2, hx2, hcx2, hs⟩
    refine onE_i ?_
    refine vb_i (e_fieldAddr _ _) (vb_ld hs.g3 (x := .int .i64 a.n) rfl ?_)
    obtain ⟨E, hS, hE⟩ := rig_Fault_spec hs a.n
    refine cb_i _ _ hS ?_
    refine vb_i (eql64 _ _ _) ?_
    exact fin_ret (rvs_v (rvs_nil _)) ⟨_, _, x2, rfl, ⟨hw.setFault _, hx2, (fault_same _).2, hcx2, (fault_same _).1⟩, c_drop hE⟩
end
end Go.Sh

/- Any call of both; what must come at any rate. -/
namespace Go.Sh
open Go Go.Abs

section
variable {H0 B : AHeap} {own : Nat → Prop} {R : List Part} {L : RL} {v : RV} {M : XL} {x : XV} {Z : Part}
theorem c_in (h : Sep H0 own B (rparts L v (Z :: xparts M x R))) : Sep H0 own B (rparts L v (xparts M x (Z :: R))) := h.perm (List.Perm.append_left [_, _, _] (List.perm_middle (l₁ := [_, _, _])).symm)
theorem c_out (h : Sep H0 own B (rparts L v (xparts M x (Z :: R)))) : Sep H0 own B (rparts L v (Z :: xparts M x R)) := h.perm (List.Perm.append_left [_, _, _] (List.perm_middle (l₁ := [_, _, _])))
theorem c_end (h : Sep H0 own B (rparts L v (xparts M x (Z :: R)))) : Sep H0 own B (rparts L v (xparts M x R)) := c_drop (c_out h)
theorem do12 (h : Sep H0 own B (rparts L v (xparts M x R))) (hw : WR v) (hx : XOk x) (hc : v.calls < 4611686018427387904) (hcx : x.calls < 4611686018427387904) (a : A12) (hk : a.kind ≠ 7)
    {k0 k1 : List Bool} (hv0 : Lw H0 a.kx k0) (hv1 : Lw H0 a.ky k1) (ho0 : ∀ i, slId a.kx = some i → ¬ own i) (ho1 : ∀ i, slId a.ky = some i → ¬ own i) :
    ∃ r C, S_cellaretlaw12_do [.ptr ⟨L.p, 0, 0⟩, .ptr ⟨M.p, 0, 0⟩, .agg (a12C a)] B r C ∧ ∃ (b : Bool) (v' : RV) (x' : XV), r = .bool b ∧ Did v v' x x' ∧ Sep H0 own C (rparts L v' (xparts M x' R)) := by
  refine cellaretlaw12_do.out ?_
  unfold cellaretlaw12_do.w
  refine s_box h rfl fun j C _ hs => ?_
  have hs : Sep H0 own C (.obj j (.cells 0 .exact (a12C a)) :: rparts L v (xparts M x R)) := hs
  replace hs := rp_in (X := [_]) hs
  refine vb_i (e_fieldAddr _ _) (vb_ld hs.g3 (x := .int .i64 a.kind) rfl ?_)
  refine JoinP.mk (fun e vs D => C = D ∧ e = .normal ∧ ∃ b : Bool, vs = [.bool b]) ?_ ?_
  · refine vb_i (eql64 _ _ _) ?_
    refine isB_c (fun h1 => ?_) (fun h1 => ?_)
    · exact ⟨rfl, rfl, _, rfl⟩
    refine vb_i (eql64 _ _ _) ?_
    refine isB_c (fun h1 => ?_) (fun h1 => ?_)
    · exact ⟨rfl, rfl, _, rfl⟩
    refine vb_i (eql64 _ _ _) ?_
    exact ⟨rfl, rfl, _, rfl⟩
  rintro _ _ _ ⟨rfl, rfl, b, rfl⟩
  refine onE_i ?_
  try simp only [evB]
  refine isB_bb (fun hb => ?_) (fun hb => ?_)
  · refine vb_ldA hs.g3 rfl ?_
    obtain ⟨_, D, hS, b, v', x', rfl, hD, hs⟩ := writes12 (c_in hs) hw hx hc hcx a
    refine cb_i _ _ hS ?_
    exact fin_ret (rvs_v (rvs_nil _)) ⟨b, v', x', rfl, hD, c_end hs⟩
  refine vb_i (eql64 _ _ _) ?_
  refine isB_c (fun h5 => ?_) (fun h5 => ?_)
  · refine vb_i (e_fieldAddr _ _) (vb_ld hs.g3 (x := .int .i64 a.d) rfl ?_)
    obtain ⟨D, hS, hC⟩ := rig_Flush_spec hs hw hc a.d
    refine cb_i _ _ hS ?_
    obtain ⟨e1, e2⟩ := flush_same (v := v) a.d
    have hw' := hw.flush a.d
    generalize v.flush a.d = v1 at *
    generalize v.flushE a.d = m1 at *
    replace hs := hC
    refine JoinP.mk (fun e vs E => D = E ∧ ((e = .ret ∧ ∃ b : Bool, vs = [.bool b]) ∨ (e = .normal ∧ (a.d = 0 ∨ a.d = 1)))) ?_ ?_
    · refine vb_i (e_fieldAddr _ _) (vb_ld hs.g3 (x := .int .i64 a.d) rfl ?_)
      refine vb_i (lss64 _ _ _) ?_
      refine isB_c (fun h1 => ?_) (fun h1 => ?_)
      · refine vb_i (eql64 _ _ _) ?_
        exact ⟨rfl, .inl ⟨rfl, _, rfl⟩⟩
      refine vb_i (e_fieldAddr _ _) (vb_ld hs.g3 (x := .int .i64 a.d) rfl ?_)
      refine vb_i (gtr64 _ _ _) ?_
      refine isB_c (fun h2 => ?_) (fun h2 => ?_)
      · refine vb_i (eql64 _ _ _) ?_
        exact ⟨rfl, .inl ⟨rfl, _, rfl⟩⟩
      · exact ⟨rfl, .inr ⟨rfl, by omega⟩⟩
    rintro _ _ _ ⟨rfl, ⟨rfl, b, rfl⟩ | ⟨rfl, hd⟩⟩
    · refine onE_s (by decide) (onE_i ?_)
      try simp only [evB]
      exact fin_ret (rvs_v (rvs_nil _)) ⟨b, v1, x, rfl, ⟨hw', hx, e2, le_1 _, e1⟩, c_drop hs⟩
    refine onE_i ?_
    obtain ⟨_, C4, hS, m2, x1, rfl, hx1, hcx1, hC⟩ := ref_Step_spec (c_x hs) hx hcx
    refine cb_i _ _ hS ?_
    replace hs := c_r hC
    refine JoinP.mk (fun e vs D => e = .normal ∧ ∃ x2 : XV, XOk x2 ∧ x2.calls ≤ x.calls + 1 ∧ Sep H0 own D (rparts L v1 (.obj j (.cells 0 .exact (a12C a)) :: xparts M x2 R))) ?_ ?_
    · refine vb_i (eql64 _ _ _) ?_
      refine isB_c (fun h1 => ?_) (fun h1 => ?_)
      · refine vb_i (e_fieldAddr _ _) (vb_ld hs.g3 (x := .int .i64 a.d) rfl ?_)
        refine vb_i (e_nilCheck _) (vb_i (e_fieldAddr _ _) (vb_i (e_idxAddrArr (by omega) (by omega)) ?_))
        refine xp_ptr hd (c_x hs) ?_
        obtain ⟨Y, hY, hback⟩ := xp_at hd (c_x hs)
        obtain ⟨r, D, hS, y, hy, hD⟩ := ref_Flush_spec hY (hx1.dev _)
        refine cb_i _ _ hS ?_
        exact ⟨rfl, _, hx1.setDev _ hy, by rw [(setDev_same _ _ _).1]; exact hcx1, c_r (hback _ _ hD)⟩
      · exact ⟨rfl, x1, hx1, hcx1, hs⟩
    rintro _ _ D ⟨rfl, x2, hx2, hcx2, hs⟩
    refine onE_i ?_
    refine vb_i (eql64 _ _ _) ?_
    exact fin_ret (rvs_v (rvs_nil _)) ⟨_, v1, x2, rfl, ⟨hw', hx2, e2, hcx2, e1⟩, c_drop hs⟩
  refine JoinP.mk (fun e vs D => C = D ∧ e = .normal ∧ vs = [.bool (decide (a.kind = 6))]) ?_ ?_
  · refine vb_i (eql64 _ _ _) ?_
    refine isB_c (fun h1 => ?_) (fun h1 => ?_)
    · exact ⟨rfl, rfl, by rw [decide_eq_true h1]⟩
    · refine vb_i (eql64 _ _ _) ?_
      exact ⟨rfl, rfl, by rw [decide_eq_false h1, decide_eq_false hk]⟩
  rintro _ _ _ ⟨rfl, rfl, rfl⟩
  refine onE_i ?_
  try simp only [evB]
  refine isB_c (fun h6 => ?_) (fun h6 => ?_)
  · refine vb_ldA hs.g3 rfl ?_
    obtain ⟨_, D, hS, b, v', x', rfl, hD, hs⟩ := regs12 (c_in hs) hw hx hc hcx a h6
    refine cb_i _ _ hS ?_
    exact fin_ret (rvs_v (rvs_nil _)) ⟨b, v', x', rfl, hD, c_end hs⟩
  refine vb_i (eql64 _ _ _) ?_
  refine isB_c (fun h8 => ?_) (fun h8 => ?_)
  · refine vb_ldA hs.g3 rfl ?_
    obtain ⟨C1, hS, hC⟩ := text12_spec a (n := 64) (B := C) (by decide)
    refine cb_i _ _ hS ?_
    replace hs := hs.quiet hC
    generalize text12 a.raw a.s 64 = t
    refine vb_ldA hs.g3 rfl ?_
    obtain ⟨C3, hS, hC⟩ := block12_spec a t (B := C1)
    refine cb_i _ _ hS ?_
    replace hs := hs.quiet hC
    refine JoinP.mk (fun e vs D => e = .normal ∧ ∃ x2 : XV, XOk x2 ∧ x2.calls ≤ x.calls + 1 ∧ Sep H0 own D (rparts L v (.obj j (.cells 0 .exact (a12C a)) :: xparts M x2 R))) ?_ ?_
    · refine vb_i (eql64 _ _ _) ?_
      refine isB_c (fun h1 => ?_) (fun h1 => ?_)
      · obtain ⟨hm, hl⟩ := tamper_ok h1
        obtain ⟨hd, hi0, hi1⟩ := mayR_ok hm
        refine vb_i (e_fieldAddr _ _) (vb_ld hs.g3 (x := .int .i64 a.d) rfl ?_)
        refine vb_i (e_nilCheck _) (vb_i (e_fieldAddr _ _) (vb_i (e_idxAddrArr (by omega) (by omega)) ?_))
        refine xp_ptr hd (c_x hs) ?_
        refine vb_i (e_fieldAddr _ _) (vb_ld hs.g3 (x := .int .i64 a.i) rfl ?_)
        obtain ⟨Y, hY, hback⟩ := xp_at hd (c_x hs)
        obtain ⟨r, D, hS, y, hy, hD⟩ := ref_Tamper_spec hY (hx.dev _) hi0 hi1 hl
        refine cb_i _ _ hS ?_
        exact ⟨rfl, _, hx.setDev _ hy, by rw [(setDev_same _ _ _).1]; exact le_1 _, c_r (hback _ _ hD)⟩
      · exact ⟨rfl, x, hx, le_1 _, hs⟩
    rintro _ _ D ⟨rfl, x2, hx2, hcx2, hs⟩
    refine onE_i ?_
    refine vb_i (e_fieldAddr _ _) (vb_ld hs.g3 (x := .int .i64 a.d) rfl ?_)
    refine vb_i (e_fieldAddr _ _) (vb_ld hs.g3 (x := .int .i64 a.i) rfl ?_)
    obtain ⟨E, hS, hE⟩ := rig_Tamper_spec hs hw a.d a.i t
    refine cb_i _ _ hS ?_
    refine vb_i (eql64 _ _ _) ?_
    exact fin_ret (rvs_v (rvs_nil _)) ⟨_, _, x2, rfl, ⟨hw.tamper _ _ _, hx2, (tamper_same _ _ _).2, hcx2, (tamper_same _ _ _).1⟩, c_drop hE⟩
  refine JoinP.mk (fun e vs D => C = D ∧ e = .normal ∧ ∃ b : Bool, vs = [.bool b]) ?_ ?_
  · refine vb_i (eql64 _ _ _) ?_
    refine isB_c (fun h1 => ?_) (fun h1 => ?_)
    · exact ⟨rfl, rfl, _, rfl⟩
    refine vb_i (eql64 _ _ _) ?_
    refine isB_c (fun h1 => ?_) (fun h1 => ?_)
    · exact ⟨rfl, rfl, _, rfl⟩
    refine vb_i (eql64 _ _ _) ?_
    exact ⟨rfl, rfl, _, rfl⟩
  rintro _ _ _ ⟨rfl, rfl, b, rfl⟩
  refine onE_i ?_
  try simp only [evB]
  refine isB_bb (fun hb => ?_) (fun hb => ?_)
  · refine vb_ldA hs.g3 rfl ?_
    obtain ⟨_, D, hS, b, v', x', rfl, hD, hs⟩ := comes12 (c_in hs) hw hx a
    refine cb_i _ _ hS ?_
    exact fin_ret (rvs_v (rvs_nil _)) ⟨b, v', x', rfl, hD, c_end hs⟩
  refine vb_i (eql64 _ _ _) ?_
  refine isB_c (fun h12 => ?_) (fun h12 => ?_)
  · refine vb_i (e_fieldAddr _ _) (vb_ldP hs.g3 (xs := [a.kx, .int .i64 a.tx, .int .i64 a.nx]) rfl rfl ?_)
    refine vb_i (e_fieldAddr _ _) (vb_ldP hs.g3 (xs := [a.ky, .int .i64 a.ty, .int .i64 a.ny]) rfl rfl ?_)
    obtain ⟨r, D, hS, x1, hx1, hcx1, hD⟩ := ref_Crash12_spec (c_x hs) hx hv0 hv1 ho0 ho1 (t0 := a.tx) (n0 := a.nx) (t1 := a.ty) (n1 := a.ny)
    refine cb_i _ _ hS ?_
    replace hs := c_r hD
    refine vb_i (e_fieldAddr _ _) (vb_ldP hs.g3 (xs := [a.kx, .int .i64 a.tx, .int .i64 a.nx]) rfl rfl ?_)
    refine vb_i (e_fieldAddr _ _) (vb_ldP hs.g3 (xs := [a.ky, .int .i64 a.ty, .int .i64 a.ny]) rfl rfl ?_)
    obtain ⟨E, hS, hE⟩ := rig_Crash_spec hs hw hv0 hv1 ho0 ho1 (t0 := a.tx) (n0 := a.nx) (t1 := a.ty) (n1 := a.ny)
    refine cb_i _ _ hS ?_
    refine vb_i (eql64 _ _ _) ?_
    exact fin_ret (rvs_v (rvs_nil _)) ⟨_, _, x1, rfl, ⟨hw.crash _ _ _ _ _ _, hx1, le_1 _, by rw [hcx1]; exact le_1 _, rfl⟩, c_drop hE⟩
  · refine vb_ldA hs.g3 rfl ?_
    obtain ⟨_, D, hS, b, v', x', rfl, hD, hs⟩ := reads12 (c_in hs) hw hx hc hcx a
    refine cb_i _ _ hS ?_
    exact fin_ret (rvs_v (rvs_nil _)) ⟨b, v', x', rfl, hD, c_end hs⟩
theorem crash_new (k : List Bool) (t n : Int) (m : Nat) : crashL k t n (List.replicate m bk0) = List.replicate m bk0 := by
  unfold crashL
  refine List.ext_getElem? fun j => ?_
  rw [List.getElem?_mapIdx]
  by_cases hj : j < m
  · rw [List.getElem?_replicate, if_pos hj]; rfl
  · rw [List.getElem?_replicate, if_neg hj]; rfl
theorem awake12_spec : ∃ C, S_cellaretlaw12_awake [] B (.bool true) C ∧ B <+: C := by
  obtain ⟨r, C, h, rfl, k⟩ := cellaretlaw12_awake.out (H := B) (Q := fun r C => r = .bool true ∧ B <+: C) (by
    unfold cellaretlaw12_awake.w
    obtain ⟨C, L, hS, hs⟩ := rig_New_spec (B := B)
    refine cb_i _ _ hS ?_
    have hw := WR.rig0
    refine cb_i (.str (full [97] 64)) _ ⟨[97], 64, rfl, by decide, rfl, rfl⟩ ?_
    have hfl : (full [97] 64).length = 64 := full64 _ (by decide)
    obtain ⟨D, hS1, hs1⟩ := rig_Arm_spec hs 2
    have hr : rightN 2 := by unfold rightN; decide
    have hw1 := hw.setArm 2
    refine JoinP.mk (fun e vs E => e = .normal ∧ D = E) ?_ ?_
    · refine vb_i (e_ptrNil _ _) (isB_F ?_)
      refine cb_i _ _ hS1 ?_
      have e : armE 2 = 0 := if_pos hr
      rw [e]
      refine vb_i (neq64 _ _ _) ?_
      refine isB_cf (by decide) ?_
      exact ⟨rfl, rfl⟩
    rintro _ _ _ ⟨rfl, rfl⟩
    refine onE_i ?_
    have ev : rig0.setArm 2 = { rig0 with arm := 2 } := if_pos hr
    rw [ev] at hs1 hw1
    obtain ⟨D2, hS2, hs2⟩ := rig_Read_spec hs1 hw1 (by decide) 0 5
    refine cb_i _ _ hS2 ?_
    have hw2 := hw1.ask 0 5
    have hm : mayR 0 5 = 0 := rfl
    have ea : RV.askE { rig0 with arm := 2 } 0 5 = 0 := rfl
    have eb : RV.ask { rig0 with arm := 2 } 0 5 = { rig0 with calls := 1, arm := 1 } := rfl
    rw [ea]
    rw [eb] at hs2 hw2
    refine vb_i e_ext0 (vb_i e_ext1 ?_)
    obtain ⟨D3, hS3, hs3⟩ := rig_Write_spec hs2 hw2 (by decide) 0 5 (full [97] 64)
    refine cb_i _ _ hS3 ?_
    have hw3 := hw2.write 0 5 (full [97] 64)
    have ec : RV.writeE { rig0 with calls := 1, arm := 1 } 0 5 (full [97] 64) = 11 := by
      unfold RV.writeE
      rw [if_pos hm, if_pos hfl]; rfl
    have ed : RV.write { rig0 with calls := 1, arm := 1 } 0 5 (full [97] 64) = { rig0 with calls := 2, arm := 0, down := true } := by
      unfold RV.write
      rw [if_pos ⟨hm, hfl⟩]; rfl
    rw [ec]
    rw [ed] at hs3 hw3
    refine cb_i _ _ (rig_Down_spec hs3) ?_
    refine vb_i (v := .agg [.nils, .int .i64 0, .int .i64 0]) rfl ?_
    refine vb_i (v := .agg [.nils, .int .i64 0, .int .i64 0]) rfl ?_
    obtain ⟨D4, hS4, hs4⟩ := rig_Crash_spec hs3 hw3 (lw_nil _) (lw_nil _) (fun _ h => by cases h) (fun _ h => by cases h) (t0 := 0) (n0 := 0) (t1 := 0) (n1 := 0)
    refine cb_i _ _ hS4 ?_
    have hw4 := hw3.crash [] [] 0 0 0 0
    have ee : RV.crash { rig0 with calls := 2, arm := 0, down := true } [] [] 0 0 0 0 = { rig0 with calls := 2 } := by
      unfold RV.crash
      dsimp only
      rw [show rig0.d0 = List.replicate 288 bk0 from rfl, show rig0.d1 = List.replicate 288 bk0 from rfl, crash_new]
      rfl
    rw [ee] at hs4 hw4
    obtain ⟨D5, hS5, hs5⟩ := rig_Read_spec hs4 hw4 (by decide) 0 5
    refine cb_i _ _ hS5 ?_
    have ef : RV.askE { rig0 with calls := 2 } 0 5 = 0 := rfl
    have eg : RV.ask { rig0 with calls := 2 } 0 5 = { rig0 with calls := 3 } := rfl
    have eh : RV.readS { rig0 with calls := 2 } 0 5 = zs 64 := rfl
    rw [ef, eh]
    rw [eg] at hs5
    refine vb_i e_ext0 (vb_i e_ext1 ?_)
    refine vb_i (eql64 _ _ _) (isB_ct rfl ?_)
    refine vb_i (eql64 _ _ _) (isB_ct rfl ?_)
    refine isB_T ?_
    refine vb_i (eql64 _ _ _) (isB_ct rfl ?_)
    refine cb_i (.str (zs 64)) _ ⟨64, rfl, by decide, rfl, rfl⟩ ?_
    refine vb_i (eqls _ _) (isB_ct rfl ?_)
    refine cb_i _ _ (rig_Calls_spec hs5) ?_
    refine vb_i (eql64 _ _ _) (isB_ct rfl ?_)
    refine cb_i _ _ (rig_Dev_spec hs5 1) ?_
    rw [if_pos (.inr rfl)]
    refine vb_i (e_ptrNilN _ _) ?_
    exact fin_ret (rvs_v (rvs_nil _)) ⟨hs5.pre fun _ x => x, rfl, hs5.pre fun _ x => x⟩)
  exact ⟨C, h, k⟩
end
end Go.Sh

/- The laws of rigs. -/
namespace Go.Sh
open Go Go.Abs

def Lv (H : AHeap) (k : AVal) : Prop := ∃ l : List Bool, Lw H k l
def S_cellaretlaw12_RigNone : Abs.Spec := fun args H r H' => ∃ a : A12, args = [.agg (a12C a)] ∧ Lv H a.kx ∧ Lv H a.ky ∧ r = .bool true ∧ H' = H
def S_cellaretlaw12_RigWhole : Abs.Spec := fun args H r H' => ∃ (x : AVal) (l : List A12), args = [x] ∧ View H x 12 l.length (flat a12C l) ∧ l.length ≤ 9223372036854775807 ∧ (∀ a ∈ l, Lv H a.kx ∧ Lv H a.ky) ∧ r = .bool true ∧ H' = H
section
variable {v : RV}
theorem setreg_same (s : List UInt8) : (v.setreg s).calls ≤ v.calls + 1 ∧ (v.setregE s = 0 → (v.setreg s).reg = s) ∧ (v.setregE s ≠ 0 → (v.setreg s).reg = v.reg) := by
  unfold RV.setreg RV.setregE
  have k := step_same (v := v)
  by_cases h1 : s.length = 96
  · rw [if_pos h1, if_pos h1]
    by_cases h2 : v.err = 0
    · rw [if_pos h2]
      exact ⟨k.2, fun _ => rfl, fun h => absurd h2 h⟩
    · rw [if_neg h2]
      exact ⟨k.2, fun h => absurd h h2, fun _ => k.1⟩
  · rw [if_neg h1, if_neg h1]
    exact ⟨le_1 _, fun h => absurd h (by decide), fun _ => rfl⟩
end
set_option maxHeartbeats 1000000 in
theorem cellaretlaw12_RigWhole.ok (args : List AVal) (H : AHeap) (r : AVal) (H' : AHeap) (h : S_cellaretlaw12_RigWhole args H r H') : ∃ x0, args = [x0] ∧ cellaretlaw12_RigWhole.w x0 H fun r1 H1 => Weak H r1 H1 r H' := by
  obtain ⟨x0, l, rfl, hv, hl, hlv, rfl, rfl⟩ := h
  refine ⟨_, rfl, ?_⟩
  unfold cellaretlaw12_RigWhole.w
  obtain ⟨C, L, hS, hs⟩ := rig_New_spec (B := H')
  refine cb_i _ _ hS ?_
  refine JoinP.mk (fun e vs D => e = .normal ∧ C <+: D) ?_ ?_
  · refine vb_i (e_ptrNil _ _) (isB_F ?_)
    obtain ⟨D, hS, hD⟩ := awake12_spec (B := C)
    refine cb_i _ _ hS ?_
    refine vb_i (e_not _) (isB_F ?_)
    exact ⟨rfl, hD⟩
  rintro _ _ D ⟨rfl, hD⟩
  replace hs := hs.quiet hD
  refine onE_i ?_
  refine cb_i (.str (zs 96)) _ ⟨96, rfl, by decide, rfl, rfl⟩ ?_
  obtain ⟨_, E, hS, M, x, rfl, hx, hxc, hE⟩ := ref_New12_spec (B := D)
  refine cb_i _ _ hS ?_
  have hs : Sep H' (fun _ => False) E (rparts L rig0 (xparts M x [])) := rp_in (X := [_, _, _]) (Sep.q0 hs hE)
  refine LoopP.ruleG (α := Nat × RV × XV) (fun a => [.str a.2.1.reg, .int .i64 (a.1 : Int)])
    (fun a F => (a.1 ≤ 40 ∧ a.1 ≤ l.length ∧ WR a.2.1 ∧ XOk a.2.2 ∧ a.2.1.calls ≤ 3 * a.1 ∧ a.2.2.calls ≤ 3 * a.1) ∧ Sep H' (fun _ => False) F (rparts L a.2.1 (xparts M a.2.2 []))) (fun a => 41 - a.1) (0, rig0, x) rfl
    ⟨⟨Nat.zero_le _, Nat.zero_le _, WR.rig0, hx, by show (0 : Int) ≤ _; omega, by show x.calls ≤ _; omega⟩, hs⟩ ?_
  clear hs hS hx hxc hE hD
  rintro ⟨k, v, x⟩ F Kn ⟨⟨h40, hkl, hw, hx, hcv, hcx⟩, hs⟩ hnx
  unfold cellaretlaw12_RigWhole.L7 cellaretlaw12_RigWhole.L7.b
  try simp only [evB]
  simp only at hs h40 hkl hw hx hcv hcx
  have hf := a12_len
  have hnone : ∀ i, ¬ (fun _ : Nat => False) i := fun _ h => h
  refine JoinP.mk (fun e vs E => F = E ∧ ((e = .normal ∧ k < 40 ∧ k < l.length) ∨ (e = .exit 0 ∧ vs = []))) ?_ ?_
  · refine vb_len (hs.rv hv) ?_
    refine vb_i (lss64 _ _ _) ?_
    refine isB_c (fun h1 => ?_) (fun h1 => ?_)
    · refine vb_i (lss64 _ _ _) ?_
      refine isB_c (fun h2 => ?_) (fun h2 => ?_)
      · exact ⟨rfl, .inl ⟨rfl, by omega, by omega⟩⟩
      · exact ⟨rfl, .inr ⟨rfl, rfl⟩⟩
    · exact ⟨rfl, .inr ⟨rfl, rfl⟩⟩
  rintro _ _ _ ⟨rfl, ⟨rfl, hk40, hkl⟩ | ⟨rfl, rfl⟩⟩
  rotate_left
  · refine onE_i ?_
    refine onE_i ?_
    try simp only [evB]
    refine vb_i (v := .agg [.nils, .int .i64 0, .int .i64 0]) rfl ?_
    refine vb_i (v := .agg [.nils, .int .i64 0, .int .i64 0]) rfl ?_
    obtain ⟨D4, hS4, hs4⟩ := rig_Crash_spec hs hw (lw_nil _) (lw_nil _) (fun _ h => by cases h) (fun _ h => by cases h) (t0 := 0) (n0 := 0) (t1 := 0) (n1 := 0)
    refine cb_i _ _ hS4 ?_
    have hw4 := hw.crash [] [] 0 0 0 0
    have he : (v.crash [] [] 0 0 0 0).err = 0 := rfl
    obtain ⟨D5, hS5, hs5⟩ := rig_Reg_spec hs4 hw4 (by show v.calls < _; omega)
    refine cb_i _ _ hS5 ?_
    rw [he, if_pos rfl, step_same.1, show (v.crash [] [] 0 0 0 0).reg = v.reg from rfl]
    refine vb_i e_ext0 (vb_i e_ext1 ?_)
    refine vb_i (eqls _ _) (isB_ct rfl ?_)
    refine vb_i (eql64 _ _ _) ?_
    exact fin_ret (vs := [.bool true]) (rvs_v (rvs_nil _)) (Weak.plain rfl (hs5.pre fun _ x => x))
  refine onE_s (by decide) ?_
  refine onE_i ?_
  obtain ⟨a, hb⟩ : ∃ a, l[k]? = some a := ⟨_, List.getElem?_eq_getElem hkl⟩
  obtain ⟨⟨k0, hv0⟩, ⟨k1, hv1⟩⟩ := hlv a (List.mem_of_getElem? hb)
  refine vb_addrN (hs.rv hv) hkl ?_
  refine vb_elN (hs.rv hv) hf hb ?_
  obtain ⟨C1, hS, hC⟩ := few12 a (B := F)
  refine cb_i _ _ hS ?_
  replace hs := hs.quiet hC
  refine vb_i e_notd ?_
  refine isB_c (fun h1 => ?_) (fun h1 => ?_)
  · refine vb_i (add64 (by omega) (by omega)) ?_
    exact hnx (k + 1, v, x) _ ⟨⟨by omega, by omega, hw, hx, by simp only; omega, by simp only; omega⟩, hs⟩ (by simp only; omega)
  refine JoinP.mk (fun e vs G => e = .normal ∧ ∃ (v2 : RV) (x2 : XV), vs = [.str v2.reg] ∧ WR v2 ∧ XOk x2 ∧ v2.calls ≤ v.calls + 1 ∧ x2.calls ≤ x.calls + 1 ∧ Sep H' (fun _ => False) G (rparts L v2 (xparts M x2 []))) ?_ ?_
  · refine vb_addrN (hs.rv hv) hkl ?_
    refine vb_i (e_fieldAddr _ _) ?_
    refine vb_el1 (hs.rv hv) hf hb (x := .int .i64 a.kind) (by rfl) ?_
    refine vb_i (eql64 _ _ _) ?_
    refine isB_c (fun h7 => ?_) (fun h7 => ?_)
    · refine vb_addrN (hs.rv hv) hkl ?_
      refine vb_elN (hs.rv hv) hf hb ?_
      obtain ⟨C2, hS, hC⟩ := text12_spec a (n := 96) (B := C1) (by decide)
      refine cb_i _ _ hS ?_
      replace hs := hs.quiet hC
      generalize text12 a.raw a.s 96 = t
      obtain ⟨C3, hS, hC⟩ := rig_SetReg_spec hs hw (by omega) t
      refine cb_i _ _ hS ?_
      obtain ⟨q1, q2, q3⟩ := setreg_same (v := v) t
      refine vb_i (eql64 _ _ _) ?_
      refine isB_c (fun h2 => ?_) (fun h2 => ?_)
      · exact ⟨rfl, v.setreg t, x, by rw [q2 h2], hw.setreg t, hx, q1, le_1 _, hC⟩
      · exact ⟨rfl, v.setreg t, x, by rw [q3 h2], hw.setreg t, hx, q1, le_1 _, hC⟩
    · refine vb_addrN (hs.rv hv) hkl ?_
      refine vb_elN (hs.rv hv) hf hb ?_
      obtain ⟨_, C3, hS, b, v2, x2, rfl, hd, hC⟩ := do12 hs hw hx (by omega) (by omega) a h7 hv0 hv1 (fun _ _ h => h) (fun _ _ h => h)
      refine cb_i _ _ hS ?_
      exact ⟨rfl, v2, x2, by rw [hd.reg], hd.w, hd.k, hd.cv, hd.cx, hC⟩
  clear hs
  rintro _ _ G ⟨rfl, v2, x2, rfl, hw2, hx2, hcv2, hcx2, hs⟩
  refine onE_i ?_
  try simp only [evB]
  obtain ⟨D5, hS5, hs5⟩ := rig_Reg_spec hs hw2 (by omega)
  refine cb_i _ _ hS5 ?_
  obtain ⟨q1, q2⟩ := step_same (v := v2)
  refine vb_i e_ext0 (vb_i e_ext1 ?_)
  refine vb_i (eql64 _ _ _) ?_
  have hend : Kn [.str v2.reg, .int .i64 ((k : Int) + 1)] D5 := by
    have := hnx (k + 1, v2.step, x2) D5 ⟨⟨by omega, by omega, hw2.step, hx2, by simp only; omega, by simp only; omega⟩, hs5⟩ (by simp only; omega)
    simp only [q1] at this
    exact this
  refine isB_c (fun h2 => ?_) (fun h2 => ?_)
  · rw [if_pos h2, q1]
    refine vb_i (neqs _ _) ?_
    refine isB_cf (fun h => h rfl) ?_
    refine vb_i (add64 (by omega) (by omega)) ?_
    exact hend
  · refine vb_i (add64 (by omega) (by omega)) ?_
    exact hend

theorem lv_sc {H : AHeap} {k : AVal} (h : Lv H k) : k.sc = true := by
  obtain ⟨l, hv⟩ := h
  exact hv.sc
set_option maxRecDepth 20000 in
theorem cellaretlaw12_RigNone.ok (args : List AVal) (H : AHeap) (r : AVal) (H' : AHeap) (h : S_cellaretlaw12_RigNone args H r H') : ∃ x0, args = [x0] ∧ cellaretlaw12_RigNone.w x0 H fun r1 H1 => Weak H r1 H1 r H' := by
  obtain ⟨a, rfl, hkx, hky, rfl, rfl⟩ := h
  refine ⟨_, rfl, ?_⟩
  unfold cellaretlaw12_RigNone.w
  have hs : Sep H' (fun _ => False) H' [] := Sep.start H'
  refine s_box hs rfl fun j C _ hs => ?_
  have hs : Sep H' (fun _ => False) C [.obj j (.cells 0 .exact (a12C a))] := hs
  have hl := a12_len a
  have gd : ∀ {D : AHeap} {K : AVal → Prop}, Sep H' (fun _ => False) D [.obj j (.cells 0 .exact (a12C a))] → K (.int .i64 a.d) → vb (aFieldAddr 1 (.ptr ⟨j, 0, 0⟩)) fun v => vb (aLoad D false 1 v) K := fun hs k => vb_i (e_fieldAddr _ _) (vb_ld hs.g0 (x := .int .i64 a.d) rfl k)
  have gi : ∀ {D : AHeap} {K : AVal → Prop}, Sep H' (fun _ => False) D [.obj j (.cells 0 .exact (a12C a))] → K (.int .i64 a.i) → vb (aFieldAddr 2 (.ptr ⟨j, 0, 0⟩)) fun v => vb (aLoad D false 1 v) K := fun hs k => vb_i (e_fieldAddr _ _) (vb_ld hs.g0 (x := .int .i64 a.i) rfl k)
  have gn : ∀ {D : AHeap} {K : AVal → Prop}, Sep H' (fun _ => False) D [.obj j (.cells 0 .exact (a12C a))] → K (.int .i64 a.n) → vb (aFieldAddr 3 (.ptr ⟨j, 0, 0⟩)) fun v => vb (aLoad D false 1 v) K := fun hs k => vb_i (e_fieldAddr _ _) (vb_ld hs.g0 (x := .int .i64 a.n) rfl k)
  have gs : ∀ {D : AHeap} {K : AVal → Prop}, Sep H' (fun _ => False) D [.obj j (.cells 0 .exact (a12C a))] → K (.str a.s) → vb (aFieldAddr 4 (.ptr ⟨j, 0, 0⟩)) fun v => vb (aLoad D false 1 v) K := fun hs k => vb_i (e_fieldAddr _ _) (vb_ld hs.g0 (x := .str a.s) rfl k)
  have gx : ∀ {D : AHeap} {K : AVal → Prop}, Sep H' (fun _ => False) D [.obj j (.cells 0 .exact (a12C a))] → K (.agg [a.kx, .int .i64 a.tx, .int .i64 a.nx]) → vb (aFieldAddr 6 (.ptr ⟨j, 0, 0⟩)) fun v => vb (aLoad D true 3 v) K := fun hs k => vb_i (e_fieldAddr _ _) (vb_ldP hs.g0 (xs := [a.kx, .int .i64 a.tx, .int .i64 a.nx]) rfl rfl k)
  have gy : ∀ {D : AHeap} {K : AVal → Prop}, Sep H' (fun _ => False) D [.obj j (.cells 0 .exact (a12C a))] → K (.agg [a.ky, .int .i64 a.ty, .int .i64 a.ny]) → vb (aFieldAddr 9 (.ptr ⟨j, 0, 0⟩)) fun v => vb (aLoad D true 3 v) K := fun hs k => vb_i (e_fieldAddr _ _) (vb_ldP hs.g0 (xs := [a.ky, .int .i64 a.ty, .int .i64 a.ny]) rfl rfl k)
  have hxd : (AVal.agg [a.kx, .int .i64 a.tx, .int .i64 a.nx]).defd = true := rfl
  have hyd : (AVal.agg [a.ky, .int .i64 a.ty, .int .i64 a.ny]).defd = true := rfl
  refine vb_ldA hs.g0 rfl ?_
  obtain ⟨C1, hS, hC⟩ := few12 a (B := C)
  refine cb_i _ _ hS ?_
  replace hs := hs.quiet hC
  refine vb_i e_notd ?_
  refine isB_c (fun h1 => ?_) (fun h1 => ?_)
  · obtain ⟨D, hS, hD⟩ := awake12_spec (B := C1)
    refine cb_i _ _ hS ?_
    exact fin_ret (vs := [.bool true]) (rvs_v (rvs_nil _)) (Weak.plain rfl ((hs.quiet hD).pre fun _ x => x))
  refine gd hs (gi hs ?_)
  obtain ⟨D, hS, hD⟩ := rig_Read_nil (B := C1) (.int .i64 a.d) (.int .i64 a.i) rfl rfl
  refine cb_i _ _ hS ?_
  replace hs := hs.quiet hD
  refine vb_i e_ext0 (vb_i e_ext1 ?_)
  obtain ⟨D, hS, hD⟩ := rig_Reg_nil (B := D)
  refine cb_i _ _ hS ?_
  replace hs := hs.quiet hD
  refine vb_i e_ext0 (vb_i e_ext1 ?_)
  obtain ⟨D, L, hS, hD⟩ := rig_New_spec (B := D)
  refine cb_i _ _ hS ?_
  replace hs := hs.quiet (hD.pre fun _ x => x)
  refine gd hs ?_
  refine cb_i _ _ (rig_Dev_spec hD a.d) ?_
  have h2 : aEql true .ptr D (if a.d = 0 ∨ a.d = 1 then .ptr ⟨L.q a.d, 0, 0⟩ else .nilp) .nilp = some (.bool (decide (a.d = 0 ∨ a.d = 1))) := by
    by_cases h : a.d = 0 ∨ a.d = 1
    · rw [if_pos h, decide_eq_true h]; rfl
    · rw [if_neg h, decide_eq_false h]; rfl
  refine vb_i h2 ?_
  obtain ⟨D, hS, hD⟩ := awake12_spec (B := D)
  refine cb_i _ _ hS ?_
  replace hs := hs.quiet hD
  refine isB_T ?_
  refine vb_i (adds (by decide)) ?_
  refine vb_i (eqls _ _) (isB_ct rfl ?_)
  refine vb_i (eql64 _ _ _) (isB_ct rfl ?_)
  refine vb_i (eql64 _ _ _) (isB_ct rfl ?_)
  refine gd hs (gi hs (gs hs ?_))
  obtain ⟨D, hS, hD⟩ := rig_Write_nil (B := D) (.int .i64 a.d) (.int .i64 a.i) (.str a.s) rfl rfl rfl
  refine cb_i _ _ hS ?_
  replace hs := hs.quiet hD
  refine vb_i (eql64 _ _ _) (isB_ct rfl ?_)
  refine gd hs ?_
  obtain ⟨D, hS, hD⟩ := rig_Flush_nil (B := D) (.int .i64 a.d)
  refine cb_i _ _ hS ?_
  replace hs := hs.quiet hD
  refine vb_i (eql64 _ _ _) (isB_ct rfl ?_)
  refine gs hs ?_
  obtain ⟨D, hS, hD⟩ := rig_SetReg_nil (B := D) (.str a.s) rfl
  refine cb_i _ _ hS ?_
  replace hs := hs.quiet hD
  refine vb_i (eql64 _ _ _) (isB_ct rfl ?_)
  refine gd hs (gi hs (gs hs ?_))
  obtain ⟨D, hS, hD⟩ := rig_Tamper_nil (B := D) (.int .i64 a.d) (.int .i64 a.i) (.str a.s)
  refine cb_i _ _ hS ?_
  replace hs := hs.quiet hD
  refine vb_i (eql64 _ _ _) (isB_ct rfl ?_)
  refine gn hs (gd hs (gi hs (gs hs ?_)))
  obtain ⟨D, hS, hD⟩ := rig_Later_nil (B := D) (.int .i64 a.n) (.int .i64 a.d) (.int .i64 a.i) (.str a.s)
  refine cb_i _ _ hS ?_
  replace hs := hs.quiet hD
  refine vb_i (eql64 _ _ _) (isB_ct rfl ?_)
  refine gn hs ?_
  obtain ⟨D, hS, hD⟩ := rig_Arm_nil (B := D) (.int .i64 a.n)
  refine cb_i _ _ hS ?_
  replace hs := hs.quiet hD
  refine vb_i (eql64 _ _ _) (isB_ct rfl ?_)
  refine gn hs ?_
  obtain ⟨D, hS, hD⟩ := rig_Fault_nil (B := D) (.int .i64 a.n)
  refine cb_i _ _ hS ?_
  replace hs := hs.quiet hD
  refine vb_i (eql64 _ _ _) (isB_ct rfl ?_)
  refine gx hs (gy hs ?_)
  obtain ⟨D, hS, hD⟩ := rig_Crash_nil (B := D) _ _ hxd hyd
  refine cb_i _ _ hS ?_
  replace hs := hs.quiet hD
  refine vb_i (eql64 _ _ _) (isB_ct rfl ?_)
  refine cb_i _ _ rig_Down_nil ?_
  refine vb_i (e_not _) (isB_T ?_)
  refine cb_i _ _ rig_Calls_nil ?_
  refine vb_i (eql64 _ _ _) (isB_ct rfl ?_)
  refine gd hs ?_
  refine cb_i _ _ (rig_Dev_nil _) ?_
  refine vb_i (e_nilNil _) (isB_T ?_)
  refine cb_i _ _ rig_Copy_nil ?_
  refine vb_i (e_nilNil _) (isB_T ?_)
  refine gd hs ?_
  refine vb_i (eql64 _ _ _) ?_
  refine isB_c (fun h3 => ?_) (fun h3 => ?_)
  · rw [decide_eq_true (.inl h3 : a.d = 0 ∨ a.d = 1)]
    refine vb_i (v := .bool true) rfl ?_
    exact fin_ret (vs := [.bool true]) (rvs_v (rvs_nil _)) (Weak.plain rfl (hs.pre fun _ x => x))
  · refine gd hs ?_
    refine vb_i (eql64 _ _ _) ?_
    have e : decide (a.d = 0 ∨ a.d = 1) = decide (a.d = 1) := decide_eq_decide.2 ⟨fun h => h.resolve_left h3, .inr⟩
    rw [e]
    refine vb_i (v := .bool true) ?_ ?_
    · simp [aEql, aEq]
    exact fin_ret (vs := [.bool true]) (rvs_v (rvs_nil _)) (Weak.plain rfl (hs.pre fun _ x => x))
end Go.Sh

/- Arguments of rigs' calls, opened. -/
namespace Go.Sh
open Go Go.Abs

section
variable {H : Type} {P : Program} {B : AHeap} {top : Bool}
theorem lv_of {t e : TypeId} {a : AVal} {d : DataW H} {n : Nat} (h : Arg P B top t [a] d) (ht : P.underlying t = some (.slice e)) (hk : flatK P n e = some [.bool]) (hc : P.cellsOf e = 1) : Lv B a := by
  rcases Arg.slice_inv ht h with ⟨h1, _⟩ | ⟨_, i, h1, _⟩ | ⟨i, off, len, cap, cs', elems, spare, h1, rfl, hb, hcap, hm, he, hs, hl, ha⟩
  · cases h1
    exact ⟨[], .inl ⟨rfl, .inl ⟨rfl, rfl⟩⟩⟩
  · cases h1
    exact ⟨[], .inr ⟨rfl, _, _, rfl⟩⟩
  · cases h1
    rw [hc] at hl ha
    have key : ∀ k, k ≤ len → ∃ l : List Bool, l.length = k ∧ (cs'.drop off).take k = l.map AVal.bool := by
      intro k
      induction k with
      | zero => intro _; exact ⟨[], rfl, by simp⟩
      | succ k ih =>
        intro hk2
        obtain ⟨l, h1, h2⟩ := ih (by omega)
        have hk3 : k < (elems ++ spare).length := by simp; omega
        have hx := List.getElem?_eq_getElem hk3
        have hf := Arg.fit n e _ hk _ _ (ha k _ hx)
        obtain ⟨_, _, h3, ⟨b, rfl⟩, rfl⟩ := hf
        refine ⟨l ++ [b], by simp [h1], ?_⟩
        rw [List.take_add, h2, List.drop_drop, List.map_append]
        congr 1
        simpa using h3
    obtain ⟨l, h1, h2⟩ := key len (Nat.le_refl _)
    refine ⟨l, .inl ⟨by simp, .inr ⟨i, 1, off, _, .ro, cs', by rw [h1], hb, ?_, ?_, ?_⟩⟩⟩
    · rw [h1]
      intro hz
      have hx : (elems ++ spare)[len - 1]? = some _ := List.getElem?_eq_getElem (by simp; omega)
      have := hl _ _ hx
      omega
    · rw [h1, Nat.mul_one]; exact h2.symm
    · rw [h1]; exact hcap
/-- A slice of records that comes in; of each something is told. -/
theorem rows_R {β : Type} {t e : TypeId} {a : AVal} {d : DataW H} {n : Nat} {ks : List Fk} (f : β → List AVal) (R : β → Prop) (hf : ∀ b, (f b).length = P.cellsOf e) (ht : P.underlying t = some (.slice e)) (hk : flatK P n e = some ks) (h : Arg P B true t [a] d)
    (each : ∀ cs, Fit H P B false ks cs → ∃ b, cs = f b ∧ R b) : ∃ l : List β, View B a (P.cellsOf e) l.length (flat f l) ∧ l.length ≤ maxLen ∧ ∀ b ∈ l, R b := by
  obtain ⟨l, h1, h2, h3⟩ := h.viewR f (fun b _ => R b) hf ht (fun cs d hd => by
    obtain ⟨b, h1, h2⟩ := each cs (Arg.fit n e ks hk cs d hd)
    exact ⟨b, h1, h2⟩)
  refine ⟨l, h1, h2, fun b hb => ?_⟩
  rcases h3 with rfl | ⟨_, _, _, h3⟩
  · cases hb
  · obtain ⟨k, hk⟩ := List.getElem?_of_mem hb
    exact (h3 k b hk).choose_spec.2
end
end Go.Sh
