/- One text of these: RecW1, Rec0, RecP1, RecP2, RecP3, RecM, RecP4, RecP5. -/
import Derived.Test.YtkpcnmaohhgofaaAbsF
import Derived.Test.YtkpcnmaohhgofaaRon

/- What Go functions come to over abstract values, printed by a program (wx.py); of each function its own text is what is told of it. -/
namespace Go.Sh
open Go Go.Abs

def be_Put.L7.b (x1 : AVal) (x0 : AVal) (v13 : AVal) (x32_7 : AVal) (H15 : AHeap) (Kn16 : List AVal → AHeap → Prop) (Ke17 : AExit → List AVal → AHeap → Prop) : Prop :=
 vb (aBin .lss x32_7 x1) fun v18 =>
 isB v18 fun b19 => cond b19
 (vb (aBin .sub x1 (.int .i64 1)) fun v20 =>
 vb (aBin .sub v20 x32_7) fun v21 =>
 vb (aBin .mul (.int .i64 8) x32_7) fun v22 =>
 vb (aBin .shr x0 v22) fun v23 =>
 vb (aInt2 .u8 v23) fun v24 =>
 vb (aIndexAddr 1 v13 v21) fun v25 =>
 sb (aStore H15 1 v25 v24) fun H26 =>
 vb (aBin .add x32_7 (.int .i64 1)) fun v27 =>
 Kn16 [v27] H26)
 (Ke17 (.exit 1) [] H15)

def be_Put.L7 (x1 : AVal) (x0 : AVal) (v13 : AVal) : Body := fun vs H Kn Ke => be_Put.L7.b x1 x0 v13 (vs.getD 0 .undef) H Kn Ke

def be_Put.w (x0 : AVal) (x1 : AVal) (H : AHeap) (K : AVal → AHeap → Prop) : Prop :=
 vb (aBin .lss x1 (.int .i64 1)) fun v1 =>
 isB v1 fun b2 => cond b2
 (fin .ret [.v (.str []), .v (.int .i64 2)] H K)
 (vb (aBin .gtr x1 (.int .i64 8)) fun v3 =>
 isB v3 fun b4 => cond b4
 (fin .ret [.v (.str []), .v (.int .i64 2)] H K)
 (vb (aBin .lss x0 (.int .i64 0)) fun v5 =>
 isB v5 fun b6 => cond b6
 (fin .ret [.v (.str []), .v (.int .i64 3)] H K)
 (vb (aBin .lss x1 (.int .i64 8)) fun v7 =>
 isB v7 fun b8 => cond b8
 (vb (aBin .mul (.int .i64 8) x1) fun v9 =>
 vb (aBin .shr x0 v9) fun v10 =>
 vb (aBin .gtr v10 (.int .i64 0)) fun v11 =>
 isB v11 fun b12 => cond b12
 (fin .ret [.v (.str []), .v (.int .i64 3)] H K)
 (hb (aMakeSlice H 1 [.int .u8 0] x1 x1) fun v13 H14 =>
 LoopP (be_Put.L7 x1 x0 v13) [.int .i64 0] H14 fun e28 vs29 H30 =>
 onE e28 (.exit 1)
 (vb (aBytes2Str H30 v13) fun v31 =>
 fin .ret [.v (v31), .v (.int .i64 0)] H30 K)
 (False)))
 (hb (aMakeSlice H 1 [.int .u8 0] x1 x1) fun v32 H33 =>
 LoopP (be_Put.L7 x1 x0 v32) [.int .i64 0] H33 fun e47 vs48 H49 =>
 onE e47 (.exit 1)
 (vb (aBytes2Str H49 v32) fun v50 =>
 fin .ret [.v (v50), .v (.int .i64 0)] H49 K)
 (False)))))

def S_be_Put : Abs.Spec := fun args H r H' => ∃ x0 x1 : AVal, args = [x0, x1] ∧ (be_Put.w x0 x1 H fun r1 H1 => r1 = r ∧ H1 = H') ∧ H <+: H'
theorem be_Put.ok (args : List AVal) (H : AHeap) (r : AVal) (H' : AHeap) (h : S_be_Put args H r H') : ∃ x0 x1 : AVal, args = [x0, x1] ∧ be_Put.w x0 x1 H fun r1 H1 => r1 = r ∧ H1 = H' := by
  obtain ⟨x0, x1, h1, h2, _⟩ := h
  exact ⟨x0, x1, h1, h2⟩
theorem be_Put.quiet {args : List AVal} {H : AHeap} {r : AVal} {H' : AHeap} (h : S_be_Put args H r H') : H <+: H' := by
  obtain ⟨_, _, _, _, h⟩ := h
  exact h
set_option maxRecDepth 100000 in
theorem be_Put.ex (x0 x1 : AVal) (H : AHeap) : Ex fun K : AVal × AHeap → Prop => be_Put.w x0 x1 H fun r H => K (r, H) := by
  unfold be_Put.w
  repeat with_reducible first
    | exact Ex.pt _
    | exact Ex.fin
    | exact Ex.no
    | refine Ex.vb fun _ => ?_
    | refine Ex.hb fun _ _ => ?_
    | refine Ex.sb fun _ => ?_
    | refine Ex.cb fun _ _ => ?_
    | refine Ex.isB fun _ => ?_
    | refine Ex.cond ?_ ?_
    | refine Ex.onE ?_ ?_
    | refine Ex.join ?_ fun _ _ _ => ?_
    | refine Ex.loop (fun _ _ => ?_) fun _ _ _ => ?_
    | (unfold be_Put.L7; unfold be_Put.L7.b)

theorem be_Put.out {x0 x1 : AVal} {H : AHeap} {Q : AVal → AHeap → Prop} (h : be_Put.w x0 x1 H fun r H' => H <+: H' ∧ Q r H') : ∃ r H', S_be_Put [x0, x1] H r H' ∧ Q r H' := by
  obtain ⟨r, H', h1, h2⟩ := (be_Put.ex x0 x1 H).out h
  exact ⟨r, H', ⟨_, _, rfl, h1, h2.1⟩, h2.2⟩

def be_Get.L9.b (v12 : AVal) (x0 : AVal) (x4_9 : AVal) (x24_9 : AVal) (H13 : AHeap) (Kn14 : List AVal → AHeap → Prop) (Ke15 : AExit → List AVal → AHeap → Prop) : Prop :=
 vb (aBin .lss x24_9 v12) fun v16 =>
 isB v16 fun b17 => cond b17
 (vb (aBin .shl x4_9 (.int .u64 8)) fun v18 =>
 vb (aIndexStr x0 x24_9) fun v19 =>
 vb (aInt2 .i64 v19) fun v20 =>
 vb (aBin .or v18 v20) fun v21 =>
 vb (aBin .add x24_9 (.int .i64 1)) fun v22 =>
 Kn14 [v21, v22] H13)
 (Ke15 (.exit 1) [x4_9] H13)

def be_Get.L9 (v12 : AVal) (x0 : AVal) : Body := fun vs H Kn Ke => be_Get.L9.b v12 x0 (vs.getD 0 .undef) (vs.getD 1 .undef) H Kn Ke

def be_Get.w (x0 : AVal) (H : AHeap) (K : AVal → AHeap → Prop) : Prop :=
 vb (aBin .eql x0 (.str [])) fun v1 =>
 isB v1 fun b2 => cond b2
 (fin .ret [.v (.int .i64 0), .v (.int .i64 5)] H K)
 (vb (lenSt x0) fun v3 =>
 vb (aBin .gtr v3 (.int .i64 8)) fun v4 =>
 isB v4 fun b5 => cond b5
 (fin .ret [.v (.int .i64 0), .v (.int .i64 4)] H K)
 (vb (lenSt x0) fun v6 =>
 vb (aBin .eql v6 (.int .i64 8)) fun v7 =>
 isB v7 fun b8 => cond b8
 (vb (aIndexStr x0 (.int .i64 0)) fun v9 =>
 vb (aBin .gtr v9 (.int .u8 127)) fun v10 =>
 isB v10 fun b11 => cond b11
 (fin .ret [.v (.int .i64 0), .v (.int .i64 3)] H K)
 (vb (lenSt x0) fun v12 =>
 LoopP (be_Get.L9 v12 x0) [.int .i64 0, .int .i64 0] H fun e23 vs24 H25 =>
 onE e23 (.exit 1)
 (fin .ret [.v (vs24.getD 0 .undef), .v (.int .i64 0)] H25 K)
 (False)))
 (vb (lenSt x0) fun v26 =>
 LoopP (be_Get.L9 v26 x0) [.int .i64 0, .int .i64 0] H fun e37 vs38 H39 =>
 onE e37 (.exit 1)
 (fin .ret [.v (vs38.getD 0 .undef), .v (.int .i64 0)] H39 K)
 (False))))

def S_be_Get : Abs.Spec := fun args H r H' => ∃ x0 : AVal, args = [x0] ∧ (be_Get.w x0 H fun r1 H1 => r1 = r ∧ H1 = H') ∧ H <+: H'
theorem be_Get.ok (args : List AVal) (H : AHeap) (r : AVal) (H' : AHeap) (h : S_be_Get args H r H') : ∃ x0 : AVal, args = [x0] ∧ be_Get.w x0 H fun r1 H1 => r1 = r ∧ H1 = H' := by
  obtain ⟨x0, h1, h2, _⟩ := h
  exact ⟨x0, h1, h2⟩
theorem be_Get.quiet {args : List AVal} {H : AHeap} {r : AVal} {H' : AHeap} (h : S_be_Get args H r H') : H <+: H' := by
  obtain ⟨_, _, _, h⟩ := h
  exact h
set_option maxRecDepth 100000 in
theorem be_Get.ex (x0 : AVal) (H : AHeap) : Ex fun K : AVal × AHeap → Prop => be_Get.w x0 H fun r H => K (r, H) := by
  unfold be_Get.w
  repeat with_reducible first
    | exact Ex.pt _
    | exact Ex.fin
    | exact Ex.no
    | refine Ex.vb fun _ => ?_
    | refine Ex.hb fun _ _ => ?_
    | refine Ex.sb fun _ => ?_
    | refine Ex.cb fun _ _ => ?_
    | refine Ex.isB fun _ => ?_
    | refine Ex.cond ?_ ?_
    | refine Ex.onE ?_ ?_
    | refine Ex.join ?_ fun _ _ _ => ?_
    | refine Ex.loop (fun _ _ => ?_) fun _ _ _ => ?_
    | (unfold be_Get.L9; unfold be_Get.L9.b)

theorem be_Get.out {x0 : AVal} {H : AHeap} {Q : AVal → AHeap → Prop} (h : be_Get.w x0 H fun r H' => H <+: H' ∧ Q r H') : ∃ r H', S_be_Get [x0] H r H' ∧ Q r H' := by
  obtain ⟨r, H', h1, h2⟩ := (be_Get.ex x0 H).out h
  exact ⟨r, H', ⟨_, rfl, h1, h2.1⟩, h2.2⟩

def be_Pad.w (x0 : AVal) (x1 : AVal) (H : AHeap) (K : AVal → AHeap → Prop) : Prop :=
 vb (aBin .lss x1 (.int .i64 0)) fun v1 =>
 isB v1 fun b2 => cond b2
 (fin .ret [.v (.str []), .v (.int .i64 2)] H K)
 (vb (aBin .gtr x1 (.int .i64 4096)) fun v3 =>
 isB v3 fun b4 => cond b4
 (fin .ret [.v (.str []), .v (.int .i64 2)] H K)
 (vb (lenSt x0) fun v5 =>
 vb (aBin .gtr v5 x1) fun v6 =>
 isB v6 fun b7 => cond b7
 (fin .ret [.v (.str []), .v (.int .i64 4)] H K)
 (vb (lenSt x0) fun v8 =>
 vb (aBin .sub x1 v8) fun v9 =>
 hb (aMakeSlice H 1 [.int .u8 0] v9 v9) fun v10 H11 =>
 vb (aBytes2Str H11 v10) fun v12 =>
 vb (aBin .add x0 v12) fun v13 =>
 fin .ret [.v (v13), .v (.int .i64 0)] H11 K)))

def S_be_Pad : Abs.Spec := fun args H r H' => ∃ x0 x1 : AVal, args = [x0, x1] ∧ (be_Pad.w x0 x1 H fun r1 H1 => r1 = r ∧ H1 = H') ∧ H <+: H'
theorem be_Pad.ok (args : List AVal) (H : AHeap) (r : AVal) (H' : AHeap) (h : S_be_Pad args H r H') : ∃ x0 x1 : AVal, args = [x0, x1] ∧ be_Pad.w x0 x1 H fun r1 H1 => r1 = r ∧ H1 = H' := by
  obtain ⟨x0, x1, h1, h2, _⟩ := h
  exact ⟨x0, x1, h1, h2⟩
theorem be_Pad.quiet {args : List AVal} {H : AHeap} {r : AVal} {H' : AHeap} (h : S_be_Pad args H r H') : H <+: H' := by
  obtain ⟨_, _, _, _, h⟩ := h
  exact h
set_option maxRecDepth 100000 in
theorem be_Pad.ex (x0 x1 : AVal) (H : AHeap) : Ex fun K : AVal × AHeap → Prop => be_Pad.w x0 x1 H fun r H => K (r, H) := by
  unfold be_Pad.w
  repeat with_reducible first
    | exact Ex.pt _
    | exact Ex.fin
    | exact Ex.no
    | refine Ex.vb fun _ => ?_
    | refine Ex.hb fun _ _ => ?_
    | refine Ex.sb fun _ => ?_
    | refine Ex.cb fun _ _ => ?_
    | refine Ex.isB fun _ => ?_
    | refine Ex.cond ?_ ?_
    | refine Ex.onE ?_ ?_
    | refine Ex.join ?_ fun _ _ _ => ?_
    | refine Ex.loop (fun _ _ => ?_) fun _ _ _ => ?_

theorem be_Pad.out {x0 x1 : AVal} {H : AHeap} {Q : AVal → AHeap → Prop} (h : be_Pad.w x0 x1 H fun r H' => H <+: H' ∧ Q r H') : ∃ r H', S_be_Pad [x0, x1] H r H' ∧ Q r H' := by
  obtain ⟨r, H', h1, h2⟩ := (be_Pad.ex x0 x1 H).out h
  exact ⟨r, H', ⟨_, _, rfl, h1, h2.1⟩, h2.2⟩

def be_Row_1.w (x0 : AVal) (x1 : AVal) (x2 : AVal) (H : AHeap) (K : AVal → AHeap → Prop) : Prop :=
 vb (aLoad H false 1 x1) fun v1 =>
 cb (S_be_Put [x0, v1] H) fun v2 H3 =>
 vb (aExtract v2 0) fun v4 =>
 vb (aExtract v2 1) fun v5 =>
 vb (aLoad H3 false 1 x2) fun v6 =>
 hb (aAppend H3 1 1 v6 v4) fun v7 H8 =>
 sb (aStore H8 1 x2 v7) fun H9 =>
 fin .ret [.v (v5)] H9 K

def S_be_Row_1 : Abs.Spec := fun args H r H' => ∃ x0 x1 x2 : AVal, args = [x0, x1, x2] ∧ (be_Row_1.w x0 x1 x2 H fun r1 H1 => r1 = r ∧ H1 = H')
theorem be_Row_1.ok (args : List AVal) (H : AHeap) (r : AVal) (H' : AHeap) (h : S_be_Row_1 args H r H') : ∃ x0 x1 x2 : AVal, args = [x0, x1, x2] ∧ be_Row_1.w x0 x1 x2 H fun r1 H1 => r1 = r ∧ H1 = H' := by
  obtain ⟨x0, x1, x2, h1, h2⟩ := h
  exact ⟨x0, x1, x2, h1, h2⟩
set_option maxRecDepth 100000 in
theorem be_Row_1.ex (x0 x1 x2 : AVal) (H : AHeap) : Ex fun K : AVal × AHeap → Prop => be_Row_1.w x0 x1 x2 H fun r H => K (r, H) := by
  unfold be_Row_1.w
  repeat with_reducible first
    | exact Ex.pt _
    | exact Ex.fin
    | exact Ex.no
    | refine Ex.vb fun _ => ?_
    | refine Ex.hb fun _ _ => ?_
    | refine Ex.sb fun _ => ?_
    | refine Ex.cb fun _ _ => ?_
    | refine Ex.isB fun _ => ?_
    | refine Ex.cond ?_ ?_
    | refine Ex.onE ?_ ?_
    | refine Ex.join ?_ fun _ _ _ => ?_
    | refine Ex.loop (fun _ _ => ?_) fun _ _ _ => ?_

theorem be_Row_1.out {x0 x1 x2 : AVal} {H : AHeap} {Q : AVal → AHeap → Prop} (h : be_Row_1.w x0 x1 x2 H fun r H' => Q r H') : ∃ r H', S_be_Row_1 [x0, x1, x2] H r H' ∧ Q r H' := by
  obtain ⟨r, H', h1, h2⟩ := (be_Row_1.ex x0 x1 x2 H).out h
  exact ⟨r, H', ⟨_, _, _, rfl, h1⟩, h2⟩

def be_Row.L8.b (v18 : AVal) (x1 : AVal) (v1 : AVal) (v16 : AVal) (x23_8 : AVal) (H19 : AHeap) (Kn20 : List AVal → AHeap → Prop) (Ke21 : AExit → List AVal → AHeap → Prop) : Prop :=
 vb (aBin .lss x23_8 v18) fun v22 =>
 isB v22 fun b23 => cond b23
 (vb (aIndexAddr 1 x1 x23_8) fun v24 =>
 vb (aLoad H19 false 1 v24) fun v25 =>
 cb (S_be_Row_1 [v25, v1, v16] H19) fun v26 H27 =>
 vb (aBin .neq v26 (.int .i64 0)) fun v28 =>
 isB v28 fun b29 => cond b29
 (Ke21 .ret [.str [], v26] H27)
 (vb (aBin .add x23_8 (.int .i64 1)) fun v30 =>
 Kn20 [v30] H27))
 (Ke21 (.exit 0) [.undef, .undef] H19)

def be_Row.L8 (v18 : AVal) (x1 : AVal) (v1 : AVal) (v16 : AVal) : Body := fun vs H Kn Ke => be_Row.L8.b v18 x1 v1 v16 (vs.getD 0 .undef) H Kn Ke

def be_Row.w (x0 : AVal) (x1 : AVal) (H : AHeap) (K : AVal → AHeap → Prop) : Prop :=
 hb (aBox H x0) fun v1 H2 =>
 vb (lenSl x1) fun v3 =>
 vb (aBin .gtr v3 (.int .i64 512)) fun v4 =>
 isB v4 fun b5 => cond b5
 (fin .ret [.v (.str []), .v (.int .i64 4)] H2 K)
 (JoinP (fun Kj6 => vb (aLoad H2 false 1 v1) fun v7 =>
 vb (aBin .lss v7 (.int .i64 1)) fun v8 =>
 isB v8 fun b9 => cond b9
 (Kj6 .ret [.str [], .int .i64 2] H2)
 (vb (aLoad H2 false 1 v1) fun v10 =>
 vb (aBin .gtr v10 (.int .i64 8)) fun v11 =>
 isB v11 fun b12 => cond b12
 (Kj6 .ret [.str [], .int .i64 2] H2)
 (Kj6 .normal [.str [], .int .i64 0] H2)))
 (fun e13 vs14 H15 =>
 onE e13 .normal
 (hb (aAlloc H15 [.nils]) fun v16 H17 =>
 vb (lenSl x1) fun v18 =>
 LoopP (be_Row.L8 v18 x1 v1 v16) [.int .i64 0] H17 fun e31 vs32 H33 =>
 onE e31 (.exit 0)
 (vb (aLoad H33 false 1 v16) fun v34 =>
 vb (aBytes2Str H33 v34) fun v35 =>
 fin .ret [.v (v35), .v (.int .i64 0)] H33 K)
 (onE e31 .ret
 (fin .ret [.v (vs32.getD 0 .undef), .v (vs32.getD 1 .undef)] H33 K)
 (False)))
 (onE e13 .ret
 (fin .ret [.v (vs14.getD 0 .undef), .v (vs14.getD 1 .undef)] H15 K)
 (False))))

def S_be_Row : Abs.Spec := fun args H r H' => ∃ x0 x1 : AVal, args = [x0, x1] ∧ (be_Row.w x0 x1 H fun r1 H1 => r1 = r ∧ H1 = H') ∧ H <+: H'
theorem be_Row.ok (args : List AVal) (H : AHeap) (r : AVal) (H' : AHeap) (h : S_be_Row args H r H') : ∃ x0 x1 : AVal, args = [x0, x1] ∧ be_Row.w x0 x1 H fun r1 H1 => r1 = r ∧ H1 = H' := by
  obtain ⟨x0, x1, h1, h2, _⟩ := h
  exact ⟨x0, x1, h1, h2⟩
theorem be_Row.quiet {args : List AVal} {H : AHeap} {r : AVal} {H' : AHeap} (h : S_be_Row args H r H') : H <+: H' := by
  obtain ⟨_, _, _, _, h⟩ := h
  exact h
set_option maxRecDepth 100000 in
theorem be_Row.ex (x0 x1 : AVal) (H : AHeap) : Ex fun K : AVal × AHeap → Prop => be_Row.w x0 x1 H fun r H => K (r, H) := by
  unfold be_Row.w
  repeat with_reducible first
    | exact Ex.pt _
    | exact Ex.fin
    | exact Ex.no
    | refine Ex.vb fun _ => ?_
    | refine Ex.hb fun _ _ => ?_
    | refine Ex.sb fun _ => ?_
    | refine Ex.cb fun _ _ => ?_
    | refine Ex.isB fun _ => ?_
    | refine Ex.cond ?_ ?_
    | refine Ex.onE ?_ ?_
    | refine Ex.join ?_ fun _ _ _ => ?_
    | refine Ex.loop (fun _ _ => ?_) fun _ _ _ => ?_
    | (unfold be_Row.L8; unfold be_Row.L8.b)

theorem be_Row.out {x0 x1 : AVal} {H : AHeap} {Q : AVal → AHeap → Prop} (h : be_Row.w x0 x1 H fun r H' => H <+: H' ∧ Q r H') : ∃ r H', S_be_Row [x0, x1] H r H' ∧ Q r H' := by
  obtain ⟨r, H', h1, h2⟩ := (be_Row.ex x0 x1 H).out h
  exact ⟨r, H', ⟨_, _, rfl, h1, h2.1⟩, h2.2⟩

def cellaretref01_Put.L7.b (x1 : AVal) (x0_7 : AVal) (x6_7 : AVal) (x7_7 : AVal) (H11 : AHeap) (Kn12 : List AVal → AHeap → Prop) (Ke13 : AExit → List AVal → AHeap → Prop) : Prop :=
 vb (aBin .lss x7_7 x1) fun v14 =>
 isB v14 fun b15 => cond b15
 (vb (aBin .rem x0_7 (.int .i64 256)) fun v16 =>
 vb (aInt2 .u8 v16) fun v17 =>
 hb (aBuildSlice H11 1 [.int .u8 0] 1 [(0, v17)]) fun v18 H19 =>
 vb (aBytes2Str H19 v18) fun v20 =>
 vb (aBin .add v20 x6_7) fun v21 =>
 vb (aBin .quo x0_7 (.int .i64 256)) fun v22 =>
 vb (aBin .add x7_7 (.int .i64 1)) fun v23 =>
 Kn12 [v22, v21, v23] H19)
 (Ke13 (.exit 0) [x0_7, x6_7] H11)

def cellaretref01_Put.L7 (x1 : AVal) : Body := fun vs H Kn Ke => cellaretref01_Put.L7.b x1 (vs.getD 0 .undef) (vs.getD 1 .undef) (vs.getD 2 .undef) H Kn Ke

def cellaretref01_Put.w (x0 : AVal) (x1 : AVal) (H : AHeap) (K : AVal → AHeap → Prop) : Prop :=
 JoinP (fun Kj1 => vb (aBin .lss x1 (.int .i64 1)) fun v2 =>
 isB v2 fun b3 => cond b3
 (Kj1 .ret [.str [], .int .i64 2] H)
 (vb (aBin .gtr x1 (.int .i64 8)) fun v4 =>
 isB v4 fun b5 => cond b5
 (Kj1 .ret [.str [], .int .i64 2] H)
 (Kj1 .normal [.str [], .int .i64 0] H)))
 (fun e6 vs7 H8 =>
 onE e6 .normal
 (vb (aBin .lss x0 (.int .i64 0)) fun v9 =>
 isB v9 fun b10 => cond b10
 (fin .ret [.v (.str []), .v (.int .i64 3)] H8 K)
 (LoopP (cellaretref01_Put.L7 x1) [x0, .str [], .int .i64 0] H8 fun e24 vs25 H26 =>
 onE e24 (.exit 0)
 (vb (aBin .gtr (vs25.getD 0 .undef) (.int .i64 0)) fun v27 =>
 isB v27 fun b28 => cond b28
 (fin .ret [.v (.str []), .v (.int .i64 3)] H26 K)
 (fin .ret [.v (vs25.getD 1 .undef), .v (.int .i64 0)] H26 K))
 (False)))
 (onE e6 .ret
 (fin .ret [.v (vs7.getD 0 .undef), .v (vs7.getD 1 .undef)] H8 K)
 (False)))

def S_cellaretref01_Put : Abs.Spec := fun args H r H' => ∃ x0 x1 : AVal, args = [x0, x1] ∧ (cellaretref01_Put.w x0 x1 H fun r1 H1 => r1 = r ∧ H1 = H') ∧ H <+: H'
theorem cellaretref01_Put.ok (args : List AVal) (H : AHeap) (r : AVal) (H' : AHeap) (h : S_cellaretref01_Put args H r H') : ∃ x0 x1 : AVal, args = [x0, x1] ∧ cellaretref01_Put.w x0 x1 H fun r1 H1 => r1 = r ∧ H1 = H' := by
  obtain ⟨x0, x1, h1, h2, _⟩ := h
  exact ⟨x0, x1, h1, h2⟩
theorem cellaretref01_Put.quiet {args : List AVal} {H : AHeap} {r : AVal} {H' : AHeap} (h : S_cellaretref01_Put args H r H') : H <+: H' := by
  obtain ⟨_, _, _, _, h⟩ := h
  exact h
def cellaretref01_N.w (x0 : AVal) (x1 : AVal) (H : AHeap) (K : AVal → AHeap → Prop) : Prop :=
 cb (S_cellaretref01_Put [x0, x1] H) fun v1 H2 =>
 vb (aExtract v1 0) fun v3 =>
 vb (aExtract v1 1) fun v4 =>
 fin .ret [.v (v3)] H2 K

def S_cellaretref01_N : Abs.Spec := fun args H r H' => ∃ x0 x1 : AVal, args = [x0, x1] ∧ (cellaretref01_N.w x0 x1 H fun r1 H1 => r1 = r ∧ H1 = H') ∧ H <+: H'
theorem cellaretref01_N.ok (args : List AVal) (H : AHeap) (r : AVal) (H' : AHeap) (h : S_cellaretref01_N args H r H') : ∃ x0 x1 : AVal, args = [x0, x1] ∧ cellaretref01_N.w x0 x1 H fun r1 H1 => r1 = r ∧ H1 = H' := by
  obtain ⟨x0, x1, h1, h2, _⟩ := h
  exact ⟨x0, x1, h1, h2⟩
theorem cellaretref01_N.quiet {args : List AVal} {H : AHeap} {r : AVal} {H' : AHeap} (h : S_cellaretref01_N args H r H') : H <+: H' := by
  obtain ⟨_, _, _, _, h⟩ := h
  exact h
def record_Check.L7.b (v22 : AVal) (v21 : AVal) (x3_7 : AVal) (x21_7 : AVal) (H23 : AHeap) (Kn24 : List AVal → AHeap → Prop) (Ke25 : AExit → List AVal → AHeap → Prop) : Prop :=
 vb (aBin .lss x21_7 v22) fun v26 =>
 isB v26 fun b27 => cond b27
 (vb (aIndexAddr 2 v21 x21_7) fun v28 =>
 vb (aLoad H23 true 2 v28) fun v29 =>
 hb (aAlloc H23 [.int .i64 0, .str []]) fun v30 H31 =>
 sb (aStore H31 2 v30 v29) fun H32 =>
 JoinP (fun Kj33 => vb (aFieldAddr 0 v30) fun v34 =>
 vb (aLoad H32 false 1 v34) fun v35 =>
 vb (aBin .leq v35 x3_7) fun v36 =>
 isB v36 fun b37 => cond b37
 (Kj33 .ret [.int .i64 2] H32)
 (vb (aFieldAddr 0 v30) fun v38 =>
 vb (aLoad H32 false 1 v38) fun v39 =>
 vb (aBin .geq v39 (.int .i64 288)) fun v40 =>
 isB v40 fun b41 => cond b41
 (Kj33 .ret [.int .i64 2] H32)
 (vb (aFieldAddr 1 v30) fun v42 =>
 vb (aLoad H32 false 1 v42) fun v43 =>
 vb (lenSt v43) fun v44 =>
 vb (aBin .neq v44 (.int .i64 64)) fun v45 =>
 isB v45 fun b46 => cond b46
 (Kj33 .ret [.int .i64 2] H32)
 (Kj33 .normal [.undef] H32))))
 (fun e47 vs48 H49 =>
 onE e47 .normal
 (vb (aFieldAddr 0 v30) fun v50 =>
 vb (aLoad H49 false 1 v50) fun v51 =>
 vb (aBin .add x21_7 (.int .i64 1)) fun v52 =>
 Kn24 [v51, v52] H49)
 (onE e47 .ret
 (Ke25 .ret [vs48.getD 0 .undef] H49)
 (False))))
 (Ke25 (.exit 0) [.undef] H23)

def record_Check.L7 (v22 : AVal) (v21 : AVal) : Body := fun vs H Kn Ke => record_Check.L7.b v22 v21 (vs.getD 0 .undef) (vs.getD 1 .undef) H Kn Ke

def record_Check.w (x0 : AVal) (H : AHeap) (K : AVal → AHeap → Prop) : Prop :=
 hb (aBox H x0) fun v1 H2 =>
 vb (aFieldAddr 33 v1) fun v3 =>
 vb (aLoad H2 false 1 v3) fun v4 =>
 vb (lenSl v4) fun v5 =>
 vb (aBin .gtr v5 (.int .i64 64)) fun v6 =>
 isB v6 fun b7 => cond b7
 (fin .ret [.v (.int .i64 4)] H2 K)
 (JoinP (fun Kj8 => vb (aFieldAddr 0 v1) fun v9 =>
 vb (aLoad H2 false 1 v9) fun v10 =>
 vb (aBin .lss v10 (.int .i64 0)) fun v11 =>
 isB v11 fun b12 => cond b12
 (Kj8 .ret [.int .i64 2] H2)
 (vb (aFieldAddr 0 v1) fun v13 =>
 vb (aLoad H2 false 1 v13) fun v14 =>
 vb (aBin .gtr v14 (.int .i64 4294967295)) fun v15 =>
 isB v15 fun b16 => cond b16
 (Kj8 .ret [.int .i64 2] H2)
 (Kj8 .normal [.int .i64 0] H2)))
 (fun e17 vs18 H19 =>
 onE e17 .normal
 (vb (aFieldAddr 33 v1) fun v20 =>
 vb (aLoad H19 false 1 v20) fun v21 =>
 vb (lenSl v21) fun v22 =>
 LoopP (record_Check.L7 v22 v21) [.int .i64 160, .int .i64 0] H19 fun e53 vs54 H55 =>
 onE e53 (.exit 0)
 (fin .ret [.v (.int .i64 0)] H55 K)
 (onE e53 .ret
 (fin .ret [.v (vs54.getD 0 .undef)] H55 K)
 (False)))
 (onE e17 .ret
 (fin .ret [.v (vs18.getD 0 .undef)] H19 K)
 (False))))

def S_record_Check : Abs.Spec := fun args H r H' => ∃ x0 : AVal, args = [x0] ∧ (record_Check.w x0 H fun r1 H1 => r1 = r ∧ H1 = H') ∧ H <+: H'
theorem record_Check.ok (args : List AVal) (H : AHeap) (r : AVal) (H' : AHeap) (h : S_record_Check args H r H') : ∃ x0 : AVal, args = [x0] ∧ record_Check.w x0 H fun r1 H1 => r1 = r ∧ H1 = H' := by
  obtain ⟨x0, h1, h2, _⟩ := h
  exact ⟨x0, h1, h2⟩
theorem record_Check.quiet {args : List AVal} {H : AHeap} {r : AVal} {H' : AHeap} (h : S_record_Check args H r H') : H <+: H' := by
  obtain ⟨_, _, _, h⟩ := h
  exact h
set_option maxRecDepth 100000 in
theorem record_Check.ex (x0 : AVal) (H : AHeap) : Ex fun K : AVal × AHeap → Prop => record_Check.w x0 H fun r H => K (r, H) := by
  unfold record_Check.w
  repeat with_reducible first
    | exact Ex.pt _
    | exact Ex.fin
    | exact Ex.no
    | refine Ex.vb fun _ => ?_
    | refine Ex.hb fun _ _ => ?_
    | refine Ex.sb fun _ => ?_
    | refine Ex.cb fun _ _ => ?_
    | refine Ex.isB fun _ => ?_
    | refine Ex.cond ?_ ?_
    | refine Ex.onE ?_ ?_
    | refine Ex.join ?_ fun _ _ _ => ?_
    | refine Ex.loop (fun _ _ => ?_) fun _ _ _ => ?_
    | (unfold record_Check.L7; unfold record_Check.L7.b)

theorem record_Check.out {x0 : AVal} {H : AHeap} {Q : AVal → AHeap → Prop} (h : record_Check.w x0 H fun r H' => H <+: H' ∧ Q r H') : ∃ r H', S_record_Check [x0] H r H' ∧ Q r H' := by
  obtain ⟨r, H', h1, h2⟩ := (record_Check.ex x0 H).out h
  exact ⟨r, H', ⟨_, rfl, h1, h2.1⟩, h2.2⟩

def record_Length.w (x0 : AVal) (H : AHeap) (K : AVal → AHeap → Prop) : Prop :=
 JoinP (fun Kj1 => vb (aBin .lss x0 (.int .i64 0)) fun v2 =>
 isB v2 fun b3 => cond b3
 (Kj1 .ret [.int .i64 0] H)
 (vb (aBin .gtr x0 (.int .i64 64)) fun v4 =>
 isB v4 fun b5 => cond b5
 (Kj1 .ret [.int .i64 0] H)
 (Kj1 .normal [.int .i64 0] H)))
 (fun e6 vs7 H8 =>
 onE e6 .normal
 (vb (aBin .add x0 (.int .i64 32)) fun v9 =>
 vb (aBin .sub v9 (.int .i64 1)) fun v10 =>
 vb (aBin .quo v10 (.int .i64 32)) fun v11 =>
 vb (aBin .add (.int .i64 1) v11) fun v12 =>
 vb (aBin .add v12 x0) fun v13 =>
 fin .ret [.v (v13)] H8 K)
 (onE e6 .ret
 (fin .ret [.v (vs7.getD 0 .undef)] H8 K)
 (False)))

def S_record_Length : Abs.Spec := fun args H r H' => ∃ x0 : AVal, args = [x0] ∧ (record_Length.w x0 H fun r1 H1 => r1 = r ∧ H1 = H') ∧ H <+: H'
theorem record_Length.ok (args : List AVal) (H : AHeap) (r : AVal) (H' : AHeap) (h : S_record_Length args H r H') : ∃ x0 : AVal, args = [x0] ∧ record_Length.w x0 H fun r1 H1 => r1 = r ∧ H1 = H' := by
  obtain ⟨x0, h1, h2, _⟩ := h
  exact ⟨x0, h1, h2⟩
theorem record_Length.quiet {args : List AVal} {H : AHeap} {r : AVal} {H' : AHeap} (h : S_record_Length args H r H') : H <+: H' := by
  obtain ⟨_, _, _, h⟩ := h
  exact h
set_option maxRecDepth 100000 in
theorem record_Length.ex (x0 : AVal) (H : AHeap) : Ex fun K : AVal × AHeap → Prop => record_Length.w x0 H fun r H => K (r, H) := by
  unfold record_Length.w
  repeat with_reducible first
    | exact Ex.pt _
    | exact Ex.fin
    | exact Ex.no
    | refine Ex.vb fun _ => ?_
    | refine Ex.hb fun _ _ => ?_
    | refine Ex.sb fun _ => ?_
    | refine Ex.cb fun _ _ => ?_
    | refine Ex.isB fun _ => ?_
    | refine Ex.cond ?_ ?_
    | refine Ex.onE ?_ ?_
    | refine Ex.join ?_ fun _ _ _ => ?_
    | refine Ex.loop (fun _ _ => ?_) fun _ _ _ => ?_

theorem record_Length.out {x0 : AVal} {H : AHeap} {Q : AVal → AHeap → Prop} (h : record_Length.w x0 H fun r H' => H <+: H' ∧ Q r H') : ∃ r H', S_record_Length [x0] H r H' ∧ Q r H' := by
  obtain ⟨r, H', h1, h2⟩ := (record_Length.ex x0 H).out h
  exact ⟨r, H', ⟨_, rfl, h1, h2.1⟩, h2.2⟩

def record_block.w (x0 : AVal) (H : AHeap) (K : AVal → AHeap → Prop) : Prop :=
 cb (S_strings_Join [x0, .str []] H) fun v1 H2 =>
 cb (S_be_Pad [v1, .int .i64 64] H2) fun v3 H4 =>
 vb (aExtract v3 0) fun v5 =>
 vb (aExtract v3 1) fun v6 =>
 fin .ret [.v (v5)] H4 K

def S_record_block : Abs.Spec := fun args H r H' => ∃ x0 : AVal, args = [x0] ∧ (record_block.w x0 H fun r1 H1 => r1 = r ∧ H1 = H') ∧ H <+: H'
theorem record_block.ok (args : List AVal) (H : AHeap) (r : AVal) (H' : AHeap) (h : S_record_block args H r H') : ∃ x0 : AVal, args = [x0] ∧ record_block.w x0 H fun r1 H1 => r1 = r ∧ H1 = H' := by
  obtain ⟨x0, h1, h2, _⟩ := h
  exact ⟨x0, h1, h2⟩
theorem record_block.quiet {args : List AVal} {H : AHeap} {r : AVal} {H' : AHeap} (h : S_record_block args H r H') : H <+: H' := by
  obtain ⟨_, _, _, h⟩ := h
  exact h
set_option maxRecDepth 100000 in
theorem record_block.ex (x0 : AVal) (H : AHeap) : Ex fun K : AVal × AHeap → Prop => record_block.w x0 H fun r H => K (r, H) := by
  unfold record_block.w
  repeat with_reducible first
    | exact Ex.pt _
    | exact Ex.fin
    | exact Ex.no
    | refine Ex.vb fun _ => ?_
    | refine Ex.hb fun _ _ => ?_
    | refine Ex.sb fun _ => ?_
    | refine Ex.cb fun _ _ => ?_
    | refine Ex.isB fun _ => ?_
    | refine Ex.cond ?_ ?_
    | refine Ex.onE ?_ ?_
    | refine Ex.join ?_ fun _ _ _ => ?_
    | refine Ex.loop (fun _ _ => ?_) fun _ _ _ => ?_

theorem record_block.out {x0 : AVal} {H : AHeap} {Q : AVal → AHeap → Prop} (h : record_block.w x0 H fun r H' => H <+: H' ∧ Q r H') : ∃ r H', S_record_block [x0] H r H' ∧ Q r H' := by
  obtain ⟨r, H', h1, h2⟩ := (record_block.ex x0 H).out h
  exact ⟨r, H', ⟨_, rfl, h1, h2.1⟩, h2.2⟩

def record_Lay.L9.b (v32 : AVal) (v31 : AVal) (x10_9 : AVal) (x47_9 : AVal) (H33 : AHeap) (Kn34 : List AVal → AHeap → Prop) (Ke35 : AExit → List AVal → AHeap → Prop) : Prop :=
 vb (aBin .lss x47_9 v32) fun v36 =>
 isB v36 fun b37 => cond b37
 (vb (aIndexAddr 2 v31 x47_9) fun v38 =>
 vb (aLoad H33 true 2 v38) fun v39 =>
 hb (aAlloc H33 [.int .i64 0, .str []]) fun v40 H41 =>
 sb (aStore H41 2 v40 v39) fun H42 =>
 vb (aFieldAddr 0 v40) fun v43 =>
 vb (aLoad H42 false 1 v43) fun v44 =>
 hb (aBuildSlice H42 1 [.int .i64 0] 1 [(0, v44)]) fun v45 H46 =>
 hb (aAppendS H46 1 8 x10_9 v45) fun v47 H48 =>
 vb (aBin .add x47_9 (.int .i64 1)) fun v49 =>
 Kn34 [v47, v49] H48)
 (Ke35 (.exit 0) [x10_9] H33)

def record_Lay.L9 (v32 : AVal) (v31 : AVal) : Body := fun vs H Kn Ke => record_Lay.L9.b v32 v31 (vs.getD 0 .undef) (vs.getD 1 .undef) H Kn Ke

def record_Lay.L13.b (x9_13 : AVal) (x10_13 : AVal) (H53 : AHeap) (Kn54 : List AVal → AHeap → Prop) (Ke55 : AExit → List AVal → AHeap → Prop) : Prop :=
 vb (lenSl x10_13) fun v56 =>
 vb (aBin .gtr v56 (.int .i64 0)) fun v57 =>
 isB v57 fun b58 => cond b58
 (vb (lenSl x10_13) fun v59 =>
 vb (aFold aMin2 v59 [.int .i64 32]) fun v60 =>
 vb (aSlice H53 1 x10_13 none (some v60) (some v60)) fun v61 =>
 cb (S_be_Row [.int .i64 2, v61] H53) fun v62 H63 =>
 vb (aExtract v62 0) fun v64 =>
 vb (aExtract v62 1) fun v65 =>
 hb (aBuildSlice H63 1 [.str []] 1 [(0, v64)]) fun v66 H67 =>
 cb (S_record_block [v66] H67) fun v68 H69 =>
 hb (aBuildSlice H69 1 [.str []] 1 [(0, v68)]) fun v70 H71 =>
 hb (aAppendS H71 1 16 x9_13 v70) fun v72 H73 =>
 vb (aSlice H73 1 x10_13 (some v60) none none) fun v74 =>
 Kn54 [v72, v74] H73)
 (Ke55 (.exit 2) [x9_13] H53)

def record_Lay.L13 : Body := fun vs H Kn Ke => record_Lay.L13.b (vs.getD 0 .undef) (vs.getD 1 .undef) H Kn Ke

def record_Lay.L19.b (v80 : AVal) (v79 : AVal) (x9_19 : AVal) (x83_19 : AVal) (H81 : AHeap) (Kn82 : List AVal → AHeap → Prop) (Ke83 : AExit → List AVal → AHeap → Prop) : Prop :=
 vb (aBin .lss x83_19 v80) fun v84 =>
 isB v84 fun b85 => cond b85
 (vb (aIndexAddr 2 v79 x83_19) fun v86 =>
 vb (aLoad H81 true 2 v86) fun v87 =>
 hb (aAlloc H81 [.int .i64 0, .str []]) fun v88 H89 =>
 sb (aStore H89 2 v88 v87) fun H90 =>
 vb (aFieldAddr 1 v88) fun v91 =>
 vb (aLoad H90 false 1 v91) fun v92 =>
 hb (aBuildSlice H90 1 [.str []] 1 [(0, v92)]) fun v93 H94 =>
 hb (aAppendS H94 1 16 x9_19 v93) fun v95 H96 =>
 vb (aBin .add x83_19 (.int .i64 1)) fun v97 =>
 Kn82 [v95, v97] H96)
 (Ke83 (.exit 4) [x9_19] H81)

def record_Lay.L19 (v80 : AVal) (v79 : AVal) : Body := fun vs H Kn Ke => record_Lay.L19.b v80 v79 (vs.getD 0 .undef) (vs.getD 1 .undef) H Kn Ke

def record_Lay.w (x0 : AVal) (H : AHeap) (K : AVal → AHeap → Prop) : Prop :=
 hb (aBox H x0) fun v1 H2 =>
 vb (aLoad H2 true 34 v1) fun v3 =>
 cb (S_record_Check [v3] H2) fun v4 H5 =>
 vb (aBin .neq v4 (.int .i64 0)) fun v6 =>
 isB v6 fun b7 => cond b7
 (fin .ret [.v (.nils), .v (v4)] H5 K)
 (vb (aFieldAddr 0 v1) fun v8 =>
 vb (aLoad H5 false 1 v8) fun v9 =>
 cb (S_be_Put [v9, .int .i64 4] H5) fun v10 H11 =>
 vb (aExtract v10 0) fun v12 =>
 vb (aExtract v10 1) fun v13 =>
 vb (aFieldAddr 33 v1) fun v14 =>
 vb (aLoad H11 false 1 v14) fun v15 =>
 vb (lenSl v15) fun v16 =>
 cb (S_be_Put [v16, .int .i64 2] H11) fun v17 H18 =>
 vb (aExtract v17 0) fun v19 =>
 vb (aExtract v17 1) fun v20 =>
 vb (aFieldAddr 1 v1) fun v21 =>
 vb (aSliceArr 32 1 v21 none none none) fun v22 =>
 vb (aBytes2Str H18 v22) fun v23 =>
 hb (aBuildSlice H18 1 [.str []] 4 [(0, .str [114, 99]), (1, v12), (2, v19), (3, v23)]) fun v24 H25 =>
 cb (S_record_block [v24] H25) fun v26 H27 =>
 hb (aBuildSlice H27 1 [.str []] 1 [(0, v26)]) fun v28 H29 =>
 vb (aFieldAddr 33 v1) fun v30 =>
 vb (aLoad H29 false 1 v30) fun v31 =>
 vb (lenSl v31) fun v32 =>
 LoopP (record_Lay.L9 v32 v31) [.nils, .int .i64 0] H29 fun e50 vs51 H52 =>
 onE e50 (.exit 0)
 (LoopP record_Lay.L13 [v28, vs51.getD 0 .undef] H52 fun e75 vs76 H77 =>
 onE e75 (.exit 2)
 (vb (aFieldAddr 33 v1) fun v78 =>
 vb (aLoad H77 false 1 v78) fun v79 =>
 vb (lenSl v79) fun v80 =>
 LoopP (record_Lay.L19 v80 v79) [vs76.getD 0 .undef, .int .i64 0] H77 fun e98 vs99 H100 =>
 onE e98 (.exit 4)
 (fin .ret [.v (vs99.getD 0 .undef), .v (.int .i64 0)] H100 K)
 (False))
 (False))
 (False))

def S_record_Lay : Abs.Spec := fun args H r H' => ∃ x0 : AVal, args = [x0] ∧ (record_Lay.w x0 H fun r1 H1 => r1 = r ∧ H1 = H') ∧ H <+: H'
theorem record_Lay.ok (args : List AVal) (H : AHeap) (r : AVal) (H' : AHeap) (h : S_record_Lay args H r H') : ∃ x0 : AVal, args = [x0] ∧ record_Lay.w x0 H fun r1 H1 => r1 = r ∧ H1 = H' := by
  obtain ⟨x0, h1, h2, _⟩ := h
  exact ⟨x0, h1, h2⟩
theorem record_Lay.quiet {args : List AVal} {H : AHeap} {r : AVal} {H' : AHeap} (h : S_record_Lay args H r H') : H <+: H' := by
  obtain ⟨_, _, _, h⟩ := h
  exact h
set_option maxRecDepth 100000 in
theorem record_Lay.ex (x0 : AVal) (H : AHeap) : Ex fun K : AVal × AHeap → Prop => record_Lay.w x0 H fun r H => K (r, H) := by
  unfold record_Lay.w
  repeat with_reducible first
    | exact Ex.pt _
    | exact Ex.fin
    | exact Ex.no
    | refine Ex.vb fun _ => ?_
    | refine Ex.hb fun _ _ => ?_
    | refine Ex.sb fun _ => ?_
    | refine Ex.cb fun _ _ => ?_
    | refine Ex.isB fun _ => ?_
    | refine Ex.cond ?_ ?_
    | refine Ex.onE ?_ ?_
    | refine Ex.join ?_ fun _ _ _ => ?_
    | refine Ex.loop (fun _ _ => ?_) fun _ _ _ => ?_
    | (unfold record_Lay.L9; unfold record_Lay.L9.b)
    | (unfold record_Lay.L13; unfold record_Lay.L13.b)
    | (unfold record_Lay.L19; unfold record_Lay.L19.b)

theorem record_Lay.out {x0 : AVal} {H : AHeap} {Q : AVal → AHeap → Prop} (h : record_Lay.w x0 H fun r H' => H <+: H' ∧ Q r H') : ∃ r H', S_record_Lay [x0] H r H' ∧ Q r H' := by
  obtain ⟨r, H', h1, h2⟩ := (record_Lay.ex x0 H).out h
  exact ⟨r, H', ⟨_, rfl, h1, h2.1⟩, h2.2⟩

def record_first.w (x0 : AVal) (x1 : AVal) (H : AHeap) (K : AVal → AHeap → Prop) : Prop :=
 JoinP (fun Kj1 => vb (lenSt x0) fun v2 =>
 vb (aBin .neq v2 (.int .i64 64)) fun v3 =>
 isB v3 fun b4 => cond b4
 (Kj1 .ret [.int .i64 (-1)] H)
 (vb (aSliceStr x0 none (some (.int .i64 2))) fun v5 =>
 vb (aBin .neq v5 (.str [114, 99])) fun v6 =>
 isB v6 fun b7 => cond b7
 (Kj1 .ret [.int .i64 (-1)] H)
 (vb (aSliceStr x0 (some (.int .i64 40)) none) fun v8 =>
 hb (aMakeSlice H 1 [.int .u8 0] (.int .i64 24) (.int .i64 24)) fun v9 H10 =>
 vb (aBytes2Str H10 v9) fun v11 =>
 vb (aBin .neq v8 v11) fun v12 =>
 isB v12 fun b13 => cond b13
 (Kj1 .ret [.int .i64 (-1)] H10)
 (Kj1 .normal [.int .i64 0] H10))))
 (fun e14 vs15 H16 =>
 onE e14 .normal
 (vb (aSliceStr x0 (some (.int .i64 2)) (some (.int .i64 6))) fun v17 =>
 cb (S_be_Get [v17] H16) fun v18 H19 =>
 vb (aExtract v18 0) fun v20 =>
 vb (aExtract v18 1) fun v21 =>
 vb (aNilCheck x1) fun v22 =>
 vb (aFieldAddr 0 v22) fun v23 =>
 sb (aStore H19 1 v23 v20) fun H24 =>
 vb (aSliceStr x0 (some (.int .i64 6)) (some (.int .i64 8))) fun v25 =>
 cb (S_be_Get [v25] H24) fun v26 H27 =>
 vb (aExtract v26 0) fun v28 =>
 vb (aExtract v26 1) fun v29 =>
 vb (aNilCheck x1) fun v30 =>
 vb (aFieldAddr 1 v30) fun v31 =>
 vb (aSliceArr 32 1 v31 none none none) fun v32 =>
 vb (aSliceStr x0 (some (.int .i64 8)) (some (.int .i64 40))) fun v33 =>
 hb (aCopy H27 1 v32 v33) fun v34 H35 =>
 vb (aBin .gtr v28 (.int .i64 64)) fun v36 =>
 isB v36 fun b37 => cond b37
 (fin .ret [.v (.int .i64 (-1))] H35 K)
 (fin .ret [.v (v28)] H35 K))
 (onE e14 .ret
 (fin .ret [.v (vs15.getD 0 .undef)] H16 K)
 (False)))

def S_record_first : Abs.Spec := fun args H r H' => ∃ x0 x1 : AVal, args = [x0, x1] ∧ (record_first.w x0 x1 H fun r1 H1 => r1 = r ∧ H1 = H')
theorem record_first.ok (args : List AVal) (H : AHeap) (r : AVal) (H' : AHeap) (h : S_record_first args H r H') : ∃ x0 x1 : AVal, args = [x0, x1] ∧ record_first.w x0 x1 H fun r1 H1 => r1 = r ∧ H1 = H' := by
  obtain ⟨x0, x1, h1, h2⟩ := h
  exact ⟨x0, x1, h1, h2⟩
set_option maxRecDepth 100000 in
theorem record_first.ex (x0 x1 : AVal) (H : AHeap) : Ex fun K : AVal × AHeap → Prop => record_first.w x0 x1 H fun r H => K (r, H) := by
  unfold record_first.w
  repeat with_reducible first
    | exact Ex.pt _
    | exact Ex.fin
    | exact Ex.no
    | refine Ex.vb fun _ => ?_
    | refine Ex.hb fun _ _ => ?_
    | refine Ex.sb fun _ => ?_
    | refine Ex.cb fun _ _ => ?_
    | refine Ex.isB fun _ => ?_
    | refine Ex.cond ?_ ?_
    | refine Ex.onE ?_ ?_
    | refine Ex.join ?_ fun _ _ _ => ?_
    | refine Ex.loop (fun _ _ => ?_) fun _ _ _ => ?_

theorem record_first.out {x0 x1 : AVal} {H : AHeap} {Q : AVal → AHeap → Prop} (h : record_first.w x0 x1 H fun r H' => Q r H') : ∃ r H', S_record_first [x0, x1] H r H' ∧ Q r H' := by
  obtain ⟨r, H', h1, h2⟩ := (record_first.ex x0 x1 H).out h
  exact ⟨r, H', ⟨_, _, rfl, h1⟩, h2⟩

def record_Parse_1.w (x0 : AVal) (x1 : AVal) (x2 : AVal) (x3 : AVal) (H : AHeap) (K : AVal → AHeap → Prop) : Prop :=
 vb (aLoad H false 1 x1) fun v1 =>
 vb (aBin .quo x0 (.int .i64 32)) fun v2 =>
 vb (aBin .add (.int .i64 1) v2) fun v3 =>
 vb (aIndexAddr 1 v1 v3) fun v4 =>
 vb (aLoad H false 1 v4) fun v5 =>
 vb (lenSt v5) fun v6 =>
 vb (aBin .neq v6 (.int .i64 64)) fun v7 =>
 isB v7 fun b8 => cond b8
 (fin .ret [.v (.bool false)] H K)
 (vb (aBin .rem x0 (.int .i64 32)) fun v9 =>
 vb (aBin .mul (.int .i64 2) v9) fun v10 =>
 vb (aBin .rem x0 (.int .i64 32)) fun v11 =>
 vb (aBin .mul (.int .i64 2) v11) fun v12 =>
 vb (aBin .add v12 (.int .i64 2)) fun v13 =>
 vb (aSliceStr v5 (some v10) (some v13)) fun v14 =>
 cb (S_be_Get [v14] H) fun v15 H16 =>
 vb (aExtract v15 0) fun v17 =>
 vb (aExtract v15 1) fun v18 =>
 vb (aFieldAddr 33 x2) fun v19 =>
 vb (aLoad H16 false 1 v19) fun v20 =>
 vb (aLoad H16 false 1 x1) fun v21 =>
 vb (aLoad H16 false 1 x3) fun v22 =>
 vb (aBin .add v22 x0) fun v23 =>
 vb (aIndexAddr 1 v21 v23) fun v24 =>
 vb (aLoad H16 false 1 v24) fun v25 =>
 vb (aBuild [.int .i64 0, .str []] (fun k => ([(0, 1), (1, 1)] : List (Nat × Nat))[k]?) [(0, v17), (1, v25)]) fun v26 =>
 hb (aBuildSlice H16 2 [.int .i64 0, .str []] 1 [(0, v26)]) fun v27 H28 =>
 hb (aAppendS H28 2 24 v20 v27) fun v29 H30 =>
 vb (aFieldAddr 33 x2) fun v31 =>
 sb (aStore H30 1 v31 v29) fun H32 =>
 fin .ret [.v (.bool true)] H32 K)

def S_record_Parse_1 : Abs.Spec := fun args H r H' => ∃ x0 x1 x2 x3 : AVal, args = [x0, x1, x2, x3] ∧ (record_Parse_1.w x0 x1 x2 x3 H fun r1 H1 => r1 = r ∧ H1 = H')
theorem record_Parse_1.ok (args : List AVal) (H : AHeap) (r : AVal) (H' : AHeap) (h : S_record_Parse_1 args H r H') : ∃ x0 x1 x2 x3 : AVal, args = [x0, x1, x2, x3] ∧ record_Parse_1.w x0 x1 x2 x3 H fun r1 H1 => r1 = r ∧ H1 = H' := by
  obtain ⟨x0, x1, x2, x3, h1, h2⟩ := h
  exact ⟨x0, x1, x2, x3, h1, h2⟩
set_option maxRecDepth 100000 in
theorem record_Parse_1.ex (x0 x1 x2 x3 : AVal) (H : AHeap) : Ex fun K : AVal × AHeap → Prop => record_Parse_1.w x0 x1 x2 x3 H fun r H => K (r, H) := by
  unfold record_Parse_1.w
  repeat with_reducible first
    | exact Ex.pt _
    | exact Ex.fin
    | exact Ex.no
    | refine Ex.vb fun _ => ?_
    | refine Ex.hb fun _ _ => ?_
    | refine Ex.sb fun _ => ?_
    | refine Ex.cb fun _ _ => ?_
    | refine Ex.isB fun _ => ?_
    | refine Ex.cond ?_ ?_
    | refine Ex.onE ?_ ?_
    | refine Ex.join ?_ fun _ _ _ => ?_
    | refine Ex.loop (fun _ _ => ?_) fun _ _ _ => ?_

theorem record_Parse_1.out {x0 x1 x2 x3 : AVal} {H : AHeap} {Q : AVal → AHeap → Prop} (h : record_Parse_1.w x0 x1 x2 x3 H fun r H' => Q r H') : ∃ r H', S_record_Parse_1 [x0, x1, x2, x3] H r H' ∧ Q r H' := by
  obtain ⟨r, H', h1, h2⟩ := (record_Parse_1.ex x0 x1 x2 x3 H).out h
  exact ⟨r, H', ⟨_, _, _, _, rfl, h1⟩, h2⟩

def slices_Equal_string_string.L4.b (v5 : AVal) (x0 : AVal) (x1 : AVal) (x13_4 : AVal) (H6 : AHeap) (Kn7 : List AVal → AHeap → Prop) (Ke8 : AExit → List AVal → AHeap → Prop) : Prop :=
 vb (aBin .lss x13_4 v5) fun v9 =>
 isB v9 fun b10 => cond b10
 (vb (aIndexAddr 1 x0 x13_4) fun v11 =>
 vb (aLoad H6 false 1 v11) fun v12 =>
 vb (aIndexAddr 1 x1 x13_4) fun v13 =>
 vb (aLoad H6 false 1 v13) fun v14 =>
 vb (aBin .neq v12 v14) fun v15 =>
 isB v15 fun b16 => cond b16
 (Ke8 .ret [.bool false] H6)
 (vb (aBin .add x13_4 (.int .i64 1)) fun v17 =>
 Kn7 [v17] H6))
 (Ke8 (.exit 0) [.undef] H6)

def slices_Equal_string_string.L4 (v5 : AVal) (x0 : AVal) (x1 : AVal) : Body := fun vs H Kn Ke => slices_Equal_string_string.L4.b v5 x0 x1 (vs.getD 0 .undef) H Kn Ke

def slices_Equal_string_string.w (x0 : AVal) (x1 : AVal) (H : AHeap) (K : AVal → AHeap → Prop) : Prop :=
 vb (lenSl x0) fun v1 =>
 vb (lenSl x1) fun v2 =>
 vb (aBin .neq v1 v2) fun v3 =>
 isB v3 fun b4 => cond b4
 (fin .ret [.v (.bool false)] H K)
 (vb (lenSl x0) fun v5 =>
 LoopP (slices_Equal_string_string.L4 v5 x0 x1) [.int .i64 0] H fun e18 vs19 H20 =>
 onE e18 (.exit 0)
 (fin .ret [.v (.bool true)] H20 K)
 (onE e18 .ret
 (fin .ret [.v (vs19.getD 0 .undef)] H20 K)
 (False)))

def S_slices_Equal_string_string : Abs.Spec := fun args H r H' => ∃ x0 x1 : AVal, args = [x0, x1] ∧ (slices_Equal_string_string.w x0 x1 H fun r1 H1 => r1 = r ∧ H1 = H') ∧ H <+: H'
theorem slices_Equal_string_string.ok (args : List AVal) (H : AHeap) (r : AVal) (H' : AHeap) (h : S_slices_Equal_string_string args H r H') : ∃ x0 x1 : AVal, args = [x0, x1] ∧ slices_Equal_string_string.w x0 x1 H fun r1 H1 => r1 = r ∧ H1 = H' := by
  obtain ⟨x0, x1, h1, h2, _⟩ := h
  exact ⟨x0, x1, h1, h2⟩
theorem slices_Equal_string_string.quiet {args : List AVal} {H : AHeap} {r : AVal} {H' : AHeap} (h : S_slices_Equal_string_string args H r H') : H <+: H' := by
  obtain ⟨_, _, _, _, h⟩ := h
  exact h
set_option maxRecDepth 100000 in
theorem slices_Equal_string_string.ex (x0 x1 : AVal) (H : AHeap) : Ex fun K : AVal × AHeap → Prop => slices_Equal_string_string.w x0 x1 H fun r H => K (r, H) := by
  unfold slices_Equal_string_string.w
  repeat with_reducible first
    | exact Ex.pt _
    | exact Ex.fin
    | exact Ex.no
    | refine Ex.vb fun _ => ?_
    | refine Ex.hb fun _ _ => ?_
    | refine Ex.sb fun _ => ?_
    | refine Ex.cb fun _ _ => ?_
    | refine Ex.isB fun _ => ?_
    | refine Ex.cond ?_ ?_
    | refine Ex.onE ?_ ?_
    | refine Ex.join ?_ fun _ _ _ => ?_
    | refine Ex.loop (fun _ _ => ?_) fun _ _ _ => ?_
    | (unfold slices_Equal_string_string.L4; unfold slices_Equal_string_string.L4.b)

theorem slices_Equal_string_string.out {x0 x1 : AVal} {H : AHeap} {Q : AVal → AHeap → Prop} (h : slices_Equal_string_string.w x0 x1 H fun r H' => H <+: H' ∧ Q r H') : ∃ r H', S_slices_Equal_string_string [x0, x1] H r H' ∧ Q r H' := by
  obtain ⟨r, H', h1, h2⟩ := (slices_Equal_string_string.ex x0 x1 H).out h
  exact ⟨r, H', ⟨_, _, rfl, h1, h2.1⟩, h2.2⟩

def record_Parse.L13.b (v16 : AVal) (v1 : AVal) (v5 : AVal) (v31 : AVal) (v3 : AVal) (x36_13 : AVal) (H34 : AHeap) (Kn35 : List AVal → AHeap → Prop) (Ke36 : AExit → List AVal → AHeap → Prop) : Prop :=
 vb (aBin .lss x36_13 v16) fun v37 =>
 isB v37 fun b38 => cond b38
 (cb (S_record_Parse_1 [x36_13, v1, v5, v31] H34) fun v39 H40 =>
 vb (aUn .not v39) fun v41 =>
 isB v41 fun b42 => cond b42
 (vb (aBuild [.int .i64 0, .int .u8 0, .int .u8 0, .int .u8 0, .int .u8 0, .int .u8 0, .int .u8 0, .int .u8 0, .int .u8 0, .int .u8 0, .int .u8 0, .int .u8 0, .int .u8 0, .int .u8 0, .int .u8 0, .int .u8 0, .int .u8 0, .int .u8 0, .int .u8 0, .int .u8 0, .int .u8 0, .int .u8 0, .int .u8 0, .int .u8 0, .int .u8 0, .int .u8 0, .int .u8 0, .int .u8 0, .int .u8 0, .int .u8 0, .int .u8 0, .int .u8 0, .int .u8 0, .nils] (fun k => ([(0, 1), (1, 32), (33, 1)] : List (Nat × Nat))[k]?) []) fun v43 =>
 sb (aStore H40 34 v3 v43) fun H44 =>
 Ke36 .ret [.int .i64 0, .int .i64 6] H44)
 (vb (aBin .add x36_13 (.int .i64 1)) fun v45 =>
 Kn35 [v45] H40))
 (Ke36 (.exit 0) [.undef, .undef] H34)

def record_Parse.L13 (v16 : AVal) (v1 : AVal) (v5 : AVal) (v31 : AVal) (v3 : AVal) : Body := fun vs H Kn Ke => record_Parse.L13.b v16 v1 v5 v31 v3 (vs.getD 0 .undef) H Kn Ke

def record_Parse.w (x0 : AVal) (H : AHeap) (K : AVal → AHeap → Prop) : Prop :=
 hb (aBox H x0) fun v1 H2 =>
 hb (aAlloc H2 [.int .i64 0, .int .u8 0, .int .u8 0, .int .u8 0, .int .u8 0, .int .u8 0, .int .u8 0, .int .u8 0, .int .u8 0, .int .u8 0, .int .u8 0, .int .u8 0, .int .u8 0, .int .u8 0, .int .u8 0, .int .u8 0, .int .u8 0, .int .u8 0, .int .u8 0, .int .u8 0, .int .u8 0, .int .u8 0, .int .u8 0, .int .u8 0, .int .u8 0, .int .u8 0, .int .u8 0, .int .u8 0, .int .u8 0, .int .u8 0, .int .u8 0, .int .u8 0, .int .u8 0, .nils]) fun v3 H4 =>
 hb (aAlloc H4 [.int .i64 0, .int .u8 0, .int .u8 0, .int .u8 0, .int .u8 0, .int .u8 0, .int .u8 0, .int .u8 0, .int .u8 0, .int .u8 0, .int .u8 0, .int .u8 0, .int .u8 0, .int .u8 0, .int .u8 0, .int .u8 0, .int .u8 0, .int .u8 0, .int .u8 0, .int .u8 0, .int .u8 0, .int .u8 0, .int .u8 0, .int .u8 0, .int .u8 0, .int .u8 0, .int .u8 0, .int .u8 0, .int .u8 0, .int .u8 0, .int .u8 0, .int .u8 0, .int .u8 0, .nils]) fun v5 H6 =>
 vb (aLoad H6 false 1 v1) fun v7 =>
 vb (lenSl v7) fun v8 =>
 vb (aBin .eql v8 (.int .i64 0)) fun v9 =>
 isB v9 fun b10 => cond b10
 (vb (aLoad H6 true 34 v5) fun v11 =>
 sb (aStore H6 34 v3 v11) fun H12 =>
 fin .ret [.c true 34 (v3), .v (.int .i64 0), .v (.int .i64 5)] H12 K)
 (vb (aLoad H6 false 1 v1) fun v13 =>
 vb (aIndexAddr 1 v13 (.int .i64 0)) fun v14 =>
 vb (aLoad H6 false 1 v14) fun v15 =>
 cb (S_record_first [v15, v5] H6) fun v16 H17 =>
 vb (aBin .lss v16 (.int .i64 0)) fun v18 =>
 isB v18 fun b19 => cond b19
 (vb (aBuild [.int .i64 0, .int .u8 0, .int .u8 0, .int .u8 0, .int .u8 0, .int .u8 0, .int .u8 0, .int .u8 0, .int .u8 0, .int .u8 0, .int .u8 0, .int .u8 0, .int .u8 0, .int .u8 0, .int .u8 0, .int .u8 0, .int .u8 0, .int .u8 0, .int .u8 0, .int .u8 0, .int .u8 0, .int .u8 0, .int .u8 0, .int .u8 0, .int .u8 0, .int .u8 0, .int .u8 0, .int .u8 0, .int .u8 0, .int .u8 0, .int .u8 0, .int .u8 0, .int .u8 0, .nils] (fun k => ([(0, 1), (1, 32), (33, 1)] : List (Nat × Nat))[k]?) []) fun v20 =>
 sb (aStore H17 34 v3 v20) fun H21 =>
 fin .ret [.c true 34 (v3), .v (.int .i64 0), .v (.int .i64 6)] H21 K)
 (cb (S_record_Length [v16] H17) fun v22 H23 =>
 vb (aLoad H23 false 1 v1) fun v24 =>
 vb (lenSl v24) fun v25 =>
 vb (aBin .lss v25 v22) fun v26 =>
 isB v26 fun b27 => cond b27
 (vb (aBuild [.int .i64 0, .int .u8 0, .int .u8 0, .int .u8 0, .int .u8 0, .int .u8 0, .int .u8 0, .int .u8 0, .int .u8 0, .int .u8 0, .int .u8 0, .int .u8 0, .int .u8 0, .int .u8 0, .int .u8 0, .int .u8 0, .int .u8 0, .int .u8 0, .int .u8 0, .int .u8 0, .int .u8 0, .int .u8 0, .int .u8 0, .int .u8 0, .int .u8 0, .int .u8 0, .int .u8 0, .int .u8 0, .int .u8 0, .int .u8 0, .int .u8 0, .int .u8 0, .int .u8 0, .nils] (fun k => ([(0, 1), (1, 32), (33, 1)] : List (Nat × Nat))[k]?) []) fun v28 =>
 sb (aStore H23 34 v3 v28) fun H29 =>
 fin .ret [.c true 34 (v3), .v (.int .i64 0), .v (.int .i64 5)] H29 K)
 (vb (aBin .sub v22 v16) fun v30 =>
 hb (aAlloc H23 [.int .i64 0]) fun v31 H32 =>
 sb (aStore H32 1 v31 v30) fun H33 =>
 LoopP (record_Parse.L13 v16 v1 v5 v31 v3) [.int .i64 0] H33 fun e46 vs47 H48 =>
 onE e46 (.exit 0)
 (vb (aLoad H48 true 34 v5) fun v49 =>
 cb (S_record_Lay [v49] H48) fun v50 H51 =>
 vb (aExtract v50 0) fun v52 =>
 vb (aExtract v50 1) fun v53 =>
 JoinP (fun Kj54 => vb (aBin .neq v53 (.int .i64 0)) fun v55 =>
 isB v55 fun b56 => cond b56
 (vb (aBuild [.int .i64 0, .int .u8 0, .int .u8 0, .int .u8 0, .int .u8 0, .int .u8 0, .int .u8 0, .int .u8 0, .int .u8 0, .int .u8 0, .int .u8 0, .int .u8 0, .int .u8 0, .int .u8 0, .int .u8 0, .int .u8 0, .int .u8 0, .int .u8 0, .int .u8 0, .int .u8 0, .int .u8 0, .int .u8 0, .int .u8 0, .int .u8 0, .int .u8 0, .int .u8 0, .int .u8 0, .int .u8 0, .int .u8 0, .int .u8 0, .int .u8 0, .int .u8 0, .int .u8 0, .nils] (fun k => ([(0, 1), (1, 32), (33, 1)] : List (Nat × Nat))[k]?) []) fun v57 =>
 sb (aStore H51 34 v3 v57) fun H58 =>
 Kj54 .ret [.int .i64 0, .int .i64 6] H58)
 (vb (aLoad H51 false 1 v1) fun v59 =>
 vb (aSlice H51 1 v59 none (some v22) none) fun v60 =>
 cb (S_slices_Equal_string_string [v52, v60] H51) fun v61 H62 =>
 vb (aUn .not v61) fun v63 =>
 isB v63 fun b64 => cond b64
 (vb (aBuild [.int .i64 0, .int .u8 0, .int .u8 0, .int .u8 0, .int .u8 0, .int .u8 0, .int .u8 0, .int .u8 0, .int .u8 0, .int .u8 0, .int .u8 0, .int .u8 0, .int .u8 0, .int .u8 0, .int .u8 0, .int .u8 0, .int .u8 0, .int .u8 0, .int .u8 0, .int .u8 0, .int .u8 0, .int .u8 0, .int .u8 0, .int .u8 0, .int .u8 0, .int .u8 0, .int .u8 0, .int .u8 0, .int .u8 0, .int .u8 0, .int .u8 0, .int .u8 0, .int .u8 0, .nils] (fun k => ([(0, 1), (1, 32), (33, 1)] : List (Nat × Nat))[k]?) []) fun v65 =>
 sb (aStore H62 34 v3 v65) fun H66 =>
 Kj54 .ret [.int .i64 0, .int .i64 6] H66)
 (Kj54 .normal [vs47.getD 0 .undef, vs47.getD 1 .undef] H62)))
 (fun e67 vs68 H69 =>
 onE e67 .normal
 (vb (aLoad H69 true 34 v5) fun v70 =>
 sb (aStore H69 34 v3 v70) fun H71 =>
 fin .ret [.c true 34 (v3), .v (v22), .v (.int .i64 0)] H71 K)
 (onE e67 .ret
 (fin .ret [.c true 34 (v3), .v (vs68.getD 0 .undef), .v (vs68.getD 1 .undef)] H69 K)
 (False))))
 (onE e46 .ret
 (fin .ret [.c true 34 (v3), .v (vs47.getD 0 .undef), .v (vs47.getD 1 .undef)] H48 K)
 (False)))))

def S_record_Parse : Abs.Spec := fun args H r H' => ∃ x0 : AVal, args = [x0] ∧ (record_Parse.w x0 H fun r1 H1 => r1 = r ∧ H1 = H') ∧ H <+: H'
theorem record_Parse.ok (args : List AVal) (H : AHeap) (r : AVal) (H' : AHeap) (h : S_record_Parse args H r H') : ∃ x0 : AVal, args = [x0] ∧ record_Parse.w x0 H fun r1 H1 => r1 = r ∧ H1 = H' := by
  obtain ⟨x0, h1, h2, _⟩ := h
  exact ⟨x0, h1, h2⟩
theorem record_Parse.quiet {args : List AVal} {H : AHeap} {r : AVal} {H' : AHeap} (h : S_record_Parse args H r H') : H <+: H' := by
  obtain ⟨_, _, _, h⟩ := h
  exact h
set_option maxRecDepth 100000 in
theorem record_Parse.ex (x0 : AVal) (H : AHeap) : Ex fun K : AVal × AHeap → Prop => record_Parse.w x0 H fun r H => K (r, H) := by
  unfold record_Parse.w
  repeat with_reducible first
    | exact Ex.pt _
    | exact Ex.fin
    | exact Ex.no
    | refine Ex.vb fun _ => ?_
    | refine Ex.hb fun _ _ => ?_
    | refine Ex.sb fun _ => ?_
    | refine Ex.cb fun _ _ => ?_
    | refine Ex.isB fun _ => ?_
    | refine Ex.cond ?_ ?_
    | refine Ex.onE ?_ ?_
    | refine Ex.join ?_ fun _ _ _ => ?_
    | refine Ex.loop (fun _ _ => ?_) fun _ _ _ => ?_
    | (unfold record_Parse.L13; unfold record_Parse.L13.b)

theorem record_Parse.out {x0 : AVal} {H : AHeap} {Q : AVal → AHeap → Prop} (h : record_Parse.w x0 H fun r H' => H <+: H' ∧ Q r H') : ∃ r H', S_record_Parse [x0] H r H' ∧ Q r H' := by
  obtain ⟨r, H', h1, h2⟩ := (record_Parse.ex x0 H).out h
  exact ⟨r, H', ⟨_, rfl, h1, h2.1⟩, h2.2⟩

def record_All.L2.b (x0_2 : AVal) (x4_2 : AVal) (H1 : AHeap) (Kn2 : List AVal → AHeap → Prop) (Ke3 : AExit → List AVal → AHeap → Prop) : Prop :=
 vb (lenSl x0_2) fun v4 =>
 vb (aBin .gtr v4 (.int .i64 0)) fun v5 =>
 isB v5 fun b6 => cond b6
 (cb (S_record_Parse [x0_2] H1) fun v7 H8 =>
 vb (aExtract v7 0) fun v9 =>
 vb (aExtract v7 1) fun v10 =>
 vb (aExtract v7 2) fun v11 =>
 hb (aAlloc H8 [.int .i64 0, .int .u8 0, .int .u8 0, .int .u8 0, .int .u8 0, .int .u8 0, .int .u8 0, .int .u8 0, .int .u8 0, .int .u8 0, .int .u8 0, .int .u8 0, .int .u8 0, .int .u8 0, .int .u8 0, .int .u8 0, .int .u8 0, .int .u8 0, .int .u8 0, .int .u8 0, .int .u8 0, .int .u8 0, .int .u8 0, .int .u8 0, .int .u8 0, .int .u8 0, .int .u8 0, .int .u8 0, .int .u8 0, .int .u8 0, .int .u8 0, .int .u8 0, .int .u8 0, .nils]) fun v12 H13 =>
 sb (aStore H13 34 v12 v9) fun H14 =>
 vb (aBin .neq v11 (.int .i64 0)) fun v15 =>
 isB v15 fun b16 => cond b16
 (Ke3 .ret [.nils, v11, x4_2] H14)
 (vb (aLoad H14 true 34 v12) fun v17 =>
 hb (aBuildSlice H14 34 [.int .i64 0, .int .u8 0, .int .u8 0, .int .u8 0, .int .u8 0, .int .u8 0, .int .u8 0, .int .u8 0, .int .u8 0, .int .u8 0, .int .u8 0, .int .u8 0, .int .u8 0, .int .u8 0, .int .u8 0, .int .u8 0, .int .u8 0, .int .u8 0, .int .u8 0, .int .u8 0, .int .u8 0, .int .u8 0, .int .u8 0, .int .u8 0, .int .u8 0, .int .u8 0, .int .u8 0, .int .u8 0, .int .u8 0, .int .u8 0, .int .u8 0, .int .u8 0, .int .u8 0, .nils] 1 [(0, v17)]) fun v18 H19 =>
 hb (aAppendS H19 34 64 x4_2 v18) fun v20 H21 =>
 vb (aSlice H21 1 x0_2 (some v10) none none) fun v22 =>
 Kn2 [v22, v20] H21))
 (Ke3 (.exit 0) [.undef, .undef, x4_2] H1)

def record_All.L2 : Body := fun vs H Kn Ke => record_All.L2.b (vs.getD 0 .undef) (vs.getD 1 .undef) H Kn Ke

def record_All.w (x0 : AVal) (H : AHeap) (K : AVal → AHeap → Prop) : Prop :=
 LoopP record_All.L2 [x0, .nils] H fun e23 vs24 H25 =>
 onE e23 (.exit 0)
 (fin .ret [.v (vs24.getD 2 .undef), .v (.int .i64 0)] H25 K)
 (onE e23 .ret
 (fin .ret [.v (vs24.getD 0 .undef), .v (vs24.getD 1 .undef)] H25 K)
 (False))

def S_record_All : Abs.Spec := fun args H r H' => ∃ x0 : AVal, args = [x0] ∧ (record_All.w x0 H fun r1 H1 => r1 = r ∧ H1 = H') ∧ H <+: H'
theorem record_All.ok (args : List AVal) (H : AHeap) (r : AVal) (H' : AHeap) (h : S_record_All args H r H') : ∃ x0 : AVal, args = [x0] ∧ record_All.w x0 H fun r1 H1 => r1 = r ∧ H1 = H' := by
  obtain ⟨x0, h1, h2, _⟩ := h
  exact ⟨x0, h1, h2⟩
theorem record_All.quiet {args : List AVal} {H : AHeap} {r : AVal} {H' : AHeap} (h : S_record_All args H r H') : H <+: H' := by
  obtain ⟨_, _, _, h⟩ := h
  exact h
set_option maxRecDepth 100000 in
theorem record_All.ex (x0 : AVal) (H : AHeap) : Ex fun K : AVal × AHeap → Prop => record_All.w x0 H fun r H => K (r, H) := by
  unfold record_All.w
  repeat with_reducible first
    | exact Ex.pt _
    | exact Ex.fin
    | exact Ex.no
    | refine Ex.vb fun _ => ?_
    | refine Ex.hb fun _ _ => ?_
    | refine Ex.sb fun _ => ?_
    | refine Ex.cb fun _ _ => ?_
    | refine Ex.isB fun _ => ?_
    | refine Ex.cond ?_ ?_
    | refine Ex.onE ?_ ?_
    | refine Ex.join ?_ fun _ _ _ => ?_
    | refine Ex.loop (fun _ _ => ?_) fun _ _ _ => ?_
    | (unfold record_All.L2; unfold record_All.L2.b)

theorem record_All.out {x0 : AVal} {H : AHeap} {Q : AVal → AHeap → Prop} (h : record_All.w x0 H fun r H' => H <+: H' ∧ Q r H') : ∃ r H', S_record_All [x0] H r H' ∧ Q r H' := by
  obtain ⟨r, H', h1, h2⟩ := (record_All.ex x0 H).out h
  exact ⟨r, H', ⟨_, rfl, h1, h2.1⟩, h2.2⟩

def cellaretref13_Right.L4.b (v1 : AVal) (x3_4 : AVal) (H15 : AHeap) (Kn16 : List AVal → AHeap → Prop) (Ke17 : AExit → List AVal → AHeap → Prop) : Prop :=
 vb (aFieldAddr 33 v1) fun v18 =>
 vb (aLoad H15 false 1 v18) fun v19 =>
 vb (lenSl v19) fun v20 =>
 vb (aBin .lss x3_4 v20) fun v21 =>
 isB v21 fun b22 => cond b22
 (vb (aFieldAddr 33 v1) fun v23 =>
 vb (aLoad H15 false 1 v23) fun v24 =>
 vb (aIndexAddr 2 v24 x3_4) fun v25 =>
 vb (aLoad H15 true 2 v25) fun v26 =>
 hb (aAlloc H15 [.int .i64 0, .str []]) fun v27 H28 =>
 sb (aStore H28 2 v27 v26) fun H29 =>
 vb (aFieldAddr 0 v27) fun v30 =>
 vb (aLoad H29 false 1 v30) fun v31 =>
 vb (aBin .lss v31 (.int .i64 161)) fun v32 =>
 isB v32 fun b33 => cond b33
 (Ke17 .ret [.bool false] H29)
 (vb (aFieldAddr 0 v27) fun v34 =>
 vb (aLoad H29 false 1 v34) fun v35 =>
 vb (aBin .gtr v35 (.int .i64 287)) fun v36 =>
 isB v36 fun b37 => cond b37
 (Ke17 .ret [.bool false] H29)
 (vb (aFieldAddr 1 v27) fun v38 =>
 vb (aLoad H29 false 1 v38) fun v39 =>
 vb (lenSt v39) fun v40 =>
 vb (aBin .neq v40 (.int .i64 64)) fun v41 =>
 isB v41 fun b42 => cond b42
 (Ke17 .ret [.bool false] H29)
 (vb (aBin .gtr x3_4 (.int .i64 0)) fun v43 =>
 isB v43 fun b44 => cond b44
 (vb (aFieldAddr 0 v27) fun v45 =>
 vb (aLoad H29 false 1 v45) fun v46 =>
 vb (aFieldAddr 33 v1) fun v47 =>
 vb (aLoad H29 false 1 v47) fun v48 =>
 vb (aBin .sub x3_4 (.int .i64 1)) fun v49 =>
 vb (aIndexAddr 2 v48 v49) fun v50 =>
 vb (aFieldAddr 0 v50) fun v51 =>
 vb (aLoad H29 false 1 v51) fun v52 =>
 vb (aBin .leq v46 v52) fun v53 =>
 isB v53 fun b54 => cond b54
 (Ke17 .ret [.bool false] H29)
 (vb (aBin .add x3_4 (.int .i64 1)) fun v55 =>
 Kn16 [v55] H29))
 (vb (aBin .add x3_4 (.int .i64 1)) fun v56 =>
 Kn16 [v56] H29)))))
 (Ke17 (.exit 0) [.undef] H15)

def cellaretref13_Right.L4 (v1 : AVal) : Body := fun vs H Kn Ke => cellaretref13_Right.L4.b v1 (vs.getD 0 .undef) H Kn Ke

def cellaretref13_Right.w (x0 : AVal) (H : AHeap) (K : AVal → AHeap → Prop) : Prop :=
 hb (aBox H x0) fun v1 H2 =>
 JoinP (fun Kj3 => vb (aFieldAddr 0 v1) fun v4 =>
 vb (aLoad H2 false 1 v4) fun v5 =>
 vb (aBin .lss v5 (.int .i64 0)) fun v6 =>
 isB v6 fun b7 => cond b7
 (Kj3 .ret [.bool false] H2)
 (vb (aFieldAddr 0 v1) fun v8 =>
 vb (aLoad H2 false 1 v8) fun v9 =>
 vb (aBin .gtr v9 (.int .i64 4294967295)) fun v10 =>
 isB v10 fun b11 => cond b11
 (Kj3 .ret [.bool false] H2)
 (Kj3 .normal [.bool false] H2)))
 (fun e12 vs13 H14 =>
 onE e12 .normal
 (LoopP (cellaretref13_Right.L4 v1) [.int .i64 0] H14 fun e57 vs58 H59 =>
 onE e57 (.exit 0)
 (fin .ret [.v (.bool true)] H59 K)
 (onE e57 .ret
 (fin .ret [.v (vs58.getD 0 .undef)] H59 K)
 (False)))
 (onE e12 .ret
 (fin .ret [.v (vs13.getD 0 .undef)] H14 K)
 (False)))

def S_cellaretref13_Right : Abs.Spec := fun args H r H' => ∃ x0 : AVal, args = [x0] ∧ (cellaretref13_Right.w x0 H fun r1 H1 => r1 = r ∧ H1 = H') ∧ H <+: H'
theorem cellaretref13_Right.ok (args : List AVal) (H : AHeap) (r : AVal) (H' : AHeap) (h : S_cellaretref13_Right args H r H') : ∃ x0 : AVal, args = [x0] ∧ cellaretref13_Right.w x0 H fun r1 H1 => r1 = r ∧ H1 = H' := by
  obtain ⟨x0, h1, h2, _⟩ := h
  exact ⟨x0, h1, h2⟩
theorem cellaretref13_Right.quiet {args : List AVal} {H : AHeap} {r : AVal} {H' : AHeap} (h : S_cellaretref13_Right args H r H') : H <+: H' := by
  obtain ⟨_, _, _, h⟩ := h
  exact h
set_option maxRecDepth 100000 in
theorem cellaretref13_Right.ex (x0 : AVal) (H : AHeap) : Ex fun K : AVal × AHeap → Prop => cellaretref13_Right.w x0 H fun r H => K (r, H) := by
  unfold cellaretref13_Right.w
  repeat with_reducible first
    | exact Ex.pt _
    | exact Ex.fin
    | exact Ex.no
    | refine Ex.vb fun _ => ?_
    | refine Ex.hb fun _ _ => ?_
    | refine Ex.sb fun _ => ?_
    | refine Ex.cb fun _ _ => ?_
    | refine Ex.isB fun _ => ?_
    | refine Ex.cond ?_ ?_
    | refine Ex.onE ?_ ?_
    | refine Ex.join ?_ fun _ _ _ => ?_
    | refine Ex.loop (fun _ _ => ?_) fun _ _ _ => ?_
    | (unfold cellaretref13_Right.L4; unfold cellaretref13_Right.L4.b)

theorem cellaretref13_Right.out {x0 : AVal} {H : AHeap} {Q : AVal → AHeap → Prop} (h : cellaretref13_Right.w x0 H fun r H' => H <+: H' ∧ Q r H') : ∃ r H', S_cellaretref13_Right [x0] H r H' ∧ Q r H' := by
  obtain ⟨r, H', h1, h2⟩ := (cellaretref13_Right.ex x0 H).out h
  exact ⟨r, H', ⟨_, rfl, h1, h2.1⟩, h2.2⟩

def cellaretref13_Lay.L7.b (v1 : AVal) (x4_3 : AVal) (x5_7 : AVal) (x6_7 : AVal) (H31 : AHeap) (Kn32 : List AVal → AHeap → Prop) (Ke33 : AExit → List AVal → AHeap → Prop) : Prop :=
 JoinP (fun Kj34 => vb (aFieldAddr 33 v1) fun v35 =>
 vb (aLoad H31 false 1 v35) fun v36 =>
 vb (lenSl v36) fun v37 =>
 vb (aBin .lss x6_7 v37) fun v38 =>
 isB v38 fun b39 => cond b39
 (vb (aBin .add x4_3 (.int .i64 32)) fun v40 =>
 vb (aBin .lss x6_7 v40) fun v41 =>
 isB v41 fun b42 => cond b42
 (Kj34 .normal [] H31)
 (Kj34 (.exit 2) [] H31))
 (Kj34 (.exit 2) [] H31))
 (fun e43 vs44 H45 =>
 onE e43 (.exit 2)
 (Ke33 (.exit 2) [x5_7] H45)
 (onE e43 .normal
 (vb (aFieldAddr 33 v1) fun v46 =>
 vb (aLoad H45 false 1 v46) fun v47 =>
 vb (aIndexAddr 2 v47 x6_7) fun v48 =>
 vb (aFieldAddr 0 v48) fun v49 =>
 vb (aLoad H45 false 1 v49) fun v50 =>
 cb (S_cellaretref01_N [v50, .int .i64 2] H45) fun v51 H52 =>
 vb (aBin .add x5_7 v51) fun v53 =>
 vb (aBin .add x6_7 (.int .i64 1)) fun v54 =>
 Kn32 [v53, v54] H52)
 (False)))

def cellaretref13_Lay.L7 (v1 : AVal) (x4_3 : AVal) : Body := fun vs H Kn Ke => cellaretref13_Lay.L7.b v1 x4_3 (vs.getD 0 .undef) (vs.getD 1 .undef) H Kn Ke

def cellaretref13_Lay.L3.b (v1 : AVal) (x3_3 : AVal) (x4_3 : AVal) (H23 : AHeap) (Kn24 : List AVal → AHeap → Prop) (Ke25 : AExit → List AVal → AHeap → Prop) : Prop :=
 vb (aFieldAddr 33 v1) fun v26 =>
 vb (aLoad H23 false 1 v26) fun v27 =>
 vb (lenSl v27) fun v28 =>
 vb (aBin .lss x4_3 v28) fun v29 =>
 isB v29 fun b30 => cond b30
 (LoopP (cellaretref13_Lay.L7 v1 x4_3) [.str [], x4_3] H23 fun e55 vs56 H57 =>
 onE e55 (.exit 2)
 (cb (S_cellaretref01_Full [vs56.getD 0 .undef, .int .i64 64] H57) fun v58 H59 =>
 hb (aBuildSlice H59 1 [.str []] 1 [(0, v58)]) fun v60 H61 =>
 hb (aAppendS H61 1 16 x3_3 v60) fun v62 H63 =>
 vb (aBin .add x4_3 (.int .i64 32)) fun v64 =>
 Kn24 [v62, v64] H63)
 (False))
 (Ke25 (.exit 0) [x3_3] H23)

def cellaretref13_Lay.L3 (v1 : AVal) : Body := fun vs H Kn Ke => cellaretref13_Lay.L3.b v1 (vs.getD 0 .undef) (vs.getD 1 .undef) H Kn Ke

def cellaretref13_Lay.L12.b (v1 : AVal) (x3_12 : AVal) (x7_12 : AVal) (H68 : AHeap) (Kn69 : List AVal → AHeap → Prop) (Ke70 : AExit → List AVal → AHeap → Prop) : Prop :=
 vb (aFieldAddr 33 v1) fun v71 =>
 vb (aLoad H68 false 1 v71) fun v72 =>
 vb (lenSl v72) fun v73 =>
 vb (aBin .lss x7_12 v73) fun v74 =>
 isB v74 fun b75 => cond b75
 (vb (aFieldAddr 33 v1) fun v76 =>
 vb (aLoad H68 false 1 v76) fun v77 =>
 vb (aIndexAddr 2 v77 x7_12) fun v78 =>
 vb (aFieldAddr 1 v78) fun v79 =>
 vb (aLoad H68 false 1 v79) fun v80 =>
 hb (aBuildSlice H68 1 [.str []] 1 [(0, v80)]) fun v81 H82 =>
 hb (aAppendS H82 1 16 x3_12 v81) fun v83 H84 =>
 vb (aBin .add x7_12 (.int .i64 1)) fun v85 =>
 Kn69 [v83, v85] H84)
 (Ke70 (.exit 4) [x3_12] H68)

def cellaretref13_Lay.L12 (v1 : AVal) : Body := fun vs H Kn Ke => cellaretref13_Lay.L12.b v1 (vs.getD 0 .undef) (vs.getD 1 .undef) H Kn Ke

def cellaretref13_Lay.w (x0 : AVal) (H : AHeap) (K : AVal → AHeap → Prop) : Prop :=
 hb (aBox H x0) fun v1 H2 =>
 vb (aFieldAddr 0 v1) fun v3 =>
 vb (aLoad H2 false 1 v3) fun v4 =>
 cb (S_cellaretref01_N [v4, .int .i64 4] H2) fun v5 H6 =>
 vb (aBin .add (.str [114, 99]) v5) fun v7 =>
 vb (aFieldAddr 33 v1) fun v8 =>
 vb (aLoad H6 false 1 v8) fun v9 =>
 vb (lenSl v9) fun v10 =>
 cb (S_cellaretref01_N [v10, .int .i64 2] H6) fun v11 H12 =>
 vb (aBin .add v7 v11) fun v13 =>
 vb (aFieldAddr 1 v1) fun v14 =>
 vb (aSliceArr 32 1 v14 none none none) fun v15 =>
 vb (aBytes2Str H12 v15) fun v16 =>
 vb (aBin .add v13 v16) fun v17 =>
 cb (S_cellaretref01_Zeros [.int .i64 24] H12) fun v18 H19 =>
 vb (aBin .add v17 v18) fun v20 =>
 hb (aBuildSlice H19 1 [.str []] 1 [(0, v20)]) fun v21 H22 =>
 LoopP (cellaretref13_Lay.L3 v1) [v21, .int .i64 0] H22 fun e65 vs66 H67 =>
 onE e65 (.exit 0)
 (LoopP (cellaretref13_Lay.L12 v1) [vs66.getD 0 .undef, .int .i64 0] H67 fun e86 vs87 H88 =>
 onE e86 (.exit 4)
 (fin .ret [.v (vs87.getD 0 .undef)] H88 K)
 (False))
 (False)

def S_cellaretref13_Lay : Abs.Spec := fun args H r H' => ∃ x0 : AVal, args = [x0] ∧ (cellaretref13_Lay.w x0 H fun r1 H1 => r1 = r ∧ H1 = H') ∧ H <+: H'
theorem cellaretref13_Lay.ok (args : List AVal) (H : AHeap) (r : AVal) (H' : AHeap) (h : S_cellaretref13_Lay args H r H') : ∃ x0 : AVal, args = [x0] ∧ cellaretref13_Lay.w x0 H fun r1 H1 => r1 = r ∧ H1 = H' := by
  obtain ⟨x0, h1, h2, _⟩ := h
  exact ⟨x0, h1, h2⟩
theorem cellaretref13_Lay.quiet {args : List AVal} {H : AHeap} {r : AVal} {H' : AHeap} (h : S_cellaretref13_Lay args H r H') : H <+: H' := by
  obtain ⟨_, _, _, h⟩ := h
  exact h
def cellaretref13_Same.L4.b (v1 : AVal) (v3 : AVal) (x5_4 : AVal) (H29 : AHeap) (Kn30 : List AVal → AHeap → Prop) (Ke31 : AExit → List AVal → AHeap → Prop) : Prop :=
 vb (aFieldAddr 33 v1) fun v32 =>
 vb (aLoad H29 false 1 v32) fun v33 =>
 vb (lenSl v33) fun v34 =>
 vb (aBin .lss x5_4 v34) fun v35 =>
 isB v35 fun b36 => cond b36
 (vb (aFieldAddr 33 v1) fun v37 =>
 vb (aLoad H29 false 1 v37) fun v38 =>
 vb (aIndexAddr 2 v38 x5_4) fun v39 =>
 vb (aLoad H29 true 2 v39) fun v40 =>
 vb (aFieldAddr 33 v3) fun v41 =>
 vb (aLoad H29 false 1 v41) fun v42 =>
 vb (aIndexAddr 2 v42 x5_4) fun v43 =>
 vb (aLoad H29 true 2 v43) fun v44 =>
 vb (aEql true (.agg [.int, .str]) H29 v40 v44) fun v45 =>
 isB v45 fun b46 => cond b46
 (Ke31 .ret [.bool false] H29)
 (vb (aBin .add x5_4 (.int .i64 1)) fun v47 =>
 Kn30 [v47] H29))
 (Ke31 (.exit 0) [.undef] H29)

def cellaretref13_Same.L4 (v1 : AVal) (v3 : AVal) : Body := fun vs H Kn Ke => cellaretref13_Same.L4.b v1 v3 (vs.getD 0 .undef) H Kn Ke

def cellaretref13_Same.w (x0 : AVal) (x1 : AVal) (H : AHeap) (K : AVal → AHeap → Prop) : Prop :=
 hb (aBox H x0) fun v1 H2 =>
 hb (aBox H2 x1) fun v3 H4 =>
 JoinP (fun Kj5 => vb (aFieldAddr 0 v1) fun v6 =>
 vb (aLoad H4 false 1 v6) fun v7 =>
 vb (aFieldAddr 0 v3) fun v8 =>
 vb (aLoad H4 false 1 v8) fun v9 =>
 vb (aBin .neq v7 v9) fun v10 =>
 isB v10 fun b11 => cond b11
 (Kj5 .ret [.bool false] H4)
 (vb (aFieldAddr 1 v1) fun v12 =>
 vb (aLoad H4 true 32 v12) fun v13 =>
 vb (aFieldAddr 1 v3) fun v14 =>
 vb (aLoad H4 true 32 v14) fun v15 =>
 vb (aEql true (.agg (List.replicate 32 .int)) H4 v13 v15) fun v16 =>
 isB v16 fun b17 => cond b17
 (Kj5 .ret [.bool false] H4)
 (vb (aFieldAddr 33 v1) fun v18 =>
 vb (aLoad H4 false 1 v18) fun v19 =>
 vb (lenSl v19) fun v20 =>
 vb (aFieldAddr 33 v3) fun v21 =>
 vb (aLoad H4 false 1 v21) fun v22 =>
 vb (lenSl v22) fun v23 =>
 vb (aBin .neq v20 v23) fun v24 =>
 isB v24 fun b25 => cond b25
 (Kj5 .ret [.bool false] H4)
 (Kj5 .normal [.bool false] H4))))
 (fun e26 vs27 H28 =>
 onE e26 .normal
 (LoopP (cellaretref13_Same.L4 v1 v3) [.int .i64 0] H28 fun e48 vs49 H50 =>
 onE e48 (.exit 0)
 (fin .ret [.v (.bool true)] H50 K)
 (onE e48 .ret
 (fin .ret [.v (vs49.getD 0 .undef)] H50 K)
 (False)))
 (onE e26 .ret
 (fin .ret [.v (vs27.getD 0 .undef)] H28 K)
 (False)))

def S_cellaretref13_Same : Abs.Spec := fun args H r H' => ∃ x0 x1 : AVal, args = [x0, x1] ∧ (cellaretref13_Same.w x0 x1 H fun r1 H1 => r1 = r ∧ H1 = H') ∧ H <+: H'
theorem cellaretref13_Same.ok (args : List AVal) (H : AHeap) (r : AVal) (H' : AHeap) (h : S_cellaretref13_Same args H r H') : ∃ x0 x1 : AVal, args = [x0, x1] ∧ cellaretref13_Same.w x0 x1 H fun r1 H1 => r1 = r ∧ H1 = H' := by
  obtain ⟨x0, x1, h1, h2, _⟩ := h
  exact ⟨x0, x1, h1, h2⟩
theorem cellaretref13_Same.quiet {args : List AVal} {H : AHeap} {r : AVal} {H' : AHeap} (h : S_cellaretref13_Same args H r H') : H <+: H' := by
  obtain ⟨_, _, _, _, h⟩ := h
  exact h
set_option maxRecDepth 100000 in
theorem cellaretref13_Same.ex (x0 x1 : AVal) (H : AHeap) : Ex fun K : AVal × AHeap → Prop => cellaretref13_Same.w x0 x1 H fun r H => K (r, H) := by
  unfold cellaretref13_Same.w
  repeat with_reducible first
    | exact Ex.pt _
    | exact Ex.fin
    | exact Ex.no
    | refine Ex.vb fun _ => ?_
    | refine Ex.hb fun _ _ => ?_
    | refine Ex.sb fun _ => ?_
    | refine Ex.cb fun _ _ => ?_
    | refine Ex.isB fun _ => ?_
    | refine Ex.cond ?_ ?_
    | refine Ex.onE ?_ ?_
    | refine Ex.join ?_ fun _ _ _ => ?_
    | refine Ex.loop (fun _ _ => ?_) fun _ _ _ => ?_
    | (unfold cellaretref13_Same.L4; unfold cellaretref13_Same.L4.b)

theorem cellaretref13_Same.out {x0 x1 : AVal} {H : AHeap} {Q : AVal → AHeap → Prop} (h : cellaretref13_Same.w x0 x1 H fun r H' => H <+: H' ∧ Q r H') : ∃ r H', S_cellaretref13_Same [x0, x1] H r H' ∧ Q r H' := by
  obtain ⟨r, H', h1, h2⟩ := (cellaretref13_Same.ex x0 x1 H).out h
  exact ⟨r, H', ⟨_, _, rfl, h1, h2.1⟩, h2.2⟩

end Go.Sh

/- Records: what the program and the document say of them, in plain Lean. -/
namespace Go.Sh
open Go Go.Abs

/-- A number's so many last bytes, the greatest first. -/
def beB (w n : Nat) : List UInt8 := (List.range w).map fun i => UInt8.ofNat (n / 2 ^ (8 * (w - 1 - i)))
theorem beB_len (w n : Nat) : (beB w n).length = w := by simp [beB]
/-- What is laid of it when so many are. -/
def bePart (w n j : Nat) : List UInt8 := (List.range w).map fun i => if w ≤ i + j then UInt8.ofNat (n / 2 ^ (8 * (w - 1 - i))) else 0
theorem bePart_len (w n j : Nat) : (bePart w n j).length = w := by simp [bePart]
theorem bePart_get {w n j i : Nat} (h : i < w) : (bePart w n j)[i]? = some (if w ≤ i + j then UInt8.ofNat (n / 2 ^ (8 * (w - 1 - i))) else 0) := by
  simp [bePart, List.getElem?_map, List.getElem?_range h]
theorem bePart_zero (w n : Nat) : bePart w n 0 = zs w := by
  apply List.ext_getElem?; intro k
  by_cases hk : k < w
  · rw [bePart_get hk, if_neg (by omega)]; simp [zs, hk]
  · rw [List.getElem?_eq_none (by rw [bePart_len]; omega), List.getElem?_eq_none (by simp [zs]; omega)]
theorem bePart_all (w n : Nat) : bePart w n w = beB w n := by
  apply List.map_congr_left; intro k _; rw [if_pos (by omega)]
theorem bePart_set {w n j : Nat} (hj : j < w) : (bePart w n j).set (w - 1 - j) (UInt8.ofNat (n / 2 ^ (8 * j))) = bePart w n (j + 1) := by
  apply List.ext_getElem?; intro k
  by_cases hk : k < w
  · by_cases e : k = w - 1 - j
    · rw [e, List.getElem?_set_self (by rw [bePart_len]; omega), bePart_get (by omega), if_pos (by omega), show w - 1 - (w - 1 - j) = j by omega]
    · rw [List.getElem?_set_ne (by omega), bePart_get hk, bePart_get hk]
      by_cases h1 : w ≤ k + j
      · rw [if_pos h1, if_pos (by omega)]
      · rw [if_neg h1, if_neg (by omega)]
  · rw [List.getElem?_eq_none (by rw [List.length_set, bePart_len]; omega), List.getElem?_eq_none (by rw [bePart_len]; omega)]
theorem beB_step (w n : Nat) (s : List UInt8) : beB (w + 1) n = UInt8.ofNat (n / 2 ^ (8 * w)) :: beB w n := by
  unfold beB
  rw [List.range_succ_eq_map, List.map_cons, List.map_map]
  congr 1
  apply List.map_congr_left; intro i hi
  simp only [Function.comp]
  rw [show w + 1 - 1 - (i + 1) = w - 1 - i by omega]
/-- The number of a row of bytes. -/
def numB (s : List UInt8) : Nat := s.foldl (fun n b => n * 256 + b.toNat) 0
theorem numB_app (s : List UInt8) (b : UInt8) : numB (s ++ [b]) = numB s * 256 + b.toNat := by simp [numB]
theorem numB_lt : ∀ (s : List UInt8), numB s < 2 ^ (8 * s.length) := by
  intro s
  have key : ∀ (l : List UInt8), numB l.reverse < 2 ^ (8 * l.length) := by
    intro l
    induction l with
    | nil => simp [numB]
    | cons b l ih =>
      rw [List.reverse_cons, numB_app, List.length_cons, Nat.mul_add, Nat.pow_add]
      have := b.toNat_lt
      omega
  have := key s.reverse
  simpa using this
end Go.Sh

/- Numbers as bytes: the program's, the document's. -/
namespace Go.Sh
open Go Go.Abs

section
variable {B : AHeap}
theorem fill_zs (n : Nat) : fillCells n [.int .u8 0] = (zs n).map ofByte := by
  unfold fillCells zs
  rw [List.map_replicate]
  induction n with
  | zero => rfl
  | succ n ih => simp only [List.replicate_succ, List.flatten_cons, ih]; rfl
theorem shr_nat {n j : Nat} (h : j ≤ 8) : aBin .shr (.int .i64 (n : Int)) (.int .i64 (8 * (j : Int))) = some (.int .i64 ((n / 2 ^ (8 * j) : Nat) : Int)) := by
  rw [shr_int .i64 .i64 (by omega) (by omega) (by show 8 * (j : Int) ≤ 64; omega), show (8 * (j : Int)).toNat = 8 * j by omega]
  simp
theorem be_Put_spec {w n : Nat} (h0 : 1 ≤ w) (h8 : w ≤ 7) (hn : n < 2 ^ (8 * w)) : ∃ C, S_be_Put [.int .i64 n, .int .i64 w] B (.tup [.str (beB w n), .int .i64 0]) C ∧ B <+: C := by
  obtain ⟨r, C, h, rfl, k⟩ := be_Put.out (x0 := .int .i64 n) (x1 := .int .i64 w) (H := B) (Q := fun r C => r = .tup [.str (beB w n), .int .i64 0] ∧ B <+: C) (by
    unfold be_Put.w
    have hs : Sep B (fun _ => False) B [] := Sep.start B
    repeat first
    | ((with_reducible refine isB_ct ?_ ?_); (· omega))
    | ((with_reducible refine isB_cf ?_ ?_); (· omega))
    | with_reducible refine vb_i (lss64 _ _ _) ?_
    | with_reducible refine vb_i (gtr64 _ _ _) ?_
    | ((with_reducible refine vb_i (mul64 ?_ ?_) ?_); (· omega); (· omega))
    refine vb_i (shr_nat (by omega)) ?_
    rw [Nat.div_eq_of_lt hn]
    repeat first
    | ((with_reducible refine isB_cf ?_ ?_); (· omega))
    | with_reducible refine vb_i (gtr64 _ _ _) ?_
    refine s_make (n := w) hs rfl rfl (by omega) (by omega) fun sv C _ _ hs => ?_
    rw [fill_zs] at hs
    refine LoopP.ruleG (α := Nat) (fun j => [.int .i64 (j : Int)]) (fun j C => j ≤ w ∧ Sep B (fun _ => False) C [.sl sv 1 w ((bePart w n j).map ofByte)]) (fun j => w - j) 0 (by simp)
      ⟨by omega, by rw [bePart_zero]; exact hs⟩ ?_
    clear hs
    rintro j C Kn ⟨hj, hs⟩ hk
    unfold be_Put.L7 be_Put.L7.b
    try simp only [evB]
    by_cases hjn : j < w
    · have hset := bePart_set (n := n) hjn
      repeat first
      | ((with_reducible refine isB_ct ?_ ?_); (· omega))
      | with_reducible refine vb_i (lss64 _ _ _) ?_
      | ((with_reducible refine vb_i (sub64 ?_ ?_) ?_); (· omega); (· omega))
      | ((with_reducible refine vb_i (mul64 ?_ ?_) ?_); (· omega); (· omega))
      refine vb_i (shr_nat (by omega)) ?_
      refine vb_i (byte_of_int _ (Int.natCast_nonneg _)) ?_
      repeat first
      | ((with_reducible apply vb_addr); (· first | exact hs.o0.view | exact hs.o1.view | exact hs.o2.view | exact hs.o3.view | exact hs.o4.view | exact hs.o5.view | exact hs.o6.view | exact hs.rv hv | exact hs.rv hv2 | exact hs.rv hv3 | exact hs.rv hv4 | exact hs.view hkv hko | assumption); (· omega); (· omega))
      rw [show ((w : Int) - 1 - (j : Int)).toNat = w - 1 - j by omega]
      refine s_el0 hs (by omega) rfl fun _ hs => ?_
      rw [← List.map_set, Int.toNat_natCast, hset] at hs
      repeat first
      | ((with_reducible refine vb_i (add64 ?_ ?_) ?_); (· omega); (· omega))
      exact hk (j + 1) _ ⟨by omega, hs⟩ (by omega)
    · obtain rfl : j = w := by omega
      repeat first
      | ((with_reducible refine isB_cf ?_ ?_); (· omega))
      | with_reducible refine onE_i ?_
      | with_reducible refine vb_i (lss64 _ _ _) ?_
      try simp only [evB]
      rw [bePart_all] at hs
      refine vb_i (bytes_str hs.o0.view) ?_
      exact fin_ret (rvs_v (rvs_v (rvs_nil _))) ⟨hs.pre fun _ x => x, rfl, hs.pre fun _ x => x⟩)
  exact ⟨C, h, k⟩
theorem wrap64' {x : Int} (h0 : 0 ≤ x) (h1 : x < 9223372036854775808) : IntKind.i64.wrap x = x := by
  unfold IntKind.wrap
  simp [IntKind.signed, IntKind.bits]
  omega
theorem shl8 {n : Nat} (h : n < 2 ^ 48) : aBin .shl (.int .i64 (n : Int)) (.int .u64 8) = some (.int .i64 ((n * 256 : Nat) : Int)) := by
  have e : aBin .shl (.int .i64 (n : Int)) (.int .u64 8) = some (.int .i64 (IntKind.i64.wrap ((n : Int) * 2 ^ 8))) := rfl
  rw [e, wrap64' (by omega) (by omega)]
  congr 2
theorem or8 {n : Nat} {b : UInt8} (h : n < 2 ^ 48) : aBin .or (.int .i64 ((n * 256 : Nat) : Int)) (.int .i64 (b.toNat : Int)) = some (.int .i64 ((n * 256 + b.toNat : Nat) : Int)) := by
  have hb := b.toNat_lt
  have e : aBin .or (.int .i64 ((n * 256 : Nat) : Int)) (.int .i64 (b.toNat : Int)) = some (.int .i64 (IntKind.i64.wrap ((BitVec.ofInt 64 ((n * 256 : Nat) : Int) ||| BitVec.ofInt 64 (b.toNat : Int)).toNat : Int))) := rfl
  have e2 : (BitVec.ofInt 64 ((n * 256 : Nat) : Int) ||| BitVec.ofInt 64 (b.toNat : Int)).toNat = n * 256 + b.toNat := by
    rw [BitVec.ofInt_natCast, BitVec.ofInt_natCast, BitVec.toNat_or, BitVec.toNat_ofNat, BitVec.toNat_ofNat, Nat.mod_eq_of_lt (by omega), Nat.mod_eq_of_lt (by omega)]
    have := Nat.two_pow_add_eq_or_of_lt (i := 8) (b := b.toNat) (by omega) n
    rw [Nat.mul_comm, show (256 : Nat) = 2 ^ 8 by rfl, ← this]
  rw [e, e2, wrap64' (by omega) (by omega)]
theorem take_at {s : List UInt8} {i : Nat} (h : i < s.length) : s.take (i + 1) = s.take i ++ [s.getD i 0] := by
  rw [List.take_succ_eq_append_getElem h]
  congr 2
  rw [List.getD_eq_getElem?_getD, List.getElem?_eq_getElem h]; rfl
theorem numB_take {s : List UInt8} {i : Nat} (h : i < s.length) : numB (s.take (i + 1)) = numB (s.take i) * 256 + (s.getD i 0).toNat := by
  rw [take_at h, numB_app]
theorem numB_small {s : List UInt8} (h : s.length ≤ 6) : numB s < 2 ^ 48 := Nat.lt_of_lt_of_le (numB_lt s) (Nat.pow_le_pow_right (by decide) (by omega))
theorem be_Get_spec {s : List UInt8} (h0 : s ≠ []) (h8 : s.length ≤ 6) : ∃ C, S_be_Get [.str s] B (.tup [.int .i64 (numB s : Nat), .int .i64 0]) C ∧ B <+: C := by
  obtain ⟨r, C, h, rfl, k⟩ := be_Get.out (x0 := .str s) (H := B) (Q := fun r C => r = .tup [.int .i64 (numB s : Nat), .int .i64 0] ∧ B <+: C) (by
    unfold be_Get.w
    have hs : Sep B (fun _ => False) B [] := Sep.start B
    repeat first
    | ((with_reducible refine isB_cf ?_ ?_); (· omega))
    | with_reducible refine vb_i (gtr64 _ _ _) ?_
    | with_reducible refine vb_i (eql64 _ _ _) ?_
    | with_reducible refine vb_i (eqls _ _) ?_
    | with_reducible refine vb_i (e_lenSt _) ?_
    refine LoopP.ruleG (α := Nat) (fun j => [.int .i64 (numB (s.take j) : Nat), .int .i64 (j : Int)]) (fun j C => j ≤ s.length ∧ C = B) (fun j => s.length - j) 0 (by simp [numB])
      ⟨by omega, rfl⟩ ?_
    rintro j C Kn ⟨hj, rfl⟩ hk
    unfold be_Get.L9 be_Get.L9.b
    try simp only [evB]
    by_cases hjn : j < s.length
    · have hsm : numB (s.take j) < 2 ^ 48 := numB_small (by rw [List.length_take]; omega)
      have hst := numB_take hjn
      generalize numB (s.take j) = q at *
      repeat first
      | ((with_reducible refine isB_ct ?_ ?_); (· omega))
      | with_reducible refine vb_i (lss64 _ _ _) ?_
      refine vb_i (shl8 hsm) ?_
      refine vb_i (e_idxStr (by omega) (by omega)) ?_
      rw [Int.toNat_natCast]
      refine vb_i (int_of_byte _) ?_
      refine vb_i (or8 hsm) ?_
      rw [← hst]
      repeat first
      | ((with_reducible refine vb_i (add64 ?_ ?_) ?_); (· omega); (· omega))
      exact hk (j + 1) _ ⟨by omega, rfl⟩ (by omega)
    · obtain rfl : j = s.length := by omega
      rw [List.take_length]
      repeat first
      | ((with_reducible refine isB_cf ?_ ?_); (· omega))
      | with_reducible refine onE_i ?_
      | with_reducible refine vb_i (lss64 _ _ _) ?_
      try simp only [evB]
      exact fin_ret (rvs_v (rvs_v (rvs_nil _))) ⟨List.prefix_refl _, rfl, List.prefix_refl _⟩)
  exact ⟨C, h, k⟩
theorem be_Pad_spec {s : List UInt8} {n : Nat} (hn : n ≤ 4096) (hs : s.length ≤ n) : ∃ C, S_be_Pad [.str s, .int .i64 n] B (.tup [.str (full s n), .int .i64 0]) C ∧ B <+: C := by
  obtain ⟨r, C, h, rfl, k⟩ := be_Pad.out (x0 := .str s) (x1 := .int .i64 n) (H := B) (Q := fun r C => r = .tup [.str (full s n), .int .i64 0] ∧ B <+: C) (by
    unfold be_Pad.w
    have hs : Sep B (fun _ => False) B [] := Sep.start B
    repeat first
    | ((with_reducible refine isB_cf ?_ ?_); (· omega))
    | with_reducible refine vb_i (lss64 _ _ _) ?_
    | with_reducible refine vb_i (gtr64 _ _ _) ?_
    | ((with_reducible refine vb_i (sub64 ?_ ?_) ?_); (· omega); (· omega))
    | with_reducible refine vb_i (e_lenSt _) ?_
    rw [show (n : Int) - (s.length : Int) = ((n - s.length : Nat) : Int) by omega]
    refine s_make (n := n - s.length) hs rfl rfl (by omega) (by omega) fun sv C _ _ hs => ?_
    rw [fill_zs] at hs
    refine vb_i (bytes_str hs.o0.view) ?_
    repeat first
    | ((with_reducible refine vb_i (adds ?_) ?_); (· simp [zs]; omega))
    have e : s ++ zs (n - s.length) = full s n := by
      unfold full
      split
      · rw [show n - s.length = 0 by omega]; simp [zs]
      · rfl
    rw [e]
    exact fin_ret (rvs_v (rvs_v (rvs_nil _))) ⟨hs.pre fun _ x => x, rfl, hs.pre fun _ x => x⟩)
  exact ⟨C, h, k⟩
end
end Go.Sh

/- Numbers in rows; the document's numbers. -/
namespace Go.Sh
open Go Go.Abs

section
variable {H0 B : AHeap} {own : Nat → Prop} {R : List Part}
theorem be_Row_1_spec {w n pw pb m : Nat} {sv : AVal} {bs : List UInt8} (h0 : Sep H0 own B (.obj pw (.cells 0 .exact [.int .i64 w]) :: .obj pb (.cells 0 .exact [sv]) :: .sl sv 1 m (bs.map ofByte) :: R))
    (hm : bs.length = m) (hm2 : m ≤ 4096) (h1 : 1 ≤ w) (h8 : w ≤ 7) (hn : n < 2 ^ (8 * w)) :
    ∃ C, S_be_Row_1 [.int .i64 n, .ptr ⟨pw, 0, 0⟩, .ptr ⟨pb, 0, 0⟩] B (.int .i64 0) C ∧
      ∃ sv', Sep H0 own C (.obj pw (.cells 0 .exact [.int .i64 w]) :: .obj pb (.cells 0 .exact [sv']) :: .sl sv' 1 (m + w) ((bs ++ beB w n).map ofByte) :: R) := by
  obtain ⟨r, C, h, rfl, k⟩ := be_Row_1.out (x0 := .int .i64 n) (x1 := .ptr ⟨pw, 0, 0⟩) (x2 := .ptr ⟨pb, 0, 0⟩) (H := B)
    (Q := fun r C => r = .int .i64 0 ∧ ∃ sv', Sep H0 own C (.obj pw (.cells 0 .exact [.int .i64 w]) :: .obj pb (.cells 0 .exact [sv']) :: .sl sv' 1 (m + w) ((bs ++ beB w n).map ofByte) :: R)) (by
    unfold be_Row_1.w
    have hs := h0
    repeat first
    | ((with_reducible apply vb_ld); (· first | exact hs.g0 | exact hs.g1 | exact hs.g2 | exact hs.g3 | exact hs.g4 | exact hs.g5 | exact hs.g6 | exact hs.rd hg | exact hs.rd hg2 | exact hs.rd hg3 | exact hs.rd hg4 | assumption); (· rfl))
    obtain ⟨C, hc, k⟩ := be_Put_spec (B := B) h1 h8 hn
    refine cb_i _ _ hc ?_
    have hs := h0.quiet k
    repeat first
    | with_reducible refine vb_i e_ext0 ?_
    | with_reducible refine vb_i e_ext1 ?_
    | ((with_reducible apply vb_ld); (· first | exact hs.g0 | exact hs.g1 | exact hs.g2 | exact hs.g3 | exact hs.g4 | exact hs.g5 | exact hs.g6 | exact hs.rd hg | exact hs.rd hg2 | exact hs.rd hg3 | exact hs.rd hg4 | assumption); (· rfl))
    refine s_apps hs.f2 (by rw [beB_len]; unfold room; omega) (by rw [beB_len]; unfold room; omega) fun sv' _ hs => ?_
    have hsc := hs.o0.sc
    repeat first
    | ((with_reducible first | apply s_store1 hs | apply s_store1 hs.f1 | apply s_store1 hs.f2 | apply s_store1 hs.f3); (· rfl); (· first | rfl | assumption); (· simp only [List.length_cons, List.length_nil]; omega); intro _ hs; try simp only [List.set_cons_zero, List.set_cons_succ, Nat.add_zero, Nat.zero_add] at hs)
    have hs := hs.f2
    rw [beB_len, ← List.map_append] at hs
    exact fin_ret (rvs_v (rvs_nil _)) ⟨rfl, sv', hs⟩)
  exact ⟨C, h, k⟩
theorem be_Row_spec {w : Nat} {x : AVal} {l : List Nat} (hv : View B x 1 l.length (nums l)) (hl : l.length ≤ 512) (h1 : 1 ≤ w) (h8 : w ≤ 7) (hn : ∀ n ∈ l, n < 2 ^ (8 * w)) :
    ∃ C, S_be_Row [.int .i64 w, x] B (.tup [.str (l.map (beB w)).flatten, .int .i64 0]) C ∧ B <+: C := by
  obtain ⟨r, C, h, rfl, k⟩ := be_Row.out (x0 := .int .i64 w) (x1 := x) (H := B) (Q := fun r C => r = .tup [.str (l.map (beB w)).flatten, .int .i64 0] ∧ B <+: C) (by
    unfold be_Row.w
    have hs : Sep B (fun _ => False) B [] := Sep.start B
    refine s_box hs rfl fun pw C1 _ hs => ?_
    simp only [AVal.cells] at hs
    repeat first
    | ((with_reducible refine isB_cf ?_ ?_); (· omega))
    | with_reducible refine vb_i (gtr64 _ _ _) ?_
    | ((with_reducible apply vb_len); (· first | exact hs.o0.view | exact hs.o1.view | exact hs.o2.view | exact hs.o3.view | exact hs.o4.view | exact hs.o5.view | exact hs.o6.view | exact hs.rv hv | exact hs.rv hv2 | exact hs.rv hv3 | exact hs.rv hv4 | exact hs.view hkv hko | assumption))
    refine JoinP.mk (fun e vs C => e = .normal ∧ C1 = C) ?_ ?_
    · repeat first
      | ((with_reducible refine isB_cf ?_ ?_); (· omega))
      | with_reducible refine vb_i (lss64 _ _ _) ?_
      | with_reducible refine vb_i (gtr64 _ _ _) ?_
      | ((with_reducible apply vb_ld); (· first | exact hs.g0 | exact hs.g1 | exact hs.g2 | exact hs.g3 | exact hs.g4 | exact hs.g5 | exact hs.g6 | exact hs.rd hg | exact hs.rd hg2 | exact hs.rd hg3 | exact hs.rd hg4 | assumption); (· rfl))
      exact ⟨rfl, rfl⟩
    rintro e vs C ⟨rfl, rfl⟩
    refine onE_i ?_
    refine s_alloc hs fun pb C2 _ hs => ?_
    have hs := (s_nils hs 1).f1.f2
    repeat first
    | ((with_reducible apply vb_len); (· first | exact hs.o0.view | exact hs.o1.view | exact hs.o2.view | exact hs.o3.view | exact hs.o4.view | exact hs.o5.view | exact hs.o6.view | exact hs.rv hv | exact hs.rv hv2 | exact hs.rv hv3 | exact hs.rv hv4 | exact hs.view hkv hko | assumption))
    refine LoopP.ruleG (α := Nat) (fun j => [.int .i64 (j : Int)]) (fun j C => j ≤ l.length ∧ ∃ sv, Sep B (fun _ => False) C [.obj pw (.cells 0 .exact [.int .i64 w]), .obj pb (.cells 0 .exact [sv]), .sl sv 1 (j * w) ((((l.take j).map (beB w)).flatten).map ofByte)]) (fun j => l.length - j) 0 (by simp)
      ⟨by omega, .nils, by simpa using hs⟩ ?_
    clear hs
    rintro j C Kn ⟨hj, sv, hs⟩ hk
    unfold be_Row.L8 be_Row.L8.b
    try simp only [evB]
    by_cases hjn : j < l.length
    · have hx : (nums l)[j]? = some (.int .i64 (l[j] : Int)) := by simp [nums, List.getElem?_eq_getElem hjn]
      have hfl : (((l.take j).map (beB w)).flatten).length = j * w := by
        rw [List.length_flatten, List.map_map]
        have : (List.length ∘ beB w) = fun _ => w := by funext n; exact beB_len w n
        rw [this, List.map_const', List.sum_replicate_nat, List.length_take, Nat.min_eq_left (by omega)]
      have hjw : j * w ≤ 512 * 7 := Nat.mul_le_mul (by omega) h8
      repeat first
      | ((with_reducible refine isB_ct ?_ ?_); (· omega))
      | with_reducible refine vb_i (lss64 _ _ _) ?_
      | ((with_reducible apply vb_addrN); (· first | exact hs.o0.view | exact hs.o1.view | exact hs.o2.view | exact hs.o3.view | exact hs.o4.view | exact hs.o5.view | exact hs.o6.view | exact hs.rv hv | exact hs.rv hv2 | exact hs.rv hv3 | exact hs.rv hv4 | exact hs.view hkv hko | assumption); (· omega))
      | ((with_reducible apply vb_el0); (· first | exact hs.o0.view | exact hs.o1.view | exact hs.o2.view | exact hs.o3.view | exact hs.o4.view | exact hs.o5.view | exact hs.o6.view | exact hs.rv hv | exact hs.rv hv2 | exact hs.rv hv3 | exact hs.rv hv4 | exact hs.view hkv hko | assumption); (· first | exact hx | exact hx2 | assumption))
      obtain ⟨C2, hc, sv', k⟩ := be_Row_1_spec hs hfl (by omega) h1 h8 (hn _ (List.getElem_mem hjn))
      refine cb_i _ _ hc ?_
      have hs := k
      repeat first
      | ((with_reducible refine isB_cf ?_ ?_); (· omega))
      | with_reducible refine vb_i (neq64 _ _ _) ?_
      | ((with_reducible refine vb_i (add64 ?_ ?_) ?_); (· omega); (· omega))
      refine hk (j + 1) _ ⟨by omega, sv', ?_⟩ (by omega)
      rw [List.take_succ_eq_append_getElem hjn, List.map_append, List.flatten_append, Nat.succ_mul]
      simpa using hs
    · obtain rfl : j = l.length := by omega
      rw [List.take_length] at hs
      repeat first
      | ((with_reducible refine isB_cf ?_ ?_); (· omega))
      | with_reducible refine onE_i ?_
      | with_reducible refine vb_i (lss64 _ _ _) ?_
      | ((with_reducible apply vb_ld); (· first | exact hs.g0 | exact hs.g1 | exact hs.g2 | exact hs.g3 | exact hs.g4 | exact hs.g5 | exact hs.g6 | exact hs.rd hg | exact hs.rd hg2 | exact hs.rd hg3 | exact hs.rd hg4 | assumption); (· rfl))
      try simp only [evB]
      skip
      refine vb_i (bytes_str hs.o2.view) ?_
      exact fin_ret (rvs_v (rvs_v (rvs_nil _))) ⟨hs.pre fun _ x => x, rfl, hs.pre fun _ x => x⟩)
  exact ⟨C, h, k⟩
end
end Go.Sh

/- The document's numbers; the same texts? -/
namespace Go.Sh
open Go Go.Abs

section
variable {B : AHeap}
theorem view_row {B : AHeap} {i n : Nat} {kd : Kd} {cs : List AVal} (h : B[i]? = some (.cells 0 kd cs)) (hl : cs.length = n) : View B (.slice ⟨i, 0, 0⟩ n (.ex n)) 1 n cs :=
  ⟨by omega, .inr ⟨i, 0, 0, _, kd, cs, rfl, h, fun _ => by omega, by simp [← hl], Nat.le_refl _⟩⟩
theorem strs_atR {l : List (List UInt8)} {j : Nat} (h : j < l.length) : (strs l)[j]? = some (.str (l.getD j [])) := by
  simp [strs, List.getD_eq_getElem?_getD, List.getElem?_eq_getElem h]
/-- The same so far. -/
def upSame {α : Type} (l k : List α) (j : Nat) : Prop := l.take j = k.take j
theorem upSame_step {α : Type} {l k : List α} {j : Nat} {x : α} (h : upSame l k j) (h1 : l[j]? = some x) (h2 : k[j]? = some x) : upSame l k (j + 1) := by
  unfold upSame at *
  rw [List.take_add_one, List.take_add_one, h, h1, h2]
theorem upSame_end {α : Type} {l k : List α} (h : upSame l k l.length) (hl : l.length = k.length) : l = k := by
  unfold upSame at h
  rw [List.take_length, hl, List.take_length] at h; exact h
theorem getD_some {α : Type} {l : List α} {j : Nat} {d : α} (h : j < l.length) : l[j]? = some (l.getD j d) := by
  rw [List.getD_eq_getElem?_getD, List.getElem?_eq_getElem h]; rfl
end
end Go.Sh

/- Records over abstract values. -/
namespace Go.Sh
open Go Go.Abs

structure Pt where
  pos : Int
  b : List UInt8
  deriving DecidableEq
structure Rcd where
  seq : Int
  root : List UInt8
  puts : List Pt
  deriving DecidableEq
def ptc (p : Pt) : List AVal := [.int .i64 p.pos, .str p.b]
theorem ptc_len (p : Pt) : (ptc p).length = 2 := rfl
def rcells (q : Rcd) (x : AVal) : List AVal := .int .i64 q.seq :: (q.root.map ofByte ++ [x])
/-- A record's value. -/
def recV (q : Rcd) (x : AVal) : AVal := .agg (rcells q x)
/-- .. that reads so. -/
def RecAt (B : AHeap) (q : Rcd) (x : AVal) : Prop := q.root.length = 32 ∧ View B x 2 q.puts.length (flat ptc q.puts)
section
variable {H : AHeap} {K : AVal → Prop} {i v m : Nat} {kd : Kd} {q : Rcd} {x : AVal}
theorem rcells_len (h : q.root.length = 32) : (rcells q x).length = 34 := by simp [rcells, h]
theorem vb_rec0 (h : H[i]? = some (.cells v kd (rcells q x))) (k : K (.int .i64 q.seq)) : vb (aLoad H false m (.ptr ⟨i, v, 0⟩)) K := vb_ld h rfl k
theorem vb_rec33 (h : H[i]? = some (.cells v kd (rcells q x))) (hr : q.root.length = 32) (k : K x) : vb (aLoad H false m (.ptr ⟨i, v, 33⟩)) K :=
  vb_ld h (by unfold rcells; rw [List.getElem?_cons_succ, List.getElem?_append_right (by simp [hr])]; simp [hr]) k
theorem vb_recR (h : H[i]? = some (.cells v kd (rcells q x))) (hr : q.root.length = 32) (k : K (.agg (q.root.map ofByte))) : vb (aLoad H true 32 (.ptr ⟨i, v, 1⟩)) K :=
  vb_ldP h (by rw [rcells_len hr]; rfl) (by unfold rcells; rw [List.drop_succ_cons, List.drop_zero, List.take_left' (by simp [hr])]) k
theorem vb_recA (h : H[i]? = some (.cells v kd (rcells q x))) (hr : q.root.length = 32) (hv : v = 0) (k : K (recV q x)) : vb (aLoad H true 34 (.ptr ⟨i, v, 0⟩)) K := by
  subst hv
  exact vb_ldA h (rcells_len hr) k
theorem e_nePt {a b : Pt} : aEql true (.agg [.int, .str]) H (.agg (ptc a)) (.agg (ptc b)) = some (.bool (decide (a ≠ b))) := by
  have e : aEql true (.agg [.int, .str]) H (.agg (ptc a)) (.agg (ptc b)) = some (.bool (true != (decide (a.pos = b.pos) && (decide (a.b = b.b) && true)))) := by
    by_cases h1 : a.pos = b.pos <;> by_cases h2 : a.b = b.b <;> simp [aEql, aEq, ptc, eqCells, eqCell, h1, h2]
  rw [e]
  congr 2
  rw [Bool.eq_iff_iff]
  obtain ⟨a1, a2⟩ := a
  obtain ⟨b1, b2⟩ := b
  simp
end
end Go.Sh

/- Are two records the same? -/
namespace Go.Sh
open Go Go.Abs

section
variable {B : AHeap}
theorem equal_strs {x y : AVal} {l k : List (List UInt8)} (hv : View B x 1 l.length (strs l)) (hv2 : View B y 1 k.length (strs k)) (hl : l.length ≤ 9223372036854775807) :
    ∃ C, S_slices_Equal_string_string [x, y] B (.bool (decide (l = k))) C ∧ B <+: C := by
  obtain ⟨r, C, h, rfl, k⟩ := slices_Equal_string_string.out (x0 := x) (x1 := y) (H := B) (Q := fun r C => r = .bool (decide (l = k)) ∧ B <+: C) (by
    unfold slices_Equal_string_string.w
    have hs : Sep B (fun _ => False) B [] := Sep.start B
    repeat first
    | with_reducible refine vb_i (neq64 _ _ _) ?_
    | ((with_reducible apply vb_len); (· first | exact hs.o0.view | exact hs.o1.view | exact hs.o2.view | exact hs.o3.view | exact hs.o4.view | exact hs.o5.view | exact hs.o6.view | exact hs.rv hv | exact hs.rv hv2 | exact hs.rv hv3 | exact hs.rv hv4 | exact hs.view hkv hko | assumption))
    by_cases hlk : l.length = k.length
    · repeat first
      | ((with_reducible refine isB_cf ?_ ?_); (· omega))
      | ((with_reducible apply vb_len); (· first | exact hs.o0.view | exact hs.o1.view | exact hs.o2.view | exact hs.o3.view | exact hs.o4.view | exact hs.o5.view | exact hs.o6.view | exact hs.rv hv | exact hs.rv hv2 | exact hs.rv hv3 | exact hs.rv hv4 | exact hs.view hkv hko | assumption))
      refine LoopP.ruleG (α := Nat) (fun j => [.int .i64 (j : Int)]) (fun j C => (j ≤ l.length ∧ upSame l k j) ∧ B = C) (fun j => l.length - j) 0 (by simp) ⟨⟨by omega, by simp [upSame]⟩, rfl⟩ ?_
      rintro j C Kn ⟨⟨hj, hu⟩, rfl⟩ hk
      unfold slices_Equal_string_string.L4 slices_Equal_string_string.L4.b
      try simp only [evB]
      by_cases hjn : j < l.length
      · have hx := strs_atR hjn
        have hx2 := strs_atR (l := k) (j := j) (by omega)
        repeat first
        | ((with_reducible refine isB_ct ?_ ?_); (· omega))
        | with_reducible refine vb_i (lss64 _ _ _) ?_
        | with_reducible refine vb_i (neqs _ _) ?_
        | ((with_reducible apply vb_addrN); (· first | exact hs.o0.view | exact hs.o1.view | exact hs.o2.view | exact hs.o3.view | exact hs.o4.view | exact hs.o5.view | exact hs.o6.view | exact hs.rv hv | exact hs.rv hv2 | exact hs.rv hv3 | exact hs.rv hv4 | exact hs.view hkv hko | assumption); (· omega))
        | ((with_reducible apply vb_el0); (· first | exact hs.o0.view | exact hs.o1.view | exact hs.o2.view | exact hs.o3.view | exact hs.o4.view | exact hs.o5.view | exact hs.o6.view | exact hs.rv hv | exact hs.rv hv2 | exact hs.rv hv3 | exact hs.rv hv4 | exact hs.view hkv hko | assumption); (· first | exact hx | exact hx2 | assumption))
        refine isB_c (fun h1 => ?_) (fun h1 => ?_)
        · repeat first
          | with_reducible refine onE_i ?_
          | ((with_reducible refine onE_s ?_ ?_); (· decide))
          try simp only [evB]
          have : ¬ l = k := fun e => h1 (by rw [e])
          rw [decide_eq_false this]
          exact fin_ret (rvs_v (rvs_nil _)) ⟨List.prefix_refl _, rfl, List.prefix_refl _⟩
        · have h1 := Decidable.not_not.1 h1
          repeat first
          | ((with_reducible refine vb_i (add64 ?_ ?_) ?_); (· omega); (· omega))
          exact hk (j + 1) _ ⟨⟨by omega, upSame_step hu (getD_some hjn) (by rw [h1]; exact getD_some (by omega))⟩, rfl⟩ (by omega)
      · obtain rfl : j = l.length := by omega
        repeat first
        | ((with_reducible refine isB_cf ?_ ?_); (· omega))
        | with_reducible refine onE_i ?_
        | with_reducible refine vb_i (lss64 _ _ _) ?_
        try simp only [evB]
        rw [decide_eq_true (upSame_end hu hlk)]
        exact fin_ret (rvs_v (rvs_nil _)) ⟨List.prefix_refl _, rfl, List.prefix_refl _⟩
    · repeat first
      | ((with_reducible refine isB_ct ?_ ?_); (· omega))
      have : ¬ l = k := fun e => hlk (by rw [e])
      rw [decide_eq_false this]
      exact fin_ret (rvs_v (rvs_nil _)) ⟨List.prefix_refl _, rfl, List.prefix_refl _⟩)
  exact ⟨C, h, k⟩
theorem rec_eq {p q : Rcd} : p = q ↔ p.seq = q.seq ∧ p.root = q.root ∧ p.puts = q.puts := by
  obtain ⟨a, b, c⟩ := p
  obtain ⟨d, e, f⟩ := q
  simp
end
end Go.Sh

/- May a record be? -/
namespace Go.Sh
open Go Go.Abs

def okP (last : Int) (p : Pt) : Prop := last < p.pos ∧ p.pos < 288 ∧ p.b.length = 64
instance (last : Int) (p : Pt) : Decidable (okP last p) := by unfold okP; infer_instance
def okF : Int → List Pt → Bool
  | _, [] => true
  | last, p :: l => decide (okP last p) && okF p.pos l
def okSeq (q : Rcd) : Prop := 0 ≤ q.seq ∧ q.seq ≤ 4294967295
instance (q : Rcd) : Decidable (okSeq q) := by unfold okSeq; infer_instance
def goodR (q : Rcd) : Bool := decide (okSeq q) && okF 160 q.puts
def checkE (q : Rcd) : Int := if 64 < q.puts.length then 4 else if goodR q = true then 0 else 2
def lengthR (n : Int) : Int := if n < 0 ∨ 64 < n then 0 else 1 + (n + 31) / 32 + n
section
variable {B : AHeap}
theorem length_spec (n : Int) : ∃ C, S_record_Length [.int .i64 n] B (.int .i64 (lengthR n)) C ∧ B <+: C := by
  obtain ⟨r, C, h, rfl, k⟩ := record_Length.out (x0 := .int .i64 n) (H := B) (Q := fun r C => r = .int .i64 (lengthR n) ∧ B <+: C) (by
    unfold record_Length.w
    have hs : Sep B (fun _ => False) B [] := Sep.start B
    refine JoinP.mk (fun e vs C => B = C ∧ ((e = .ret ∧ vs = [.int .i64 0] ∧ (n < 0 ∨ 64 < n)) ∨ (e = .normal ∧ ¬ (n < 0 ∨ 64 < n)))) ?_ ?_
    · repeat first
      | with_reducible refine vb_i (lss64 _ _ _) ?_
      refine isB_c (fun h1 => ?_) (fun h1 => ?_)
      · exact ⟨rfl, .inl ⟨rfl, rfl, .inl h1⟩⟩
      · repeat first
        | with_reducible refine vb_i (gtr64 _ _ _) ?_
        refine isB_c (fun h2 => ?_) (fun h2 => ?_)
        · exact ⟨rfl, .inl ⟨rfl, rfl, .inr h2⟩⟩
        · exact ⟨rfl, .inr ⟨rfl, by omega⟩⟩
    rintro e vs C ⟨rfl, ⟨rfl, rfl, h1⟩ | ⟨rfl, h1⟩⟩
    · repeat first
      | with_reducible refine onE_i ?_
      | ((with_reducible refine onE_s ?_ ?_); (· decide))
      try simp only [evB]
      refine fin_ret (rvs_v (rvs_nil _)) ⟨List.prefix_refl _, ?_, List.prefix_refl _⟩
      unfold lengthR; rw [if_pos h1]; rfl
    · repeat first
      | with_reducible refine onE_i ?_
      | ((with_reducible refine vb_i (add64 ?_ ?_) ?_); (· omega); (· omega))
      | ((with_reducible refine vb_i (sub64 ?_ ?_) ?_); (· omega); (· omega))
      | ((with_reducible refine vb_i (quo64 ?_ ?_ ?_) ?_); (· omega); (· omega); (· omega))
      refine fin_ret (rvs_v (rvs_nil _)) ⟨List.prefix_refl _, ?_, List.prefix_refl _⟩
      unfold lengthR; rw [if_neg h1, show n + 32 - 1 = n + 31 by omega]; rfl)
  exact ⟨C, h, k⟩
theorem check_spec {x : AVal} {q : Rcd} (hq : RecAt B q x) (hl : q.puts.length ≤ 9223372036854775807) : ∃ C, S_record_Check [recV q x] B (.int .i64 (checkE q)) C ∧ B <+: C := by
  obtain ⟨hr, hv⟩ := hq
  obtain ⟨r, C, h, rfl, k⟩ := record_Check.out (x0 := recV q x) (H := B) (Q := fun r C => r = .int .i64 (checkE q) ∧ B <+: C) (by
    unfold record_Check.w
    have hs : Sep B (fun _ => False) B [] := Sep.start B
    refine s_box hs rfl fun i C1 _ hs => ?_
    simp only [recV, AVal.cells] at hs
    repeat first
    | ((with_reducible apply vb_rec33); (· exact hs.g0); (· assumption))
    | with_reducible refine vb_i (gtr64 _ _ _) ?_
    | with_reducible refine vb_i (e_fieldAddr _ _) ?_
    | ((with_reducible apply vb_len); (· first | exact hs.o0.view | exact hs.o1.view | exact hs.o2.view | exact hs.o3.view | exact hs.o4.view | exact hs.o5.view | exact hs.o6.view | exact hs.rv hv | exact hs.rv hv2 | exact hs.rv hv3 | exact hs.rv hv4 | exact hs.view hkv hko | assumption))
    by_cases h64 : 64 < q.puts.length
    · repeat first
      | ((with_reducible refine isB_ct ?_ ?_); (· omega))
      refine fin_ret (rvs_v (rvs_nil _)) ⟨hs.pre fun _ x => x, ?_, hs.pre fun _ x => x⟩
      unfold checkE; rw [if_pos h64]; rfl
    repeat first
    | ((with_reducible refine isB_cf ?_ ?_); (· omega))
    refine JoinP.mk (fun e vs C => C1 = C ∧ ((e = .ret ∧ vs = [.int .i64 2] ∧ ¬ okSeq q) ∨ (e = .normal ∧ vs = [.int .i64 0] ∧ okSeq q))) ?_ ?_
    · repeat first
      | ((with_reducible apply vb_rec0); (· exact hs.g0))
      | with_reducible refine vb_i (lss64 _ _ _) ?_
      | with_reducible refine vb_i (e_fieldAddr _ _) ?_
      refine isB_c (fun h1 => ?_) (fun h1 => ?_)
      · exact ⟨rfl, .inl ⟨rfl, rfl, fun h => by unfold okSeq at h; omega⟩⟩
      · repeat first
        | ((with_reducible apply vb_rec0); (· exact hs.g0))
        | with_reducible refine vb_i (gtr64 _ _ _) ?_
        | with_reducible refine vb_i (e_fieldAddr _ _) ?_
        refine isB_c (fun h2 => ?_) (fun h2 => ?_)
        · exact ⟨rfl, .inl ⟨rfl, rfl, fun h => by unfold okSeq at h; omega⟩⟩
        · exact ⟨rfl, .inr ⟨rfl, rfl, by unfold okSeq; omega⟩⟩
    rintro e vs C ⟨rfl, ⟨rfl, rfl, h1⟩ | ⟨rfl, rfl, h1⟩⟩
    · repeat first
      | with_reducible refine onE_i ?_
      | ((with_reducible refine onE_s ?_ ?_); (· decide))
      try simp only [evB]
      refine fin_ret (rvs_v (rvs_nil _)) ⟨hs.pre fun _ x => x, ?_, hs.pre fun _ x => x⟩
      unfold checkE goodR; rw [if_neg h64, decide_eq_false h1]; rfl
    repeat first
    | ((with_reducible apply vb_rec33); (· exact hs.g0); (· assumption))
    | with_reducible refine onE_i ?_
    | with_reducible refine vb_i (e_fieldAddr _ _) ?_
    | ((with_reducible apply vb_len); (· first | exact hs.o0.view | exact hs.o1.view | exact hs.o2.view | exact hs.o3.view | exact hs.o4.view | exact hs.o5.view | exact hs.o6.view | exact hs.rv hv | exact hs.rv hv2 | exact hs.rv hv3 | exact hs.rv hv4 | exact hs.view hkv hko | assumption))
    refine LoopP.ruleG (α := Int × Nat) (fun a => [.int .i64 a.1, .int .i64 (a.2 : Int)]) (fun a C => a.2 ≤ q.puts.length ∧ okF 160 q.puts = okF a.1 (q.puts.drop a.2) ∧ Sep B (fun _ => False) C []) (fun a => q.puts.length - a.2) (160, 0) (by simp)
      ⟨by omega, by simp, hs.tail⟩ ?_
    clear hs
    rintro ⟨last, j⟩ C Kn ⟨hj, hok, hs⟩ hk
    unfold record_Check.L7 record_Check.L7.b
    try simp only [evB]
    by_cases hjn : j < q.puts.length
    · have hb := List.getElem?_eq_getElem hjn
      rw [List.drop_eq_getElem_cons hjn] at hok
      generalize q.puts[j] = p at hb hok
      repeat first
      | ((with_reducible refine isB_ct ?_ ?_); (· omega))
      | with_reducible refine vb_i (lss64 _ _ _) ?_
      | ((with_reducible apply vb_addrN); (· first | exact hs.o0.view | exact hs.o1.view | exact hs.o2.view | exact hs.o3.view | exact hs.o4.view | exact hs.o5.view | exact hs.o6.view | exact hs.rv hv | exact hs.rv hv2 | exact hs.rv hv3 | exact hs.rv hv4 | exact hs.view hkv hko | assumption); (· omega))
      refine vb_i (el_ldN ptc_len (hs.rv hv) hb) ?_
      refine s_alloc hs fun t C2 _ hs => ?_
      refine s_storeA hs rfl rfl rfl rfl fun C3 hs => ?_
      refine JoinP.mk (fun e vs D => C3 = D ∧ ((e = .ret ∧ vs = [.int .i64 2] ∧ ¬ okP last p) ∨ (e = .normal ∧ okP last p))) ?_ ?_
      · repeat first
        | with_reducible refine vb_i (leq64 _ _ _) ?_
        | with_reducible refine vb_i (e_fieldAddr _ _) ?_
        | ((with_reducible apply vb_ld); (· first | exact hs.g0 | exact hs.g1 | exact hs.g2 | exact hs.g3 | exact hs.g4 | exact hs.g5 | exact hs.g6 | exact hs.rd hg | exact hs.rd hg2 | exact hs.rd hg3 | exact hs.rd hg4 | assumption); (· rfl))
        refine isB_c (fun h1 => ?_) (fun h1 => ?_)
        · exact ⟨rfl, .inl ⟨rfl, rfl, fun h => by unfold okP at h; omega⟩⟩
        repeat first
        | with_reducible refine vb_i (geq64 _ _ _) ?_
        | with_reducible refine vb_i (e_fieldAddr _ _) ?_
        | ((with_reducible apply vb_ld); (· first | exact hs.g0 | exact hs.g1 | exact hs.g2 | exact hs.g3 | exact hs.g4 | exact hs.g5 | exact hs.g6 | exact hs.rd hg | exact hs.rd hg2 | exact hs.rd hg3 | exact hs.rd hg4 | assumption); (· rfl))
        refine isB_c (fun h2 => ?_) (fun h2 => ?_)
        · exact ⟨rfl, .inl ⟨rfl, rfl, fun h => by unfold okP at h; omega⟩⟩
        repeat first
        | with_reducible refine vb_i (neq64 _ _ _) ?_
        | with_reducible refine vb_i (e_lenSt _) ?_
        | with_reducible refine vb_i (e_fieldAddr _ _) ?_
        | ((with_reducible apply vb_ld); (· first | exact hs.g0 | exact hs.g1 | exact hs.g2 | exact hs.g3 | exact hs.g4 | exact hs.g5 | exact hs.g6 | exact hs.rd hg | exact hs.rd hg2 | exact hs.rd hg3 | exact hs.rd hg4 | assumption); (· rfl))
        refine isB_c (fun h3 => ?_) (fun h3 => ?_)
        · exact ⟨rfl, .inl ⟨rfl, rfl, fun h => by unfold okP at h; omega⟩⟩
        · exact ⟨rfl, .inr ⟨rfl, by unfold okP; omega⟩⟩
      rintro e vs D ⟨rfl, ⟨rfl, rfl, h2⟩ | ⟨rfl, h2⟩⟩
      · repeat first
        | with_reducible refine onE_i ?_
        | ((with_reducible refine onE_s ?_ ?_); (· decide))
        try simp only [evB]
        skip
        refine fin_ret (rvs_v (rvs_nil _)) ⟨hs.pre fun _ x => x, ?_, hs.pre fun _ x => x⟩
        unfold checkE goodR; rw [if_neg h64, hok, okF, decide_eq_false h2]; simp [tup1]
      · repeat first
        | with_reducible refine onE_i ?_
        | ((with_reducible refine vb_i (add64 ?_ ?_) ?_); (· omega); (· omega))
        | with_reducible refine vb_i (e_fieldAddr _ _) ?_
        | ((with_reducible apply vb_ld); (· first | exact hs.g0 | exact hs.g1 | exact hs.g2 | exact hs.g3 | exact hs.g4 | exact hs.g5 | exact hs.g6 | exact hs.rd hg | exact hs.rd hg2 | exact hs.rd hg3 | exact hs.rd hg4 | assumption); (· rfl))
        refine hk (p.pos, j + 1) _ ⟨by show j + 1 ≤ _; omega, ?_, hs.tail⟩ (by show q.puts.length - (j + 1) < q.puts.length - j; omega)
        rw [hok, okF, decide_eq_true h2]; rfl
    · obtain rfl : j = q.puts.length := by omega
      repeat first
      | ((with_reducible refine isB_cf ?_ ?_); (· omega))
      | with_reducible refine onE_i ?_
      | with_reducible refine vb_i (lss64 _ _ _) ?_
      try simp only [evB]
      skip
      refine fin_ret (rvs_v (rvs_nil _)) ⟨hs.pre fun _ x => x, ?_, hs.pre fun _ x => x⟩
      unfold checkE goodR; rw [if_neg h64, hok, List.drop_length, okF, decide_eq_true h1]; rfl)
  exact ⟨C, h, k⟩
end
end Go.Sh
