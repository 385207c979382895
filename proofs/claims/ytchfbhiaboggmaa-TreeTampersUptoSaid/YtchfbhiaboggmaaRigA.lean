/- One text of these: Rig0, RigW1, RigP1, RigP2, RigP3, RigP4, RigP5. -/
import Derived.Test.YtchfbhiaboggmaaDev
import Derived.Test.YtchfbhiaboggmaaAbsH
import Derived.Test.YtchfbhiaboggmaaNum

/- Rigs: two devices, a register, and what is to come. -/
namespace Go.Sh
open Go Go.Abs

end Go.Sh

/- What Go functions come to over abstract values, printed by a program (wx.py); of each function its own text is what is told of it. -/
namespace Go.Sh
open Go Go.Abs

def rig_New.L3.b (v5 : AVal) (x7_3 : AVal) (H7 : AHeap) (Kn8 : List AVal → AHeap → Prop) (Ke9 : AExit → List AVal → AHeap → Prop) : Prop :=
 vb (aBin .lss x7_3 (.int .i64 2)) fun v10 =>
 isB v10 fun b11 => cond b11
 (cb (S_dev_New [.int .i64 288] H7) fun v12 H13 =>
 vb (aExtract v12 0) fun v14 =>
 vb (aExtract v12 1) fun v15 =>
 vb (aNilCheck v5) fun v16 =>
 vb (aFieldAddr 0 v16) fun v17 =>
 vb (aIndexAddrArr 2 1 v17 x7_3) fun v18 =>
 sb (aStore H13 1 v18 v14) fun H19 =>
 vb (aBin .add x7_3 (.int .i64 1)) fun v20 =>
 Kn8 [v20] H19)
 (Ke9 (.exit 0) [] H7)

def rig_New.L3 (v5 : AVal) : Body := fun vs H Kn Ke => rig_New.L3.b v5 (vs.getD 0 .undef) H Kn Ke

def rig_New.w (H : AHeap) (K : AVal → AHeap → Prop) : Prop :=
 hb (aMakeSlice H 1 [.int .u8 0] (.int .i64 96) (.int .i64 96)) fun v1 H2 =>
 vb (aBytes2Str H2 v1) fun v3 =>
 vb (aBuild [.nilp, .nilp, .str [], .bool false, .int .i64 0, .int .i64 0, .int .i64 0, .int .i64 0, .int .i64 0, .int .i64 0, .str []] (fun k => ([(0, 2), (2, 1), (3, 1), (4, 1), (5, 1), (6, 1), (7, 1), (8, 3)] : List (Nat × Nat))[k]?) [(1, v3)]) fun v4 =>
 hb (aBox H2 v4) fun v5 H6 =>
 LoopP (rig_New.L3 v5) [.int .i64 0] H6 fun e21 vs22 H23 =>
 onE e21 (.exit 0)
 (fin .ret [.v (v5)] H23 K)
 (False)

def S_rig_New : Abs.Spec := fun args H r H' => args = [] ∧ (rig_New.w H fun r1 H1 => r1 = r ∧ H1 = H') ∧ H <+: H'
theorem rig_New.ok (args : List AVal) (H : AHeap) (r : AVal) (H' : AHeap) (h : S_rig_New args H r H') : args = [] ∧ rig_New.w H fun r1 H1 => r1 = r ∧ H1 = H' := by
  obtain ⟨h1, h2, _⟩ := h
  exact ⟨h1, h2⟩
theorem rig_New.quiet {args : List AVal} {H : AHeap} {r : AVal} {H' : AHeap} (h : S_rig_New args H r H') : H <+: H' := by
  obtain ⟨_, _, h⟩ := h
  exact h
set_option maxRecDepth 100000 in
theorem rig_New.ex (H : AHeap) : Ex fun K : AVal × AHeap → Prop => rig_New.w H fun r H => K (r, H) := by
  unfold rig_New.w
  repeat with_reducible first
    | exact Ex.pt _
    | exact Ex.fin
    | exact Ex.no
    | refine Ex.vb fun _ => ?_
    | refine Ex.hb fun _ _ => ?_
    | refine Ex.sb fun _ => ?_
    | refine Ex.cb fun _ _ => ?_
    | refine Ex.isB fun _ => ?_
    | refine Ex.cond ?_ ?_
    | refine Ex.onE ?_ ?_
    | refine Ex.join ?_ fun _ _ _ => ?_
    | refine Ex.loop (fun _ _ => ?_) fun _ _ _ => ?_
    | (unfold rig_New.L3; unfold rig_New.L3.b)

theorem rig_New.out {H : AHeap} {Q : AVal → AHeap → Prop} (h : rig_New.w H fun r H' => (H <+: H') ∧ Q r H') : ∃ r H', S_rig_New [] H r H' ∧ Q r H' := by
  obtain ⟨r, H', h1, h2⟩ := (rig_New.ex H).out h
  exact ⟨r, H', ⟨rfl, h1, h2.1⟩, h2.2⟩

def rig_Rig_may.w (x0 : AVal) (x1 : AVal) (x2 : AVal) (H : AHeap) (K : AVal → AHeap → Prop) : Prop :=
 vb (aEql false .ptr H x0 .nilp) fun v1 =>
 isB v1 fun b2 => cond b2
 (fin .ret [.v (.int .i64 1)] H K)
 (vb (aBin .lss x1 (.int .i64 0)) fun v3 =>
 isB v3 fun b4 => cond b4
 (fin .ret [.v (.int .i64 2)] H K)
 (vb (aBin .geq x1 (.int .i64 2)) fun v5 =>
 isB v5 fun b6 => cond b6
 (fin .ret [.v (.int .i64 2)] H K)
 (vb (aBin .lss x2 (.int .i64 0)) fun v7 =>
 isB v7 fun b8 => cond b8
 (fin .ret [.v (.int .i64 3)] H K)
 (vb (aBin .geq x2 (.int .i64 288)) fun v9 =>
 isB v9 fun b10 => cond b10
 (fin .ret [.v (.int .i64 3)] H K)
 (fin .ret [.v (.int .i64 0)] H K)))))

def S_rig_Rig_may : Abs.Spec := fun args H r H' => ∃ x0 x1 x2 : AVal, args = [x0, x1, x2] ∧ (rig_Rig_may.w x0 x1 x2 H fun r1 H1 => r1 = r ∧ H1 = H') ∧ H <+: H'
theorem rig_Rig_may.ok (args : List AVal) (H : AHeap) (r : AVal) (H' : AHeap) (h : S_rig_Rig_may args H r H') : ∃ x0 x1 x2 : AVal, args = [x0, x1, x2] ∧ rig_Rig_may.w x0 x1 x2 H fun r1 H1 => r1 = r ∧ H1 = H' := by
  obtain ⟨x0, x1, x2, h1, h2, _⟩ := h
  exact ⟨x0, x1, x2, h1, h2⟩
theorem rig_Rig_may.quiet {args : List AVal} {H : AHeap} {r : AVal} {H' : AHeap} (h : S_rig_Rig_may args H r H') : H <+: H' := by
  obtain ⟨_, _, _, _, _, h⟩ := h
  exact h
def rig_comes.w (x0 : AVal) (H : AHeap) (K : AVal → AHeap → Prop) : Prop :=
 vb (aNilCheck x0) fun v1 =>
 vb (aLoad H false 1 v1) fun v2 =>
 vb (aBin .eql v2 (.int .i64 0)) fun v3 =>
 isB v3 fun b4 => cond b4
 (fin .ret [.v (.bool false)] H K)
 (vb (aNilCheck x0) fun v5 =>
 vb (aLoad H false 1 v5) fun v6 =>
 vb (aBin .sub v6 (.int .i64 1)) fun v7 =>
 vb (aNilCheck x0) fun v8 =>
 sb (aStore H 1 v8 v7) fun H9 =>
 vb (aNilCheck x0) fun v10 =>
 vb (aLoad H9 false 1 v10) fun v11 =>
 vb (aBin .eql v11 (.int .i64 0)) fun v12 =>
 fin .ret [.v (v12)] H9 K)

def S_rig_comes : Abs.Spec := fun args H r H' => ∃ x0 : AVal, args = [x0] ∧ (rig_comes.w x0 H fun r1 H1 => r1 = r ∧ H1 = H')
theorem rig_comes.ok (args : List AVal) (H : AHeap) (r : AVal) (H' : AHeap) (h : S_rig_comes args H r H') : ∃ x0 : AVal, args = [x0] ∧ rig_comes.w x0 H fun r1 H1 => r1 = r ∧ H1 = H' := by
  obtain ⟨x0, h1, h2⟩ := h
  exact ⟨x0, h1, h2⟩
set_option maxRecDepth 100000 in
theorem rig_comes.ex (x0 : AVal) (H : AHeap) : Ex fun K : AVal × AHeap → Prop => rig_comes.w x0 H fun r H => K (r, H) := by
  unfold rig_comes.w
  repeat with_reducible first
    | exact Ex.pt _
    | exact Ex.fin
    | exact Ex.no
    | refine Ex.vb fun _ => ?_
    | refine Ex.hb fun _ _ => ?_
    | refine Ex.sb fun _ => ?_
    | refine Ex.cb fun _ _ => ?_
    | refine Ex.isB fun _ => ?_
    | refine Ex.cond ?_ ?_
    | refine Ex.onE ?_ ?_
    | refine Ex.join ?_ fun _ _ _ => ?_
    | refine Ex.loop (fun _ _ => ?_) fun _ _ _ => ?_

theorem rig_comes.out {x0 : AVal} {H : AHeap} {Q : AVal → AHeap → Prop} (h : rig_comes.w x0 H fun r H' => Q r H') : ∃ r H', S_rig_comes [x0] H r H' ∧ Q r H' := by
  obtain ⟨r, H', h1, h2⟩ := (rig_comes.ex x0 H).out h
  exact ⟨r, H', ⟨_, rfl, h1⟩, h2⟩

def rig_Rig_Read_1.w (x0 : AVal) (x1 : AVal) (x2 : AVal) (x3 : AVal) (H : AHeap) (K : AVal → AHeap → Prop) : Prop :=
 vb (aLoad H false 1 x0) fun v1 =>
 vb (aLoad H false 1 x1) fun v2 =>
 vb (aNilCheck v1) fun v3 =>
 vb (aFieldAddr 0 v3) fun v4 =>
 vb (aIndexAddrArr 2 1 v4 v2) fun v5 =>
 vb (aLoad H false 1 v5) fun v6 =>
 vb (aLoad H false 1 x2) fun v7 =>
 cb (S_dev_Dev_Read [v6, v7] H) fun v8 H9 =>
 vb (aExtract v8 0) fun v10 =>
 vb (aExtract v8 1) fun v11 =>
 sb (aStore H9 1 x3 v10) fun H12 =>
 fin .ret [.v (v11)] H12 K

def S_rig_Rig_Read_1 : Abs.Spec := fun args H r H' => ∃ x0 x1 x2 x3 : AVal, args = [x0, x1, x2, x3] ∧ (rig_Rig_Read_1.w x0 x1 x2 x3 H fun r1 H1 => r1 = r ∧ H1 = H')
theorem rig_Rig_Read_1.ok (args : List AVal) (H : AHeap) (r : AVal) (H' : AHeap) (h : S_rig_Rig_Read_1 args H r H') : ∃ x0 x1 x2 x3 : AVal, args = [x0, x1, x2, x3] ∧ rig_Rig_Read_1.w x0 x1 x2 x3 H fun r1 H1 => r1 = r ∧ H1 = H' := by
  obtain ⟨x0, x1, x2, x3, h1, h2⟩ := h
  exact ⟨x0, x1, x2, x3, h1, h2⟩
set_option maxRecDepth 100000 in
theorem rig_Rig_Read_1.ex (x0 x1 x2 x3 : AVal) (H : AHeap) : Ex fun K : AVal × AHeap → Prop => rig_Rig_Read_1.w x0 x1 x2 x3 H fun r H => K (r, H) := by
  unfold rig_Rig_Read_1.w
  repeat with_reducible first
    | exact Ex.pt _
    | exact Ex.fin
    | exact Ex.no
    | refine Ex.vb fun _ => ?_
    | refine Ex.hb fun _ _ => ?_
    | refine Ex.sb fun _ => ?_
    | refine Ex.cb fun _ _ => ?_
    | refine Ex.isB fun _ => ?_
    | refine Ex.cond ?_ ?_
    | refine Ex.onE ?_ ?_
    | refine Ex.join ?_ fun _ _ _ => ?_
    | refine Ex.loop (fun _ _ => ?_) fun _ _ _ => ?_

theorem rig_Rig_Read_1.out {x0 x1 x2 x3 : AVal} {H : AHeap} {Q : AVal → AHeap → Prop} (h : rig_Rig_Read_1.w x0 x1 x2 x3 H fun r H' => Q r H') : ∃ r H', S_rig_Rig_Read_1 [x0, x1, x2, x3] H r H' ∧ Q r H' := by
  obtain ⟨r, H', h1, h2⟩ := (rig_Rig_Read_1.ex x0 x1 x2 x3 H).out h
  exact ⟨r, H', ⟨_, _, _, _, rfl, h1⟩, h2⟩

def rig_Rig_Write_1.w (x0 : AVal) (x1 : AVal) (x2 : AVal) (x3 : AVal) (H : AHeap) (K : AVal → AHeap → Prop) : Prop :=
 vb (aLoad H false 1 x0) fun v1 =>
 vb (aLoad H false 1 x1) fun v2 =>
 vb (aNilCheck v1) fun v3 =>
 vb (aFieldAddr 0 v3) fun v4 =>
 vb (aIndexAddrArr 2 1 v4 v2) fun v5 =>
 vb (aLoad H false 1 v5) fun v6 =>
 vb (aLoad H false 1 x2) fun v7 =>
 vb (aLoad H false 1 x3) fun v8 =>
 cb (S_dev_Dev_Write [v6, v7, v8] H) fun v9 H10 =>
 fin .ret [.v (v9)] H10 K

def S_rig_Rig_Write_1 : Abs.Spec := fun args H r H' => ∃ x0 x1 x2 x3 : AVal, args = [x0, x1, x2, x3] ∧ (rig_Rig_Write_1.w x0 x1 x2 x3 H fun r1 H1 => r1 = r ∧ H1 = H')
theorem rig_Rig_Write_1.ok (args : List AVal) (H : AHeap) (r : AVal) (H' : AHeap) (h : S_rig_Rig_Write_1 args H r H') : ∃ x0 x1 x2 x3 : AVal, args = [x0, x1, x2, x3] ∧ rig_Rig_Write_1.w x0 x1 x2 x3 H fun r1 H1 => r1 = r ∧ H1 = H' := by
  obtain ⟨x0, x1, x2, x3, h1, h2⟩ := h
  exact ⟨x0, x1, x2, x3, h1, h2⟩
set_option maxRecDepth 100000 in
theorem rig_Rig_Write_1.ex (x0 x1 x2 x3 : AVal) (H : AHeap) : Ex fun K : AVal × AHeap → Prop => rig_Rig_Write_1.w x0 x1 x2 x3 H fun r H => K (r, H) := by
  unfold rig_Rig_Write_1.w
  repeat with_reducible first
    | exact Ex.pt _
    | exact Ex.fin
    | exact Ex.no
    | refine Ex.vb fun _ => ?_
    | refine Ex.hb fun _ _ => ?_
    | refine Ex.sb fun _ => ?_
    | refine Ex.cb fun _ _ => ?_
    | refine Ex.isB fun _ => ?_
    | refine Ex.cond ?_ ?_
    | refine Ex.onE ?_ ?_
    | refine Ex.join ?_ fun _ _ _ => ?_
    | refine Ex.loop (fun _ _ => ?_) fun _ _ _ => ?_

theorem rig_Rig_Write_1.out {x0 x1 x2 x3 : AVal} {H : AHeap} {Q : AVal → AHeap → Prop} (h : rig_Rig_Write_1.w x0 x1 x2 x3 H fun r H' => Q r H') : ∃ r H', S_rig_Rig_Write_1 [x0, x1, x2, x3] H r H' ∧ Q r H' := by
  obtain ⟨r, H', h1, h2⟩ := (rig_Rig_Write_1.ex x0 x1 x2 x3 H).out h
  exact ⟨r, H', ⟨_, _, _, _, rfl, h1⟩, h2⟩

def rig_Rig_Reg_1.w (H : AHeap) (K : AVal → AHeap → Prop) : Prop :=
 fin .ret [.v (.int .i64 0)] H K

def S_rig_Rig_Reg_1 : Abs.Spec := fun args H r H' => args = [] ∧ (rig_Rig_Reg_1.w H fun r1 H1 => r1 = r ∧ H1 = H') ∧ H <+: H'
def rig_Rig_SetReg_1.w (x0 : AVal) (x1 : AVal) (H : AHeap) (K : AVal → AHeap → Prop) : Prop :=
 vb (aLoad H false 1 x1) fun v1 =>
 vb (aLoad H false 1 x0) fun v2 =>
 vb (aNilCheck v1) fun v3 =>
 vb (aFieldAddr 2 v3) fun v4 =>
 sb (aStore H 1 v4 v2) fun H5 =>
 fin .ret [.v (.int .i64 0)] H5 K

def S_rig_Rig_SetReg_1 : Abs.Spec := fun args H r H' => ∃ x0 x1 : AVal, args = [x0, x1] ∧ (rig_Rig_SetReg_1.w x0 x1 H fun r1 H1 => r1 = r ∧ H1 = H')
/-- What function values come to. -/
def rigCP : CallsT := fun f a H r H' => (∃ cap, f = .func (.func RigF.read1) [] cap ∧ S_rig_Rig_Read_1 (a ++ cap) H r H') ∨ (∃ cap, f = .func (.func RigF.write1) [] cap ∧ S_rig_Rig_Write_1 (a ++ cap) H r H') ∨
  (RigF.flush ≠ 0 ∧ ∃ x, f = .func (.func RigF.flush) [x] [] ∧ S_dev_Dev_Flush (x :: a ++ []) H r H') ∨ (RigF.reg1 ≠ 0 ∧ ∃ cap, f = .func (.func RigF.reg1) [] cap ∧ S_rig_Rig_Reg_1 (a ++ cap) H r H') ∨ (RigF.setreg1 ≠ 0 ∧ ∃ cap, f = .func (.func RigF.setreg1) [] cap ∧ S_rig_Rig_SetReg_1 (a ++ cap) H r H')
def rig_Rig_step.w (CP : CallsT) (x0 : AVal) (x1 : AVal) (H : AHeap) (K : AVal → AHeap → Prop) : Prop :=
 vb (aNilCheck x0) fun v1 =>
 vb (aFieldAddr 3 v1) fun v2 =>
 vb (aLoad H false 1 v2) fun v3 =>
 isB v3 fun b4 => cond b4
 (fin .ret [.v (.int .i64 11)] H K)
 (vb (aNilCheck x0) fun v5 =>
 vb (aFieldAddr 4 v5) fun v6 =>
 vb (aLoad H false 1 v6) fun v7 =>
 vb (aBin .add v7 (.int .i64 1)) fun v8 =>
 vb (aNilCheck x0) fun v9 =>
 vb (aFieldAddr 4 v9) fun v10 =>
 sb (aStore H 1 v10 v8) fun H11 =>
 JoinP (fun Kj12 => vb (aNilCheck x0) fun v13 =>
 vb (aFieldAddr 5 v13) fun v14 =>
 cb (S_rig_comes [v14] H11) fun v15 H16 =>
 isB v15 fun b17 => cond b17
 (vb (aNilCheck x0) fun v18 =>
 vb (aFieldAddr 8 v18) fun v19 =>
 vb (aFieldAddr 0 v19) fun v20 =>
 vb (aLoad H16 false 1 v20) fun v21 =>
 vb (aNilCheck x0) fun v22 =>
 vb (aFieldAddr 0 v22) fun v23 =>
 vb (aIndexAddrArr 2 1 v23 v21) fun v24 =>
 vb (aLoad H16 false 1 v24) fun v25 =>
 vb (aNilCheck x0) fun v26 =>
 vb (aFieldAddr 8 v26) fun v27 =>
 vb (aFieldAddr 1 v27) fun v28 =>
 vb (aLoad H16 false 1 v28) fun v29 =>
 vb (aNilCheck x0) fun v30 =>
 vb (aFieldAddr 8 v30) fun v31 =>
 vb (aFieldAddr 2 v31) fun v32 =>
 vb (aLoad H16 false 1 v32) fun v33 =>
 cb (S_dev_Dev_Tamper [v25, v29, v33] H16) fun v34 H35 =>
 Kj12 .normal [] H35)
 (Kj12 .normal [] H16))
 (fun e36 vs37 H38 =>
 onE e36 .normal
 (vb (aNilCheck x0) fun v39 =>
 vb (aFieldAddr 7 v39) fun v40 =>
 cb (S_rig_comes [v40] H38) fun v41 H42 =>
 vb (aNilCheck x0) fun v43 =>
 vb (aFieldAddr 6 v43) fun v44 =>
 cb (S_rig_comes [v44] H42) fun v45 H46 =>
 isB v45 fun b47 => cond b47
 (vb (aNilCheck x0) fun v48 =>
 vb (aFieldAddr 3 v48) fun v49 =>
 sb (aStore H46 1 v49 (.bool true)) fun H50 =>
 fin .ret [.v (.int .i64 11)] H50 K)
 (isB v41 fun b51 => cond b51
 (fin .ret [.v (.int .i64 10)] H46 K)
 (cb (CP x1 [] H46) fun v52 H53 =>
 fin .ret [.v (v52)] H53 K)))
 (False)))

set_option maxRecDepth 100000 in
theorem rig_Rig_step.im {CP' : CallsT} (hcp : CallsT.le rigCP CP') (x0 x1 : AVal) (H : AHeap) : Im (fun K : AVal × AHeap → Prop => rig_Rig_step.w rigCP x0 x1 H fun r H => K (r, H)) fun K => rig_Rig_step.w CP' x0 x1 H fun r H => K (r, H) := by
  unfold rig_Rig_step.w
  repeat with_reducible first
    | exact Im.pt _
    | exact Im.fin
    | exact Im.no
    | refine Im.vb fun _ => ?_
    | refine Im.hb fun _ _ => ?_
    | refine Im.sb fun _ => ?_
    | refine Im.cb (fun _ _ h => h) fun _ _ => ?_
    | refine Im.cb (fun _ _ h => hcp _ _ _ _ _ h) fun _ _ => ?_
    | refine Im.and ?_ ?_
    | refine Im.isB fun _ => ?_
    | refine Im.cond ?_ ?_
    | refine Im.onE ?_ ?_
    | refine Im.join ?_ fun _ _ _ => ?_
    | refine Im.loop (fun _ _ => ?_) fun _ _ _ => ?_

def S_rig_Rig_step : Abs.Spec := fun args H r H' => ∃ x0 x1 : AVal, args = [x0, x1] ∧ (rig_Rig_step.w rigCP x0 x1 H fun r1 H1 => r1 = r ∧ H1 = H')
theorem rig_Rig_step.okC {CP' : CallsT} (hcp : CallsT.le rigCP CP') (args : List AVal) (H : AHeap) (r : AVal) (H' : AHeap) (h : S_rig_Rig_step args H r H') : ∃ x0 x1 : AVal, args = [x0, x1] ∧ rig_Rig_step.w CP' x0 x1 H fun r1 H1 => r1 = r ∧ H1 = H' := by
  obtain ⟨x0, x1, h1, h2⟩ := h
  exact ⟨x0, x1, h1, Im.fn (F := fun K => rig_Rig_step.w rigCP x0 x1 H K) (G := fun K => rig_Rig_step.w CP' x0 x1 H K) (rig_Rig_step.im hcp x0 x1 H) h2⟩
set_option maxRecDepth 100000 in
theorem rig_Rig_step.ex (x0 x1 : AVal) (H : AHeap) : Ex fun K : AVal × AHeap → Prop => rig_Rig_step.w rigCP x0 x1 H fun r H => K (r, H) := by
  unfold rig_Rig_step.w
  repeat with_reducible first
    | exact Ex.pt _
    | exact Ex.fin
    | exact Ex.no
    | refine Ex.vb fun _ => ?_
    | refine Ex.hb fun _ _ => ?_
    | refine Ex.sb fun _ => ?_
    | refine Ex.cb fun _ _ => ?_
    | refine Ex.isB fun _ => ?_
    | refine Ex.cond ?_ ?_
    | refine Ex.onE ?_ ?_
    | refine Ex.join ?_ fun _ _ _ => ?_
    | refine Ex.loop (fun _ _ => ?_) fun _ _ _ => ?_

theorem rig_Rig_step.out {x0 x1 : AVal} {H : AHeap} {Q : AVal → AHeap → Prop} (h : rig_Rig_step.w rigCP x0 x1 H fun r H' => Q r H') : ∃ r H', S_rig_Rig_step [x0, x1] H r H' ∧ Q r H' := by
  obtain ⟨r, H', h1, h2⟩ := (rig_Rig_step.ex x0 x1 H).out h
  exact ⟨r, H', ⟨_, _, rfl, h1⟩, h2⟩

def rig_Rig_Read.w (x0 : AVal) (x1 : AVal) (x2 : AVal) (H : AHeap) (K : AVal → AHeap → Prop) : Prop :=
 hb (aBox H x0) fun v1 H2 =>
 hb (aBox H2 x1) fun v3 H4 =>
 hb (aBox H4 x2) fun v5 H6 =>
 vb (aLoad H6 false 1 v1) fun v7 =>
 vb (aLoad H6 false 1 v3) fun v8 =>
 vb (aLoad H6 false 1 v5) fun v9 =>
 cb (S_rig_Rig_may [v7, v8, v9] H6) fun v10 H11 =>
 vb (aBin .neq v10 (.int .i64 0)) fun v12 =>
 isB v12 fun b13 => cond b13
 (fin .ret [.v (.str []), .v (v10)] H11 K)
 (hb (aAlloc H11 [.str []]) fun v14 H15 =>
 sb (aStore H15 1 v14 (.str [])) fun H16 =>
 vb (aLoad H16 false 1 v1) fun v17 =>
 cb (S_rig_Rig_step [v17, .func (.func RigF.read1) [] [v1, v3, v5, v14]] H16) fun v18 H19 =>
 vb (aLoad H19 false 1 v14) fun v20 =>
 fin .ret [.v (v20), .v (v18)] H19 K)

def S_rig_Rig_Read : Abs.Spec := fun args H r H' => ∃ x0 x1 x2 : AVal, args = [x0, x1, x2] ∧ (rig_Rig_Read.w x0 x1 x2 H fun r1 H1 => r1 = r ∧ H1 = H')
theorem rig_Rig_Read.ok (args : List AVal) (H : AHeap) (r : AVal) (H' : AHeap) (h : S_rig_Rig_Read args H r H') : ∃ x0 x1 x2 : AVal, args = [x0, x1, x2] ∧ rig_Rig_Read.w x0 x1 x2 H fun r1 H1 => r1 = r ∧ H1 = H' := by
  obtain ⟨x0, x1, x2, h1, h2⟩ := h
  exact ⟨x0, x1, x2, h1, h2⟩
set_option maxRecDepth 100000 in
theorem rig_Rig_Read.ex (x0 x1 x2 : AVal) (H : AHeap) : Ex fun K : AVal × AHeap → Prop => rig_Rig_Read.w x0 x1 x2 H fun r H => K (r, H) := by
  unfold rig_Rig_Read.w
  repeat with_reducible first
    | exact Ex.pt _
    | exact Ex.fin
    | exact Ex.no
    | refine Ex.vb fun _ => ?_
    | refine Ex.hb fun _ _ => ?_
    | refine Ex.sb fun _ => ?_
    | refine Ex.cb fun _ _ => ?_
    | refine Ex.isB fun _ => ?_
    | refine Ex.cond ?_ ?_
    | refine Ex.onE ?_ ?_
    | refine Ex.join ?_ fun _ _ _ => ?_
    | refine Ex.loop (fun _ _ => ?_) fun _ _ _ => ?_

theorem rig_Rig_Read.out {x0 x1 x2 : AVal} {H : AHeap} {Q : AVal → AHeap → Prop} (h : rig_Rig_Read.w x0 x1 x2 H fun r H' => Q r H') : ∃ r H', S_rig_Rig_Read [x0, x1, x2] H r H' ∧ Q r H' := by
  obtain ⟨r, H', h1, h2⟩ := (rig_Rig_Read.ex x0 x1 x2 H).out h
  exact ⟨r, H', ⟨_, _, _, rfl, h1⟩, h2⟩

def rig_Rig_Write.w (x0 : AVal) (x1 : AVal) (x2 : AVal) (x3 : AVal) (H : AHeap) (K : AVal → AHeap → Prop) : Prop :=
 hb (aBox H x0) fun v1 H2 =>
 hb (aBox H2 x1) fun v3 H4 =>
 hb (aBox H4 x2) fun v5 H6 =>
 hb (aBox H6 x3) fun v7 H8 =>
 vb (aLoad H8 false 1 v1) fun v9 =>
 vb (aLoad H8 false 1 v3) fun v10 =>
 vb (aLoad H8 false 1 v5) fun v11 =>
 cb (S_rig_Rig_may [v9, v10, v11] H8) fun v12 H13 =>
 vb (aBin .neq v12 (.int .i64 0)) fun v14 =>
 isB v14 fun b15 => cond b15
 (fin .ret [.v (v12)] H13 K)
 (vb (aLoad H13 false 1 v7) fun v16 =>
 vb (lenSt v16) fun v17 =>
 vb (aBin .neq v17 (.int .i64 64)) fun v18 =>
 isB v18 fun b19 => cond b19
 (fin .ret [.v (.int .i64 6)] H13 K)
 (vb (aLoad H13 false 1 v1) fun v20 =>
 cb (S_rig_Rig_step [v20, .func (.func RigF.write1) [] [v1, v3, v5, v7]] H13) fun v21 H22 =>
 fin .ret [.v (v21)] H22 K))

def S_rig_Rig_Write : Abs.Spec := fun args H r H' => ∃ x0 x1 x2 x3 : AVal, args = [x0, x1, x2, x3] ∧ (rig_Rig_Write.w x0 x1 x2 x3 H fun r1 H1 => r1 = r ∧ H1 = H')
theorem rig_Rig_Write.ok (args : List AVal) (H : AHeap) (r : AVal) (H' : AHeap) (h : S_rig_Rig_Write args H r H') : ∃ x0 x1 x2 x3 : AVal, args = [x0, x1, x2, x3] ∧ rig_Rig_Write.w x0 x1 x2 x3 H fun r1 H1 => r1 = r ∧ H1 = H' := by
  obtain ⟨x0, x1, x2, x3, h1, h2⟩ := h
  exact ⟨x0, x1, x2, x3, h1, h2⟩
set_option maxRecDepth 100000 in
theorem rig_Rig_Write.ex (x0 x1 x2 x3 : AVal) (H : AHeap) : Ex fun K : AVal × AHeap → Prop => rig_Rig_Write.w x0 x1 x2 x3 H fun r H => K (r, H) := by
  unfold rig_Rig_Write.w
  repeat with_reducible first
    | exact Ex.pt _
    | exact Ex.fin
    | exact Ex.no
    | refine Ex.vb fun _ => ?_
    | refine Ex.hb fun _ _ => ?_
    | refine Ex.sb fun _ => ?_
    | refine Ex.cb fun _ _ => ?_
    | refine Ex.isB fun _ => ?_
    | refine Ex.cond ?_ ?_
    | refine Ex.onE ?_ ?_
    | refine Ex.join ?_ fun _ _ _ => ?_
    | refine Ex.loop (fun _ _ => ?_) fun _ _ _ => ?_

theorem rig_Rig_Write.out {x0 x1 x2 x3 : AVal} {H : AHeap} {Q : AVal → AHeap → Prop} (h : rig_Rig_Write.w x0 x1 x2 x3 H fun r H' => Q r H') : ∃ r H', S_rig_Rig_Write [x0, x1, x2, x3] H r H' ∧ Q r H' := by
  obtain ⟨r, H', h1, h2⟩ := (rig_Rig_Write.ex x0 x1 x2 x3 H).out h
  exact ⟨r, H', ⟨_, _, _, _, rfl, h1⟩, h2⟩

def rig_Rig_Tamper.w (x0 : AVal) (x1 : AVal) (x2 : AVal) (x3 : AVal) (H : AHeap) (K : AVal → AHeap → Prop) : Prop :=
 cb (S_rig_Rig_may [x0, x1, x2] H) fun v1 H2 =>
 vb (aBin .neq v1 (.int .i64 0)) fun v3 =>
 isB v3 fun b4 => cond b4
 (fin .ret [.v (v1)] H2 K)
 (vb (lenSt x3) fun v5 =>
 vb (aBin .neq v5 (.int .i64 64)) fun v6 =>
 isB v6 fun b7 => cond b7
 (fin .ret [.v (.int .i64 6)] H2 K)
 (vb (aNilCheck x0) fun v8 =>
 vb (aFieldAddr 0 v8) fun v9 =>
 vb (aIndexAddrArr 2 1 v9 x1) fun v10 =>
 vb (aLoad H2 false 1 v10) fun v11 =>
 cb (S_dev_Dev_Tamper [v11, x2, x3] H2) fun v12 H13 =>
 fin .ret [.v (v12)] H13 K))

def S_rig_Rig_Tamper : Abs.Spec := fun args H r H' => ∃ x0 x1 x2 x3 : AVal, args = [x0, x1, x2, x3] ∧ (rig_Rig_Tamper.w x0 x1 x2 x3 H fun r1 H1 => r1 = r ∧ H1 = H')
theorem rig_Rig_Tamper.ok (args : List AVal) (H : AHeap) (r : AVal) (H' : AHeap) (h : S_rig_Rig_Tamper args H r H') : ∃ x0 x1 x2 x3 : AVal, args = [x0, x1, x2, x3] ∧ rig_Rig_Tamper.w x0 x1 x2 x3 H fun r1 H1 => r1 = r ∧ H1 = H' := by
  obtain ⟨x0, x1, x2, x3, h1, h2⟩ := h
  exact ⟨x0, x1, x2, x3, h1, h2⟩
set_option maxRecDepth 100000 in
theorem rig_Rig_Tamper.ex (x0 x1 x2 x3 : AVal) (H : AHeap) : Ex fun K : AVal × AHeap → Prop => rig_Rig_Tamper.w x0 x1 x2 x3 H fun r H => K (r, H) := by
  unfold rig_Rig_Tamper.w
  repeat with_reducible first
    | exact Ex.pt _
    | exact Ex.fin
    | exact Ex.no
    | refine Ex.vb fun _ => ?_
    | refine Ex.hb fun _ _ => ?_
    | refine Ex.sb fun _ => ?_
    | refine Ex.cb fun _ _ => ?_
    | refine Ex.isB fun _ => ?_
    | refine Ex.cond ?_ ?_
    | refine Ex.onE ?_ ?_
    | refine Ex.join ?_ fun _ _ _ => ?_
    | refine Ex.loop (fun _ _ => ?_) fun _ _ _ => ?_

theorem rig_Rig_Tamper.out {x0 x1 x2 x3 : AVal} {H : AHeap} {Q : AVal → AHeap → Prop} (h : rig_Rig_Tamper.w x0 x1 x2 x3 H fun r H' => Q r H') : ∃ r H', S_rig_Rig_Tamper [x0, x1, x2, x3] H r H' ∧ Q r H' := by
  obtain ⟨r, H', h1, h2⟩ := (rig_Rig_Tamper.ex x0 x1 x2 x3 H).out h
  exact ⟨r, H', ⟨_, _, _, _, rfl, h1⟩, h2⟩

end Go.Sh

/- Rigs in memory, and their steps. -/
namespace Go.Sh
open Go Go.Abs

structure RV where
  d0 : List Bk
  d1 : List Bk
  reg : List UInt8
  down : Bool
  calls : Int
  later : Int
  arm : Int
  fault : Int
  td : Int
  ti : Int
  ts : List UInt8
structure RL where
  p : Nat
  q0 : Nat
  q1 : Nat
  s0 : AVal
  s1 : AVal
def gcells (L : RL) (v : RV) : List AVal := [.ptr ⟨L.q0, 0, 0⟩, .ptr ⟨L.q1, 0, 0⟩, .str v.reg, .bool v.down, .int .i64 v.calls, .int .i64 v.later, .int .i64 v.arm, .int .i64 v.fault, .int .i64 v.td, .int .i64 v.ti, .str v.ts]
def rparts (L : RL) (v : RV) (R : List Part) : List Part := .obj L.p (.cells 0 .exact (gcells L v)) :: Part.dev L.q0 L.s0 v.d0 :: Part.dev L.q1 L.s1 v.d1 :: R
def RV.dev (v : RV) (d : Int) : List Bk := if d = 0 then v.d0 else v.d1
def RV.setDev (v : RV) (d : Int) (l : List Bk) : RV := if d = 0 then { v with d0 := l } else { v with d1 := l }
def blkT (l : List Bk) (i : Int) (s : List UInt8) : List Bk := if mayE l.length i s = 0 then l.set i.toNat ⟨s, s, (bkAt l i).is⟩ else l
def blkW (l : List Bk) (i : Int) (s : List UInt8) : List Bk := if mayE l.length i s = 0 then l.set i.toNat ((bkAt l i).write s) else l
def cnt (n : Int) : Int := if n = 0 then 0 else n - 1
def RV.strike (v : RV) : RV := if v.later = 1 then v.setDev v.td (blkT (v.dev v.td) v.ti v.ts) else v
def RV.tick (v : RV) : RV := { v.strike with calls := v.calls + 1, later := cnt v.later, arm := cnt v.arm, fault := cnt v.fault, down := decide (v.arm = 1) }
def RV.err (v : RV) : Int := if v.down = true ∨ v.arm = 1 then 11 else if v.fault = 1 then 10 else 0
def RV.step (v : RV) : RV := if v.down = true then v else v.tick
/-- All is well. -/
structure WR (v : RV) : Prop where
  l0 : v.d0.length = 288
  l1 : v.d1.length = 288
  w0 : WB v.d0
  w1 : WB v.d1
  later : 0 ≤ v.later ∧ v.later ≤ 1099511627776
  arm : 0 ≤ v.arm ∧ v.arm ≤ 1099511627776
  fault : 0 ≤ v.fault ∧ v.fault ≤ 1099511627776
  td : v.td = 0 ∨ v.td = 1
  calls : 0 ≤ v.calls
theorem blkT_len (l : List Bk) (i : Int) (s : List UInt8) : (blkT l i s).length = l.length := by unfold blkT; split <;> simp
theorem blkW_len (l : List Bk) (i : Int) (s : List UInt8) : (blkW l i s).length = l.length := by unfold blkW; split <;> simp
theorem may_ok {n : Nat} {i : Int} {s : List UInt8} (h : mayE n i s = 0) : 0 ≤ i ∧ i < n ∧ s.length = 64 := by
  unfold mayE at h
  by_cases h1 : i < 0 ∨ (n : Int) ≤ i
  · rw [if_pos h1] at h; exact absurd h (by decide)
  · rw [if_neg h1] at h
    by_cases h2 : s.length ≠ 64
    · rw [if_pos h2] at h; exact absurd h (by decide)
    · exact ⟨by omega, by omega, by omega⟩
theorem bkAt_wb {l : List Bk} (h : WB l) {i : Int} (h0 : 0 ≤ i) (h1 : i < l.length) : (bkAt l i).now.length = 64 ∧ (bkAt l i).safe.length = 64 := by
  have : l[i.toNat]? = some (bkAt l i) := by
    unfold bkAt
    rw [List.getD_eq_getElem?_getD, List.getElem?_eq_getElem (by omega)]; rfl
  exact h.at_ this
theorem blkT_wb {l : List Bk} (h : WB l) (i : Int) (s : List UInt8) : WB (blkT l i s) := by
  unfold blkT
  split
  · rename_i hm
    obtain ⟨_, _, h3⟩ := may_ok hm
    exact h.set h3 h3
  · exact h
theorem blkW_wb {l : List Bk} (h : WB l) (i : Int) (s : List UInt8) : WB (blkW l i s) := by
  unfold blkW
  split
  · rename_i hm
    obtain ⟨h1, h2, h3⟩ := may_ok hm
    exact h.set h3 (bkAt_wb h h1 h2).2
  · exact h
theorem WR.dev {v : RV} (h : WR v) (d : Int) : (v.dev d).length = 288 ∧ WB (v.dev d) := by
  unfold RV.dev
  split
  · exact ⟨h.l0, h.w0⟩
  · exact ⟨h.l1, h.w1⟩
theorem WR.setDev {v : RV} (h : WR v) (d : Int) {l : List Bk} (h1 : l.length = 288) (h2 : WB l) : WR (v.setDev d l) := by
  unfold RV.setDev
  split
  · exact ⟨h1, h.l1, h2, h.w1, h.later, h.arm, h.fault, h.td, h.calls⟩
  · exact ⟨h.l0, h1, h.w0, h2, h.later, h.arm, h.fault, h.td, h.calls⟩
theorem WR.strike {v : RV} (h : WR v) : WR v.strike := by
  unfold RV.strike
  split
  · exact h.setDev _ (by rw [blkT_len]; exact (h.dev _).1) (blkT_wb (h.dev _).2 _ _)
  · exact h
theorem cnt_le {n : Int} (h : 0 ≤ n ∧ n ≤ 1099511627776) : 0 ≤ cnt n ∧ cnt n ≤ 1099511627776 := by unfold cnt; split <;> omega
theorem WR.tick {v : RV} (h : WR v) : WR v.tick := by
  obtain ⟨a1, a2, a3, a4, a5, a6, a7, a8, a9⟩ := h.strike
  exact ⟨a1, a2, a3, a4, cnt_le h.later, cnt_le h.arm, cnt_le h.fault, a8, by show 0 ≤ v.calls + 1; have := h.calls; omega⟩
theorem WR.step {v : RV} (h : WR v) : WR v.step := by
  unfold RV.step
  split
  · exact h
  · exact h.tick
section
variable {H0 B : AHeap} {own : Nat → Prop} {R : List Part}
theorem rig_comes_spec {p k : Nat} {cs : List AVal} {n : Int} (h : Sep H0 own B (.obj p (.cells 0 .exact cs) :: R)) (hk : cs[k]? = some (.int .i64 n)) (h0 : 0 ≤ n) (h1 : n ≤ 1099511627776) :
    ∃ r C, S_rig_comes [.ptr ⟨p, 0, k⟩] B r C ∧ r = .bool (decide (n = 1)) ∧ Sep H0 own C (.obj p (.cells 0 .exact (cs.set k (.int .i64 (cnt n)))) :: R) := by
  refine rig_comes.out ?_
  unfold rig_comes.w
  have hl : k < cs.length := (List.getElem?_eq_some_iff.1 hk).1
  refine vb_i (e_nilCheck _) ?_
  refine vb_ld h.g0 hk ?_
  refine vb_i (eql64 _ _ _) ?_
  refine isB_c (fun hz => ?_) (fun hz => ?_)
  · subst hz
    refine fin_ret (rvs_v (rvs_nil _)) ⟨rfl, ?_⟩
    have : cs.set k (.int .i64 (cnt 0)) = cs := by
      have e : cnt 0 = 0 := rfl
      rw [e]
      refine List.ext_getElem? fun j => ?_
      by_cases hj : k = j
      · subst hj; rw [List.getElem?_set_self hl, hk]
      · rw [List.getElem?_set_ne hj]
    rw [this]; exact h
  · refine vb_i (e_nilCheck _) ?_
    refine vb_ld h.g0 hk ?_
    refine vb_i (sub64 (by omega) (by omega)) ?_
    refine vb_i (e_nilCheck _) ?_
    refine s_store1 h rfl rfl hl fun C hs => ?_
    refine vb_i (e_nilCheck _) ?_
    refine vb_ld hs.g0 (List.getElem?_set_self hl) ?_
    refine vb_i (eql64 _ _ _) ?_
    have e : cnt n = n - 1 := if_neg hz
    have e2 : decide (n - 1 = 0) = decide (n = 1) := decide_eq_decide.2 (by omega)
    refine fin_ret (rvs_v (rvs_nil _)) ⟨?_, by rw [e]; exact hs⟩
    rw [e2]; rfl
theorem strike_0 {v : RV} (h : v.later = 1) (ht : v.td = 0) : v.strike = { v with d0 := blkT v.d0 v.ti v.ts } := by
  unfold RV.strike RV.setDev RV.dev
  rw [if_pos h, ht, if_pos rfl, if_pos rfl]
theorem strike_1 {v : RV} (h : v.later = 1) (ht : v.td = 1) : v.strike = { v with d1 := blkT v.d1 v.ti v.ts } := by
  unfold RV.strike RV.setDev RV.dev
  rw [if_pos h, ht, if_neg (by decide), if_neg (by decide)]
theorem strike_no {v : RV} (h : ¬ v.later = 1) : v.strike = v := if_neg h
theorem rig_step_spec {L : RL} {v : RV} {f : AVal} {Q : AVal → AHeap → Prop} (h : Sep H0 own B (rparts L v R)) (hw : WR v) (hc : v.calls < 4611686018427387904)
    (hbad : ∀ C, v.err ≠ 0 → Sep H0 own C (rparts L v.step R) → Q (.int .i64 v.err) C)
    (hgo : ∀ D, v.err = 0 → Sep H0 own D (rparts L v.step R) → ∃ r E, rigCP f [] D r E ∧ Q r E) : ∃ r E, S_rig_Rig_step [.ptr ⟨L.p, 0, 0⟩, f] B r E ∧ Q r E := by
  refine rig_Rig_step.out ?_
  unfold rig_Rig_step.w
  have hs := h
  unfold rparts gcells at hs
  have hcl := hw.calls
  repeat first
  | with_reducible refine vb_i (e_nilCheck _) ?_
  | with_reducible refine vb_i (e_fieldAddr _ _) ?_
  | ((with_reducible apply vb_ld); (· first | exact hs.g0 | exact hs.g1 | exact hs.g2 | exact hs.g3 | exact hs.g4 | exact hs.g5 | exact hs.g6 | exact hs.rd hg | exact hs.rd hg2 | exact hs.rd hg3 | exact hs.rd hg4 | assumption); (· rfl))
  refine isB_bb (fun hd => ?_) (fun hd => ?_)
  · have e1 : v.err = 11 := if_pos (.inl hd)
    have e2 : v.step = v := if_pos hd
    rw [e1, e2] at hbad
    exact fin_ret (rvs_v (rvs_nil _)) (hbad _ (by decide) h)
  have e2 : v.step = v.tick := if_neg (by rw [hd]; decide)
  rw [e2] at hbad hgo
  repeat first
  | ((with_reducible refine vb_i (add64 ?_ ?_) ?_); (· omega); (· omega))
  | with_reducible refine vb_i (e_nilCheck _) ?_
  | with_reducible refine vb_i (e_fieldAddr _ _) ?_
  | ((with_reducible apply vb_ld); (· first | exact hs.g0 | exact hs.g1 | exact hs.g2 | exact hs.g3 | exact hs.g4 | exact hs.g5 | exact hs.g6 | exact hs.rd hg | exact hs.rd hg2 | exact hs.rd hg3 | exact hs.rd hg4 | assumption); (· rfl))
  | ((with_reducible first | apply s_store1 hs | apply s_store1 hs.f1 | apply s_store1 hs.f2 | apply s_store1 hs.f3); (· rfl); (· first | rfl | assumption); (· simp only [List.length_cons, List.length_nil]; omega); intro _ hs; try simp only [List.set_cons_zero, List.set_cons_succ, Nat.add_zero, Nat.zero_add] at hs)
  refine JoinP.mk (fun e vs D => e = .normal ∧ Sep H0 own D (rparts L { v.strike with calls := v.calls + 1, later := cnt v.later } R)) ?_ ?_
  · repeat first
    | with_reducible refine vb_i (e_nilCheck _) ?_
    | with_reducible refine vb_i (e_fieldAddr _ _) ?_
    obtain ⟨_, C1, hS, rfl, hs⟩ := rig_comes_spec (k := 5) hs rfl hw.later.1 hw.later.2
    refine cb_i _ _ hS ?_
    simp only [List.set_cons_succ, List.set_cons_zero] at hs
    refine isB_c (fun h1 => ?_) (fun h1 => ?_)
    · rcases hw.td with ht | ht
      · rw [ht] at hs
        repeat first
        | with_reducible refine vb_i (e_nilCheck _) ?_
        | with_reducible refine vb_i (e_fieldAddr _ _) ?_
        | ((with_reducible apply vb_ld); (· first | exact hs.g0 | exact hs.g1 | exact hs.g2 | exact hs.g3 | exact hs.g4 | exact hs.g5 | exact hs.g6 | exact hs.rd hg | exact hs.rd hg2 | exact hs.rd hg3 | exact hs.rd hg4 | assumption); (· rfl))
        | ((with_reducible refine vb_i (e_idxAddrArr ?_ ?_) ?_); (· omega); (· omega))
        obtain ⟨C2, hS, hs⟩ := tamper_spec hs.f1 v.ti v.ts
        refine cb_i _ _ hS ?_
        refine ⟨rfl, ?_⟩
        rw [strike_0 h1 ht]
        unfold rparts gcells
        dsimp only
        rw [ht]
        exact hs.f1
      · rw [ht] at hs
        repeat first
        | with_reducible refine vb_i (e_nilCheck _) ?_
        | with_reducible refine vb_i (e_fieldAddr _ _) ?_
        | ((with_reducible apply vb_ld); (· first | exact hs.g0 | exact hs.g1 | exact hs.g2 | exact hs.g3 | exact hs.g4 | exact hs.g5 | exact hs.g6 | exact hs.rd hg | exact hs.rd hg2 | exact hs.rd hg3 | exact hs.rd hg4 | assumption); (· rfl))
        | ((with_reducible refine vb_i (e_idxAddrArr ?_ ?_) ?_); (· omega); (· omega))
        obtain ⟨C2, hS, hs⟩ := tamper_spec hs.f2 v.ti v.ts
        refine cb_i _ _ hS ?_
        refine ⟨rfl, ?_⟩
        rw [strike_1 h1 ht]
        unfold rparts gcells
        dsimp only
        rw [ht]
        exact hs.b2
    · refine ⟨rfl, ?_⟩
      rw [strike_no h1]
      exact hs
  rintro _ _ D ⟨rfl, hs⟩
  have ea : v.strike.arm = v.arm ∧ v.strike.fault = v.fault ∧ v.strike.down = v.down := by
    unfold RV.strike RV.setDev
    split
    · split <;> exact ⟨rfl, rfl, rfl⟩
    · exact ⟨rfl, rfl, rfl⟩
  unfold rparts gcells at hs
  simp only [ea.1, ea.2.1, ea.2.2, hd] at hs
  repeat first
  | with_reducible refine onE_i ?_
  | with_reducible refine vb_i (e_nilCheck _) ?_
  | with_reducible refine vb_i (e_fieldAddr _ _) ?_
  obtain ⟨_, C1, hS, rfl, hs⟩ := rig_comes_spec (k := 7) hs rfl hw.fault.1 hw.fault.2
  refine cb_i _ _ hS ?_
  simp only [List.set_cons_succ, List.set_cons_zero] at hs
  repeat first
  | with_reducible refine vb_i (e_nilCheck _) ?_
  | with_reducible refine vb_i (e_fieldAddr _ _) ?_
  obtain ⟨_, C2, hS, rfl, hs⟩ := rig_comes_spec (k := 6) hs rfl hw.arm.1 hw.arm.2
  refine cb_i _ _ hS ?_
  simp only [List.set_cons_succ, List.set_cons_zero] at hs
  refine isB_c (fun h1 => ?_) (fun h1 => ?_)
  · repeat first
    | with_reducible refine vb_i (e_nilCheck _) ?_
    | with_reducible refine vb_i (e_fieldAddr _ _) ?_
    | ((with_reducible first | apply s_store1 hs | apply s_store1 hs.f1 | apply s_store1 hs.f2 | apply s_store1 hs.f3); (· rfl); (· first | rfl | assumption); (· simp only [List.length_cons, List.length_nil]; omega); intro _ hs; try simp only [List.set_cons_zero, List.set_cons_succ, Nat.add_zero, Nat.zero_add] at hs)
    have e1 : v.err = 11 := if_pos (.inr h1)
    rw [e1] at hbad
    refine fin_ret (rvs_v (rvs_nil _)) (hbad _ (by decide) ?_)
    unfold RV.tick
    rw [decide_eq_true h1]
    exact hs
  have hfin : Sep H0 own C2 (rparts L v.tick R) := by
    unfold RV.tick
    rw [decide_eq_false h1]
    exact hs
  refine isB_c (fun h2 => ?_) (fun h2 => ?_)
  · have e1 : v.err = 10 := by
      unfold RV.err
      rw [if_neg (by rw [hd]; simp [h1]), if_pos h2]
    rw [e1] at hbad
    exact fin_ret (rvs_v (rvs_nil _)) (hbad _ (by decide) hfin)
  have e1 : v.err = 0 := by
    unfold RV.err
    rw [if_neg (by rw [hd]; simp [h1]), if_neg h2]
  obtain ⟨r, E, hr, hq⟩ := hgo C2 e1 hfin
  exact cb_i _ _ hr (fin_ret (rvs_v (rvs_nil _)) hq)
end
end Go.Sh

/- Reading, writing, flushing; the register. -/
namespace Go.Sh
open Go Go.Abs

def mayG (d i : Int) : Int := if d < 0 ∨ 2 ≤ d then 2 else if i < 0 ∨ 288 ≤ i then 3 else 0
theorem mayG_ok {d i : Int} (h : mayG d i = 0) : (d = 0 ∨ d = 1) ∧ 0 ≤ i ∧ i < 288 := by
  unfold mayG at h
  by_cases h1 : d < 0 ∨ 2 ≤ d
  · rw [if_pos h1] at h; exact absurd h (by decide)
  · rw [if_neg h1] at h
    by_cases h2 : i < 0 ∨ 288 ≤ i
    · rw [if_pos h2] at h; exact absurd h (by decide)
    · omega
def RV.askE (v : RV) (d i : Int) : Int := if mayG d i = 0 then v.err else mayG d i
def RV.ask (v : RV) (d i : Int) : RV := if mayG d i = 0 then v.step else v
def RV.readS (v : RV) (d i : Int) : List UInt8 := if v.askE d i = 0 then (bkAt ((v.ask d i).dev d) i).now else []
def RV.writeE (v : RV) (d i : Int) (s : List UInt8) : Int := if mayG d i = 0 then (if s.length = 64 then v.err else 6) else mayG d i
def RV.write (v : RV) (d i : Int) (s : List UInt8) : RV := if mayG d i = 0 ∧ s.length = 64 then (if v.err = 0 then v.step.setDev d (blkW (v.step.dev d) i s) else v.step) else v
theorem may_blk {n : Nat} {d i : Int} {s : List UInt8} (hn : n = 288) (h : mayG d i = 0) (hs : s.length = 64) : mayE n i s = 0 := by
  obtain ⟨_, h1, h2⟩ := mayG_ok h
  unfold mayE
  rw [if_neg (by omega), if_neg (by omega)]
section
variable {H0 B : AHeap} {own : Nat → Prop} {R X : List Part} {L : RL} {v : RV}
theorem sep_rot {A C : List Part} (h : Sep H0 own B (A ++ (C ++ R))) : Sep H0 own B (C ++ (A ++ R)) := h.perm (by
  rw [← List.append_assoc, ← List.append_assoc]
  exact List.Perm.append_right _ List.perm_append_comm)
theorem rp_in (h : Sep H0 own B (X ++ rparts L v R)) : Sep H0 own B (rparts L v (X ++ R)) := sep_rot (A := X) (C := [_, _, _]) h
theorem rp_out (h : Sep H0 own B (rparts L v (X ++ R))) : Sep H0 own B (X ++ rparts L v R) := sep_rot (A := [_, _, _]) (C := X) h
theorem sep_tails {A : List Part} : ∀ {X : List Part}, Sep H0 own B (X ++ A) → Sep H0 own B A
  | [], h => h
  | _ :: X, h => sep_tails (X := X) h.tail
theorem rp_drop (h : Sep H0 own B (rparts L v (X ++ R))) : Sep H0 own B (rparts L v R) := sep_tails (rp_out h)
/-- A device of a rig, ahead. -/
theorem rp_dev0 (h : Sep H0 own B (rparts L v R)) : Sep H0 own B (Part.dev L.q0 L.s0 v.d0 :: .obj L.p (.cells 0 .exact (gcells L v)) :: Part.dev L.q1 L.s1 v.d1 :: R) := h.f1
theorem rp_dev1 (h : Sep H0 own B (rparts L v R)) : Sep H0 own B (Part.dev L.q1 L.s1 v.d1 :: .obj L.p (.cells 0 .exact (gcells L v)) :: Part.dev L.q0 L.s0 v.d0 :: R) := h.f2
theorem rp_back0 {l : List Bk} (h : Sep H0 own B (Part.dev L.q0 L.s0 l :: .obj L.p (.cells 0 .exact (gcells L v)) :: Part.dev L.q1 L.s1 v.d1 :: R)) : Sep H0 own B (rparts L (v.setDev 0 l) R) := h.f1
theorem rp_back1 {l : List Bk} (h : Sep H0 own B (Part.dev L.q1 L.s1 l :: .obj L.p (.cells 0 .exact (gcells L v)) :: Part.dev L.q0 L.s0 v.d0 :: R)) : Sep H0 own B (rparts L (v.setDev 1 l) R) := h.b2
def RL.q (L : RL) (d : Int) : Nat := if d = 0 then L.q0 else L.q1
def RL.s (L : RL) (d : Int) : AVal := if d = 0 then L.s0 else L.s1
/-- What is done to a device is done to the rig. -/
theorem rp_at {d : Int} (hd : d = 0 ∨ d = 1) (h : Sep H0 own B (rparts L v R)) : ∃ Y, Sep H0 own B (Part.dev (L.q d) (L.s d) (v.dev d) :: Y) ∧ ∀ C l, Sep H0 own C (Part.dev (L.q d) (L.s d) l :: Y) → Sep H0 own C (rparts L (v.setDev d l) R) := by
  rcases hd with rfl | rfl
  · exact ⟨_, rp_dev0 h, fun C l k => rp_back0 k⟩
  · exact ⟨_, rp_dev1 h, fun C l k => rp_back1 k⟩
theorem rp_ptr {d : Int} (hd : d = 0 ∨ d = 1) (h : Sep H0 own B (rparts L v R)) {K : AVal → Prop} (k : K (.ptr ⟨L.q d, 0, 0⟩)) :
    vb (aLoad B false 1 (.ptr ⟨L.p, 0, 0 + 0 + d.toNat * 1⟩)) K := by
  have hg := h.g0
  rcases hd with rfl | rfl
  · exact vb_ld hg rfl k
  · exact vb_ld hg rfl k
theorem rig_may_spec (p : Nat) (d i : Int) : S_rig_Rig_may [.ptr ⟨p, 0, 0⟩, .int .i64 d, .int .i64 i] B (.int .i64 (mayG d i)) B := by
  refine ⟨_, _, _, rfl, ?_, List.prefix_refl _⟩
  unfold rig_Rig_may.w mayG
  refine vb_i (e_ptrNil _ _) (isB_F ?_)
  refine vb_i (lss64 _ _ _) ?_
  refine isB_c (fun h1 => ?_) (fun h1 => ?_)
  · exact fin_ret (rvs_v (rvs_nil _)) ⟨by rw [if_pos (.inl h1)]; rfl, rfl⟩
  refine vb_i (geq64 _ _ _) ?_
  refine isB_c (fun h2 => ?_) (fun h2 => ?_)
  · exact fin_ret (rvs_v (rvs_nil _)) ⟨by rw [if_pos (.inr h2)]; rfl, rfl⟩
  rw [if_neg (by omega)]
  refine vb_i (lss64 _ _ _) ?_
  refine isB_c (fun h3 => ?_) (fun h3 => ?_)
  · exact fin_ret (rvs_v (rvs_nil _)) ⟨by rw [if_pos (.inl h3)]; rfl, rfl⟩
  refine vb_i (geq64 _ _ _) ?_
  refine isB_c (fun h4 => ?_) (fun h4 => ?_)
  · exact fin_ret (rvs_v (rvs_nil _)) ⟨by rw [if_pos (.inr h4)]; rfl, rfl⟩
  exact fin_ret (rvs_v (rvs_nil _)) ⟨by rw [if_neg (by omega)]; rfl, rfl⟩
/-- A variable that a function value has. -/
theorem s_boxS (h : Sep H0 own B R) {x : AVal} (hx : x.sc = true) {K : AVal → AHeap → Prop} (k : ∀ i C, Sep H0 own C (.obj i (.cells 0 .exact [x]) :: R) → K (.ptr ⟨i, 0, 0⟩) C) : hb (aBox B x) K := by
  have hd : x.defd = true := by cases x <;> first | rfl | cases hx
  exact s_box h hd fun i C _ hs => k i C (by rw [sc_cells hx] at hs; exact hs)
theorem rig_step_cb {f : AVal} {K : AVal → AHeap → Prop} (h : Sep H0 own B (rparts L v R)) (hw : WR v) (hc : v.calls < 4611686018427387904)
    (hbad : ∀ C, v.err ≠ 0 → Sep H0 own C (rparts L v.step R) → K (.int .i64 v.err) C)
    (hgo : ∀ D, v.err = 0 → Sep H0 own D (rparts L v.step R) → ∃ r E, rigCP f [] D r E ∧ K r E) : cb (S_rig_Rig_step [.ptr ⟨L.p, 0, 0⟩, f] B) K := rig_step_spec h hw hc hbad hgo
theorem rig_Read_spec (h : Sep H0 own B (rparts L v R)) (hw : WR v) (hc : v.calls < 4611686018427387904) (d i : Int) :
    ∃ C, S_rig_Rig_Read [.ptr ⟨L.p, 0, 0⟩, .int .i64 d, .int .i64 i] B (.tup [.str (v.readS d i), .int .i64 (v.askE d i)]) C ∧ Sep H0 own C (rparts L (v.ask d i) R) := by
  obtain ⟨r, C, h1, h2, h3⟩ := rig_Rig_Read.out (x0 := .ptr ⟨L.p, 0, 0⟩) (x1 := .int .i64 d) (x2 := .int .i64 i) (H := B) (Q := fun r C => r = .tup [.str (v.readS d i), .int .i64 (v.askE d i)] ∧ Sep H0 own C (rparts L (v.ask d i) R)) (by
    unfold rig_Rig_Read.w
    refine s_boxS h rfl fun b0 _ hs => s_boxS hs rfl fun b1 _ hs => s_boxS hs rfl fun b2 _ hs => ?_
    repeat first
    | ((with_reducible apply vb_ld); (· first | exact hs.g0 | exact hs.g1 | exact hs.g2 | exact hs.g3 | exact hs.g4 | exact hs.g5 | exact hs.g6 | exact hs.rd hg | exact hs.rd hg2 | exact hs.rd hg3 | exact hs.rd hg4 | assumption); (· rfl))
    refine cb_i _ _ (rig_may_spec _ d i) ?_
    refine vb_i (neq64 _ _ _) ?_
    refine isB_c (fun hm => ?_) (fun hm => ?_)
    · refine fin_ret (rvs_v (rvs_v (rvs_nil _))) ⟨?_, ?_⟩
      · unfold RV.readS RV.askE
        rw [if_neg hm, if_neg hm]; rfl
      · unfold RV.ask
        rw [if_neg hm]; exact hs.tail.tail.tail
    have hm : mayG d i = 0 := Classical.not_not.1 hm
    obtain ⟨hd, hi0, hi1⟩ := mayG_ok hm
    refine s_alloc hs fun b3 _ _ hs => ?_
    repeat first
    | ((with_reducible apply vb_ld); (· first | exact hs.g0 | exact hs.g1 | exact hs.g2 | exact hs.g3 | exact hs.g4 | exact hs.g5 | exact hs.g6 | exact hs.rd hg | exact hs.rd hg2 | exact hs.rd hg3 | exact hs.rd hg4 | assumption); (· rfl))
    | ((with_reducible first | apply s_store1 hs | apply s_store1 hs.f1 | apply s_store1 hs.f2 | apply s_store1 hs.f3); (· rfl); (· first | rfl | assumption); (· simp only [List.length_cons, List.length_nil]; omega); intro _ hs; try simp only [List.set_cons_zero, List.set_cons_succ, Nat.add_zero, Nat.zero_add] at hs)
    have eE : v.askE d i = v.err := if_pos hm
    have eA : v.ask d i = v.step := if_pos hm
    refine rig_step_cb (rp_in (X := [_, _, _, _]) hs) hw hc (fun C he hC => ?_) (fun D he hD => ?_)
    · have e : v.readS d i = [] := by unfold RV.readS; rw [eE, if_neg he]
      rw [e, eE, eA]
      replace hs := rp_out (X := [_, _, _, _]) hC
      repeat first
      | ((with_reducible apply vb_ld); (· first | exact hs.g0 | exact hs.g1 | exact hs.g2 | exact hs.g3 | exact hs.g4 | exact hs.g5 | exact hs.g6 | exact hs.rd hg | exact hs.rd hg2 | exact hs.rd hg3 | exact hs.rd hg4 | assumption); (· rfl))
      exact fin_ret (rvs_v (rvs_v (rvs_nil _))) ⟨rfl, hs.tail.tail.tail.tail⟩
    · replace hs := rp_out (X := [_, _, _, _]) hD
      have hw' := hw.step
      obtain ⟨Y, hY, _⟩ := rp_at hd hD
      obtain ⟨r, E, h1, hr, hs⟩ := rig_Rig_Read_1.out (x0 := .ptr ⟨b0, 0, 0⟩) (x1 := .ptr ⟨b1, 0, 0⟩) (x2 := .ptr ⟨b2, 0, 0⟩) (x3 := .ptr ⟨b3, 0, 0⟩) (H := D)
        (Q := fun r C => r = .int .i64 0 ∧ Sep H0 own C (.obj b3 (.cells 0 .exact [.str (v.readS d i)]) :: rparts L v.step R)) (by
        unfold rig_Rig_Read_1.w
        repeat first
        | with_reducible refine vb_i (e_nilCheck _) ?_
        | with_reducible refine vb_i (e_fieldAddr _ _) ?_
        | ((with_reducible apply vb_ld); (· first | exact hs.g0 | exact hs.g1 | exact hs.g2 | exact hs.g3 | exact hs.g4 | exact hs.g5 | exact hs.g6 | exact hs.rd hg | exact hs.rd hg2 | exact hs.rd hg3 | exact hs.rd hg4 | assumption); (· rfl))
        | ((with_reducible refine vb_i (e_idxAddrArr ?_ ?_) ?_); (· omega); (· omega))
        refine rp_ptr hd hD ?_
        repeat first
        | ((with_reducible apply vb_ld); (· first | exact hs.g0 | exact hs.g1 | exact hs.g2 | exact hs.g3 | exact hs.g4 | exact hs.g5 | exact hs.g6 | exact hs.rd hg | exact hs.rd hg2 | exact hs.rd hg3 | exact hs.rd hg4 | assumption); (· rfl))
        obtain ⟨E, hS, hE⟩ := read_spec hY.head i
        refine cb_i _ _ hS ?_
        have er : readR (v.step.dev d) i = .tup [.str (bkAt (v.step.dev d) i).now, .int .i64 0] := if_neg (by rw [(hw'.dev d).1]; omega)
        rw [er]
        replace hs := hs.quiet hE
        repeat first
        | with_reducible refine vb_i e_ext0 ?_
        | with_reducible refine vb_i e_ext1 ?_
        | ((with_reducible first | apply s_store1 hs | apply s_store1 hs.f1 | apply s_store1 hs.f2 | apply s_store1 hs.f3); (· rfl); (· first | rfl | assumption); (· simp only [List.length_cons, List.length_nil]; omega); intro _ hs; try simp only [List.set_cons_zero, List.set_cons_succ, Nat.add_zero, Nat.zero_add] at hs)
        have e : v.readS d i = (bkAt (v.step.dev d) i).now := by unfold RV.readS; rw [eE, if_pos he, eA]
        exact fin_ret (rvs_v (rvs_nil _)) ⟨rfl, by rw [e]; exact hs.b3.tail.tail.tail⟩)
      subst hr
      refine ⟨_, E, .inl ⟨_, rfl, h1⟩, ?_⟩
      rw [eE, eA, he]
      repeat first
      | ((with_reducible apply vb_ld); (· first | exact hs.g0 | exact hs.g1 | exact hs.g2 | exact hs.g3 | exact hs.g4 | exact hs.g5 | exact hs.g6 | exact hs.rd hg | exact hs.rd hg2 | exact hs.rd hg3 | exact hs.rd hg4 | assumption); (· rfl))
      exact fin_ret (rvs_v (rvs_v (rvs_nil _))) ⟨rfl, hs.tail⟩)
  exact ⟨C, by rw [← h2]; exact h1, h3⟩
end
end Go.Sh

/- Writing, flushing; the register; what is to come; crashes. -/
namespace Go.Sh
open Go Go.Abs

section
variable {H0 B : AHeap} {own : Nat → Prop} {R X : List Part} {L : RL} {v : RV}
theorem rig_Write_spec (h : Sep H0 own B (rparts L v R)) (hw : WR v) (hc : v.calls < 4611686018427387904) (d i : Int) (s : List UInt8) :
    ∃ C, S_rig_Rig_Write [.ptr ⟨L.p, 0, 0⟩, .int .i64 d, .int .i64 i, .str s] B (.int .i64 (v.writeE d i s)) C ∧ Sep H0 own C (rparts L (v.write d i s) R) := by
  obtain ⟨r, C, h1, h2, h3⟩ := rig_Rig_Write.out (x0 := .ptr ⟨L.p, 0, 0⟩) (x1 := .int .i64 d) (x2 := .int .i64 i) (x3 := .str s) (H := B) (Q := fun r C => r = .int .i64 (v.writeE d i s) ∧ Sep H0 own C (rparts L (v.write d i s) R)) (by
    unfold rig_Rig_Write.w
    refine s_boxS h rfl fun b0 _ hs => s_boxS hs rfl fun b1 _ hs => s_boxS hs rfl fun b2 _ hs => s_boxS hs rfl fun b3 _ hs => ?_
    repeat first
    | ((with_reducible apply vb_ld); (· first | exact hs.g0 | exact hs.g1 | exact hs.g2 | exact hs.g3 | exact hs.g4 | exact hs.g5 | exact hs.g6 | exact hs.rd hg | exact hs.rd hg2 | exact hs.rd hg3 | exact hs.rd hg4 | assumption); (· rfl))
    refine cb_i _ _ (rig_may_spec _ d i) ?_
    refine vb_i (neq64 _ _ _) ?_
    unfold RV.writeE RV.write
    refine isB_c (fun hm => ?_) (fun hm => ?_)
    · rw [if_neg hm, if_neg (fun h => hm h.1)]
      exact fin_ret (rvs_v (rvs_nil _)) ⟨rfl, hs.tail.tail.tail.tail⟩
    have hm : mayG d i = 0 := Classical.not_not.1 hm
    obtain ⟨hd, hi0, hi1⟩ := mayG_ok hm
    rw [if_pos hm]
    repeat first
    | with_reducible refine vb_i (neq64 _ _ _) ?_
    | with_reducible refine vb_i (e_lenSt _) ?_
    | ((with_reducible apply vb_ld); (· first | exact hs.g0 | exact hs.g1 | exact hs.g2 | exact hs.g3 | exact hs.g4 | exact hs.g5 | exact hs.g6 | exact hs.rd hg | exact hs.rd hg2 | exact hs.rd hg3 | exact hs.rd hg4 | assumption); (· rfl))
    refine isB_c (fun hl => ?_) (fun hl => ?_)
    · have hl' : ¬ s.length = 64 := by omega
      rw [if_neg hl', if_neg (fun h => hl' h.2)]
      exact fin_ret (rvs_v (rvs_nil _)) ⟨rfl, hs.tail.tail.tail.tail⟩
    have hl' : s.length = 64 := by omega
    rw [if_pos hl', if_pos ⟨hm, hl'⟩]
    repeat first
    | ((with_reducible apply vb_ld); (· first | exact hs.g0 | exact hs.g1 | exact hs.g2 | exact hs.g3 | exact hs.g4 | exact hs.g5 | exact hs.g6 | exact hs.rd hg | exact hs.rd hg2 | exact hs.rd hg3 | exact hs.rd hg4 | assumption); (· rfl))
    refine rig_step_cb (rp_in (X := [_, _, _, _]) hs) hw hc (fun C he hC => ?_) (fun D he hD => ?_)
    · rw [if_neg he]
      exact fin_ret (rvs_v (rvs_nil _)) ⟨rfl, rp_drop (X := [_, _, _, _]) hC⟩
    · replace hs := rp_out (X := [_, _, _, _]) hD
      have hw' := hw.step
      obtain ⟨Y, hY, hback⟩ := rp_at hd hD
      obtain ⟨r, E, h1, hr, hs⟩ := rig_Rig_Write_1.out (x0 := .ptr ⟨b0, 0, 0⟩) (x1 := .ptr ⟨b1, 0, 0⟩) (x2 := .ptr ⟨b2, 0, 0⟩) (x3 := .ptr ⟨b3, 0, 0⟩) (H := D)
        (Q := fun r C => r = .int .i64 0 ∧ Sep H0 own C (rparts L (v.step.setDev d (blkW (v.step.dev d) i s)) R)) (by
        unfold rig_Rig_Write_1.w
        repeat first
        | with_reducible refine vb_i (e_nilCheck _) ?_
        | with_reducible refine vb_i (e_fieldAddr _ _) ?_
        | ((with_reducible apply vb_ld); (· first | exact hs.g0 | exact hs.g1 | exact hs.g2 | exact hs.g3 | exact hs.g4 | exact hs.g5 | exact hs.g6 | exact hs.rd hg | exact hs.rd hg2 | exact hs.rd hg3 | exact hs.rd hg4 | assumption); (· rfl))
        | ((with_reducible refine vb_i (e_idxAddrArr ?_ ?_) ?_); (· omega); (· omega))
        refine rp_ptr hd hD ?_
        repeat first
        | ((with_reducible apply vb_ld); (· first | exact hs.g0 | exact hs.g1 | exact hs.g2 | exact hs.g3 | exact hs.g4 | exact hs.g5 | exact hs.g6 | exact hs.rd hg | exact hs.rd hg2 | exact hs.rd hg3 | exact hs.rd hg4 | assumption); (· rfl))
        obtain ⟨E, hS, hE⟩ := write_spec hY i s
        refine cb_i _ _ hS ?_
        have er : mayE (v.step.dev d).length i s = 0 := may_blk (hw'.dev d).1 hm hl'
        refine fin_ret (rvs_v (rvs_nil _)) ⟨by rw [er]; rfl, ?_⟩
        exact rp_drop (X := [_, _, _, _]) (hback _ _ hE))
      subst hr
      refine ⟨_, E, .inr (.inl ⟨_, rfl, h1⟩), ?_⟩
      rw [he, if_pos rfl]
      exact fin_ret (rvs_v (rvs_nil _)) ⟨rfl, hs⟩)
  exact ⟨C, by rw [← h2]; exact h1, h3⟩
end
end Go.Sh

/- What is to come; crashes; rigs made; none. -/
namespace Go.Sh
open Go Go.Abs

def rightN (n : Int) : Prop := 1 ≤ n ∧ n ≤ 1099511627776
instance (n : Int) : Decidable (rightN n) := inferInstanceAs (Decidable (_ ∧ _))
def tamperE (d i : Int) (s : List UInt8) : Int := if mayG d i = 0 then (if s.length = 64 then 0 else 6) else mayG d i
def RV.tamper (v : RV) (d i : Int) (s : List UInt8) : RV := if tamperE d i s = 0 then v.setDev d (blkT (v.dev d) i s) else v
def rig0 : RV := ⟨List.replicate 288 bk0, List.replicate 288 bk0, zs 96, false, 0, 0, 0, 0, 0, 0, []⟩
theorem WR.rig0 : WR rig0 := ⟨List.length_replicate, List.length_replicate, rep_WB _ (by decide), rep_WB _ (by decide), by decide, by decide, by decide, .inl rfl, by decide⟩
theorem tamper_ok {d i : Int} {s : List UInt8} (h : tamperE d i s = 0) : mayG d i = 0 ∧ s.length = 64 := by
  unfold tamperE at h
  by_cases h1 : mayG d i = 0
  · rw [if_pos h1] at h
    by_cases h2 : s.length = 64
    · exact ⟨h1, h2⟩
    · rw [if_neg h2] at h; exact absurd h (by decide)
  · rw [if_neg h1] at h; exact absurd h h1
section
variable {v : RV}
end
section
variable {H0 B : AHeap} {own : Nat → Prop} {R X : List Part} {L : RL} {v : RV}
theorem rig_Tamper_spec (h : Sep H0 own B (rparts L v R)) (hw : WR v) (d i : Int) (s : List UInt8) :
    ∃ C, S_rig_Rig_Tamper [.ptr ⟨L.p, 0, 0⟩, .int .i64 d, .int .i64 i, .str s] B (.int .i64 (tamperE d i s)) C ∧ Sep H0 own C (rparts L (v.tamper d i s) R) := by
  obtain ⟨r, C, h1, h2, h3⟩ := rig_Rig_Tamper.out (x0 := .ptr ⟨L.p, 0, 0⟩) (x1 := .int .i64 d) (x2 := .int .i64 i) (x3 := .str s) (H := B) (Q := fun r C => r = .int .i64 (tamperE d i s) ∧ Sep H0 own C (rparts L (v.tamper d i s) R)) (by
    unfold rig_Rig_Tamper.w
    have hs := h
    refine cb_i _ _ (rig_may_spec _ d i) ?_
    refine vb_i (neq64 _ _ _) ?_
    unfold RV.tamper tamperE
    refine isB_c (fun hm => ?_) (fun hm => ?_)
    · rw [if_neg hm, if_neg hm]
      exact fin_ret (rvs_v (rvs_nil _)) ⟨rfl, hs⟩
    have hm : mayG d i = 0 := Classical.not_not.1 hm
    obtain ⟨hd, hi0, hi1⟩ := mayG_ok hm
    rw [if_pos hm]
    refine vb_i (e_lenSt _) ?_
    refine vb_i (neq64 _ _ _) ?_
    refine isB_c (fun hl => ?_) (fun hl => ?_)
    · have hl' : ¬ s.length = 64 := by omega
      rw [if_neg hl', if_neg (by decide)]
      exact fin_ret (rvs_v (rvs_nil _)) ⟨rfl, hs⟩
    have hl' : s.length = 64 := by omega
    rw [if_pos hl', if_pos rfl]
    repeat first
    | with_reducible refine vb_i (e_nilCheck _) ?_
    | with_reducible refine vb_i (e_fieldAddr _ _) ?_
    | ((with_reducible refine vb_i (e_idxAddrArr ?_ ?_) ?_); (· omega); (· omega))
    refine rp_ptr hd hs ?_
    obtain ⟨Y, hY, hback⟩ := rp_at hd hs
    obtain ⟨E, hS, hE⟩ := tamper_spec hY i s
    refine cb_i _ _ hS ?_
    have er : mayE (v.dev d).length i s = 0 := may_blk (hw.dev d).1 hm hl'
    exact fin_ret (rvs_v (rvs_nil _)) ⟨by rw [er]; rfl, hback _ _ hE⟩)
  exact ⟨C, by rw [← h2]; exact h1, h3⟩
end
end Go.Sh

/- Rigs made, and looked at; no rig. -/
namespace Go.Sh
open Go Go.Abs

section
variable {H0 B : AHeap} {own : Nat → Prop} {R X : List Part} {L : RL} {v : RV}
theorem rig_New_spec : ∃ C L, S_rig_New [] B (.ptr ⟨L.p, 0, 0⟩) C ∧ Sep B (fun _ => False) C (rparts L rig0 []) := by
  obtain ⟨r, C, h1, L, h2, h3⟩ := rig_New.out (H := B) (Q := fun r C => ∃ L : RL, r = .ptr ⟨L.p, 0, 0⟩ ∧ Sep B (fun _ => False) C (rparts L rig0 [])) (by
    unfold rig_New.w
    have hs : Sep B (fun _ => False) B [] := Sep.start B
    refine s_zeros (n := 96) hs (by decide) fun C pC hs => ?_
    repeat first
    | ((with_reducible apply s_box hs); (· rfl); intro _ _ _ hs; try simp only [AVal.cells] at hs)
    | ((with_reducible apply vb_bld); (· first | rfl | (simp only [evF, evS]; rfl)))
    rename_i p D _
    have hs : Sep B (fun _ => False) D [.obj p (.cells 0 .exact [.nilp, .nilp, .str (zs 96), .bool false, .int .i64 0, .int .i64 0, .int .i64 0, .int .i64 0, .int .i64 0, .int .i64 0, .str []])] := hs
    refine LoopP.step ⟨2, ?_⟩
    unfold rig_New.L3 rig_New.L3.b
    try simp only [evB]
    refine vb_i (lss64 _ _ _) ?_
    refine isB_ct (by decide) ?_
    obtain ⟨q0, s0, D0, hS, h0⟩ := new_spec (B := D) (n := 288) (by decide) (by decide)
    refine cb_i _ _ hS ?_
    replace hs := Sep.q0 hs h0
    repeat first
    | with_reducible refine vb_i e_ext0 ?_
    | with_reducible refine vb_i e_ext1 ?_
    | ((with_reducible refine vb_i (add64 ?_ ?_) ?_); (· omega); (· omega))
    | with_reducible refine vb_i (e_nilCheck _) ?_
    | with_reducible refine vb_i (e_fieldAddr _ _) ?_
    | ((with_reducible refine vb_i (e_idxAddrArr ?_ ?_) ?_); (· omega); (· omega))
    | ((with_reducible first | apply s_store1 hs | apply s_store1 hs.f1 | apply s_store1 hs.f2 | apply s_store1 hs.f3); (· rfl); (· first | rfl | assumption); (· simp only [List.length_cons, List.length_nil]; omega); intro _ hs; try simp only [List.set_cons_zero, List.set_cons_succ, Nat.add_zero, Nat.zero_add] at hs)
    rename_i D1
    unfold LoopN
    try simp only [evB]
    refine vb_i (lss64 _ _ _) ?_
    refine isB_ct (by decide) ?_
    obtain ⟨q1, s1, D2, hS, h0⟩ := new_spec (B := D1) (n := 288) (by decide) (by decide)
    refine cb_i _ _ hS ?_
    replace hs := Sep.q0 hs h0
    repeat first
    | with_reducible refine vb_i e_ext0 ?_
    | with_reducible refine vb_i e_ext1 ?_
    | with_reducible refine vb_i (e_nilCheck _) ?_
    | with_reducible refine vb_i (e_fieldAddr _ _) ?_
    | ((with_reducible refine vb_i (e_idxAddrArr ?_ ?_) ?_); (· omega); (· omega))
    refine s_store1 hs.f1 rfl rfl (by show 1 < 11; decide) fun D3 hs => ?_
    repeat first
    | ((with_reducible refine vb_i (add64 ?_ ?_) ?_); (· omega); (· omega))
    unfold LoopN
    try simp only [evB]
    refine vb_i (lss64 _ _ _) ?_
    refine isB_cf (by decide) ?_
    refine onE_i ?_
    have hfin : Sep B (fun _ => False) D3 (rparts ⟨p, q0, q1, s0, s1⟩ rig0 []) := hs.f2.f1
    exact fin_ret (rvs_v (rvs_nil _)) ⟨hfin.pre fun _ x => x, _, rfl, hfin⟩)
  exact ⟨C, L, by rw [← h2]; exact h1, h3⟩
end
end Go.Sh
