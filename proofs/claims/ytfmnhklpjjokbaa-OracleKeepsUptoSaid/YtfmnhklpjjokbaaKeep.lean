/- One text of these: Keep0, KeepW1, KeepP1, KeepP2, KeepP3, KeepP4, KeepP5. -/
import Derived.Test.YtfmnhklpjjokbaaPair
import Derived.Test.YtfmnhklpjjokbaaAbsF
import Derived.Test.YtfmnhklpjjokbaaAbsH
import Derived.Test.YtfmnhklpjjokbaaNum

/- The oracle's texts, kept and forgotten. -/
namespace Go.Sh
open Go Go.Abs

end Go.Sh

/- What Go functions come to over abstract values, printed by a program (wx.py); of each function its own text is what is told of it. -/
namespace Go.Sh
open Go Go.Abs

def okeep_New.w (H : AHeap) (K : AVal → AHeap → Prop) : Prop :=
  hb (aMakeMap H) fun v1 H2 =>
  vb (aBuild [.nils, .nilm] (fun k => ([(0, 1), (1, 1)] : List (Nat × Nat))[k]?) [(1, v1)]) fun v3 =>
  hb (aBox H2 v3) fun v4 H5 =>
  fin .ret [.v (v4)] H5 K

def S_okeep_New : Abs.Spec := fun args H r H' => args = [] ∧ (okeep_New.w H fun r1 H1 => r1 = r ∧ H1 = H') ∧ H <+: H'
theorem okeep_New.ok (args : List AVal) (H : AHeap) (r : AVal) (H' : AHeap) (h : S_okeep_New args H r H') : args = [] ∧ okeep_New.w H fun r1 H1 => r1 = r ∧ H1 = H' := by
  obtain ⟨h1, h2, _⟩ := h
  exact ⟨h1, h2⟩
theorem okeep_New.quiet {args : List AVal} {H : AHeap} {r : AVal} {H' : AHeap} (h : S_okeep_New args H r H') : H <+: H' := by
  obtain ⟨_, _, h⟩ := h
  exact h
set_option maxRecDepth 100000 in
theorem okeep_New.ex (H : AHeap) : Ex fun K : AVal × AHeap → Prop => okeep_New.w H fun r H => K (r, H) := by
  unfold okeep_New.w
  repeat with_reducible first
    | exact Ex.pt _
    | exact Ex.fin
    | exact Ex.no
    | refine Ex.vb fun _ => ?_
    | refine Ex.hb fun _ _ => ?_
    | refine Ex.sb fun _ => ?_
    | refine Ex.cb fun _ _ => ?_
    | refine Ex.isB fun _ => ?_
    | refine Ex.cond ?_ ?_
    | refine Ex.onE ?_ ?_
    | refine Ex.join ?_ fun _ _ _ => ?_
    | refine Ex.loop (fun _ _ => ?_) fun _ _ _ => ?_

theorem okeep_New.out {H : AHeap} {Q : AVal → AHeap → Prop} (h : okeep_New.w H fun r H' => (H <+: H') ∧ Q r H') : ∃ r H', S_okeep_New [] H r H' ∧ Q r H' := by
  obtain ⟨r, H', h1, h2⟩ := (okeep_New.ex H).out h
  exact ⟨r, H', ⟨rfl, h1, h2.1⟩, h2.2⟩

def okeep_Sum.w (x0 : AVal) (x1 : AVal) (H : AHeap) (K : AVal → AHeap → Prop) : Prop :=
  hb (aAlloc H (List.replicate 32 (.int .u8 0))) fun v1 H2 =>
  cb (S_sha_Sum [x1] H2) fun v3 H4 =>
  hb (aAlloc H4 (List.replicate 32 (.int .u8 0))) fun v5 H6 =>
  sb (aStore H6 32 v5 v3) fun H7 =>
  vb (aEql false .ptr H7 x0 .nilp) fun v8 =>
  isB v8 fun b9 => cond b9
    (vb (aLoad H7 true 32 v5) fun v10 =>
    sb (aStore H7 32 v1 v10) fun H11 =>
    fin .ret [.c true 32 (v1)] H11 K)
    (JoinP (fun Kj12 => vb (aNilCheck x0) fun v13 =>
      vb (aFieldAddr 1 v13) fun v14 =>
      vb (aLoad H7 false 1 v14) fun v15 =>
      vb (aEql false .map H7 v15 .nilm) fun v16 =>
      isB v16 fun b17 => cond b17
        (hb (aMakeMap H7) fun v18 H19 =>
        vb (aNilCheck x0) fun v20 =>
        vb (aFieldAddr 1 v20) fun v21 =>
        sb (aStore H19 1 v21 v18) fun H22 =>
        Kj12 .normal [] H22)
        (Kj12 .normal [] H7))
    (fun e23 vs24 H25 =>
      onE e23 .normal
        (vb (aNilCheck x0) fun v26 =>
        vb (aFieldAddr 1 v26) fun v27 =>
        vb (aLoad H25 false 1 v27) fun v28 =>
        vb (aLookup H25 .str (.bool false) false v28 x1) fun v29 =>
        vb (aUn .not v29) fun v30 =>
        isB v30 fun b31 => cond b31
          (vb (aNilCheck x0) fun v32 =>
          vb (aFieldAddr 1 v32) fun v33 =>
          vb (aLoad H25 false 1 v33) fun v34 =>
          sb (aMapUpdate H25 .str v34 x1 (.bool true)) fun H35 =>
          vb (aNilCheck x0) fun v36 =>
          vb (aFieldAddr 0 v36) fun v37 =>
          vb (aLoad H35 false 1 v37) fun v38 =>
          vb (aLoad H35 true 32 v5) fun v39 =>
          vb (aBuild [.str [], .int .u8 0, .int .u8 0, .int .u8 0, .int .u8 0, .int .u8 0, .int .u8 0, .int .u8 0, .int .u8 0, .int .u8 0, .int .u8 0, .int .u8 0, .int .u8 0, .int .u8 0, .int .u8 0, .int .u8 0, .int .u8 0, .int .u8 0, .int .u8 0, .int .u8 0, .int .u8 0, .int .u8 0, .int .u8 0, .int .u8 0, .int .u8 0, .int .u8 0, .int .u8 0, .int .u8 0, .int .u8 0, .int .u8 0, .int .u8 0, .int .u8 0, .int .u8 0] (fun k => ([(0, 1), (1, 32)] : List (Nat × Nat))[k]?) [(0, x1), (1, v39)]) fun v40 =>
          hb (aBuildSlice H35 33 [.str [], .int .u8 0, .int .u8 0, .int .u8 0, .int .u8 0, .int .u8 0, .int .u8 0, .int .u8 0, .int .u8 0, .int .u8 0, .int .u8 0, .int .u8 0, .int .u8 0, .int .u8 0, .int .u8 0, .int .u8 0, .int .u8 0, .int .u8 0, .int .u8 0, .int .u8 0, .int .u8 0, .int .u8 0, .int .u8 0, .int .u8 0, .int .u8 0, .int .u8 0, .int .u8 0, .int .u8 0, .int .u8 0, .int .u8 0, .int .u8 0, .int .u8 0, .int .u8 0] 1 [(0, v40)]) fun v41 H42 =>
          hb (aAppendS H42 33 48 v38 v41) fun v43 H44 =>
          vb (aNilCheck x0) fun v45 =>
          vb (aFieldAddr 0 v45) fun v46 =>
          sb (aStore H44 1 v46 v43) fun H47 =>
          vb (aLoad H47 true 32 v5) fun v48 =>
          sb (aStore H47 32 v1 v48) fun H49 =>
          fin .ret [.c true 32 (v1)] H49 K)
          (vb (aLoad H25 true 32 v5) fun v50 =>
          sb (aStore H25 32 v1 v50) fun H51 =>
          fin .ret [.c true 32 (v1)] H51 K))
      (False)))

def S_okeep_Sum : Abs.Spec := fun args H r H' => ∃ x0 x1 : AVal, args = [x0, x1] ∧ (okeep_Sum.w x0 x1 H fun r1 H1 => r1 = r ∧ H1 = H')
theorem okeep_Sum.ok (args : List AVal) (H : AHeap) (r : AVal) (H' : AHeap) (h : S_okeep_Sum args H r H') : ∃ x0 x1 : AVal, args = [x0, x1] ∧ okeep_Sum.w x0 x1 H fun r1 H1 => r1 = r ∧ H1 = H' := by
  obtain ⟨x0, x1, h1, h2⟩ := h
  exact ⟨x0, x1, h1, h2⟩
set_option maxRecDepth 100000 in
theorem okeep_Sum.ex (x0 x1 : AVal) (H : AHeap) : Ex fun K : AVal × AHeap → Prop => okeep_Sum.w x0 x1 H fun r H => K (r, H) := by
  unfold okeep_Sum.w
  repeat with_reducible first
    | exact Ex.pt _
    | exact Ex.fin
    | exact Ex.no
    | refine Ex.vb fun _ => ?_
    | refine Ex.hb fun _ _ => ?_
    | refine Ex.sb fun _ => ?_
    | refine Ex.cb fun _ _ => ?_
    | refine Ex.isB fun _ => ?_
    | refine Ex.cond ?_ ?_
    | refine Ex.onE ?_ ?_
    | refine Ex.join ?_ fun _ _ _ => ?_
    | refine Ex.loop (fun _ _ => ?_) fun _ _ _ => ?_

theorem okeep_Sum.out {x0 x1 : AVal} {H : AHeap} {Q : AVal → AHeap → Prop} (h : okeep_Sum.w x0 x1 H fun r H' => Q r H') : ∃ r H', S_okeep_Sum [x0, x1] H r H' ∧ Q r H' := by
  obtain ⟨r, H', h1, h2⟩ := (okeep_Sum.ex x0 x1 H).out h
  exact ⟨r, H', ⟨_, _, rfl, h1⟩, h2⟩

def okeep_Len.w (x0 : AVal) (H : AHeap) (K : AVal → AHeap → Prop) : Prop :=
  vb (aEql false .ptr H x0 .nilp) fun v1 =>
  isB v1 fun b2 => cond b2
    (fin .ret [.v (.int .i64 0)] H K)
    (vb (aNilCheck x0) fun v3 =>
    vb (aFieldAddr 0 v3) fun v4 =>
    vb (aLoad H false 1 v4) fun v5 =>
    vb (lenSl v5) fun v6 =>
    fin .ret [.v (v6)] H K)

def S_okeep_Len : Abs.Spec := fun args H r H' => ∃ x0 : AVal, args = [x0] ∧ (okeep_Len.w x0 H fun r1 H1 => r1 = r ∧ H1 = H') ∧ H <+: H'
theorem okeep_Len.ok (args : List AVal) (H : AHeap) (r : AVal) (H' : AHeap) (h : S_okeep_Len args H r H') : ∃ x0 : AVal, args = [x0] ∧ okeep_Len.w x0 H fun r1 H1 => r1 = r ∧ H1 = H' := by
  obtain ⟨x0, h1, h2, _⟩ := h
  exact ⟨x0, h1, h2⟩
theorem okeep_Len.quiet {args : List AVal} {H : AHeap} {r : AVal} {H' : AHeap} (h : S_okeep_Len args H r H') : H <+: H' := by
  obtain ⟨_, _, _, h⟩ := h
  exact h
set_option maxRecDepth 100000 in
theorem okeep_Len.ex (x0 : AVal) (H : AHeap) : Ex fun K : AVal × AHeap → Prop => okeep_Len.w x0 H fun r H => K (r, H) := by
  unfold okeep_Len.w
  repeat with_reducible first
    | exact Ex.pt _
    | exact Ex.fin
    | exact Ex.no
    | refine Ex.vb fun _ => ?_
    | refine Ex.hb fun _ _ => ?_
    | refine Ex.sb fun _ => ?_
    | refine Ex.cb fun _ _ => ?_
    | refine Ex.isB fun _ => ?_
    | refine Ex.cond ?_ ?_
    | refine Ex.onE ?_ ?_
    | refine Ex.join ?_ fun _ _ _ => ?_
    | refine Ex.loop (fun _ _ => ?_) fun _ _ _ => ?_

theorem okeep_Len.out {x0 : AVal} {H : AHeap} {Q : AVal → AHeap → Prop} (h : okeep_Len.w x0 H fun r H' => (H <+: H') ∧ Q r H') : ∃ r H', S_okeep_Len [x0] H r H' ∧ Q r H' := by
  obtain ⟨r, H', h1, h2⟩ := (okeep_Len.ex x0 H).out h
  exact ⟨r, H', ⟨_, rfl, h1, h2.1⟩, h2.2⟩

def okeep_Input.w (x0 : AVal) (x1 : AVal) (H : AHeap) (K : AVal → AHeap → Prop) : Prop :=
  hb (aAlloc H (List.replicate 32 (.int .u8 0))) fun v1 H2 =>
  vb (aEql false .ptr H2 x0 .nilp) fun v3 =>
  isB v3 fun b4 => cond b4
    (vb (aBuild (List.replicate 32 (.int .u8 0)) (fun k => some (k * 1, 1)) []) fun v5 =>
    sb (aStore H2 32 v1 v5) fun H6 =>
    fin .ret [.v (.str []), .c true 32 (v1), .v (.int .i64 1)] H6 K)
    (vb (aBin .lss x1 (.int .i64 0)) fun v7 =>
    isB v7 fun b8 => cond b8
      (vb (aBuild (List.replicate 32 (.int .u8 0)) (fun k => some (k * 1, 1)) []) fun v9 =>
                  sb (aStore H2 32 v1 v9) fun H10 =>
                  fin .ret [.v (.str []), .c true 32 (v1), .v (.int .i64 3)] H10 K)
      (vb (aNilCheck x0) fun v11 =>
          vb (aFieldAddr 0 v11) fun v12 =>
            vb (aLoad H2 false 1 v12) fun v13 =>
              vb (lenSl v13) fun v14 =>
                vb (aBin .geq x1 v14) fun v15 =>
                  isB v15 fun b16 => cond b16
                    (vb (aBuild (List.replicate 32 (.int .u8 0)) (fun k => some (k * 1, 1)) []) fun v17 =>
                    sb (aStore H2 32 v1 v17) fun H18 =>
                    fin .ret [.v (.str []), .c true 32 (v1), .v (.int .i64 3)] H18 K)
                    (vb (aNilCheck x0) fun v19 =>
                    vb (aFieldAddr 0 v19) fun v20 =>
                    vb (aLoad H2 false 1 v20) fun v21 =>
                    vb (aIndexAddr 33 v21 x1) fun v22 =>
                    vb (aFieldAddr 0 v22) fun v23 =>
                    vb (aLoad H2 false 1 v23) fun v24 =>
                    vb (aNilCheck x0) fun v25 =>
                    vb (aFieldAddr 0 v25) fun v26 =>
                    vb (aLoad H2 false 1 v26) fun v27 =>
                    vb (aIndexAddr 33 v27 x1) fun v28 =>
                    vb (aFieldAddr 1 v28) fun v29 =>
                    vb (aLoad H2 true 32 v29) fun v30 =>
                    sb (aStore H2 32 v1 v30) fun H31 =>
                    fin .ret [.v (v24), .c true 32 (v1), .v (.int .i64 0)] H31 K)))

def S_okeep_Input : Abs.Spec := fun args H r H' => ∃ x0 x1 : AVal, args = [x0, x1] ∧ (okeep_Input.w x0 x1 H fun r1 H1 => r1 = r ∧ H1 = H') ∧ H <+: H'
theorem okeep_Input.ok (args : List AVal) (H : AHeap) (r : AVal) (H' : AHeap) (h : S_okeep_Input args H r H') : ∃ x0 x1 : AVal, args = [x0, x1] ∧ okeep_Input.w x0 x1 H fun r1 H1 => r1 = r ∧ H1 = H' := by
  obtain ⟨x0, x1, h1, h2, _⟩ := h
  exact ⟨x0, x1, h1, h2⟩
theorem okeep_Input.quiet {args : List AVal} {H : AHeap} {r : AVal} {H' : AHeap} (h : S_okeep_Input args H r H') : H <+: H' := by
  obtain ⟨_, _, _, _, h⟩ := h
  exact h
set_option maxRecDepth 100000 in
theorem okeep_Input.ex (x0 x1 : AVal) (H : AHeap) : Ex fun K : AVal × AHeap → Prop => okeep_Input.w x0 x1 H fun r H => K (r, H) := by
  unfold okeep_Input.w
  repeat with_reducible first
    | exact Ex.pt _
    | exact Ex.fin
    | exact Ex.no
    | refine Ex.vb fun _ => ?_
    | refine Ex.hb fun _ _ => ?_
    | refine Ex.sb fun _ => ?_
    | refine Ex.cb fun _ _ => ?_
    | refine Ex.isB fun _ => ?_
    | refine Ex.cond ?_ ?_
    | refine Ex.onE ?_ ?_
    | refine Ex.join ?_ fun _ _ _ => ?_
    | refine Ex.loop (fun _ _ => ?_) fun _ _ _ => ?_

theorem okeep_Input.out {x0 x1 : AVal} {H : AHeap} {Q : AVal → AHeap → Prop} (h : okeep_Input.w x0 x1 H fun r H' => (H <+: H') ∧ Q r H') : ∃ r H', S_okeep_Input [x0, x1] H r H' ∧ Q r H' := by
  obtain ⟨r, H', h1, h2⟩ := (okeep_Input.ex x0 x1 H).out h
  exact ⟨r, H', ⟨_, _, rfl, h1, h2.1⟩, h2.2⟩

def okeep_Forget_1.w (x0 : AVal) (x1 : AVal) (H : AHeap) (K : AVal → AHeap → Prop) : Prop :=
  hb (aBox H x0) fun v1 H2 =>
  vb (aFieldAddr 0 v1) fun v3 =>
  vb (aLoad H2 false 1 v3) fun v4 =>
  vb (aLoad H2 false 1 x1) fun v5 =>
  vb (aBin .eql v4 v5) fun v6 =>
  fin .ret [.v (v6)] H2 K

def S_okeep_Forget_1 : Abs.Spec := fun args H r H' => ∃ x0 x1 : AVal, args = [x0, x1] ∧ (okeep_Forget_1.w x0 x1 H fun r1 H1 => r1 = r ∧ H1 = H') ∧ H <+: H'
theorem okeep_Forget_1.ok (args : List AVal) (H : AHeap) (r : AVal) (H' : AHeap) (h : S_okeep_Forget_1 args H r H') : ∃ x0 x1 : AVal, args = [x0, x1] ∧ okeep_Forget_1.w x0 x1 H fun r1 H1 => r1 = r ∧ H1 = H' := by
  obtain ⟨x0, x1, h1, h2, _⟩ := h
  exact ⟨x0, x1, h1, h2⟩
theorem okeep_Forget_1.quiet {args : List AVal} {H : AHeap} {r : AVal} {H' : AHeap} (h : S_okeep_Forget_1 args H r H') : H <+: H' := by
  obtain ⟨_, _, _, _, h⟩ := h
  exact h
set_option maxRecDepth 100000 in
theorem okeep_Forget_1.ex (x0 x1 : AVal) (H : AHeap) : Ex fun K : AVal × AHeap → Prop => okeep_Forget_1.w x0 x1 H fun r H => K (r, H) := by
  unfold okeep_Forget_1.w
  repeat with_reducible first
    | exact Ex.pt _
    | exact Ex.fin
    | exact Ex.no
    | refine Ex.vb fun _ => ?_
    | refine Ex.hb fun _ _ => ?_
    | refine Ex.sb fun _ => ?_
    | refine Ex.cb fun _ _ => ?_
    | refine Ex.isB fun _ => ?_
    | refine Ex.cond ?_ ?_
    | refine Ex.onE ?_ ?_
    | refine Ex.join ?_ fun _ _ _ => ?_
    | refine Ex.loop (fun _ _ => ?_) fun _ _ _ => ?_

theorem okeep_Forget_1.out {x0 x1 : AVal} {H : AHeap} {Q : AVal → AHeap → Prop} (h : okeep_Forget_1.w x0 x1 H fun r H' => (H <+: H') ∧ Q r H') : ∃ r H', S_okeep_Forget_1 [x0, x1] H r H' ∧ Q r H' := by
  obtain ⟨r, H', h1, h2⟩ := (okeep_Forget_1.ex x0 x1 H).out h
  exact ⟨r, H', ⟨_, _, rfl, h1, h2.1⟩, h2.2⟩

/-- What function values come to. -/
def keepCP : CallsT := fun f a H r H' => ∃ cap, f = .func (.func KeepF.forget1) [] cap ∧ S_okeep_Forget_1 (a ++ cap) H r H'
def okeep_Index.L2.b (v1 : AVal) (x0 : AVal) (CP : CallsT) (x1 : AVal) (x8_2 : AVal) (H2 : AHeap) (Kn3 : List AVal → AHeap → Prop) (Ke4 : AExit → List AVal → AHeap → Prop) : Prop :=
  vb (aBin .lss x8_2 v1) fun v5 =>
  isB v5 fun b6 => cond b6
    (vb (aIndexAddr 33 x0 x8_2) fun v7 =>
    vb (aLoad H2 true 33 v7) fun v8 =>
    cb (CP x1 [v8] H2) fun v9 H10 =>
    isB v9 fun b11 => cond b11
      (Ke4 .ret [x8_2] H10)
      (vb (aBin .add x8_2 (.int .i64 1)) fun v12 =>
      Kn3 [v12] H10))
    (Ke4 (.exit 0) [.undef] H2)

def okeep_Index.L2 (v1 : AVal) (x0 : AVal) (CP : CallsT) (x1 : AVal) : Body := fun vs H Kn Ke => okeep_Index.L2.b v1 x0 CP x1 (vs.getD 0 .undef) H Kn Ke

def okeep_Index.w (CP : CallsT) (x0 : AVal) (x1 : AVal) (H : AHeap) (K : AVal → AHeap → Prop) : Prop :=
  vb (lenSl x0) fun v1 =>
  LoopP (okeep_Index.L2 v1 x0 CP x1) [.int .i64 0] H fun e13 vs14 H15 =>
    onE e13 (.exit 0)
      (fin .ret [.v (.int .i64 (-1))] H15 K)
    (onE e13 .ret
      (fin .ret [.v (vs14.getD 0 .undef)] H15 K)
    (False))

set_option maxRecDepth 100000 in
theorem okeep_Index.im {CP' : CallsT} (hcp : CallsT.le keepCP CP') (x0 x1 : AVal) (H : AHeap) : Im (fun K : AVal × AHeap → Prop => okeep_Index.w keepCP x0 x1 H fun r H => K (r, H)) fun K => okeep_Index.w CP' x0 x1 H fun r H => K (r, H) := by
  unfold okeep_Index.w
  repeat with_reducible first
    | exact Im.pt _
    | exact Im.fin
    | exact Im.no
    | refine Im.vb fun _ => ?_
    | refine Im.hb fun _ _ => ?_
    | refine Im.sb fun _ => ?_
    | refine Im.cb (fun _ _ h => h) fun _ _ => ?_
    | refine Im.cb (fun _ _ h => hcp _ _ _ _ _ h) fun _ _ => ?_
    | refine Im.and ?_ ?_
    | refine Im.isB fun _ => ?_
    | refine Im.cond ?_ ?_
    | refine Im.onE ?_ ?_
    | refine Im.join ?_ fun _ _ _ => ?_
    | refine Im.loop (fun _ _ => ?_) fun _ _ _ => ?_
    | (unfold okeep_Index.L2; unfold okeep_Index.L2.b)

def S_okeep_Index : Abs.Spec := fun args H r H' => ∃ x0 x1 : AVal, args = [x0, x1] ∧ (okeep_Index.w keepCP x0 x1 H fun r1 H1 => r1 = r ∧ H1 = H') ∧ H <+: H'
theorem okeep_Index.okC {CP' : CallsT} (hcp : CallsT.le keepCP CP') (args : List AVal) (H : AHeap) (r : AVal) (H' : AHeap) (h : S_okeep_Index args H r H') : ∃ x0 x1 : AVal, args = [x0, x1] ∧ okeep_Index.w CP' x0 x1 H fun r1 H1 => r1 = r ∧ H1 = H' := by
  obtain ⟨x0, x1, h1, h2, _⟩ := h
  exact ⟨x0, x1, h1, Im.fn (F := fun K => okeep_Index.w keepCP x0 x1 H K) (G := fun K => okeep_Index.w CP' x0 x1 H K) (okeep_Index.im hcp x0 x1 H) h2⟩
theorem okeep_Index.quiet {args : List AVal} {H : AHeap} {r : AVal} {H' : AHeap} (h : S_okeep_Index args H r H') : H <+: H' := by
  obtain ⟨_, _, _, _, h⟩ := h
  exact h
set_option maxRecDepth 100000 in
theorem okeep_Index.ex (x0 x1 : AVal) (H : AHeap) : Ex fun K : AVal × AHeap → Prop => okeep_Index.w keepCP x0 x1 H fun r H => K (r, H) := by
  unfold okeep_Index.w
  repeat with_reducible first
    | exact Ex.pt _
    | exact Ex.fin
    | exact Ex.no
    | refine Ex.vb fun _ => ?_
    | refine Ex.hb fun _ _ => ?_
    | refine Ex.sb fun _ => ?_
    | refine Ex.cb fun _ _ => ?_
    | refine Ex.isB fun _ => ?_
    | refine Ex.cond ?_ ?_
    | refine Ex.onE ?_ ?_
    | refine Ex.join ?_ fun _ _ _ => ?_
    | refine Ex.loop (fun _ _ => ?_) fun _ _ _ => ?_
    | (unfold okeep_Index.L2; unfold okeep_Index.L2.b)

theorem okeep_Index.out {x0 x1 : AVal} {H : AHeap} {Q : AVal → AHeap → Prop} (h : okeep_Index.w keepCP x0 x1 H fun r H' => (H <+: H') ∧ Q r H') : ∃ r H', S_okeep_Index [x0, x1] H r H' ∧ Q r H' := by
  obtain ⟨r, H', h1, h2⟩ := (okeep_Index.ex x0 x1 H).out h
  exact ⟨r, H', ⟨_, _, rfl, h1, h2.1⟩, h2.2⟩

def okeep_Delete.w (x0 : AVal) (x1 : AVal) (x2 : AVal) (H : AHeap) (K : AVal → AHeap → Prop) : Prop :=
  vb (lenSl x0) fun v1 =>
  vb (aSlice H 33 x0 (some x1) (some x2) (some v1)) fun v2 =>
  vb (aBin .eql x1 x2) fun v3 =>
  isB v3 fun b4 => cond b4
    (fin .ret [.v (x0)] H K)
    (vb (lenSl x0) fun v5 =>
    vb (aSlice H 33 x0 none (some x1) none) fun v6 =>
    vb (aSlice H 33 x0 (some x2) none none) fun v7 =>
    hb (aAppendS H 33 48 v6 v7) fun v8 H9 =>
    vb (lenSl v8) fun v10 =>
    vb (aSlice H9 33 v8 (some v10) (some v5) none) fun v11 =>
    hb (aClear H9 [.str [], .int .u8 0, .int .u8 0, .int .u8 0, .int .u8 0, .int .u8 0, .int .u8 0, .int .u8 0, .int .u8 0, .int .u8 0, .int .u8 0, .int .u8 0, .int .u8 0, .int .u8 0, .int .u8 0, .int .u8 0, .int .u8 0, .int .u8 0, .int .u8 0, .int .u8 0, .int .u8 0, .int .u8 0, .int .u8 0, .int .u8 0, .int .u8 0, .int .u8 0, .int .u8 0, .int .u8 0, .int .u8 0, .int .u8 0, .int .u8 0, .int .u8 0, .int .u8 0] v11) fun v12 H13 =>
    fin .ret [.v (v8)] H13 K)

def S_okeep_Delete : Abs.Spec := fun args H r H' => ∃ x0 x1 x2 : AVal, args = [x0, x1, x2] ∧ (okeep_Delete.w x0 x1 x2 H fun r1 H1 => r1 = r ∧ H1 = H')
theorem okeep_Delete.ok (args : List AVal) (H : AHeap) (r : AVal) (H' : AHeap) (h : S_okeep_Delete args H r H') : ∃ x0 x1 x2 : AVal, args = [x0, x1, x2] ∧ okeep_Delete.w x0 x1 x2 H fun r1 H1 => r1 = r ∧ H1 = H' := by
  obtain ⟨x0, x1, x2, h1, h2⟩ := h
  exact ⟨x0, x1, x2, h1, h2⟩
set_option maxRecDepth 100000 in
theorem okeep_Delete.ex (x0 x1 x2 : AVal) (H : AHeap) : Ex fun K : AVal × AHeap → Prop => okeep_Delete.w x0 x1 x2 H fun r H => K (r, H) := by
  unfold okeep_Delete.w
  repeat with_reducible first
    | exact Ex.pt _
    | exact Ex.fin
    | exact Ex.no
    | refine Ex.vb fun _ => ?_
    | refine Ex.hb fun _ _ => ?_
    | refine Ex.sb fun _ => ?_
    | refine Ex.cb fun _ _ => ?_
    | refine Ex.isB fun _ => ?_
    | refine Ex.cond ?_ ?_
    | refine Ex.onE ?_ ?_
    | refine Ex.join ?_ fun _ _ _ => ?_
    | refine Ex.loop (fun _ _ => ?_) fun _ _ _ => ?_

theorem okeep_Delete.out {x0 x1 x2 : AVal} {H : AHeap} {Q : AVal → AHeap → Prop} (h : okeep_Delete.w x0 x1 x2 H fun r H' => Q r H') : ∃ r H', S_okeep_Delete [x0, x1, x2] H r H' ∧ Q r H' := by
  obtain ⟨r, H', h1, h2⟩ := (okeep_Delete.ex x0 x1 x2 H).out h
  exact ⟨r, H', ⟨_, _, _, rfl, h1⟩, h2⟩

def okeep_Forget.w (x0 : AVal) (x1 : AVal) (H : AHeap) (K : AVal → AHeap → Prop) : Prop :=
  hb (aBox H x1) fun v1 H2 =>
  vb (aEql false .ptr H2 x0 .nilp) fun v3 =>
  isB v3 fun b4 => cond b4
    (fin .ret [.v (.int .i64 1)] H2 K)
    (vb (aNilCheck x0) fun v5 =>
    vb (aFieldAddr 0 v5) fun v6 =>
    vb (aLoad H2 false 1 v6) fun v7 =>
    cb (S_okeep_Index [v7, .func (.func KeepF.forget1) [] [v1]] H2) fun v8 H9 =>
    vb (aBin .lss v8 (.int .i64 0)) fun v10 =>
    isB v10 fun b11 => cond b11
      (fin .ret [.v (.int .i64 7)] H9 K)
      (vb (aNilCheck x0) fun v12 =>
      vb (aFieldAddr 1 v12) fun v13 =>
      vb (aLoad H9 false 1 v13) fun v14 =>
      vb (aLoad H9 false 1 v1) fun v15 =>
      hb (aDelete H9 .str v14 v15) fun v16 H17 =>
      vb (aNilCheck x0) fun v18 =>
      vb (aFieldAddr 0 v18) fun v19 =>
      vb (aLoad H17 false 1 v19) fun v20 =>
      vb (aBin .add v8 (.int .i64 1)) fun v21 =>
      cb (S_okeep_Delete [v20, v8, v21] H17) fun v22 H23 =>
      vb (aNilCheck x0) fun v24 =>
      vb (aFieldAddr 0 v24) fun v25 =>
      sb (aStore H23 1 v25 v22) fun H26 =>
      fin .ret [.v (.int .i64 0)] H26 K))

def S_okeep_Forget : Abs.Spec := fun args H r H' => ∃ x0 x1 : AVal, args = [x0, x1] ∧ (okeep_Forget.w x0 x1 H fun r1 H1 => r1 = r ∧ H1 = H')
theorem okeep_Forget.ok (args : List AVal) (H : AHeap) (r : AVal) (H' : AHeap) (h : S_okeep_Forget args H r H') : ∃ x0 x1 : AVal, args = [x0, x1] ∧ okeep_Forget.w x0 x1 H fun r1 H1 => r1 = r ∧ H1 = H' := by
  obtain ⟨x0, x1, h1, h2⟩ := h
  exact ⟨x0, x1, h1, h2⟩
set_option maxRecDepth 100000 in
theorem okeep_Forget.ex (x0 x1 : AVal) (H : AHeap) : Ex fun K : AVal × AHeap → Prop => okeep_Forget.w x0 x1 H fun r H => K (r, H) := by
  unfold okeep_Forget.w
  repeat with_reducible first
    | exact Ex.pt _
    | exact Ex.fin
    | exact Ex.no
    | refine Ex.vb fun _ => ?_
    | refine Ex.hb fun _ _ => ?_
    | refine Ex.sb fun _ => ?_
    | refine Ex.cb fun _ _ => ?_
    | refine Ex.isB fun _ => ?_
    | refine Ex.cond ?_ ?_
    | refine Ex.onE ?_ ?_
    | refine Ex.join ?_ fun _ _ _ => ?_
    | refine Ex.loop (fun _ _ => ?_) fun _ _ _ => ?_

theorem okeep_Forget.out {x0 x1 : AVal} {H : AHeap} {Q : AVal → AHeap → Prop} (h : okeep_Forget.w x0 x1 H fun r H' => Q r H') : ∃ r H', S_okeep_Forget [x0, x1] H r H' ∧ Q r H' := by
  obtain ⟨r, H', h1, h2⟩ := (okeep_Forget.ex x0 x1 H).out h
  exact ⟨r, H', ⟨_, _, rfl, h1⟩, h2⟩

def cellaretref06_Keep.L2.b (x0 : AVal) (x1 : AVal) (x5_2 : AVal) (H1 : AHeap) (Kn2 : List AVal → AHeap → Prop) (Ke3 : AExit → List AVal → AHeap → Prop) : Prop :=
  vb (lenSl x0) fun v4 =>
  vb (aBin .lss x5_2 v4) fun v5 =>
  isB v5 fun b6 => cond b6
    (vb (aIndexAddr 1 x0 x5_2) fun v7 =>
    vb (aLoad H1 false 1 v7) fun v8 =>
    vb (aBin .eql v8 x1) fun v9 =>
    isB v9 fun b10 => cond b10
      (Ke3 .ret [x0] H1)
      (vb (aBin .add x5_2 (.int .i64 1)) fun v11 =>
      Kn2 [v11] H1))
    (Ke3 (.exit 0) [.undef] H1)

def cellaretref06_Keep.L2 (x0 : AVal) (x1 : AVal) : Body := fun vs H Kn Ke => cellaretref06_Keep.L2.b x0 x1 (vs.getD 0 .undef) H Kn Ke

def cellaretref06_Keep.w (x0 : AVal) (x1 : AVal) (H : AHeap) (K : AVal → AHeap → Prop) : Prop :=
  LoopP (cellaretref06_Keep.L2 x0 x1) [.int .i64 0] H fun e12 vs13 H14 =>
    onE e12 (.exit 0)
      (hb (aBuildSlice H14 1 [.str []] 0 []) fun v15 H16 =>
      hb (aAppendS H16 1 16 v15 x0) fun v17 H18 =>
      hb (aBuildSlice H18 1 [.str []] 1 [(0, x1)]) fun v19 H20 =>
      hb (aAppendS H20 1 16 v17 v19) fun v21 H22 =>
      fin .ret [.v (v21)] H22 K)
    (onE e12 .ret
      (fin .ret [.v (vs13.getD 0 .undef)] H14 K)
    (False))

def S_cellaretref06_Keep : Abs.Spec := fun args H r H' => ∃ x0 x1 : AVal, args = [x0, x1] ∧ (cellaretref06_Keep.w x0 x1 H fun r1 H1 => r1 = r ∧ H1 = H')
theorem cellaretref06_Keep.ok (args : List AVal) (H : AHeap) (r : AVal) (H' : AHeap) (h : S_cellaretref06_Keep args H r H') : ∃ x0 x1 : AVal, args = [x0, x1] ∧ cellaretref06_Keep.w x0 x1 H fun r1 H1 => r1 = r ∧ H1 = H' := by
  obtain ⟨x0, x1, h1, h2⟩ := h
  exact ⟨x0, x1, h1, h2⟩
set_option maxRecDepth 100000 in
theorem cellaretref06_Keep.ex (x0 x1 : AVal) (H : AHeap) : Ex fun K : AVal × AHeap → Prop => cellaretref06_Keep.w x0 x1 H fun r H => K (r, H) := by
  unfold cellaretref06_Keep.w
  repeat with_reducible first
    | exact Ex.pt _
    | exact Ex.fin
    | exact Ex.no
    | refine Ex.vb fun _ => ?_
    | refine Ex.hb fun _ _ => ?_
    | refine Ex.sb fun _ => ?_
    | refine Ex.cb fun _ _ => ?_
    | refine Ex.isB fun _ => ?_
    | refine Ex.cond ?_ ?_
    | refine Ex.onE ?_ ?_
    | refine Ex.join ?_ fun _ _ _ => ?_
    | refine Ex.loop (fun _ _ => ?_) fun _ _ _ => ?_
    | (unfold cellaretref06_Keep.L2; unfold cellaretref06_Keep.L2.b)

theorem cellaretref06_Keep.out {x0 x1 : AVal} {H : AHeap} {Q : AVal → AHeap → Prop} (h : cellaretref06_Keep.w x0 x1 H fun r H' => Q r H') : ∃ r H', S_cellaretref06_Keep [x0, x1] H r H' ∧ Q r H' := by
  obtain ⟨r, H', h1, h2⟩ := (cellaretref06_Keep.ex x0 x1 H).out h
  exact ⟨r, H', ⟨_, _, rfl, h1⟩, h2⟩

def cellaretref06_Forget.L4.b (x0 : AVal) (x1 : AVal) (x6_4 : AVal) (x7_4 : AVal) (x8_4 : AVal) (H1 : AHeap) (Kn2 : List AVal → AHeap → Prop) (Ke3 : AExit → List AVal → AHeap → Prop) : Prop :=
  vb (lenSl x0) fun v4 =>
  vb (aBin .lss x8_4 v4) fun v5 =>
  isB v5 fun b6 => cond b6
    (vb (aIndexAddr 1 x0 x8_4) fun v7 =>
    vb (aLoad H1 false 1 v7) fun v8 =>
    vb (aBin .eql v8 x1) fun v9 =>
    isB v9 fun b10 => cond b10
      (vb (aBin .add x8_4 (.int .i64 1)) fun v11 =>
      Kn2 [x6_4, .bool true, v11] H1)
      (vb (aIndexAddr 1 x0 x8_4) fun v12 =>
      vb (aLoad H1 false 1 v12) fun v13 =>
      hb (aBuildSlice H1 1 [.str []] 1 [(0, v13)]) fun v14 H15 =>
      hb (aAppendS H15 1 16 x6_4 v14) fun v16 H17 =>
      vb (aBin .add x8_4 (.int .i64 1)) fun v18 =>
      Kn2 [v16, x7_4, v18] H17))
    (Ke3 (.exit 0) [x6_4, x7_4] H1)

def cellaretref06_Forget.L4 (x0 : AVal) (x1 : AVal) : Body := fun vs H Kn Ke => cellaretref06_Forget.L4.b x0 x1 (vs.getD 0 .undef) (vs.getD 1 .undef) (vs.getD 2 .undef) H Kn Ke

def cellaretref06_Forget.w (x0 : AVal) (x1 : AVal) (H : AHeap) (K : AVal → AHeap → Prop) : Prop :=
  LoopP (cellaretref06_Forget.L4 x0 x1) [.nils, .bool false, .int .i64 0] H fun e19 vs20 H21 =>
    onE e19 (.exit 0)
      (fin .ret [.v (vs20.getD 0 .undef), .v (vs20.getD 1 .undef)] H21 K)
    (False)

def S_cellaretref06_Forget : Abs.Spec := fun args H r H' => ∃ x0 x1 : AVal, args = [x0, x1] ∧ (cellaretref06_Forget.w x0 x1 H fun r1 H1 => r1 = r ∧ H1 = H')
theorem cellaretref06_Forget.ok (args : List AVal) (H : AHeap) (r : AVal) (H' : AHeap) (h : S_cellaretref06_Forget args H r H') : ∃ x0 x1 : AVal, args = [x0, x1] ∧ cellaretref06_Forget.w x0 x1 H fun r1 H1 => r1 = r ∧ H1 = H' := by
  obtain ⟨x0, x1, h1, h2⟩ := h
  exact ⟨x0, x1, h1, h2⟩
set_option maxRecDepth 100000 in
theorem cellaretref06_Forget.ex (x0 x1 : AVal) (H : AHeap) : Ex fun K : AVal × AHeap → Prop => cellaretref06_Forget.w x0 x1 H fun r H => K (r, H) := by
  unfold cellaretref06_Forget.w
  repeat with_reducible first
    | exact Ex.pt _
    | exact Ex.fin
    | exact Ex.no
    | refine Ex.vb fun _ => ?_
    | refine Ex.hb fun _ _ => ?_
    | refine Ex.sb fun _ => ?_
    | refine Ex.cb fun _ _ => ?_
    | refine Ex.isB fun _ => ?_
    | refine Ex.cond ?_ ?_
    | refine Ex.onE ?_ ?_
    | refine Ex.join ?_ fun _ _ _ => ?_
    | refine Ex.loop (fun _ _ => ?_) fun _ _ _ => ?_
    | (unfold cellaretref06_Forget.L4; unfold cellaretref06_Forget.L4.b)

theorem cellaretref06_Forget.out {x0 x1 : AVal} {H : AHeap} {Q : AVal → AHeap → Prop} (h : cellaretref06_Forget.w x0 x1 H fun r H' => Q r H') : ∃ r H', S_cellaretref06_Forget [x0, x1] H r H' ∧ Q r H' := by
  obtain ⟨r, H', h1, h2⟩ := (cellaretref06_Forget.ex x0 x1 H).out h
  exact ⟨r, H', ⟨_, _, rfl, h1⟩, h2⟩

def okeep_awake.w (H : AHeap) (K : AVal → AHeap → Prop) : Prop :=
  cb (S_okeep_New [] H) fun v1 H2 =>
  JoinP (fun Kj3 => vb (aEql false .ptr H2 v1 .nilp) fun v4 =>
    isB v4 fun b5 => cond b5
      (Kj3 .ret [.bool false] H2)
      (cb (S_okeep_Sum [v1, .str [97, 98, 99]] H2) fun v6 H7 =>
        cb (S_sha_Sum [.str [97, 98, 99]] H7) fun v8 H9 =>
          vb (aEql true (.agg (List.replicate 32 .int)) H9 v6 v8) fun v10 =>
            isB v10 fun b11 => cond b11
              (Kj3 .ret [.bool false] H9)
              (cb (S_okeep_Len [v1] H9) fun v12 H13 =>
                vb (aBin .neq v12 (.int .i64 1)) fun v14 =>
                  isB v14 fun b15 => cond b15
                    (Kj3 .ret [.bool false] H13)
                    (Kj3 .normal [.bool false] H13))))
  (fun e16 vs17 H18 =>
    onE e16 .normal
      (hb (aBuildSlice H18 1 [.str []] 2 [(0, .str [97]), (1, .str [98])]) fun v19 H20 =>
      vb (aBuild (List.replicate 32 (.int .u8 0)) (fun k => some (k * 1, 1)) []) fun v21 =>
      vb (aBuild (List.replicate 32 (.int .u8 0)) (fun k => some (k * 1, 1)) []) fun v22 =>
      hb (aBuildSlice H20 32 (List.replicate 32 (.int .u8 0)) 2 [(0, v21), (1, v22)]) fun v23 H24 =>
      cb (S_oracle_Pair [v19, v23] H24) fun v25 H26 =>
      vb (aExtract v25 0) fun v27 =>
      vb (aExtract v25 1) fun v28 =>
      vb (aExtract v25 2) fun v29 =>
      cb (S_okeep_Input [v1, .int .i64 0] H26) fun v30 H31 =>
      vb (aExtract v30 0) fun v32 =>
      vb (aExtract v30 1) fun v33 =>
      vb (aExtract v30 2) fun v34 =>
      hb (aAlloc H31 (List.replicate 32 (.int .u8 0))) fun v35 H36 =>
      sb (aStore H36 32 v35 v33) fun H37 =>
      vb (aBin .eql v27 (.int .i64 0)) fun v38 =>
      isB v38 fun b39 => cond b39
        (vb (aBin .eql v28 (.int .i64 1)) fun v40 =>
          isB v40 fun b41 => cond b41
            (isB v29 fun b42 => cond b42
              (vb (aBin .eql v32 (.str [97, 98, 99])) fun v43 =>
                isB v43 fun b44 => cond b44
                  (vb (aLoad H37 true 32 v35) fun v45 =>
                  cb (S_sha_Sum [.str [97, 98, 99]] H37) fun v46 H47 =>
                    vb (aEql false (.agg (List.replicate 32 .int)) H47 v45 v46) fun v48 =>
                      isB v48 fun b49 => cond b49
                        (vb (aBin .eql v34 (.int .i64 0)) fun v50 =>
                          fin .ret [.v (v50)] H47 K)
                        (fin .ret [.v (.bool false)] H47 K))
                  (fin .ret [.v (.bool false)] H37 K))
              (fin .ret [.v (.bool false)] H37 K))
            (fin .ret [.v (.bool false)] H37 K))
        (fin .ret [.v (.bool false)] H37 K))
    (onE e16 .ret
      (fin .ret [.v (vs17.getD 0 .undef)] H18 K)
    (False)))

def S_okeep_awake : Abs.Spec := fun args H r H' => args = [] ∧ (okeep_awake.w H fun r1 H1 => r1 = r ∧ H1 = H') ∧ H <+: H'
theorem okeep_awake.ok (args : List AVal) (H : AHeap) (r : AVal) (H' : AHeap) (h : S_okeep_awake args H r H') : args = [] ∧ okeep_awake.w H fun r1 H1 => r1 = r ∧ H1 = H' := by
  obtain ⟨h1, h2, _⟩ := h
  exact ⟨h1, h2⟩
theorem okeep_awake.quiet {args : List AVal} {H : AHeap} {r : AVal} {H' : AHeap} (h : S_okeep_awake args H r H') : H <+: H' := by
  obtain ⟨_, _, h⟩ := h
  exact h
set_option maxRecDepth 100000 in
theorem okeep_awake.ex (H : AHeap) : Ex fun K : AVal × AHeap → Prop => okeep_awake.w H fun r H => K (r, H) := by
  unfold okeep_awake.w
  repeat with_reducible first
    | exact Ex.pt _
    | exact Ex.fin
    | exact Ex.no
    | refine Ex.vb fun _ => ?_
    | refine Ex.hb fun _ _ => ?_
    | refine Ex.sb fun _ => ?_
    | refine Ex.cb fun _ _ => ?_
    | refine Ex.isB fun _ => ?_
    | refine Ex.cond ?_ ?_
    | refine Ex.onE ?_ ?_
    | refine Ex.join ?_ fun _ _ _ => ?_
    | refine Ex.loop (fun _ _ => ?_) fun _ _ _ => ?_

theorem okeep_awake.out {H : AHeap} {Q : AVal → AHeap → Prop} (h : okeep_awake.w H fun r H' => (H <+: H') ∧ Q r H') : ∃ r H', S_okeep_awake [] H r H' ∧ Q r H' := by
  obtain ⟨r, H', h1, h2⟩ := (okeep_awake.ex H).out h
  exact ⟨r, H', ⟨rfl, h1, h2.1⟩, h2.2⟩

def cellaretlaw06_OracleKeeps.L20.b (vs76 : List AVal) (v1 : AVal) (x9_20 : AVal) (H83 : AHeap) (Kn84 : List AVal → AHeap → Prop) (Ke85 : AExit → List AVal → AHeap → Prop) : Prop :=
  vb (lenSl (vs76.getD 1 .undef)) fun v86 =>
  vb (aBin .leq x9_20 v86) fun v87 =>
  isB v87 fun b88 => cond b88
    (cb (S_okeep_Input [v1, x9_20] H83) fun v89 H90 =>
    vb (aExtract v89 0) fun v91 =>
    vb (aExtract v89 1) fun v92 =>
    vb (aExtract v89 2) fun v93 =>
    hb (aAlloc H90 (List.replicate 32 (.int .u8 0))) fun v94 H95 =>
    sb (aStore H95 32 v94 v92) fun H96 =>
    vb (aBin .lss x9_20 (.int .i64 0)) fun v97 =>
    isB v97 fun b98 => cond b98
      (vb (aBin .neq v91 (.str [])) fun v99 =>
            isB v99 fun b100 => cond b100
              (Ke85 .ret [.bool false] H96)
              (vb (aLoad H96 true 32 v94) fun v101 =>
              vb (aBuild (List.replicate 32 (.int .u8 0)) (fun k => some (k * 1, 1)) []) fun v102 =>
                vb (aEql true (.agg (List.replicate 32 .int)) H96 v101 v102) fun v103 =>
                  isB v103 fun b104 => cond b104
                    (Ke85 .ret [.bool false] H96)
                    (vb (aBin .neq v93 (.int .i64 3)) fun v105 =>
                      isB v105 fun b106 => cond b106
                        (Ke85 .ret [.bool false] H96)
                        (vb (aBin .add x9_20 (.int .i64 1)) fun v107 =>
                        Kn84 [v107] H96))))
      (vb (lenSl (vs76.getD 1 .undef)) fun v108 =>
          vb (aBin .eql x9_20 v108) fun v109 =>
            isB v109 fun b110 => cond b110
              (vb (aBin .neq v91 (.str [])) fun v111 =>
              isB v111 fun b112 => cond b112
                (Ke85 .ret [.bool false] H96)
                (vb (aLoad H96 true 32 v94) fun v113 =>
                vb (aBuild (List.replicate 32 (.int .u8 0)) (fun k => some (k * 1, 1)) []) fun v114 =>
                  vb (aEql true (.agg (List.replicate 32 .int)) H96 v113 v114) fun v115 =>
                    isB v115 fun b116 => cond b116
                      (Ke85 .ret [.bool false] H96)
                      (vb (aBin .neq v93 (.int .i64 3)) fun v117 =>
                        isB v117 fun b118 => cond b118
                          (Ke85 .ret [.bool false] H96)
                          (vb (aBin .add x9_20 (.int .i64 1)) fun v119 =>
                          Kn84 [v119] H96))))
              (vb (aIndexAddr 1 (vs76.getD 1 .undef) x9_20) fun v120 =>
              vb (aLoad H96 false 1 v120) fun v121 =>
              vb (aBin .neq v91 v121) fun v122 =>
              isB v122 fun b123 => cond b123
                (Ke85 .ret [.bool false] H96)
                (vb (aLoad H96 true 32 v94) fun v124 =>
                cb (S_sha_Sum [v91] H96) fun v125 H126 =>
                    vb (aEql true (.agg (List.replicate 32 .int)) H126 v124 v125) fun v127 =>
                      isB v127 fun b128 => cond b128
                        (Ke85 .ret [.bool false] H126)
                        (vb (aBin .neq v93 (.int .i64 0)) fun v129 =>
                          isB v129 fun b130 => cond b130
                            (Ke85 .ret [.bool false] H126)
                            (vb (aBin .add x9_20 (.int .i64 1)) fun v131 =>
                            Kn84 [v131] H126))))))
    (Ke85 (.exit 2) [.undef] H83)

def cellaretlaw06_OracleKeeps.L20 (vs76 : List AVal) (v1 : AVal) : Body := fun vs H Kn Ke => cellaretlaw06_OracleKeeps.L20.b vs76 v1 (vs.getD 0 .undef) H Kn Ke

def cellaretlaw06_OracleKeeps.L4.b (x0 : AVal) (v1 : AVal) (x4_4 : AVal) (x5_4 : AVal) (H3 : AHeap) (Kn4 : List AVal → AHeap → Prop) (Ke5 : AExit → List AVal → AHeap → Prop) : Prop :=
  JoinP (fun Kj6 => vb (lenSl x0) fun v7 =>
    vb (aBin .lss x5_4 v7) fun v8 =>
    isB v8 fun b9 => cond b9
      (vb (aBin .lss x5_4 (.int .i64 40)) fun v10 =>
        isB v10 fun b11 => cond b11
          (Kj6 .normal [] H3)
          (Kj6 (.exit 0) [] H3))
      (Kj6 (.exit 0) [] H3))
  (fun e12 vs13 H14 =>
    onE e12 (.exit 0)
      (Ke5 (.exit 0) [.undef] H14)
    (onE e12 .normal
      (vb (aIndexAddr 2 x0 x5_4) fun v15 =>
      vb (aLoad H14 true 2 v15) fun v16 =>
      hb (aAlloc H14 [.str [], .bool false]) fun v17 H18 =>
      sb (aStore H18 2 v17 v16) fun H19 =>
      vb (aFieldAddr 0 v17) fun v20 =>
      vb (aLoad H19 false 1 v20) fun v21 =>
      vb (lenSt v21) fun v22 =>
      vb (aBin .gtr v22 (.int .i64 300)) fun v23 =>
      isB v23 fun b24 => cond b24
        (vb (aBin .add x5_4 (.int .i64 1)) fun v25 =>
        Kn4 [x4_4, v25] H19)
        (JoinP (fun Kj26 => vb (aFieldAddr 1 v17) fun v27 =>
          vb (aLoad H19 false 1 v27) fun v28 =>
          isB v28 fun b29 => cond b29
            (vb (aFieldAddr 0 v17) fun v30 =>
            vb (aLoad H19 false 1 v30) fun v31 =>
            cb (S_cellaretref06_Forget [x4_4, v31] H19) fun v32 H33 =>
            vb (aExtract v32 0) fun v34 =>
            vb (aExtract v32 1) fun v35 =>
            vb (aFieldAddr 0 v17) fun v36 =>
            vb (aLoad H33 false 1 v36) fun v37 =>
            cb (S_okeep_Forget [v1, v37] H33) fun v38 H39 =>
            isB v35 fun b40 => cond b40
              (vb (aBin .neq v38 (.int .i64 0)) fun v41 =>
                isB v41 fun b42 => cond b42
                  (Kj26 .ret [.bool false, v34] H39)
                  (vb (aUn .not v35) fun v43 =>
                    isB v43 fun b44 => cond b44
                        (vb (aBin .neq v38 (.int .i64 7)) fun v45 =>
                          isB v45 fun b46 => cond b46
                              (Kj26 .ret [.bool false, v34] H39)
                              (Kj26 .normal [.undef, v34] H39))
                        (Kj26 .normal [.undef, v34] H39)))
              (vb (aUn .not v35) fun v47 =>
                    isB v47 fun b48 => cond b48
                        (vb (aBin .neq v38 (.int .i64 7)) fun v49 =>
                          isB v49 fun b50 => cond b50
                              (Kj26 .ret [.bool false, v34] H39)
                              (Kj26 .normal [.undef, v34] H39))
                        (Kj26 .normal [.undef, v34] H39)))
            (vb (aFieldAddr 0 v17) fun v51 =>
            vb (aLoad H19 false 1 v51) fun v52 =>
            cb (S_cellaretref06_Keep [x4_4, v52] H19) fun v53 H54 =>
            (vb (aFieldAddr 0 v17) fun v55 =>
              vb (aLoad H54 false 1 v55) fun v56 =>
              cb (S_okeep_Sum [v1, v56] H54) fun v57 H58 =>
              vb (aFieldAddr 0 v17) fun v59 =>
              vb (aLoad H58 false 1 v59) fun v60 =>
              cb (S_sha_Sum [v60] H58) fun v61 H62 =>
              vb (aEql true (.agg (List.replicate 32 .int)) H62 v57 v61) fun v63 =>
              isB v63 fun b64 => cond b64
                (Kj26 .ret [.bool false, v53] H62)
                (Kj26 .normal [.undef, v53] H62)) ∧
            (vb (aFieldAddr 0 v17) fun v65 =>
              vb (aLoad H54 false 1 v65) fun v66 =>
              vb (aFieldAddr 0 v17) fun v67 =>
              vb (aLoad H54 false 1 v67) fun v68 =>
              cb (S_okeep_Sum [v1, v66] H54) fun v69 H70 =>
              cb (S_sha_Sum [v68] H70) fun v71 H72 =>
              vb (aEql true (.agg (List.replicate 32 .int)) H72 v69 v71) fun v73 =>
              isB v73 fun b74 => cond b74
                (Kj26 .ret [.bool false, v53] H72)
                (Kj26 .normal [.undef, v53] H72))))
        (fun e75 vs76 H77 =>
          onE e75 .normal
            (cb (S_okeep_Len [v1] H77) fun v78 H79 =>
            vb (lenSl (vs76.getD 1 .undef)) fun v80 =>
            vb (aBin .neq v78 v80) fun v81 =>
            isB v81 fun b82 => cond b82
              (Ke5 .ret [.bool false] H79)
              (LoopP (cellaretlaw06_OracleKeeps.L20 vs76 v1) [.int .i64 (-1)] H79 fun e132 vs133 H134 =>
                onE e132 (.exit 2)
                  (vb (aBin .add x5_4 (.int .i64 1)) fun v135 =>
                  Kn4 [vs76.getD 1 .undef, v135] H134)
                (onE e132 .ret
                  (Ke5 .ret [vs133.getD 0 .undef] H134)
                (False))))
          (onE e75 .ret
            (Ke5 .ret [vs76.getD 0 .undef] H77)
          (False)))))
    (False)))

def cellaretlaw06_OracleKeeps.L4 (x0 : AVal) (v1 : AVal) : Body := fun vs H Kn Ke => cellaretlaw06_OracleKeeps.L4.b x0 v1 (vs.getD 0 .undef) (vs.getD 1 .undef) H Kn Ke

def cellaretlaw06_OracleKeeps.w (x0 : AVal) (H : AHeap) (K : AVal → AHeap → Prop) : Prop :=
  cb (S_okeep_New [] H) fun v1 H2 =>
  LoopP (cellaretlaw06_OracleKeeps.L4 x0 v1) [.nils, .int .i64 0] H2 fun e136 vs137 H138 =>
    onE e136 (.exit 0)
      (cb (S_okeep_awake [] H138) fun v139 H140 =>
      fin .ret [.v (v139)] H140 K)
    (onE e136 .ret
      (fin .ret [.v (vs137.getD 0 .undef)] H138 K)
    (False))

end Go.Sh

/- Slices of one's own with room behind: appended to, and taken out of. -/
namespace Go.Sh
open Go Go.Abs

def OwnX (B : AHeap) (sv : AVal) (es n : Nat) (cs : List AVal) : Prop :=
  cs.length = n * es ∧ ((sv = .nils ∧ n = 0) ∨ ∃ j u sp q, sv = .slice ⟨j, u, 0⟩ n (.op es) ∧ B[j]? = some (.cells u .opn (cs ++ sp)) ∧ sp.length = q * es)
theorem OwnX.loc {B C : AHeap} {sv : AVal} {es n : Nat} {cs : List AVal} (h : ∀ i ∈ (slId sv).toList, C[i]? = B[i]?) (k : OwnX B sv es n cs) : OwnX C sv es n cs := by
  obtain ⟨h1, h2⟩ := k
  refine ⟨h1, ?_⟩
  rcases h2 with h2 | ⟨j, u, sp, q, rfl, h3, h4⟩
  · exact .inl h2
  · exact .inr ⟨j, u, sp, q, rfl, by rw [h j (by simp [slId])]; exact h3, h4⟩
theorem OwnX.lt {B : AHeap} {sv : AVal} {es n : Nat} {cs : List AVal} (h : OwnX B sv es n cs) {i : Nat} (hi : slId sv = some i) : i < B.length := by
  rcases h.2 with ⟨rfl, _⟩ | ⟨j, u, sp, q, rfl, h3, h4⟩
  · cases hi
  · cases hi; exact lt_of_some h3
theorem OwnX.view {B : AHeap} {sv : AVal} {es n : Nat} {cs : List AVal} (h : OwnX B sv es n cs) : View B sv es n cs := by
  obtain ⟨h1, h2⟩ := h
  refine ⟨h1, ?_⟩
  rcases h2 with h2 | ⟨j, u, sp, q, rfl, h3, h4⟩
  · exact .inl h2
  · exact .inr ⟨j, u, 0, _, _, _, rfl, h3, fun _ => by rw [List.length_append]; omega, by rw [List.drop_zero, ← h1, List.take_left' rfl], rfl⟩
def Part.slx (sv : AVal) (es n : Nat) (cs : List AVal) : Part where
  ids := (slId sv).toList
  ok B := OwnX B sv es n cs
  loc _ _ h k := OwnX.loc h k
  live _ h i hi := OwnX.lt h (by simpa using hi)
theorem splice_mid {α : Type} {a b c x : List α} (h : x.length = b.length) {n : Nat} (hn : n = a.length) : splice (a ++ (b ++ c)) n x = a ++ (x ++ c) := by
  subst hn
  unfold splice
  rw [List.take_left' rfl, h, ← List.drop_drop, List.drop_left' rfl, List.drop_left' rfl, List.append_assoc]
section
variable {H0 B : AHeap} {own : Nat → Prop} {R : List Part} {K : AVal → AHeap → Prop}
theorem sep_nilx (h : Sep H0 own B R) (es : Nat) : Sep H0 own B (Part.slx .nils es 0 [] :: R) :=
  ⟨h.len, h.frame, fun r hr => (List.mem_cons.1 hr).elim (fun e => e ▸ ⟨by simp, .inl ⟨rfl, rfl⟩⟩) (h.ok r), fun r hr i hi => (by
    rcases List.mem_cons.1 hr with rfl | hr
    · cases hi
    · exact h.mine r hr i hi), List.pairwise_cons.2 ⟨fun _ _ i hi => (by cases hi), h.apart⟩⟩
/-- append(s, x) -/
theorem x_app {sv x : AVal} {es bytes n : Nat} {cs xs : List AVal} (h : Sep H0 own B (Part.slx sv es n cs :: R)) (he : 0 < es) (hx : View B x es 1 xs) (hc : xs.all AVal.isCell = true) (h1 : (n + 1) * bytes ≤ room) (h2 : n + 1 ≤ room)
    (k : ∀ sv' C, Sep H0 own C (Part.slx sv' es (n + 1) (cs ++ xs) :: R) → K sv' C) : hb (aAppendS B es bytes sv x) K := by
  obtain ⟨e1, e2, e3⟩ := src_view hx
  have hxl : xs.length = es := by rw [hx.1]; omega
  rw [aAppendS_eq e3]
  simp only [aAppend, e1, e2]
  obtain ⟨hl, ⟨rfl, rfl⟩ | ⟨j, u, sp, q, rfl, g, hq⟩⟩ := h.head
  · have : cs = [] := List.eq_nil_of_length_eq_zero (by omega)
    subst this
    have hcond : 1 * bytes ≤ room ∧ 1 ≤ room := ⟨by omega, by omega⟩
    simp only [aAppendTo]
    rw [if_neg (by decide), if_pos hcond]
    refine k _ _ (h.put (by simp) (fun i hi => ?_) (fun i hi _ => ?_) ?_)
    · simp [Part.slx, slId] at hi
      exact .inr (by omega)
    · exact pre_get (pre_app _ _) hi
    · refine ⟨by simp; omega, .inr ⟨_, _, [], 0, rfl, ?_, by simp⟩⟩
      rw [app_get0]; simp
  · have hj := lt_of_some g
    simp only [aAppendTo]
    rw [if_neg (by decide), if_pos ⟨trivial, he, h1, h2⟩]
    simp only [g]
    rw [if_pos ⟨trivial, hc⟩]
    by_cases hq0 : q = 0
    · subst hq0
      have : sp = [] := List.eq_nil_of_length_eq_zero (by omega)
      subst this
      rw [List.append_nil, if_pos ⟨trivial, hl⟩]
      refine k _ _ (h.put (by simp) (fun i hi => .inl hi) (fun i _ hn => List.getElem?_set_ne (by simp [Part.slx, slId] at hn; omega)) ?_)
      refine ⟨by rw [List.length_append, Nat.succ_mul]; omega, .inr ⟨j, u + 1, [], 0, rfl, ?_, by simp⟩⟩
      rw [List.getElem?_set_self hj, List.append_nil]
    · obtain ⟨p, rfl⟩ : ∃ p, q = p + 1 := ⟨q - 1, by omega⟩
      have hspl : sp.length = p * es + es := by rw [hq, Nat.succ_mul]
      rw [if_neg (by rw [List.length_append]; omega), if_pos (by rw [List.length_append, Nat.succ_mul]; omega)]
      refine k _ _ (h.put (by simp) (fun i hi => .inl hi) (fun i _ hn => List.getElem?_set_ne (by simp [Part.slx, slId] at hn; omega)) ?_)
      refine ⟨by rw [List.length_append, Nat.succ_mul]; omega, .inr ⟨j, u, sp.drop es, p, rfl, ?_, by rw [List.length_drop]; omega⟩⟩
      rw [List.getElem?_set_self hj]
      have : cs ++ sp = cs ++ (sp.take es ++ sp.drop es) := by rw [List.take_append_drop]
      rw [this, splice_mid (by rw [List.length_take]; omega) (by omega), List.append_assoc]

/-- slices.Delete of one element -/
theorem okeep_Delete_spec {sv : AVal} {n i : Nat} {cs : List AVal} (h : Sep H0 own B (Part.slx sv 33 n cs :: R)) (hcc : cs.all AVal.isCell = true) (hi : i < n) (hn : n ≤ 1073741824) {i2 : Int} (h2 : i2 = (i : Int) + 1) :
    ∃ r C, S_okeep_Delete [sv, .int .i64 i, .int .i64 i2] B r C ∧ Sep H0 own C (Part.slx r 33 (n - 1) (cs.take (i * 33) ++ cs.drop ((i + 1) * 33)) :: R) := by
  obtain ⟨hl, ⟨rfl, rfl⟩ | ⟨j, u, sp, q, rfl, g, hq⟩⟩ := h.head
  · omega
  have h2' : i2 = ((i + 1 : Nat) : Int) := by omega
  subst h2'
  have hj := lt_of_some g
  have hv : u = verOf B j := by rw [verOf_some g]; rfl
  refine okeep_Delete.out ?_
  unfold okeep_Delete.w
  refine vb_i (e_lenSl _ _ _) ?_
  refine vb_i (v := .slice ⟨j, u, 0 + i * 33⟩ (i + 1 - i) (.ex (n - i))) ?_ ?_
  · simp only [aSlice, bnd_int (Int.natCast_nonneg _), Int.toNat_natCast]
    rw [if_pos ⟨hv, by omega, by omega, by omega, by omega⟩, if_neg (by omega)]
  refine vb_i (eql64 _ _ _) ?_
  refine isB_cf (by omega) ?_
  refine vb_i (e_lenSl _ _ _) ?_
  refine vb_i (v := .slice ⟨j, u, 0⟩ i (.op 33)) ?_ ?_
  · simp only [aSlice, bnd_none, bnd_int (Int.natCast_nonneg _), Int.toNat_natCast]
    rw [if_pos ⟨hv, trivial, by omega, by omega⟩]
    simp
  refine vb_i (v := .slice ⟨j, u, (i + 1) * 33⟩ (n - (i + 1)) (.op 33)) ?_ ?_
  · simp only [aSlice, bnd_none, bnd_int (Int.natCast_nonneg _), Int.toNat_natCast]
    rw [if_pos ⟨hv, trivial, by omega, by omega⟩]
    simp
  have hcut : (n - (i + 1)) * 33 = n * 33 - (i + 1) * 33 := Nat.sub_mul _ _ _
  have hsrc : srcCells B 33 (n - (i + 1)) (.slice ⟨j, u, (i + 1) * 33⟩ (n - (i + 1)) (.op 33)) = some (cs.drop ((i + 1) * 33)) := by
    simp only [srcCells]
    by_cases hz : (n - (i + 1)) * 33 = 0
    · rw [if_pos hz, List.drop_of_length_le (by omega)]
    · rw [if_neg hz, rd_of g rfl (fun _ => by rw [List.length_append]; show (i + 1) * 33 + _ ≤ _; omega)]
      show some (((cs ++ sp).drop ((i + 1) * 33)).take _) = _
      rw [List.drop_append_of_le_length (by omega), List.take_left' (by rw [List.length_drop]; omega)]
  have hdl : (cs.drop ((i + 1) * 33)).length = (n - (i + 1)) * 33 := by rw [List.length_drop]; omega
  have hA : ∃ C tl, aAppendS B 33 48 (.slice ⟨j, u, 0⟩ i (.op 33)) (.slice ⟨j, u, (i + 1) * 33⟩ (n - (i + 1)) (.op 33)) = some (.slice ⟨j, u, 0⟩ (n - 1) (.op 33), C) ∧
      C[j]? = some (.cells u .opn ((cs.take (i * 33) ++ cs.drop ((i + 1) * 33)) ++ tl)) ∧ tl.length = (q + 1) * 33 ∧ C.length = B.length ∧ ∀ k, k ≠ j → C[k]? = B[k]? := by
    have htl : ((cs ++ sp).drop ((n - 1) * 33)).length = (q + 1) * 33 := by rw [List.length_drop, List.length_append, Nat.sub_mul, Nat.succ_mul]; omega
    simp only [aAppendS, aAppend, srcLen, hsrc, aAppendTo]
    by_cases hm : n - (i + 1) = 0
    · have hni : n - 1 = i := by omega
      rw [if_pos hm, if_pos hv]
      refine ⟨B, (cs ++ sp).drop ((n - 1) * 33), by rw [hni], ?_, htl, rfl, fun _ _ => rfl⟩
      rw [g]
      have e : cs.drop ((i + 1) * 33) = [] := List.drop_of_length_le (by omega)
      rw [e, List.append_nil, hni, List.drop_append_of_le_length (by omega), ← List.append_assoc, List.take_append_drop]
    · have hni : i + (n - (i + 1)) = n - 1 := by omega
      rw [if_neg hm, if_pos ⟨trivial, by omega, by unfold room; omega, by unfold room; omega⟩]
      simp only [g]
      have hcells : (cs.drop ((i + 1) * 33)).all AVal.isCell = true := by
        rw [List.all_eq_true] at hcc ⊢
        exact fun x hx => hcc x (List.mem_of_mem_drop hx)
      rw [if_pos ⟨trivial, hcells⟩, if_neg (by rw [List.length_append]; omega), if_pos (by rw [List.length_append, hni, Nat.sub_mul]; omega), hni]
      refine ⟨_, (cs ++ sp).drop ((n - 1) * 33), rfl, ?_, htl, by simp, fun k hk => List.getElem?_set_ne (Ne.symm hk)⟩
      rw [List.getElem?_set_self hj]
      have e1 : cs ++ sp = cs.take (i * 33) ++ (((cs ++ sp).drop (i * 33)).take ((n - (i + 1)) * 33) ++ (cs ++ sp).drop ((n - 1) * 33)) := by
        have e2 : (cs ++ sp).drop ((n - 1) * 33) = ((cs ++ sp).drop (i * 33)).drop ((n - (i + 1)) * 33) := by rw [List.drop_drop]; congr 1; rw [← hni, Nat.add_mul]
        rw [e2, List.take_append_drop, List.drop_append_of_le_length (by omega), ← List.append_assoc, List.take_append_drop]
      have e3 := splice_mid (a := cs.take (i * 33)) (b := ((cs ++ sp).drop (i * 33)).take ((n - (i + 1)) * 33)) (c := (cs ++ sp).drop ((n - 1) * 33)) (x := cs.drop ((i + 1) * 33)) (n := 0 + i * 33)
        (by rw [hdl, List.length_take, List.length_drop, List.length_append]; omega) (by rw [List.length_take]; omega)
      rw [← e1] at e3
      rw [e3, List.append_assoc]
  obtain ⟨C, tl, hap, hC, htl, hCl, hCk⟩ := hA
  refine hb_i hap ?_
  refine vb_i (e_lenSl _ _ _) ?_
  have hT : (cs.take (i * 33) ++ cs.drop ((i + 1) * 33)).length = (n - 1) * 33 := by
    rw [List.length_append, hdl, List.length_take, Nat.sub_mul]; omega
  generalize hT1 : cs.take (i * 33) ++ cs.drop ((i + 1) * 33) = T at *
  refine vb_i (v := .slice ⟨j, u, (n - 1) * 33⟩ 1 (.op 33)) ?_ ?_
  · have hov : overOk C ⟨j, u, 0⟩ 33 33 (n - 1) n = true := by
      simp only [overOk, hC]
      exact decide_eq_true ⟨trivial, trivial, by omega, by omega, by omega, by rw [List.length_append, hT, htl, Nat.sub_mul, Nat.succ_mul]; omega⟩
    simp only [aSlice, bnd_int (Int.natCast_nonneg _), Int.toNat_natCast]
    rw [if_neg (by omega), if_pos hov]
    simp; omega
  refine hb_i (v := .tup []) (H := C.set j (.cells u .opn (splice (T ++ tl) ((n - 1) * 33) (.str [] :: List.replicate 32 (.int .u8 0))))) ?_ ?_
  · have hf : fillCells 1 [AVal.str [], .int .u8 0, .int .u8 0, .int .u8 0, .int .u8 0, .int .u8 0, .int .u8 0, .int .u8 0, .int .u8 0, .int .u8 0, .int .u8 0, .int .u8 0, .int .u8 0, .int .u8 0, .int .u8 0, .int .u8 0, .int .u8 0, .int .u8 0, .int .u8 0, .int .u8 0, .int .u8 0, .int .u8 0, .int .u8 0, .int .u8 0, .int .u8 0, .int .u8 0, .int .u8 0, .int .u8 0, .int .u8 0, .int .u8 0, .int .u8 0, .int .u8 0, .int .u8 0] = .str [] :: List.replicate 32 (.int .u8 0) := rfl
    have hb1 : Nat.beq 1 0 = false := rfl
    simp only [aClear, hb1, cond_false, hf]
    rw [wr_of hC rfl (by decide) (by rw [List.length_append, hT, htl, Nat.succ_mul]; show (n - 1) * 33 + 33 ≤ _; omega) rfl]
  refine fin_ret (rvs_v (rvs_nil _)) ?_
  refine h.put (by simp [hCl]) (fun i hi => .inl hi) (fun i _ hn => ?_) ?_
  · simp [Part.slx, slId] at hn
    show (C.set j _)[i]? = _
    rw [List.getElem?_set_ne (by omega), hCk i hn]
  · refine ⟨hT, .inr ⟨j, u, (.str [] :: List.replicate 32 (.int .u8 0)) ++ tl.drop 33, q + 1, rfl, ?_, ?_⟩⟩
    · rw [List.getElem?_set_self (by omega)]
      have : T ++ tl = T ++ (tl.take 33 ++ tl.drop 33) := by rw [List.take_append_drop]
      rw [this, splice_mid (by rw [List.length_take, htl, Nat.succ_mul]; simp) hT.symm]
    · rw [List.length_append, List.length_drop, htl, Nat.succ_mul]; simp; omega
end
end Go.Sh

/- What the oracle's functions do to one. -/
namespace Go.Sh
open Go Go.Abs

/-- An oracle's parts. -/
def oparts (i m : Nat) (lv : AVal) (T : List (List UInt8)) (R : List Part) : List Part :=
  .obj i (.cells 0 .exact [lv, .map m]) :: .mp m (ents T) :: Part.slx lv 33 T.length (ocells T) :: R
section
variable {H0 B : AHeap} {own : Nat → Prop} {R : List Part} {i m : Nat} {lv : AVal} {T : List (List UInt8)} {s : List UInt8}
theorem slx_sc {n es : Nat} {cs : List AVal} (h : OwnX B lv es n cs) : lv.sc = true := by
  rcases h.2 with ⟨rfl, _⟩ | ⟨j, u, sp, q, rfl, _⟩ <;> rfl
theorem mp_get {a b c : Part} {es : List (AVal × AVal)} (h : Sep H0 own B (a :: b :: c :: .mp m es :: R)) : ∃ v, B[m]? = some (.map v es) := h.tail.tail.tail.head
theorem s_newmap (h : Sep H0 own B R) {K : AVal → AHeap → Prop} (k : ∀ j C, B <+: C → Sep H0 own C (.mp j [] :: R) → K (.map j) C) : hb (aMakeMap B) K :=
  k B.length _ (pre_app _ _) ((h.new (.map 0 [])).as rfl fun h => ⟨0, h⟩)
theorem s_mput {es es' : List (AVal × AVal)} (h : Sep H0 own B (.mp m es :: R)) {K : AHeap → Prop} {l : Kt} {x y : AVal} (hm : ∀ v, B[m]? = some (.map v es) → aMapUpdate B l (.map m) x y = some (B.set m (.map (v + 1) es')))
    (k : ∀ C, Sep H0 own C (.mp m es' :: R) → K C) : sb (aMapUpdate B l (.map m) x y) K := by
  obtain ⟨v, hv⟩ := h.head
  refine sb_i (hm v hv) (k _ (h.put (by simp) (fun j hj => .inl hj) (fun j _ hn => List.getElem?_set_ne (by simp [Part.mp] at hn; omega)) ⟨v + 1, List.getElem?_set_self (lt_of_some hv)⟩))
theorem s_mdel {es es' : List (AVal × AVal)} (h : Sep H0 own B (.mp m es :: R)) {K : AVal → AHeap → Prop} {l : Kt} {x : AVal} (hm : ∀ v, B[m]? = some (.map v es) → aDelete B l (.map m) x = some (.tup [], B.set m (.map (v + 1) es')))
    (k : ∀ C, Sep H0 own C (.mp m es' :: R) → K (.tup []) C) : hb (aDelete B l (.map m) x) K := by
  obtain ⟨v, hv⟩ := h.head
  refine hb_i (hm v hv) (k _ (h.put (by simp) (fun j hj => .inl hj) (fun j _ hn => List.getElem?_set_ne (by simp [Part.mp] at hn; omega)) ⟨v + 1, List.getElem?_set_self (lt_of_some hv)⟩))

theorem okeep_New_spec (h : Sep H0 own B R) : ∃ r C, S_okeep_New [] B r C ∧ ∃ i m, r = .ptr ⟨i, 0, 0⟩ ∧ Sep H0 own C (oparts i m .nils [] R) := by
  refine okeep_New.out ?_
  unfold okeep_New.w
  refine s_newmap (sep_nilx h 33) fun m C pC hs => ?_
  repeat first
  | ((with_reducible apply s_box hs); (· rfl); intro _ _ _ hs; try simp only [AVal.cells] at hs)
  | ((with_reducible apply vb_bld); (· first | rfl | (simp only [evF, evS]; rfl)))
  rename_i hp
  exact fin_ret (rvs_v (rvs_nil _)) ⟨pC.trans hp, _, _, rfl, hs⟩

theorem okeep_Sum_spec (h : Sep H0 own B (oparts i m lv T R)) (hl : s.length ≤ 1048576) (hT : T.length ≤ 1073741000) :
    ∃ r C, S_okeep_Sum [.ptr ⟨i, 0, 0⟩, .str s] B r C ∧ r = .agg ((sum s).map ofByte) ∧ ∃ lv', Sep H0 own C (oparts i m lv' (keepT T s) R) := by
  refine okeep_Sum.out ?_
  unfold okeep_Sum.w
  have hsl := sum_len s
  have hs := h
  unfold oparts at hs
  repeat first
  | ((with_reducible refine s_alloc hs ?_); intro _ _ _ hs)
  refine cb_i _ _ ⟨s, rfl, by omega, rfl, rfl⟩ ?_
  repeat first
  | (with_reducible apply s_storeA hs); (· rfl); (· simp [hsl]); (· exact List.length_replicate); (· exact cells_byte _); intro _ hs
  | with_reducible refine isB_F ?_
  | with_reducible refine vb_i (e_ptrNil _ _) ?_
  | ((with_reducible refine s_alloc hs ?_); intro _ _ _ hs)
  rename_i j1 C1 p1 h1 j2 C2 p2 h2 C3
  refine JoinP.mk (fun e vs D => e = .normal ∧ C3 = D) ?_ ?_
  · repeat first
    | with_reducible refine vb_i (e_nilCheck _) ?_
    | with_reducible refine vb_i (e_fieldAddr _ _) ?_
    | ((with_reducible apply vb_ld); (· first | exact hs.g0 | exact hs.g1 | exact hs.g2 | exact hs.g3 | exact hs.g4 | exact hs.g5 | exact hs.g6 | exact hs.rd hg | exact hs.rd hg2 | exact hs.rd hg3 | exact hs.rd hg4 | assumption); (· rfl))
    refine vb_i (v := .bool false) rfl ?_
    repeat first
    | with_reducible refine isB_F ?_
    exact ⟨rfl, rfl⟩
  rintro _ _ _ ⟨rfl, rfl⟩
  repeat first
  | with_reducible refine onE_i ?_
  | with_reducible refine vb_i (e_nilCheck _) ?_
  | with_reducible refine vb_i (e_fieldAddr _ _) ?_
  | ((with_reducible apply vb_ld); (· first | exact hs.g0 | exact hs.g1 | exact hs.g2 | exact hs.g3 | exact hs.g4 | exact hs.g5 | exact hs.g6 | exact hs.rd hg | exact hs.rd hg2 | exact hs.rd hg3 | exact hs.rd hg4 | assumption); (· rfl))
  obtain ⟨mv, hm⟩ := mp_get hs
  refine vb_i (look_in hm) ?_
  repeat first
  | with_reducible refine vb_i e_notd ?_
  refine isB_c (fun hin => ?_) (fun hin => ?_)
  rotate_left
  · skip
    have hk : keepT T s = T := if_pos (Classical.not_not.1 hin)
    refine vb_ldA hs.g0 (by simp [hsl]) ?_
    refine (s_storeA hs.f1 rfl (by simp [hsl]) List.length_replicate (cells_byte _) ?_)
    intro D hs
    exact fin_ret (rvs_c (e_loadAll hs.g0 (by simp [hsl])) (rvs_nil _)) ⟨rfl, lv, by rw [hk]; exact hs.tail.tail⟩
  have hk : keepT T s = T ++ [s] := if_neg hin
  have hoc := ocell_len s
  repeat first
  | with_reducible refine vb_i (e_nilCheck _) ?_
  | with_reducible refine vb_i (e_fieldAddr _ _) ?_
  | ((with_reducible apply vb_ld); (· first | exact hs.g0 | exact hs.g1 | exact hs.g2 | exact hs.g3 | exact hs.g4 | exact hs.g5 | exact hs.g6 | exact hs.rd hg | exact hs.rd hg2 | exact hs.rd hg3 | exact hs.rd hg4 | assumption); (· rfl))
  refine s_mput hs.f3 (fun v hv => put_out hv hin) fun D hs => ?_
  replace hs := hs.b3
  repeat first
  | with_reducible refine vb_i (e_nilCheck _) ?_
  | with_reducible refine vb_i (e_fieldAddr _ _) ?_
  | ((with_reducible apply vb_ld); (· first | exact hs.g0 | exact hs.g1 | exact hs.g2 | exact hs.g3 | exact hs.g4 | exact hs.g5 | exact hs.g6 | exact hs.rd hg | exact hs.rd hg2 | exact hs.rd hg3 | exact hs.rd hg4 | assumption); (· rfl))
  refine vb_ldA hs.g0 (by simp [hsl]) ?_
  refine vb_i (build_two rfl (by simp [hsl]) rfl) ?_
  refine hb_i (buildSlice_one hoc rfl) ?_
  have hr := hs.new (.cells 0 .exact (ocell s))
  have hv : View (D ++ [.cells 0 .exact (ocell s)]) (.slice ⟨D.length, 0, 0⟩ 1 (.ex 1)) 33 1 (ocell s) :=
    ⟨by rw [hoc], .inr ⟨_, 0, 0, _, .exact, _, rfl, hr.g0, fun _ => by omega, by rw [List.drop_zero, List.take_of_length_le (by omega)], Nat.le_refl _⟩⟩
  refine x_app hr.f5 (by decide) hv (ocell_cell s) (by unfold room; omega) (by unfold room; omega) fun sv' E hs => ?_
  replace hs := hs.b5.tail
  have hsc := slx_sc hs.tail.tail.tail.tail.head
  repeat first
  | (with_reducible apply s_store1 hs.f2); (· rfl); (· exact hsc); (· simp only [List.length_cons, List.length_nil]; omega); intro _ hs; try simp only [List.set_cons_zero, List.set_cons_succ, Nat.add_zero, Nat.zero_add] at hs
  | with_reducible refine vb_i (e_nilCheck _) ?_
  | with_reducible refine vb_i (e_fieldAddr _ _) ?_
  refine vb_ldA hs.g1 (by simp [hsl]) ?_
  refine (s_storeA hs.f2 rfl (by simp [hsl]) List.length_replicate (cells_byte _) ?_)
  intro D2 hs
  refine fin_ret (rvs_c (e_loadAll hs.g0 (by simp [hsl])) (rvs_nil _)) ⟨rfl, sv', ?_⟩
  rw [hk]
  have e1 : ocells (T ++ [s]) = ocells T ++ ocell s := ocells_app T s
  unfold oparts
  rw [e1, List.length_append]
  exact hs.tail.f1.tail
end
end Go.Sh

/- What the oracle's functions do to one, on. -/
namespace Go.Sh
open Go Go.Abs

def dropT (T : List (List UInt8)) (s : List UInt8) : List (List UInt8) := T.filter fun t => decide (t ≠ s)
theorem dropT_none {T : List (List UInt8)} {s : List UInt8} (h : s ∉ T) : dropT T s = T := List.filter_eq_self.2 fun t ht => by
  have : t ≠ s := fun e => h (e ▸ ht)
  simpa using this
theorem dropT_at : ∀ {T : List (List UInt8)} {j : Nat} {s : List UInt8}, T.Nodup → T[j]? = some s → dropT T s = T.eraseIdx j
  | [], _, _, _, h => by simp at h
  | t :: T, 0, s, h, hj => by
    simp at hj; subst hj
    rw [List.nodup_cons] at h
    rw [List.eraseIdx_cons_zero]
    unfold dropT
    rw [List.filter_cons_of_neg (by simp)]
    exact dropT_none h.1
  | t :: T, j + 1, s, h, hj => by
    simp at hj
    rw [List.nodup_cons] at h
    have hne : t ≠ s := fun e => h.1 (e ▸ List.mem_of_getElem? hj)
    rw [List.eraseIdx_cons_succ, ← dropT_at h.2 hj]
    unfold dropT
    rw [List.filter_cons_of_pos (by simpa using hne)]
theorem dropT_nd {T : List (List UInt8)} (h : T.Nodup) (s : List UInt8) : (dropT T s).Nodup := h.sublist List.filter_sublist
theorem keepT_nd {T : List (List UInt8)} (h : T.Nodup) (s : List UInt8) : (keepT T s).Nodup := by
  have := keepTs_nd [s] T h
  exact this
theorem ocells_flat (T : List (List UInt8)) : ocells T = flat ocell T := rfl
theorem ocells_erase (T : List (List UInt8)) (j : Nat) (hj : j < T.length) : ocells (T.eraseIdx j) = (ocells T).take (j * 33) ++ (ocells T).drop ((j + 1) * 33) := by
  have e0 : T = T.take j ++ T.drop j := (List.take_append_drop j T).symm
  have l1 : (ocells (T.take j)).length = j * 33 := by rw [ocells_len, List.length_take, Nat.min_eq_left (by omega)]
  have e1 : T = T.take (j + 1) ++ T.drop (j + 1) := (List.take_append_drop (j + 1) T).symm
  have l2 : (ocells (T.take (j + 1))).length = (j + 1) * 33 := by rw [ocells_len, List.length_take, Nat.min_eq_left (by omega)]
  have h1 : (ocells T).take (j * 33) = ocells (T.take j) := by
    have : ocells T = ocells (T.take j) ++ ocells (T.drop j) := by rw [ocells_flat, ocells_flat, ocells_flat, ← flat_app, ← e0]
    rw [this, List.take_left' l1]
  have h2 : (ocells T).drop ((j + 1) * 33) = ocells (T.drop (j + 1)) := by
    have : ocells T = ocells (T.take (j + 1)) ++ ocells (T.drop (j + 1)) := by rw [ocells_flat, ocells_flat, ocells_flat, ← flat_app, ← e1]
    rw [this, List.drop_left' l2]
  rw [h1, h2, List.eraseIdx_eq_take_drop_succ]
  rw [ocells_flat, ocells_flat, ocells_flat, ← flat_app]
theorem find_idx {s : List UInt8} : ∀ {T : List (List UInt8)}, s ∈ T → ∀ i, ∃ j, T[j]? = some s ∧ findKey .str (.str s) (ents T) i = some (some (i + j, .bool true))
  | [], h, _ => by cases h
  | t :: T, h, i => by
    have hk : keyEq .str (.str s) (.str t) = some (s == t) := rfl
    by_cases e : s = t
    · subst e
      refine ⟨0, rfl, ?_⟩
      have : (s == s) = true := by simp
      simp only [ents, List.map_cons, findKey, hk, this, Nat.add_zero]
    · have h' : s ∈ T := (List.mem_cons.1 h).resolve_left e
      obtain ⟨j, h1, h2⟩ := find_idx h' (i + 1)
      refine ⟨j + 1, by simpa using h1, ?_⟩
      have : (s == t) = false := by simpa using e
      simp only [ents, List.map_cons, findKey, hk, this] at h2 ⊢
      rw [h2, show i + 1 + j = i + (j + 1) by omega]
theorem erase_mapK {α β : Type} (f : α → β) : ∀ (l : List α) (j : Nat), (l.map f).eraseIdx j = (l.eraseIdx j).map f
  | [], _ => rfl
  | _ :: _, 0 => rfl
  | x :: l, j + 1 => by simp only [List.map_cons, List.eraseIdx_cons_succ, erase_mapK f l j]
theorem del_in {H : AHeap} {m v : Nat} {T : List (List UInt8)} {s : List UInt8} (hn : T.Nodup) (hs : s ∈ T) (h : H[m]? = some (.map v (ents T))) :
    aDelete H .str (.map m) (.str s) = some (.tup [], H.set m (.map (v + 1) (ents (dropT T s)))) := by
  obtain ⟨j, h1, h2⟩ := find_idx hs 0
  have hk : keyOk .str (.str s) = true := rfl
  simp only [aDelete, hk, cond_true, h, h2, Nat.zero_add]
  have e : (ents T).eraseIdx j = ents (dropT T s) := by
    rw [dropT_at hn h1]
    exact erase_mapK _ _ _
  rw [e]
section
variable {H0 B : AHeap} {own : Nat → Prop} {R : List Part} {i m : Nat} {lv : AVal} {T : List (List UInt8)} {s : List UInt8}
theorem okeep_Len_spec (h : Sep H0 own B (oparts i m lv T R)) : S_okeep_Len [.ptr ⟨i, 0, 0⟩] B (.int .i64 T.length) B := by
  refine ⟨_, rfl, ?_, List.prefix_refl _⟩
  unfold okeep_Len.w
  have hs := h
  unfold oparts at hs
  have hv := hs.tail.tail.head.view
  repeat first
  | (with_reducible apply vb_len); (· exact hv)
  | with_reducible refine isB_F ?_
  | with_reducible refine vb_i (e_ptrNil _ _) ?_
  | with_reducible refine vb_i (e_nilCheck _) ?_
  | with_reducible refine vb_i (e_fieldAddr _ _) ?_
  | ((with_reducible apply vb_ld); (· first | exact hs.g0 | exact hs.g1 | exact hs.g2 | exact hs.g3 | exact hs.g4 | exact hs.g5 | exact hs.g6 | exact hs.rd hg | exact hs.rd hg2 | exact hs.rd hg3 | exact hs.rd hg4 | assumption); (· rfl))
  exact fin_ret (rvs_v (rvs_nil _)) ⟨rfl, rfl⟩
theorem okeep_Input_out (h : Sep H0 own B (oparts i m lv T R)) {k : Int} (hk : k < 0 ∨ (T.length : Int) ≤ k) :
    ∃ r C, S_okeep_Input [.ptr ⟨i, 0, 0⟩, .int .i64 k] B r C ∧ B <+: C ∧ r = .tup [.str [], zero32, .int .i64 3] := by
  refine okeep_Input.out ?_
  unfold okeep_Input.w
  have hs : Sep B (fun _ => False) B [] := Sep.start B
  have hg : B[i]? = some (.cells 0 .exact [lv, .map m]) := h.head
  have hv : View B lv 33 T.length (ocells T) := h.tail.tail.head.view
  repeat first
  | with_reducible refine isB_F ?_
  | with_reducible refine vb_i (lss64 _ _ _) ?_
  | with_reducible refine vb_i (e_ptrNil _ _) ?_
  | ((with_reducible refine s_alloc hs ?_); intro _ _ _ hs)
  rename_i C1 p1
  refine isB_c (fun h1 => ?_) (fun h1 => ?_)
  · repeat first
    | ((with_reducible apply vb_bld); (· first | rfl | (simp only [evF, evS]; rfl)))
    | ((with_reducible first | apply s_storeA hs | apply s_storeA hs.f1 | apply s_storeA hs.f2); (· rfl); (· first | rfl | assumption); (· first | rfl | assumption); (· first | rfl | assumption); intro _ hs)
    exact fin_ret (rvs_v (rvs_c (e_loadAll hs.g0 List.length_replicate) (rvs_v (rvs_nil _)))) ⟨hs.pre fun _ x => x, hs.pre fun _ x => x, rfl⟩
  · repeat first
    | (with_reducible apply vb_len); (· exact hs.rv hv)
    | ((with_reducible refine isB_ct ?_ ?_); (· omega))
    | with_reducible refine vb_i (geq64 _ _ _) ?_
    | with_reducible refine vb_i (e_nilCheck _) ?_
    | with_reducible refine vb_i (e_fieldAddr _ _) ?_
    | ((with_reducible apply vb_ld); (· first | exact hs.g0 | exact hs.g1 | exact hs.g2 | exact hs.g3 | exact hs.g4 | exact hs.g5 | exact hs.g6 | exact hs.rd hg | exact hs.rd hg2 | exact hs.rd hg3 | exact hs.rd hg4 | assumption); (· rfl))
    | ((with_reducible apply vb_bld); (· first | rfl | (simp only [evF, evS]; rfl)))
    | ((with_reducible first | apply s_storeA hs | apply s_storeA hs.f1 | apply s_storeA hs.f2); (· rfl); (· first | rfl | assumption); (· first | rfl | assumption); (· first | rfl | assumption); intro _ hs)
    exact fin_ret (rvs_v (rvs_c (e_loadAll hs.g0 List.length_replicate) (rvs_v (rvs_nil _)))) ⟨hs.pre fun _ x => x, hs.pre fun _ x => x, rfl⟩
theorem okeep_Input_in (h : Sep H0 own B (oparts i m lv T R)) {k : Nat} (hb : T[k]? = some s) :
    ∃ r C, S_okeep_Input [.ptr ⟨i, 0, 0⟩, .int .i64 k] B r C ∧ B <+: C ∧ r = .tup [.str s, .agg ((sum s).map ofByte), .int .i64 0] := by
  refine okeep_Input.out ?_
  unfold okeep_Input.w
  have hs : Sep B (fun _ => False) B [] := Sep.start B
  have hg : B[i]? = some (.cells 0 .exact [lv, .map m]) := h.head
  have hv : View B lv 33 T.length (flat ocell T) := h.tail.tail.head.view
  have hf := ocell_len
  have hkl : k < T.length := (List.getElem?_eq_some_iff.1 hb).1
  have hsl := sum_len s
  repeat first
  | (with_reducible apply vb_len); (· exact hs.rv hv)
  | with_reducible refine isB_F ?_
  | ((with_reducible refine isB_cf ?_ ?_); (· omega))
  | with_reducible refine vb_i (lss64 _ _ _) ?_
  | with_reducible refine vb_i (geq64 _ _ _) ?_
  | with_reducible refine vb_i (e_ptrNil _ _) ?_
  | with_reducible refine vb_i (e_nilCheck _) ?_
  | with_reducible refine vb_i (e_fieldAddr _ _) ?_
  | ((with_reducible apply vb_ld); (· first | exact hs.g0 | exact hs.g1 | exact hs.g2 | exact hs.g3 | exact hs.g4 | exact hs.g5 | exact hs.g6 | exact hs.rd hg | exact hs.rd hg2 | exact hs.rd hg3 | exact hs.rd hg4 | assumption); (· rfl))
  | ((with_reducible apply vb_addrN); (· first | exact hs.o0.view | exact hs.o1.view | exact hs.o2.view | exact hs.o3.view | exact hs.o4.view | exact hs.o5.view | exact hs.o6.view | exact hs.rv hv | exact hs.rv hv2 | exact hs.rv hv3 | exact hs.rv hv4 | exact hs.view hkv hko | assumption); (· omega))
  | ((with_reducible apply vb_el1); (· first | exact hs.o0.view | exact hs.o1.view | exact hs.o2.view | exact hs.o3.view | exact hs.o4.view | exact hs.o5.view | exact hs.o6.view | exact hs.rv hv | exact hs.rv hv2 | exact hs.rv hv3 | exact hs.rv hv4 | exact hs.view hkv hko | assumption); (· first | exact bcell_len | exact pcell_len | exact one_len | assumption); (· first | exact hb | exact hb2 | assumption); (· rfl))
  | ((with_reducible refine s_alloc hs ?_); intro _ _ _ hs)
  refine vb_i (el_ldP hf (hs.rv hv) hb (o := 1) (m := 32) (by decide)) ?_
  have e : ((ocell s).drop 1).take 32 = (sum s).map ofByte := by
    show ((sum s).map ofByte).take 32 = _
    rw [List.take_of_length_le (by simp [hsl])]
  rw [e]
  refine (s_storeA hs rfl (by simp [hsl]) List.length_replicate (cells_byte _) ?_)
  intro D hs
  exact fin_ret (rvs_v (rvs_c (e_loadAll hs.g0 (by simp [hsl])) (rvs_v (rvs_nil _)))) ⟨hs.pre fun _ x => x, hs.pre fun _ x => x, rfl⟩
theorem okeep_Forget_1_spec {t : List UInt8} {q : Nat} (hg : B[q]? = some (.cells 0 .exact [.str s])) :
    ∃ r C, S_okeep_Forget_1 [.agg (ocell t), .ptr ⟨q, 0, 0⟩] B r C ∧ B <+: C ∧ r = .bool (decide (t = s)) := by
  refine okeep_Forget_1.out ?_
  unfold okeep_Forget_1.w
  have hs : Sep B (fun _ => False) B [] := Sep.start B
  repeat first
  | with_reducible refine vb_i (eqls _ _) ?_
  | with_reducible refine vb_i (e_fieldAddr _ _) ?_
  | ((with_reducible apply vb_ld); (· first | exact hs.g0 | exact hs.g1 | exact hs.g2 | exact hs.g3 | exact hs.g4 | exact hs.g5 | exact hs.g6 | exact hs.rd hg | exact hs.rd hg2 | exact hs.rd hg3 | exact hs.rd hg4 | assumption); (· rfl))
  | ((with_reducible apply s_box hs); (· rfl); intro _ _ _ hs; try simp only [AVal.cells] at hs)
  exact fin_ret (rvs_v (rvs_nil _)) ⟨hs.pre fun _ x => x, hs.pre fun _ x => x, rfl⟩
theorem okeep_Index_spec {x : AVal} {q : Nat} (hv : View B x 33 T.length (flat ocell T)) (hg : B[q]? = some (.cells 0 .exact [.str s])) (hT : T.length ≤ 1073741824) :
    ∃ r C, S_okeep_Index [x, .func (.func KeepF.forget1) [] [.ptr ⟨q, 0, 0⟩]] B r C ∧ B <+: C ∧ ((s ∉ T ∧ r = .int .i64 (-1)) ∨ ∃ j : Nat, T[j]? = some s ∧ r = .int .i64 j) := by
  refine okeep_Index.out ?_
  unfold okeep_Index.w
  have hf := ocell_len
  refine vb_len hv ?_
  refine LoopP.ruleG (α := Nat) (fun k => [.int .i64 (k : Int)]) (fun k D => (k ≤ T.length ∧ s ∉ T.take k) ∧ B <+: D) (fun k => T.length - k) 0 (by simp) ⟨⟨Nat.zero_le _, by simp⟩, List.prefix_refl _⟩ ?_
  rintro k D Kn ⟨⟨hk, hn⟩, hp⟩ hnx
  unfold okeep_Index.L2 okeep_Index.L2.b
  try simp only [evB]
  refine vb_i (lss64 _ _ _) ?_
  refine isB_c (fun h1 => ?_) (fun h1 => ?_)
  · have hkl : k < T.length := by omega
    have hb : T[k]? = some T[k] := List.getElem?_eq_getElem hkl
    refine vb_addrN (hv.pre hp) hkl ?_
    refine vb_elN (hv.pre hp) hf hb ?_
    obtain ⟨r, C, hS, hC, rfl⟩ := okeep_Forget_1_spec (t := T[k]) (by rw [pre_get hp (lt_of_some hg)]; exact hg)
    refine cb_i _ C ⟨_, rfl, hS⟩ ?_
    refine isB_c (fun h2 => ?_) (fun h2 => ?_)
    · refine onE_s (by decide) ?_
      refine onE_i ?_
      try simp only [evB]
      exact fin_ret (rvs_v (rvs_nil _)) ⟨hp.trans hC, hp.trans hC, .inr ⟨k, by rw [hb, h2], rfl⟩⟩
    · refine vb_i (add64 (by omega) (by omega)) ?_
      refine hnx (k + 1) C ⟨⟨by omega, ?_⟩, hp.trans hC⟩ (by omega)
      rw [List.take_add_one, hb]
      intro hh
      rcases List.mem_append.1 hh with hh | hh
      · exact hn hh
      · simp at hh; exact h2 hh.symm
  · have : k = T.length := by omega
    subst this
    rw [List.take_length] at hn
    refine onE_i ?_
    exact fin_ret (rvs_v (rvs_nil _)) ⟨hp, hp, .inl ⟨hn, rfl⟩⟩
theorem okeep_Forget_spec (h : Sep H0 own B (oparts i m lv T R)) (hn : T.Nodup) (hT : T.length ≤ 1073741000) :
    ∃ r C, S_okeep_Forget [.ptr ⟨i, 0, 0⟩, .str s] B r C ∧ r = .int .i64 (if s ∈ T then 0 else 7) ∧ ∃ lv', Sep H0 own C (oparts i m lv' (dropT T s) R) := by
  refine okeep_Forget.out ?_
  unfold okeep_Forget.w
  have hs := h
  unfold oparts at hs
  repeat first
  | with_reducible refine isB_F ?_
  | with_reducible refine vb_i (e_ptrNil _ _) ?_
  | with_reducible refine vb_i (e_nilCheck _) ?_
  | with_reducible refine vb_i (e_fieldAddr _ _) ?_
  | ((with_reducible apply vb_ld); (· first | exact hs.g0 | exact hs.g1 | exact hs.g2 | exact hs.g3 | exact hs.g4 | exact hs.g5 | exact hs.g6 | exact hs.rd hg | exact hs.rd hg2 | exact hs.rd hg3 | exact hs.rd hg4 | assumption); (· rfl))
  | ((with_reducible apply s_box hs); (· rfl); intro _ _ _ hs; try simp only [AVal.cells] at hs)
  rename_i q C p _
  obtain ⟨r, D, hS, hD, hr⟩ := okeep_Index_spec (s := s) hs.tail.tail.tail.head.view hs.g0 (by omega)
  refine cb_i _ _ hS ?_
  replace hs := hs.quiet hD
  rcases hr with ⟨hout, rfl⟩ | ⟨j, hj, rfl⟩
  · repeat first
    | ((with_reducible refine isB_ct ?_ ?_); (· omega))
    | with_reducible refine vb_i (lss64 _ _ _) ?_
    exact fin_ret (rvs_v (rvs_nil _)) ⟨by rw [if_neg hout]; rfl, lv, by rw [dropT_none hout]; exact hs.tail⟩
  · have hin : s ∈ T := List.mem_of_getElem? hj
    have hjl : j < T.length := (List.getElem?_eq_some_iff.1 hj).1
    repeat first
    | ((with_reducible refine isB_cf ?_ ?_); (· omega))
    | with_reducible refine vb_i (lss64 _ _ _) ?_
    | with_reducible refine vb_i (e_nilCheck _) ?_
    | with_reducible refine vb_i (e_fieldAddr _ _) ?_
    | ((with_reducible apply vb_ld); (· first | exact hs.g0 | exact hs.g1 | exact hs.g2 | exact hs.g3 | exact hs.g4 | exact hs.g5 | exact hs.g6 | exact hs.rd hg | exact hs.rd hg2 | exact hs.rd hg3 | exact hs.rd hg4 | assumption); (· rfl))
    refine s_mdel hs.f2 (fun v hv => del_in hn hin hv) fun E hs => ?_
    replace hs := hs.b2
    repeat first
    | ((with_reducible refine vb_i (add64 ?_ ?_) ?_); (· omega); (· omega))
    | with_reducible refine vb_i (e_nilCheck _) ?_
    | with_reducible refine vb_i (e_fieldAddr _ _) ?_
    | ((with_reducible apply vb_ld); (· first | exact hs.g0 | exact hs.g1 | exact hs.g2 | exact hs.g3 | exact hs.g4 | exact hs.g5 | exact hs.g6 | exact hs.rd hg | exact hs.rd hg2 | exact hs.rd hg3 | exact hs.rd hg4 | assumption); (· rfl))
    obtain ⟨r, F, hS, hF⟩ := okeep_Delete_spec hs.f3 (by rw [List.all_eq_true]; intro x hx; simp only [ocells, List.mem_flatten, List.mem_map] at hx; obtain ⟨l, ⟨t, _, rfl⟩, hx⟩ := hx; exact List.all_eq_true.1 (ocell_cell t) x hx) hjl (by omega) rfl
    refine cb_i _ _ hS ?_
    rw [← ocells_erase T j hjl, ← dropT_at hn hj] at hF
    have hlen : T.length - 1 = (dropT T s).length := by rw [dropT_at hn hj, List.length_eraseIdx, if_pos hjl]
    rw [hlen] at hF
    have hsc := slx_sc hF.head
    replace hs := hF.b3
    repeat first
    | (with_reducible apply s_store1 hs.f1); (· rfl); (· exact hsc); (· simp only [List.length_cons, List.length_nil]; omega); intro _ hs; try simp only [List.set_cons_zero, List.set_cons_succ, Nat.add_zero, Nat.zero_add] at hs
    | with_reducible refine vb_i (e_nilCheck _) ?_
    | with_reducible refine vb_i (e_fieldAddr _ _) ?_
    refine fin_ret (rvs_v (rvs_nil _)) ⟨by rw [if_pos hin]; rfl, r, ?_⟩
    unfold oparts
    exact hs.f1.tail
end
end Go.Sh

/- The texts of the document's oracle; what must come at any rate; the law. -/
namespace Go.Sh
open Go Go.Abs

section
variable {H0 B : AHeap} {own : Nat → Prop} {R : List Part} {T : List (List UInt8)} {s : List UInt8}
theorem strs_len (T : List (List UInt8)) : (strs T).length = T.length := by simp [strs]
theorem strs_get {k : Nat} {t : List UInt8} (h : T[k]? = some t) : (strs T)[k]? = some (.str t) := by simp [strs, h]
theorem strs_cell (T : List (List UInt8)) : (strs T).all AVal.isCell = true := map_cell (fun _ => rfl) T
theorem strs_app (T U : List (List UInt8)) : strs (T ++ U) = strs T ++ strs U := by simp [strs]
theorem ref_Keep_spec {x : AVal} (h : Sep H0 own B (.sl x 1 T.length (strs T) :: R)) (hT : T.length ≤ 1048576) :
    ∃ r C, S_cellaretref06_Keep [x, .str s] B r C ∧ Sep H0 own C (.sl r 1 (keepT T s).length (strs (keepT T s)) :: R) := by
  refine cellaretref06_Keep.out ?_
  unfold cellaretref06_Keep.w
  refine LoopP.ruleG (α := Nat) (fun k => [.int .i64 (k : Int)]) (fun k D => (k ≤ T.length ∧ s ∉ T.take k) ∧ D = B) (fun k => T.length - k) 0 (by simp) ⟨⟨Nat.zero_le _, by simp⟩, rfl⟩ ?_
  rintro k D Kn ⟨⟨hk, hn⟩, rfl⟩ hnx
  unfold cellaretref06_Keep.L2 cellaretref06_Keep.L2.b
  try simp only [evB]
  have hv := h.o0.view
  refine vb_len hv ?_
  refine vb_i (lss64 _ _ _) ?_
  refine isB_c (fun h1 => ?_) (fun h1 => ?_)
  · have hkl : k < T.length := by omega
    have hb : T[k]? = some T[k] := List.getElem?_eq_getElem hkl
    refine vb_addrN hv hkl ?_
    refine vb_el0 hv (strs_get hb) ?_
    refine vb_i (eqls _ _) ?_
    refine isB_c (fun h2 => ?_) (fun h2 => ?_)
    · refine onE_s (by decide) ?_
      refine onE_i ?_
      have hin : s ∈ T := h2 ▸ List.mem_of_getElem? hb
      have hk : keepT T s = T := if_pos hin
      exact fin_ret (rvs_v (rvs_nil _)) (by rw [hk]; exact h)
    · refine vb_i (add64 (by omega) (by omega)) ?_
      refine hnx (k + 1) D ⟨⟨by omega, ?_⟩, rfl⟩ (by omega)
      rw [List.take_add_one, hb]
      intro hh
      rcases List.mem_append.1 hh with hh | hh
      · exact hn hh
      · simp at hh; exact h2 hh.symm
  · have : k = T.length := by omega
    subst this
    rw [List.take_length] at hn
    refine onE_i ?_
    refine s_row (cs := []) h rfl fun i C _ hs => ?_
    have hs : Sep H0 own C (.sl (.slice ⟨i, 0, 0⟩ 0 (.ex 0)) 1 0 [] :: .sl x 1 T.length (strs T) :: R) := hs.as rfl fun ho => ⟨rfl, .inr (.inl ⟨i, 0, rfl, ho⟩)⟩
    refine s_appv hs (by decide) hs.o1.view (strs_cell T) (by unfold room; omega) (by unfold room; omega) fun sv C hs => ?_
    refine s_push (m := 1) (xs := [.str s]) hs rfl (by decide) rfl rfl (by unfold room; omega) (by unfold room; omega) fun sv' C hs => ?_
    have hk : keepT T s = T ++ [s] := if_neg hn
    refine fin_ret (rvs_v (rvs_nil _)) ?_
    rw [hk, strs_app, List.length_append]
    have e : 0 + T.length + 1 = T.length + [s].length := by simp
    rw [List.nil_append, e] at hs
    exact hs.f1.tail
theorem ref_Forget_spec {x : AVal} (h : Sep H0 own B (.sl x 1 T.length (strs T) :: R)) (hT : T.length ≤ 1048576) :
    ∃ r C, S_cellaretref06_Forget [x, .str s] B r C ∧ ∃ sv, r = .tup [sv, .bool (decide (s ∈ T))] ∧ Sep H0 own C (.sl sv 1 (dropT T s).length (strs (dropT T s)) :: R) := by
  refine cellaretref06_Forget.out ?_
  unfold cellaretref06_Forget.w
  refine LoopP.ruleG (α := Nat × AVal) (fun k => [k.2, .bool (decide (s ∈ T.take k.1)), .int .i64 (k.1 : Int)])
    (fun k D => k.1 ≤ T.length ∧ Sep H0 own D (.sl k.2 1 (dropT (T.take k.1) s).length (strs (dropT (T.take k.1) s)) :: .sl x 1 T.length (strs T) :: R)) (fun k => T.length - k.1) (0, .nils) (by simp) ⟨Nat.zero_le _, s_nils h 1⟩ ?_
  rintro ⟨k, sv⟩ D Kn ⟨hk, hs⟩ hnx
  unfold cellaretref06_Forget.L4 cellaretref06_Forget.L4.b
  try simp only [evB]
  simp only at hs hk
  have hv := hs.o1.view
  refine vb_len hv ?_
  refine vb_i (lss64 _ _ _) ?_
  refine isB_c (fun h1 => ?_) (fun h1 => ?_)
  · have hkl : k < T.length := by omega
    have hb : T[k]? = some T[k] := List.getElem?_eq_getElem hkl
    have ht : T.take (k + 1) = T.take k ++ [T[k]] := by rw [List.take_add_one, hb]; rfl
    refine vb_addrN hv hkl ?_
    refine vb_el0 hv (strs_get hb) ?_
    refine vb_i (eqls _ _) ?_
    refine isB_c (fun h2 => ?_) (fun h2 => ?_)
    · refine vb_i (add64 (by omega) (by omega)) ?_
      have hd : dropT (T.take (k + 1)) s = dropT (T.take k) s := by
        rw [ht]; unfold dropT
        rw [List.filter_append, List.filter_cons_of_neg (by simpa using h2)]; simp
      have := hnx (k + 1, sv) D ⟨by omega, by simp only; rw [hd]; exact hs⟩ (by simp only; omega)
      simp only at this
      rw [decide_eq_true (show s ∈ T.take (k + 1) by rw [ht, h2]; simp)] at this
      exact this
    · refine vb_addrN hv hkl ?_
      refine vb_el0 hv (strs_get hb) ?_
      have hdl : (dropT (T.take k) s).length ≤ k := Nat.le_trans (List.length_filter_le _ _) (by rw [List.length_take]; omega)
      refine s_push (m := 1) (xs := [.str T[k]]) hs rfl (by decide) rfl rfl (by unfold room; omega) (by unfold room; omega) fun sv' C hs => ?_
      refine vb_i (add64 (by omega) (by omega)) ?_
      have hd : dropT (T.take (k + 1)) s = dropT (T.take k) s ++ [T[k]] := by
        rw [ht]; unfold dropT
        rw [List.filter_append, List.filter_cons_of_pos (by simpa using h2)]; rfl
      have := hnx (k + 1, sv') C ⟨by omega, by simp only; rw [hd, strs_app, List.length_append]; exact hs⟩ (by simp only; omega)
      simp only at this
      have e : decide (s ∈ T.take (k + 1)) = decide (s ∈ T.take k) := decide_eq_decide.2 (by
        rw [ht, List.mem_append]
        exact ⟨fun h => h.resolve_right fun h => h2 (by simp at h; exact h.symm), .inl⟩)
      rw [e] at this
      exact this
  · have : k = T.length := by omega
    subst this
    rw [List.take_length] at hs
    rw [List.take_length]
    refine onE_i ?_
    exact fin_ret (rvs_v (rvs_v (rvs_nil _))) ⟨sv, rfl, hs.f1.tail⟩
theorem okeep_awake_spec : ∃ r C, S_okeep_awake [] B r C ∧ B <+: C ∧ r = .bool true := by
  refine okeep_awake.out ?_
  unfold okeep_awake.w
  have hs : Sep B (fun _ => False) B [] := Sep.start B
  obtain ⟨_, C, hS, i, m, rfl, hs⟩ := okeep_New_spec hs
  refine cb_i _ _ hS ?_
  obtain ⟨_, D, hS, rfl, lv, hs⟩ := okeep_Sum_spec (s := [97, 98, 99]) hs (by decide) (by decide)
  have hk : keepT [] [97, 98, 99] = [[97, 98, 99]] := rfl
  rw [hk] at hs
  refine JoinP.mk (fun e vs E => e = .normal ∧ D = E) ?_ ?_
  · repeat first
    | with_reducible refine isB_F ?_
    | with_reducible refine vb_i (e_ptrNil _ _) ?_
    refine cb_i _ _ hS ?_
    refine cb_i _ _ ⟨_, rfl, by decide, rfl, rfl⟩ ?_
    with_reducible refine vb_i (e_neBytes (sum_len _) (sum_len _)) ?_
    with_reducible refine isB_cf ?_ ?_
    · exact fun h => h rfl
    refine cb_i _ _ (okeep_Len_spec hs) ?_
    repeat first
    | ((with_reducible refine isB_cf ?_ ?_); (· with_reducible exact not_not_intro rfl))
    | with_reducible refine vb_i (neq64 _ _ _) ?_
    exact ⟨rfl, rfl⟩
  rintro _ _ _ ⟨rfl, rfl⟩
  rw [onE_same]
  refine hb_i (two_strs _) ?_
  refine vb_i zero32_build (vb_i zero32_build ?_)
  refine hb_i (two_digs _) ?_
  have p1 : D <+: (D ++ [AObj.cells 0 Kd.exact (strs [[97], [98]])]) ++ [AObj.cells 0 Kd.exact (dcells [d0, d0])] := (pre_app _ _).trans (pre_app _ _)
  refine cb_i _ _ ⟨_, _, [[97], [98]], [d0, d0], rfl, ⟨(view_ex (by simp) rfl).pre (pre_app _ _), view_ex (n := 2) (by simp) rfl, by decide, by decide⟩, rfl, rfl⟩ ?_
  rw [pair_ab]
  replace hs := hs.quiet p1
  generalize (D ++ [AObj.cells 0 Kd.exact (strs [[97], [98]])]) ++ [AObj.cells 0 Kd.exact (dcells [d0, d0])] = E at *
  repeat first
  | with_reducible refine vb_i e_ext0 ?_
  | with_reducible refine vb_i e_ext1 ?_
  | with_reducible refine vb_i e_ext2 ?_
  obtain ⟨_, F, hS, hF, rfl⟩ := okeep_Input_in (k := 0) (s := [97, 98, 99]) hs rfl
  refine cb_i _ _ hS ?_
  replace hs := hs.quiet hF
  have hsl := sum_len [97, 98, 99]
  repeat first
  | (with_reducible apply s_storeA hs); (· rfl); (· simp [hsl]); (· exact List.length_replicate); (· exact cells_byte _); intro _ hs
  | with_reducible refine isB_T ?_
  | ((with_reducible refine isB_ct ?_ ?_); (· omega))
  | ((with_reducible refine isB_ct ?_ ?_); (· with_reducible rfl))
  | with_reducible refine vb_i e_ext0 ?_
  | with_reducible refine vb_i e_ext1 ?_
  | with_reducible refine vb_i e_ext2 ?_
  | with_reducible refine vb_i (eql64 _ _ _) ?_
  | with_reducible refine vb_i (eqls _ _) ?_
  | ((with_reducible apply vb_ldA); (· first | exact hs.g0 | exact hs.g1 | exact hs.g2 | exact hs.g3 | exact hs.g4 | exact hs.g5 | exact hs.g6 | exact hs.rd hg | exact hs.rd hg2 | exact hs.rd hg3 | exact hs.rd hg4 | assumption); (· rfl))
  | ((with_reducible refine s_alloc hs ?_); intro _ _ _ hs)
  refine cb_i _ _ ⟨_, rfl, by decide, rfl, rfl⟩ ?_
  with_reducible refine vb_i (e_eqBytes (sum_len _) (sum_len _)) ?_
  with_reducible refine isB_ct ?_ ?_
  · exact rfl
  repeat first
  | with_reducible refine vb_i (eql64 _ _ _) ?_
  exact fin_ret (rvs_v (rvs_nil _)) ⟨hs.pre fun _ x => x, hs.pre fun _ x => x, rfl⟩
end
end Go.Sh

/- What was summed is kept: the law. -/
namespace Go.Sh
open Go Go.Abs

def kactC (a : List UInt8 × Bool) : List AVal := [.str a.1, .bool a.2]
theorem kactC_len (a : List UInt8 × Bool) : (kactC a).length = 2 := rfl
def S_cellaretlaw06_OracleKeeps : Abs.Spec := fun args H r H' => ∃ (x : AVal) (l : List (List UInt8 × Bool)), args = [x] ∧ View H x 2 l.length (flat kactC l) ∧ l.length ≤ 9223372036854775807 ∧ r = .bool true ∧ H' = H
theorem keepT_mem {T : List (List UInt8)} {s t : List UInt8} (h : t ∈ keepT T s) : t ∈ T ∨ t = s := by
  unfold keepT at h
  split at h
  · exact .inl h
  · simpa using h
theorem keepT_le (T : List (List UInt8)) (s : List UInt8) : (keepT T s).length ≤ T.length + 1 := (keepT_len T s).2
theorem dropT_le (T : List (List UInt8)) (s : List UInt8) : (dropT T s).length ≤ T.length := List.length_filter_le _ _
set_option maxHeartbeats 1000000 in
theorem cellaretlaw06_OracleKeeps.ok (args : List AVal) (H : AHeap) (r : AVal) (H' : AHeap) (h : S_cellaretlaw06_OracleKeeps args H r H') : ∃ x0, args = [x0] ∧ cellaretlaw06_OracleKeeps.w x0 H fun r1 H1 => Weak H r1 H1 r H' := by
  obtain ⟨x, l, rfl, hv, hl, rfl, rfl⟩ := h
  refine ⟨_, rfl, ?_⟩
  unfold cellaretlaw06_OracleKeeps.w
  have hs : Sep H' (fun _ => False) H' [] := Sep.start H'
  obtain ⟨_, C, hS, i, m, rfl, hs⟩ := okeep_New_spec hs
  refine cb_i _ _ hS ?_
  refine LoopP.ruleG (α := Nat × AVal × List (List UInt8)) (fun a => [a.2.1, .int .i64 (a.1 : Int)])
    (fun a D => (a.1 ≤ 40 ∧ a.1 ≤ l.length ∧ a.2.2.length ≤ a.1 ∧ a.2.2.Nodup ∧ ∀ t ∈ a.2.2, t.length ≤ 300) ∧ ∃ lv, Sep H' (fun _ => False) D (.sl a.2.1 1 a.2.2.length (strs a.2.2) :: oparts i m lv a.2.2 [])) (fun a => 41 - a.1) (0, .nils, []) (by simp)
    ⟨⟨by decide, by simp, by simp, List.nodup_nil, by simp⟩, .nils, s_nils hs 1⟩ ?_
  rintro ⟨k, mv, T⟩ D Kn ⟨⟨h40, hkl, hT, hnd, hsh⟩, lv, hs⟩ hnx
  unfold cellaretlaw06_OracleKeeps.L4 cellaretlaw06_OracleKeeps.L4.b
  try simp only [evB]
  simp only at hs h40 hkl hT hnd hsh
  have hf := kactC_len
  refine JoinP.mk (fun e vs E => D = E ∧ ((e = .normal ∧ k < 40 ∧ k < l.length) ∨ (e = .exit 0 ∧ vs = []))) ?_ ?_
  · refine vb_len (hs.rv hv) ?_
    refine vb_i (lss64 _ _ _) ?_
    refine isB_c (fun h1 => ?_) (fun h1 => ?_)
    · refine vb_i (lss64 _ _ _) ?_
      refine isB_c (fun h2 => ?_) (fun h2 => ?_)
      · exact ⟨rfl, .inl ⟨rfl, by omega, by omega⟩⟩
      · exact ⟨rfl, .inr ⟨rfl, rfl⟩⟩
    · exact ⟨rfl, .inr ⟨rfl, rfl⟩⟩
  rintro _ _ _ ⟨rfl, ⟨rfl, hk40, hkl⟩ | ⟨rfl, rfl⟩⟩
  rotate_left
  · refine onE_i ?_
    refine onE_i ?_
    try simp only [evB]
    obtain ⟨_, E, hS, hE, rfl⟩ := okeep_awake_spec (B := D)
    refine cb_i _ _ hS ?_
    exact fin_bool rfl ((hs.quiet hE).pre fun _ x => x)
  refine onE_s (by decide) ?_
  refine onE_i ?_
  obtain ⟨a, hb⟩ : ∃ a, l[k]? = some a := ⟨_, List.getElem?_eq_getElem hkl⟩
  obtain ⟨s, gone⟩ := a
  refine vb_addrN (hs.rv hv) hkl ?_
  refine vb_elN (hs.rv hv) hf hb ?_
  refine s_alloc hs fun q E pE hs => ?_
  refine s_storeA hs rfl rfl rfl rfl fun F hs => ?_
  repeat first
  | with_reducible refine vb_i (gtr64 _ _ _) ?_
  | with_reducible refine vb_i (e_lenSt _) ?_
  | with_reducible refine vb_i (e_fieldAddr _ _) ?_
  | ((with_reducible apply vb_ld); (· first | exact hs.g0 | exact hs.g1 | exact hs.g2 | exact hs.g3 | exact hs.g4 | exact hs.g5 | exact hs.g6 | exact hs.rd hg | exact hs.rd hg2 | exact hs.rd hg3 | exact hs.rd hg4 | assumption); (· rfl))
  refine isB_c (fun h1 => ?_) (fun h1 => ?_)
  · repeat first
    | ((with_reducible refine vb_i (add64 ?_ ?_) ?_); (· omega); (· omega))
    exact hnx (k + 1, mv, T) _ ⟨⟨by omega, by omega, by simp only; omega, hnd, hsh⟩, lv, hs.tail⟩ (by simp only; omega)
  have hs300 : s.length ≤ 300 := by
    have : ((s, gone).1.length : Int) ≤ 300 := by omega
    simp only at this
    omega
  refine JoinP.mk (fun e vs G => e = .normal ∧ ∃ mv' T', vs = [.undef, mv'] ∧ T'.length ≤ k + 1 ∧ T'.Nodup ∧ (∀ t ∈ T', t.length ≤ 300) ∧ ∃ lv', Sep H' (fun _ => False) G (.sl mv' 1 T'.length (strs T') :: oparts i m lv' T' [])) ?_ ?_
  · repeat first
    | with_reducible refine vb_i (e_fieldAddr _ _) ?_
    | ((with_reducible apply vb_ld); (· first | exact hs.g0 | exact hs.g1 | exact hs.g2 | exact hs.g3 | exact hs.g4 | exact hs.g5 | exact hs.g6 | exact hs.rd hg | exact hs.rd hg2 | exact hs.rd hg3 | exact hs.rd hg4 | assumption); (· rfl))
    refine isB_bb (fun hg => ?_) (fun hg => ?_)
    · repeat first
      | with_reducible refine vb_i (e_fieldAddr _ _) ?_
      | ((with_reducible apply vb_ld); (· first | exact hs.g0 | exact hs.g1 | exact hs.g2 | exact hs.g3 | exact hs.g4 | exact hs.g5 | exact hs.g6 | exact hs.rd hg | exact hs.rd hg2 | exact hs.rd hg3 | exact hs.rd hg4 | assumption); (· rfl))
      obtain ⟨_, G, hS, mv', rfl, hs⟩ := ref_Forget_spec (s := s) hs.f1 (by omega)
      refine cb_i _ _ hS ?_
      repeat first
      | with_reducible refine vb_i e_ext0 ?_
      | with_reducible refine vb_i e_ext1 ?_
      | with_reducible refine vb_i (e_fieldAddr _ _) ?_
      | ((with_reducible apply vb_ld); (· first | exact hs.g0 | exact hs.g1 | exact hs.g2 | exact hs.g3 | exact hs.g4 | exact hs.g5 | exact hs.g6 | exact hs.rd hg | exact hs.rd hg2 | exact hs.rd hg3 | exact hs.rd hg4 | assumption); (· rfl))
      obtain ⟨_, G2, hS, rfl, lv', hs⟩ := okeep_Forget_spec (s := s) (R := [.sl mv' 1 (dropT T s).length (strs (dropT T s)), .obj q (.cells 0 .exact (kactC (s, gone)))]) hs.f4.f4.f4 hnd (by omega)
      refine cb_i _ _ hS ?_
      have hd := dropT_le T s
      have hpost : (AExit.normal = AExit.normal ∧ ∃ mv1 T1, [AVal.undef, mv'] = [.undef, mv1] ∧ T1.length ≤ k + 1 ∧ T1.Nodup ∧ (∀ t ∈ T1, t.length ≤ 300) ∧ ∃ lv1, Sep H' (fun _ => False) G2 (.sl mv1 1 T1.length (strs T1) :: oparts i m lv1 T1 [])) :=
        ⟨rfl, mv', dropT T s, rfl, by omega, dropT_nd hnd s, fun t ht => hsh t (List.mem_filter.1 ht).1, lv', Sep.drop (R1 := .sl mv' 1 (dropT T s).length (strs (dropT T s)) :: oparts i m lv' (dropT T s) []) (R := [.obj q (.cells 0 .exact (kactC (s, gone)))]) hs.f3⟩
      refine isB_c (fun hin => ?_) (fun hin => ?_)
      · rw [if_pos hin]
        refine vb_i (neq64 _ _ _) ?_
        refine isB_cf (by decide) ?_
        refine vb_i e_notd ?_
        refine isB_cf (not_not_intro hin) ?_
        exact hpost
      · rw [if_neg hin]
        refine vb_i e_notd ?_
        refine isB_ct hin ?_
        refine vb_i (neq64 _ _ _) ?_
        refine isB_cf (by decide) ?_
        exact hpost
    · repeat first
      | with_reducible refine vb_i (e_fieldAddr _ _) ?_
      | ((with_reducible apply vb_ld); (· first | exact hs.g0 | exact hs.g1 | exact hs.g2 | exact hs.g3 | exact hs.g4 | exact hs.g5 | exact hs.g6 | exact hs.rd hg | exact hs.rd hg2 | exact hs.rd hg3 | exact hs.rd hg4 | assumption); (· rfl))
      obtain ⟨mv', G, hS, hs⟩ := ref_Keep_spec (s := s) hs.f1 (by omega)
      refine cb_i _ _ hS ?_
      obtain ⟨_, G2, hS, rfl, lv', hs2⟩ := okeep_Sum_spec (s := s) (R := [.sl mv' 1 (keepT T s).length (strs (keepT T s)), .obj q (.cells 0 .exact (kactC (s, gone)))]) hs.f4.f4.f4 (by omega) (by omega)
      have hd := keepT_le T s
      have hpost : (AExit.normal = AExit.normal ∧ ∃ mv1 T1, [AVal.undef, mv'] = [.undef, mv1] ∧ T1.length ≤ k + 1 ∧ T1.Nodup ∧ (∀ t ∈ T1, t.length ≤ 300) ∧ ∃ lv1, Sep H' (fun _ => False) G2 (.sl mv1 1 T1.length (strs T1) :: oparts i m lv1 T1 [])) :=
        ⟨rfl, mv', keepT T s, rfl, by omega, keepT_nd hnd s, fun t ht => (keepT_mem ht).elim (hsh t) (fun e => e ▸ hs300), lv', Sep.drop (R1 := .sl mv' 1 (keepT T s).length (strs (keepT T s)) :: oparts i m lv' (keepT T s) []) (R := [.obj q (.cells 0 .exact (kactC (s, gone)))]) hs2.f3⟩
      have hq : G2[q]? = some (.cells 0 .exact (kactC (s, gone))) := hs2.tail.tail.tail.tail.head
      refine ⟨?_, ?_⟩
      · repeat first
        | with_reducible refine vb_i (e_fieldAddr _ _) ?_
        | ((with_reducible apply vb_ld); (· first | exact hs.g0 | exact hs.g1 | exact hs.g2 | exact hs.g3 | exact hs.g4 | exact hs.g5 | exact hs.g6 | exact hs.rd hg | exact hs.rd hg2 | exact hs.rd hg3 | exact hs.rd hg4 | assumption); (· rfl))
        refine cb_i _ _ hS ?_
        repeat first
        | with_reducible refine vb_i (e_fieldAddr _ _) ?_
        | ((with_reducible apply vb_ld); (· first | exact hs.g0 | exact hs.g1 | exact hs.g2 | exact hs.g3 | exact hs.g4 | exact hs.g5 | exact hs.g6 | exact hs.rd hg | exact hs.rd hg2 | exact hs.rd hg3 | exact hs.rd hg4 | assumption); (· rfl))
        refine cb_i _ _ ⟨_, rfl, by omega, rfl, rfl⟩ ?_
        with_reducible refine vb_i (e_neBytes (sum_len _) (sum_len _)) ?_
        refine isB_cf (fun h => h rfl) ?_
        exact hpost
      · repeat first
        | with_reducible refine vb_i (e_fieldAddr _ _) ?_
        | ((with_reducible apply vb_ld); (· first | exact hs.g0 | exact hs.g1 | exact hs.g2 | exact hs.g3 | exact hs.g4 | exact hs.g5 | exact hs.g6 | exact hs.rd hg | exact hs.rd hg2 | exact hs.rd hg3 | exact hs.rd hg4 | assumption); (· rfl))
        refine cb_i _ _ hS ?_
        refine cb_i _ _ ⟨_, rfl, by omega, rfl, rfl⟩ ?_
        with_reducible refine vb_i (e_neBytes (sum_len _) (sum_len _)) ?_
        refine isB_cf (fun h => h rfl) ?_
        exact hpost
  rintro _ _ G ⟨rfl, mv', T', rfl, hT', hnd', hsh', lv', hs⟩
  refine onE_i ?_
  refine cb_i _ _ (okeep_Len_spec hs.tail) ?_
  try simp only [evB]
  refine vb_len hs.o0.view ?_
  refine vb_i (neq64 _ _ _) ?_
  refine isB_cf (by omega) ?_
  refine LoopP.ruleG (α := Nat) (fun j => [.int .i64 ((j : Int) - 1)]) (fun j E => j ≤ T'.length + 2 ∧ Sep H' (fun _ => False) E (.sl mv' 1 T'.length (strs T') :: oparts i m lv' T' [])) (fun j => T'.length + 2 - j) 0 (by simp) ⟨by omega, hs⟩ ?_
  clear hs
  rintro j E Kj ⟨hj, hs⟩ hjn
  unfold cellaretlaw06_OracleKeeps.L20 cellaretlaw06_OracleKeeps.L20.b
  try simp only [evB]
  refine vb_len hs.o0.view ?_
  refine vb_i (leq64 _ _ _) ?_
  refine isB_c (fun h2 => ?_) (fun h2 => ?_)
  rotate_left
  · refine onE_i ?_
    refine vb_i (add64 (by omega) (by omega)) ?_
    exact hnx (k + 1, mv', T') _ ⟨⟨by omega, by omega, hT', hnd', hsh'⟩, lv', hs⟩ (by simp only; omega)
  by_cases hin : 1 ≤ j ∧ j - 1 < T'.length
  · obtain ⟨t, ht⟩ : ∃ t, T'[j - 1]? = some t := ⟨_, List.getElem?_eq_getElem hin.2⟩
    have hj1 : (j : Int) - 1 = ((j - 1 : Nat) : Int) := by omega
    obtain ⟨_, F2, hS, hF, rfl⟩ := okeep_Input_in (k := j - 1) (s := t) hs.tail ht
    rw [hj1]
    refine cb_i _ _ hS ?_
    replace hs := hs.quiet hF
    have hsl := sum_len t
    refine vb_i e_ext0 (vb_i e_ext1 (vb_i e_ext2 ?_))
    refine s_alloc hs fun q2 E2 pE2 hs => ?_
    refine s_storeA hs rfl (by simp [hsl]) List.length_replicate (cells_byte _) fun F3 hs => ?_
    refine vb_i (lss64 _ _ _) ?_
    refine isB_cf (by omega) ?_
    refine vb_len hs.o1.view ?_
    refine vb_i (eql64 _ _ _) ?_
    refine isB_cf (by omega) ?_
    refine vb_addrN hs.o1.view hin.2 ?_
    refine vb_el0 hs.o1.view (strs_get ht) ?_
    refine vb_i (neqs _ _) ?_
    refine isB_cf (fun h => h rfl) ?_
    refine vb_ldA hs.g0 (by simp [hsl]) ?_
    refine cb_i _ _ ⟨_, rfl, (by have := hsh' t (List.mem_of_getElem? ht); omega), rfl, rfl⟩ ?_
    with_reducible refine vb_i (e_neBytes (sum_len _) (sum_len _)) ?_
    refine isB_cf (fun h => h rfl) ?_
    refine vb_i (neq64 _ _ _) ?_
    refine isB_cf (by decide) ?_
    refine vb_i (add64 (by omega) (by omega)) ?_
    have := hjn (j + 1) F3 ⟨by omega, hs.tail⟩ (by omega)
    rw [show ((j + 1 : Nat) : Int) - 1 = ((j - 1 : Nat) : Int) + 1 by omega] at this
    exact this
  · obtain ⟨_, F2, hS, hF, rfl⟩ := okeep_Input_out (k := (j : Int) - 1) hs.tail (by omega)
    refine cb_i _ _ hS ?_
    replace hs := hs.quiet hF
    refine vb_i e_ext0 (vb_i e_ext1 (vb_i e_ext2 ?_))
    refine s_alloc hs fun q2 E2 pE2 hs => ?_
    refine s_storeA hs rfl List.length_replicate List.length_replicate (cells_rep _ _ _) fun F3 hs => ?_
    refine vb_i (lss64 _ _ _) ?_
    have hend : Kj [.int .i64 ((j : Int) - 1 + 1)] F3 := by
      have := hjn (j + 1) F3 ⟨by omega, hs.tail⟩ (by omega)
      rw [show ((j + 1 : Nat) : Int) - 1 = (j : Int) - 1 + 1 by omega] at this
      exact this
    refine isB_c (fun h3 => ?_) (fun h3 => ?_)
    · refine vb_i (neqs _ _) ?_
      refine isB_cf (fun h => h rfl) ?_
      refine vb_ldA hs.g0 List.length_replicate ?_
      refine vb_i zero32_build ?_
      refine vb_i (v := .bool false) rfl ?_
      refine isB_F ?_
      refine vb_i (neq64 _ _ _) ?_
      refine isB_cf (by decide) ?_
      refine vb_i (add64 (by omega) (by omega)) ?_
      exact hend
    · refine vb_len hs.o1.view ?_
      refine vb_i (eql64 _ _ _) ?_
      refine isB_ct (by omega) ?_
      refine vb_i (neqs _ _) ?_
      refine isB_cf (fun h => h rfl) ?_
      refine vb_ldA hs.g0 List.length_replicate ?_
      refine vb_i zero32_build ?_
      refine vb_i (v := .bool false) rfl ?_
      refine isB_F ?_
      refine vb_i (neq64 _ _ _) ?_
      refine isB_cf (by decide) ?_
      refine vb_i (add64 (by omega) (by omega)) ?_
      exact hend
end Go.Sh
