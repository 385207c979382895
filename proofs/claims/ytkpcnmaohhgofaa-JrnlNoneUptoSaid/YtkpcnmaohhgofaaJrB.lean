/- One text of these: JrnW2, JrnP8, JrnP9, JrnPa, JrnPb, JrnPc, JrnPd, JrnPe, JrnPf, JrnA. -/
import Derived.Test.YtkpcnmaohhgofaaJrA
import Derived.Test.YtkpcnmaohhgofaaAbsE
import Derived.Test.YtkpcnmaohhgofaaAbsF

/- What Go functions come to over abstract values, printed by a program (wx.py); of each function its own text is what is told of it. -/
namespace Go.Sh
open Go Go.Abs

def cellaretlaw15_where.w (x0 : AVal) (x1 : AVal) (H : AHeap) (K : AVal → AHeap → Prop) : Prop :=
 hb (aAlloc H [.str [], .int .i64 0, .int .i64 0]) fun v1 H2 =>
 cb (S_cellaretref01_Full [.str [115, 117, 112, 101, 114], .int .i64 64] H2) fun v3 H4 =>
 vb (aBin .rem x0 (.int .u8 2)) fun v5 =>
 vb (aInt2 .i64 v5) fun v6 =>
 vb (aBin .rem x1 (.int .u8 2)) fun v7 =>
 vb (aInt2 .i64 v7) fun v8 =>
 vb (aBuild [.str [], .int .i64 0, .int .i64 0] (fun k => ([(0, 1), (1, 1), (2, 1)] : List (Nat × Nat))[k]?) [(0, v3), (1, v6), (2, v8)]) fun v9 =>
 sb (aStore H4 3 v1 v9) fun H10 =>
 fin .ret [.c true 3 (v1)] H10 K

def S_cellaretlaw15_where : Abs.Spec := fun args H r H' => ∃ x0 x1 : AVal, args = [x0, x1] ∧ (cellaretlaw15_where.w x0 x1 H fun r1 H1 => r1 = r ∧ H1 = H') ∧ H <+: H'
theorem cellaretlaw15_where.ok (args : List AVal) (H : AHeap) (r : AVal) (H' : AHeap) (h : S_cellaretlaw15_where args H r H') : ∃ x0 x1 : AVal, args = [x0, x1] ∧ cellaretlaw15_where.w x0 x1 H fun r1 H1 => r1 = r ∧ H1 = H' := by
  obtain ⟨x0, x1, h1, h2, _⟩ := h
  exact ⟨x0, x1, h1, h2⟩
theorem cellaretlaw15_where.quiet {args : List AVal} {H : AHeap} {r : AVal} {H' : AHeap} (h : S_cellaretlaw15_where args H r H') : H <+: H' := by
  obtain ⟨_, _, _, _, h⟩ := h
  exact h
set_option maxRecDepth 100000 in
theorem cellaretlaw15_where.ex (x0 x1 : AVal) (H : AHeap) : Ex fun K : AVal × AHeap → Prop => cellaretlaw15_where.w x0 x1 H fun r H => K (r, H) := by
  unfold cellaretlaw15_where.w
  repeat with_reducible first
    | exact Ex.pt _
    | exact Ex.fin
    | exact Ex.no
    | refine Ex.vb fun _ => ?_
    | refine Ex.hb fun _ _ => ?_
    | refine Ex.sb fun _ => ?_
    | refine Ex.cb fun _ _ => ?_
    | refine Ex.isB fun _ => ?_
    | refine Ex.cond ?_ ?_
    | refine Ex.onE ?_ ?_
    | refine Ex.join ?_ fun _ _ _ => ?_
    | refine Ex.loop (fun _ _ => ?_) fun _ _ _ => ?_

theorem cellaretlaw15_where.out {x0 x1 : AVal} {H : AHeap} {Q : AVal → AHeap → Prop} (h : cellaretlaw15_where.w x0 x1 H fun r H' => (H <+: H') ∧ Q r H') : ∃ r H', S_cellaretlaw15_where [x0, x1] H r H' ∧ Q r H' := by
  obtain ⟨r, H', h1, h2⟩ := (cellaretlaw15_where.ex x0 x1 H).out h
  exact ⟨r, H', ⟨_, _, rfl, h1, h2.1⟩, h2.2⟩

def cellaretlaw15_light.L7.b (x0 : AVal) (x3_2 : AVal) (x4_7 : AVal) (H19 : AHeap) (Kn20 : List AVal → AHeap → Prop) (Ke21 : AExit → List AVal → AHeap → Prop) : Prop :=
 vb (aIndexAddr 34 x0 x3_2) fun v22 =>
 vb (aFieldAddr 33 v22) fun v23 =>
 vb (aLoad H19 false 1 v23) fun v24 =>
 vb (lenSl v24) fun v25 =>
 vb (aBin .lss x4_7 v25) fun v26 =>
 isB v26 fun b27 => cond b27
 (vb (aIndexAddr 34 x0 x3_2) fun v28 =>
 vb (aFieldAddr 33 v28) fun v29 =>
 vb (aLoad H19 false 1 v29) fun v30 =>
 vb (aIndexAddr 2 v30 x4_7) fun v31 =>
 vb (aFieldAddr 1 v31) fun v32 =>
 vb (aLoad H19 false 1 v32) fun v33 =>
 vb (lenSt v33) fun v34 =>
 vb (aBin .gtr v34 (.int .i64 200)) fun v35 =>
 isB v35 fun b36 => cond b36
 (Ke21 .ret [.bool false] H19)
 (vb (aBin .add x4_7 (.int .i64 1)) fun v37 =>
 Kn20 [v37] H19))
 (Ke21 (.exit 2) [.undef] H19)

def cellaretlaw15_light.L7 (x0 : AVal) (x3_2 : AVal) : Body := fun vs H Kn Ke => cellaretlaw15_light.L7.b x0 x3_2 (vs.getD 0 .undef) H Kn Ke

def cellaretlaw15_light.L2.b (x0 : AVal) (x3_2 : AVal) (H1 : AHeap) (Kn2 : List AVal → AHeap → Prop) (Ke3 : AExit → List AVal → AHeap → Prop) : Prop :=
 JoinP (fun Kj4 => vb (lenSl x0) fun v5 =>
 vb (aBin .lss x3_2 v5) fun v6 =>
 isB v6 fun b7 => cond b7
 (vb (aBin .lss x3_2 (.int .i64 20)) fun v8 =>
 isB v8 fun b9 => cond b9
 (Kj4 .normal [] H1)
 (Kj4 (.exit 0) [] H1))
 (Kj4 (.exit 0) [] H1))
 (fun e10 vs11 H12 =>
 onE e10 (.exit 0)
 (Ke3 (.exit 0) [.undef] H12)
 (onE e10 .normal
 (vb (aIndexAddr 34 x0 x3_2) fun v13 =>
 vb (aFieldAddr 33 v13) fun v14 =>
 vb (aLoad H12 false 1 v14) fun v15 =>
 vb (lenSl v15) fun v16 =>
 vb (aBin .gtr v16 (.int .i64 100)) fun v17 =>
 isB v17 fun b18 => cond b18
 (Ke3 .ret [.bool false] H12)
 (LoopP (cellaretlaw15_light.L7 x0 x3_2) [.int .i64 0] H12 fun e38 vs39 H40 =>
 onE e38 (.exit 2)
 (vb (aBin .add x3_2 (.int .i64 1)) fun v41 =>
 Kn2 [v41] H40)
 (onE e38 .ret
 (Ke3 .ret [vs39.getD 0 .undef] H40)
 (False))))
 (False)))

def cellaretlaw15_light.L2 (x0 : AVal) : Body := fun vs H Kn Ke => cellaretlaw15_light.L2.b x0 (vs.getD 0 .undef) H Kn Ke

def cellaretlaw15_light.w (x0 : AVal) (H : AHeap) (K : AVal → AHeap → Prop) : Prop :=
 LoopP (cellaretlaw15_light.L2 x0) [.int .i64 0] H fun e42 vs43 H44 =>
 onE e42 (.exit 0)
 (fin .ret [.v (.bool true)] H44 K)
 (onE e42 .ret
 (fin .ret [.v (vs43.getD 0 .undef)] H44 K)
 (False))

def S_cellaretlaw15_light : Abs.Spec := fun args H r H' => ∃ x0 : AVal, args = [x0] ∧ (cellaretlaw15_light.w x0 H fun r1 H1 => r1 = r ∧ H1 = H') ∧ H <+: H'
theorem cellaretlaw15_light.ok (args : List AVal) (H : AHeap) (r : AVal) (H' : AHeap) (h : S_cellaretlaw15_light args H r H') : ∃ x0 : AVal, args = [x0] ∧ cellaretlaw15_light.w x0 H fun r1 H1 => r1 = r ∧ H1 = H' := by
  obtain ⟨x0, h1, h2, _⟩ := h
  exact ⟨x0, h1, h2⟩
theorem cellaretlaw15_light.quiet {args : List AVal} {H : AHeap} {r : AVal} {H' : AHeap} (h : S_cellaretlaw15_light args H r H') : H <+: H' := by
  obtain ⟨_, _, _, h⟩ := h
  exact h
set_option maxRecDepth 100000 in
theorem cellaretlaw15_light.ex (x0 : AVal) (H : AHeap) : Ex fun K : AVal × AHeap → Prop => cellaretlaw15_light.w x0 H fun r H => K (r, H) := by
  unfold cellaretlaw15_light.w
  repeat with_reducible first
    | exact Ex.pt _
    | exact Ex.fin
    | exact Ex.no
    | refine Ex.vb fun _ => ?_
    | refine Ex.hb fun _ _ => ?_
    | refine Ex.sb fun _ => ?_
    | refine Ex.cb fun _ _ => ?_
    | refine Ex.isB fun _ => ?_
    | refine Ex.cond ?_ ?_
    | refine Ex.onE ?_ ?_
    | refine Ex.join ?_ fun _ _ _ => ?_
    | refine Ex.loop (fun _ _ => ?_) fun _ _ _ => ?_
    | (unfold cellaretlaw15_light.L7; unfold cellaretlaw15_light.L7.b)
    | (unfold cellaretlaw15_light.L2; unfold cellaretlaw15_light.L2.b)

theorem cellaretlaw15_light.out {x0 : AVal} {H : AHeap} {Q : AVal → AHeap → Prop} (h : cellaretlaw15_light.w x0 H fun r H' => (H <+: H') ∧ Q r H') : ∃ r H', S_cellaretlaw15_light [x0] H r H' ∧ Q r H' := by
  obtain ⟨r, H', h1, h2⟩ := (cellaretlaw15_light.ex x0 H).out h
  exact ⟨r, H', ⟨_, rfl, h1, h2.1⟩, h2.2⟩

def cellaretlaw15_awake.w (H : AHeap) (K : AVal → AHeap → Prop) : Prop :=
 cb (S_rig_New [] H) fun v1 H2 =>
 cb (S_oracle_New [] H2) fun v3 H4 =>
 cb (S_cellaretlaw15_where [.int .u8 1, .int .u8 0] H4) fun v5 H6 =>
 hb (aAlloc H6 [.str [], .int .i64 0, .int .i64 0]) fun v7 H8 =>
 sb (aStore H8 3 v7 v5) fun H9 =>
 vb (aLoad H9 true 3 v7) fun v10 =>
 vb (aBuild [.int .i64 0, .int .u8 0, .int .u8 0, .int .u8 0, .int .u8 0, .int .u8 0, .int .u8 0, .int .u8 0, .int .u8 0, .int .u8 0, .int .u8 0, .int .u8 0, .int .u8 0, .int .u8 0, .int .u8 0, .int .u8 0, .int .u8 0, .int .u8 0, .int .u8 0, .int .u8 0, .int .u8 0, .int .u8 0, .int .u8 0, .int .u8 0, .int .u8 0, .int .u8 0, .int .u8 0, .int .u8 0, .int .u8 0, .int .u8 0, .int .u8 0, .int .u8 0, .int .u8 0, .nils] (fun k => ([(0, 1), (1, 32), (33, 1)] : List (Nat × Nat))[k]?) [(0, .int .i64 3)]) fun v11 =>
 cb (S_jrnl_Begin [v1, v3, v10, v11] H9) fun v12 H13 =>
 vb (aExtract v12 0) fun v14 =>
 vb (aExtract v12 1) fun v15 =>
 JoinP (fun Kj16 => vb (aBin .neq v15 (.int .i64 0)) fun v17 =>
 isB v17 fun b18 => cond b18
 (Kj16 .ret [.bool false] H13)
 (vb (aEql false .ptr H13 v14 .nilp) fun v19 =>
 isB v19 fun b20 => cond b20
 (Kj16 .ret [.bool false] H13)
 (Kj16 .normal [.bool false] H13)))
 (fun e21 vs22 H23 =>
 onE e21 .normal
 (vb (aBuild (List.replicate 32 (.int .u8 0)) (fun k => some (k * 1, 1)) [(0, .int .u8 5)]) fun v24 =>
 cb (S_cellaretref01_Full [.str [97], .int .i64 64] H23) fun v25 H26 =>
 vb (aBuild [.int .i64 0, .str []] (fun k => ([(0, 1), (1, 1)] : List (Nat × Nat))[k]?) [(0, .int .i64 161), (1, v25)]) fun v27 =>
 hb (aBuildSlice H26 2 [.int .i64 0, .str []] 1 [(0, v27)]) fun v28 H29 =>
 vb (aBuild [.int .i64 0, .int .u8 0, .int .u8 0, .int .u8 0, .int .u8 0, .int .u8 0, .int .u8 0, .int .u8 0, .int .u8 0, .int .u8 0, .int .u8 0, .int .u8 0, .int .u8 0, .int .u8 0, .int .u8 0, .int .u8 0, .int .u8 0, .int .u8 0, .int .u8 0, .int .u8 0, .int .u8 0, .int .u8 0, .int .u8 0, .int .u8 0, .int .u8 0, .int .u8 0, .int .u8 0, .int .u8 0, .int .u8 0, .int .u8 0, .int .u8 0, .int .u8 0, .int .u8 0, .nils] (fun k => ([(0, 1), (1, 32), (33, 1)] : List (Nat × Nat))[k]?) [(0, .int .i64 4), (1, v24), (2, v28)]) fun v30 =>
 cb (S_jrnl_Journal_Append [v14, v30] H29) fun v31 H32 =>
 vb (aLoad H32 true 3 v7) fun v33 =>
 cb (S_jrnl_Journal_Used [v14] H32) fun v34 H35 =>
 cb (S_jrnl_Journal_Anchor [v14] H35) fun v36 H37 =>
 cb (S_jrnl_Load [v1, v3, v33, v34, v36] H37) fun v38 H39 =>
 vb (aExtract v38 0) fun v40 =>
 vb (aExtract v38 1) fun v41 =>
 vb (aExtract v38 2) fun v42 =>
 vb (aBin .eql v31 (.int .i64 0)) fun v43 =>
 isB v43 fun b44 => cond b44
 (vb (aBin .eql v42 (.int .i64 0)) fun v45 =>
 isB v45 fun b46 => cond b46
 (cb (S_jrnl_Journal_Used [v14] H39) fun v47 H48 =>
 vb (aBin .eql v47 (.int .i64 4)) fun v49 =>
 isB v49 fun b50 => cond b50
 (vb (lenSl v41) fun v51 =>
 vb (aBin .eql v51 (.int .i64 2)) fun v52 =>
 isB v52 fun b53 => cond b53
 (vb (aIndexAddr 34 v41 (.int .i64 1)) fun v54 =>
 vb (aFieldAddr 33 v54) fun v55 =>
 vb (aLoad H48 false 1 v55) fun v56 =>
 vb (aIndexAddr 2 v56 (.int .i64 0)) fun v57 =>
 vb (aFieldAddr 0 v57) fun v58 =>
 vb (aLoad H48 false 1 v58) fun v59 =>
 vb (aBin .eql v59 (.int .i64 161)) fun v60 =>
 isB v60 fun b61 => cond b61
 (cb (S_jrnl_Journal_Anchor [v40] H48) fun v62 H63 =>
 cb (S_jrnl_Journal_Anchor [v14] H63) fun v64 H65 =>
 vb (aEql false (.agg (List.replicate 32 .int)) H65 v62 v64) fun v66 =>
 isB v66 fun b67 => cond b67
 (cb (S_jrnl_Journal_Seq [v40] H65) fun v68 H69 =>
 vb (aBin .eql v68 (.int .i64 4)) fun v70 =>
 isB v70 fun b71 => cond b71
 (cb (S_jrnl_Journal_Root [v40] H69) fun v72 H73 =>
 cb (S_jrnl_Journal_Root [v14] H73) fun v74 H75 =>
 vb (aEql false (.agg (List.replicate 32 .int)) H75 v72 v74) fun v76 =>
 fin .ret [.v (v76)] H75 K)
 (fin .ret [.v (.bool false)] H69 K))
 (fin .ret [.v (.bool false)] H65 K))
 (fin .ret [.v (.bool false)] H48 K))
 (fin .ret [.v (.bool false)] H48 K))
 (fin .ret [.v (.bool false)] H48 K))
 (fin .ret [.v (.bool false)] H39 K))
 (fin .ret [.v (.bool false)] H39 K))
 (onE e21 .ret
 (fin .ret [.v (vs22.getD 0 .undef)] H23 K)
 (False)))

def S_cellaretlaw15_awake : Abs.Spec := fun args H r H' => args = [] ∧ (cellaretlaw15_awake.w H fun r1 H1 => r1 = r ∧ H1 = H') ∧ H <+: H'
theorem cellaretlaw15_awake.ok (args : List AVal) (H : AHeap) (r : AVal) (H' : AHeap) (h : S_cellaretlaw15_awake args H r H') : args = [] ∧ cellaretlaw15_awake.w H fun r1 H1 => r1 = r ∧ H1 = H' := by
  obtain ⟨h1, h2, _⟩ := h
  exact ⟨h1, h2⟩
theorem cellaretlaw15_awake.quiet {args : List AVal} {H : AHeap} {r : AVal} {H' : AHeap} (h : S_cellaretlaw15_awake args H r H') : H <+: H' := by
  obtain ⟨_, _, h⟩ := h
  exact h
set_option maxRecDepth 100000 in
theorem cellaretlaw15_awake.ex (H : AHeap) : Ex fun K : AVal × AHeap → Prop => cellaretlaw15_awake.w H fun r H => K (r, H) := by
  unfold cellaretlaw15_awake.w
  repeat with_reducible first
    | exact Ex.pt _
    | exact Ex.fin
    | exact Ex.no
    | refine Ex.vb fun _ => ?_
    | refine Ex.hb fun _ _ => ?_
    | refine Ex.sb fun _ => ?_
    | refine Ex.cb fun _ _ => ?_
    | refine Ex.isB fun _ => ?_
    | refine Ex.cond ?_ ?_
    | refine Ex.onE ?_ ?_
    | refine Ex.join ?_ fun _ _ _ => ?_
    | refine Ex.loop (fun _ _ => ?_) fun _ _ _ => ?_

theorem cellaretlaw15_awake.out {H : AHeap} {Q : AVal → AHeap → Prop} (h : cellaretlaw15_awake.w H fun r H' => (H <+: H') ∧ Q r H') : ∃ r H', S_cellaretlaw15_awake [] H r H' ∧ Q r H' := by
  obtain ⟨r, H', h1, h2⟩ := (cellaretlaw15_awake.ex H).out h
  exact ⟨r, H', ⟨rfl, h1, h2.1⟩, h2.2⟩

def cellaretlaw15_JrnlNone.w (x0 : AVal) (H : AHeap) (K : AVal → AHeap → Prop) : Prop :=
 hb (aBox H x0) fun v1 H2 =>
 JoinP (fun Kj3 => (((vb (aFieldAddr 0 v1) fun v4 =>
 vb (aLoad H2 true 34 v4) fun v5 =>
 vb (aFieldAddr 34 v1) fun v6 =>
 vb (aLoad H2 false 1 v6) fun v7 =>
 vb (aFieldAddr 35 v1) fun v8 =>
 vb (aLoad H2 false 1 v8) fun v9 =>
 vb (aFieldAddr 36 v1) fun v10 =>
 vb (aLoad H2 false 1 v10) fun v11 =>
 hb (aAlloc H2 [.int .i64 0, .int .u8 0, .int .u8 0, .int .u8 0, .int .u8 0, .int .u8 0, .int .u8 0, .int .u8 0, .int .u8 0, .int .u8 0, .int .u8 0, .int .u8 0, .int .u8 0, .int .u8 0, .int .u8 0, .int .u8 0, .int .u8 0, .int .u8 0, .int .u8 0, .int .u8 0, .int .u8 0, .int .u8 0, .int .u8 0, .int .u8 0, .int .u8 0, .int .u8 0, .int .u8 0, .int .u8 0, .int .u8 0, .int .u8 0, .int .u8 0, .int .u8 0, .int .u8 0, .nils]) fun v12 H13 =>
 sb (aStore H13 34 v12 v5) fun H14 =>
 Kj3 .normal [v12, v7, v9, v11] H14) ∧
 (vb (aFieldAddr 0 v1) fun v15 =>
 vb (aLoad H2 true 34 v15) fun v16 =>
 vb (aFieldAddr 34 v1) fun v17 =>
 vb (aLoad H2 false 1 v17) fun v18 =>
 vb (aFieldAddr 35 v1) fun v19 =>
 vb (aLoad H2 false 1 v19) fun v20 =>
 vb (aFieldAddr 36 v1) fun v21 =>
 hb (aAlloc H2 [.int .i64 0, .int .u8 0, .int .u8 0, .int .u8 0, .int .u8 0, .int .u8 0, .int .u8 0, .int .u8 0, .int .u8 0, .int .u8 0, .int .u8 0, .int .u8 0, .int .u8 0, .int .u8 0, .int .u8 0, .int .u8 0, .int .u8 0, .int .u8 0, .int .u8 0, .int .u8 0, .int .u8 0, .int .u8 0, .int .u8 0, .int .u8 0, .int .u8 0, .int .u8 0, .int .u8 0, .int .u8 0, .int .u8 0, .int .u8 0, .int .u8 0, .int .u8 0, .int .u8 0, .nils]) fun v22 H23 =>
 sb (aStore H23 34 v22 v16) fun H24 =>
 vb (aLoad H24 false 1 v21) fun v25 =>
 Kj3 .normal [v22, v18, v20, v25] H24)) ∧
 ((vb (aFieldAddr 0 v1) fun v26 =>
 vb (aLoad H2 true 34 v26) fun v27 =>
 vb (aFieldAddr 34 v1) fun v28 =>
 vb (aLoad H2 false 1 v28) fun v29 =>
 vb (aFieldAddr 35 v1) fun v30 =>
 vb (aFieldAddr 36 v1) fun v31 =>
 vb (aLoad H2 false 1 v31) fun v32 =>
 hb (aAlloc H2 [.int .i64 0, .int .u8 0, .int .u8 0, .int .u8 0, .int .u8 0, .int .u8 0, .int .u8 0, .int .u8 0, .int .u8 0, .int .u8 0, .int .u8 0, .int .u8 0, .int .u8 0, .int .u8 0, .int .u8 0, .int .u8 0, .int .u8 0, .int .u8 0, .int .u8 0, .int .u8 0, .int .u8 0, .int .u8 0, .int .u8 0, .int .u8 0, .int .u8 0, .int .u8 0, .int .u8 0, .int .u8 0, .int .u8 0, .int .u8 0, .int .u8 0, .int .u8 0, .int .u8 0, .nils]) fun v33 H34 =>
 sb (aStore H34 34 v33 v27) fun H35 =>
 vb (aLoad H35 false 1 v30) fun v36 =>
 Kj3 .normal [v33, v29, v36, v32] H35) ∧
 (vb (aFieldAddr 0 v1) fun v37 =>
 vb (aLoad H2 true 34 v37) fun v38 =>
 vb (aFieldAddr 34 v1) fun v39 =>
 vb (aLoad H2 false 1 v39) fun v40 =>
 vb (aFieldAddr 35 v1) fun v41 =>
 vb (aFieldAddr 36 v1) fun v42 =>
 hb (aAlloc H2 [.int .i64 0, .int .u8 0, .int .u8 0, .int .u8 0, .int .u8 0, .int .u8 0, .int .u8 0, .int .u8 0, .int .u8 0, .int .u8 0, .int .u8 0, .int .u8 0, .int .u8 0, .int .u8 0, .int .u8 0, .int .u8 0, .int .u8 0, .int .u8 0, .int .u8 0, .int .u8 0, .int .u8 0, .int .u8 0, .int .u8 0, .int .u8 0, .int .u8 0, .int .u8 0, .int .u8 0, .int .u8 0, .int .u8 0, .int .u8 0, .int .u8 0, .int .u8 0, .int .u8 0, .nils]) fun v43 H44 =>
 sb (aStore H44 34 v43 v38) fun H45 =>
 vb (aLoad H45 false 1 v42) fun v46 =>
 vb (aLoad H45 false 1 v41) fun v47 =>
 Kj3 .normal [v43, v40, v47, v46] H45))) ∧
 (((vb (aFieldAddr 0 v1) fun v48 =>
 vb (aLoad H2 true 34 v48) fun v49 =>
 vb (aFieldAddr 34 v1) fun v50 =>
 vb (aFieldAddr 35 v1) fun v51 =>
 vb (aLoad H2 false 1 v51) fun v52 =>
 vb (aFieldAddr 36 v1) fun v53 =>
 vb (aLoad H2 false 1 v53) fun v54 =>
 hb (aAlloc H2 [.int .i64 0, .int .u8 0, .int .u8 0, .int .u8 0, .int .u8 0, .int .u8 0, .int .u8 0, .int .u8 0, .int .u8 0, .int .u8 0, .int .u8 0, .int .u8 0, .int .u8 0, .int .u8 0, .int .u8 0, .int .u8 0, .int .u8 0, .int .u8 0, .int .u8 0, .int .u8 0, .int .u8 0, .int .u8 0, .int .u8 0, .int .u8 0, .int .u8 0, .int .u8 0, .int .u8 0, .int .u8 0, .int .u8 0, .int .u8 0, .int .u8 0, .int .u8 0, .int .u8 0, .nils]) fun v55 H56 =>
 sb (aStore H56 34 v55 v49) fun H57 =>
 vb (aLoad H57 false 1 v50) fun v58 =>
 Kj3 .normal [v55, v58, v52, v54] H57) ∧
 (vb (aFieldAddr 0 v1) fun v59 =>
 vb (aLoad H2 true 34 v59) fun v60 =>
 vb (aFieldAddr 34 v1) fun v61 =>
 vb (aFieldAddr 35 v1) fun v62 =>
 vb (aLoad H2 false 1 v62) fun v63 =>
 vb (aFieldAddr 36 v1) fun v64 =>
 hb (aAlloc H2 [.int .i64 0, .int .u8 0, .int .u8 0, .int .u8 0, .int .u8 0, .int .u8 0, .int .u8 0, .int .u8 0, .int .u8 0, .int .u8 0, .int .u8 0, .int .u8 0, .int .u8 0, .int .u8 0, .int .u8 0, .int .u8 0, .int .u8 0, .int .u8 0, .int .u8 0, .int .u8 0, .int .u8 0, .int .u8 0, .int .u8 0, .int .u8 0, .int .u8 0, .int .u8 0, .int .u8 0, .int .u8 0, .int .u8 0, .int .u8 0, .int .u8 0, .int .u8 0, .int .u8 0, .nils]) fun v65 H66 =>
 sb (aStore H66 34 v65 v60) fun H67 =>
 vb (aLoad H67 false 1 v64) fun v68 =>
 vb (aLoad H67 false 1 v61) fun v69 =>
 Kj3 .normal [v65, v69, v63, v68] H67)) ∧
 ((vb (aFieldAddr 0 v1) fun v70 =>
 vb (aLoad H2 true 34 v70) fun v71 =>
 vb (aFieldAddr 34 v1) fun v72 =>
 vb (aFieldAddr 35 v1) fun v73 =>
 vb (aFieldAddr 36 v1) fun v74 =>
 vb (aLoad H2 false 1 v74) fun v75 =>
 hb (aAlloc H2 [.int .i64 0, .int .u8 0, .int .u8 0, .int .u8 0, .int .u8 0, .int .u8 0, .int .u8 0, .int .u8 0, .int .u8 0, .int .u8 0, .int .u8 0, .int .u8 0, .int .u8 0, .int .u8 0, .int .u8 0, .int .u8 0, .int .u8 0, .int .u8 0, .int .u8 0, .int .u8 0, .int .u8 0, .int .u8 0, .int .u8 0, .int .u8 0, .int .u8 0, .int .u8 0, .int .u8 0, .int .u8 0, .int .u8 0, .int .u8 0, .int .u8 0, .int .u8 0, .int .u8 0, .nils]) fun v76 H77 =>
 sb (aStore H77 34 v76 v71) fun H78 =>
 vb (aLoad H78 false 1 v73) fun v79 =>
 vb (aLoad H78 false 1 v72) fun v80 =>
 Kj3 .normal [v76, v80, v79, v75] H78) ∧
 (vb (aFieldAddr 0 v1) fun v81 =>
 vb (aLoad H2 true 34 v81) fun v82 =>
 vb (aFieldAddr 34 v1) fun v83 =>
 vb (aFieldAddr 35 v1) fun v84 =>
 vb (aFieldAddr 36 v1) fun v85 =>
 hb (aAlloc H2 [.int .i64 0, .int .u8 0, .int .u8 0, .int .u8 0, .int .u8 0, .int .u8 0, .int .u8 0, .int .u8 0, .int .u8 0, .int .u8 0, .int .u8 0, .int .u8 0, .int .u8 0, .int .u8 0, .int .u8 0, .int .u8 0, .int .u8 0, .int .u8 0, .int .u8 0, .int .u8 0, .int .u8 0, .int .u8 0, .int .u8 0, .int .u8 0, .int .u8 0, .int .u8 0, .int .u8 0, .int .u8 0, .int .u8 0, .int .u8 0, .int .u8 0, .int .u8 0, .int .u8 0, .nils]) fun v86 H87 =>
 sb (aStore H87 34 v86 v82) fun H88 =>
 vb (aLoad H88 false 1 v85) fun v89 =>
 vb (aLoad H88 false 1 v84) fun v90 =>
 vb (aLoad H88 false 1 v83) fun v91 =>
 Kj3 .normal [v86, v91, v90, v89] H88))))
 (fun e92 vs93 H94 =>
 onE e92 .normal
 (vb (aLoad H94 true 34 (vs93.getD 0 .undef)) fun v95 =>
 hb (aBuildSlice H94 34 [.int .i64 0, .int .u8 0, .int .u8 0, .int .u8 0, .int .u8 0, .int .u8 0, .int .u8 0, .int .u8 0, .int .u8 0, .int .u8 0, .int .u8 0, .int .u8 0, .int .u8 0, .int .u8 0, .int .u8 0, .int .u8 0, .int .u8 0, .int .u8 0, .int .u8 0, .int .u8 0, .int .u8 0, .int .u8 0, .int .u8 0, .int .u8 0, .int .u8 0, .int .u8 0, .int .u8 0, .int .u8 0, .int .u8 0, .int .u8 0, .int .u8 0, .int .u8 0, .int .u8 0, .nils] 1 [(0, v95)]) fun v96 H97 =>
 cb (S_cellaretlaw15_light [v96] H97) fun v98 H99 =>
 vb (aUn .not v98) fun v100 =>
 isB v100 fun b101 => cond b101
 (cb (S_cellaretlaw15_awake [] H99) fun v102 H103 =>
 fin .ret [.v (v102)] H103 K)
 (cb (S_cellaretref01_Full [.str [115], .int .i64 64] H99) fun v104 H105 =>
 vb (aBuild [.str [], .int .i64 0, .int .i64 0] (fun k => ([(0, 1), (1, 1), (2, 1)] : List (Nat × Nat))[k]?) [(0, v104), (1, vs93.getD 1 .undef), (2, vs93.getD 2 .undef)]) fun v106 =>
 hb (aAlloc H105 [.str [], .int .i64 0, .int .i64 0]) fun v107 H108 =>
 sb (aStore H108 3 v107 v106) fun H109 =>
 vb (aLoad H109 true 3 v107) fun v110 =>
 vb (aLoad H109 true 34 (vs93.getD 0 .undef)) fun v111 =>
 cb (S_jrnl_Begin [.nilp, .nilp, v110, v111] H109) fun v112 H113 =>
 vb (aExtract v112 0) fun v114 =>
 vb (aExtract v112 1) fun v115 =>
 vb (aLoad H113 true 3 v107) fun v116 =>
 vb (aBuild (List.replicate 32 (.int .u8 0)) (fun k => some (k * 1, 1)) []) fun v117 =>
 cb (S_jrnl_Load [.nilp, .nilp, v116, .int .i64 1, v117] H113) fun v118 H119 =>
 vb (aExtract v118 0) fun v120 =>
 vb (aExtract v118 1) fun v121 =>
 vb (aExtract v118 2) fun v122 =>
 cb (S_rig_New [] H119) fun v123 H124 =>
 vb (aLoad H124 true 3 v107) fun v125 =>
 cb (S_cellaretref01_Zeros [.int .i64 64] H124) fun v126 H127 =>
 vb (aBuild [.int .i64 0, .str []] (fun k => ([(0, 1), (1, 1)] : List (Nat × Nat))[k]?) [(0, .int .i64 200), (1, v126)]) fun v128 =>
 hb (aBuildSlice H127 2 [.int .i64 0, .str []] 1 [(0, v128)]) fun v129 H130 =>
 vb (aBuild [.int .i64 0, .int .u8 0, .int .u8 0, .int .u8 0, .int .u8 0, .int .u8 0, .int .u8 0, .int .u8 0, .int .u8 0, .int .u8 0, .int .u8 0, .int .u8 0, .int .u8 0, .int .u8 0, .int .u8 0, .int .u8 0, .int .u8 0, .int .u8 0, .int .u8 0, .int .u8 0, .int .u8 0, .int .u8 0, .int .u8 0, .int .u8 0, .int .u8 0, .int .u8 0, .int .u8 0, .int .u8 0, .int .u8 0, .int .u8 0, .int .u8 0, .int .u8 0, .int .u8 0, .nils] (fun k => ([(0, 1), (1, 32), (33, 1)] : List (Nat × Nat))[k]?) [(2, v129)]) fun v131 =>
 cb (S_jrnl_Begin [v123, .nilp, v125, v131] H130) fun v132 H133 =>
 vb (aExtract v132 0) fun v134 =>
 vb (aExtract v132 1) fun v135 =>
 JoinP (fun Kj136 => vb (aBin .eql (vs93.getD 1 .undef) (.int .i64 0)) fun v137 =>
 isB v137 fun b138 => cond b138
 (vb (aBin .eql (vs93.getD 2 .undef) (.int .i64 0)) fun v139 =>
 isB v139 fun b140 => cond b140
 (Kj136 .normal [.bool true] H133)
 (vb (aBin .eql (vs93.getD 2 .undef) (.int .i64 1)) fun v141 =>
 Kj136 .normal [v141] H133))
 (vb (aBin .eql (vs93.getD 1 .undef) (.int .i64 1)) fun v142 =>
 isB v142 fun b143 => cond b143
 (vb (aBin .eql (vs93.getD 2 .undef) (.int .i64 0)) fun v144 =>
 isB v144 fun b145 => cond b145
 (Kj136 .normal [.bool true] H133)
 (vb (aBin .eql (vs93.getD 2 .undef) (.int .i64 1)) fun v146 =>
 Kj136 .normal [v146] H133))
 (Kj136 .normal [.bool false] H133)))
 (fun e147 vs148 H149 =>
 onE e147 .normal
 (cb (S_cellaretlaw15_awake [] H149) fun v150 H151 =>
 isB v150 fun b152 => cond b152
 (vb (aLoad H151 true 34 (vs93.getD 0 .undef)) fun v153 =>
 cb (S_jrnl_Journal_Append [.nilp, v153] H151) fun v154 H155 =>
 vb (aBin .eql v154 (.int .i64 1)) fun v156 =>
 isB v156 fun b157 => cond b157
 (cb (S_jrnl_Journal_Room [.nilp, vs93.getD 3 .undef] H155) fun v158 H159 =>
 vb (aUn .not v158) fun v160 =>
 isB v160 fun b161 => cond b161
 (cb (S_jrnl_Journal_Used [.nilp] H159) fun v162 H163 =>
 cb (S_jrnl_Journal_Area [.nilp] H163) fun v164 H165 =>
 vb (aBin .add v162 v164) fun v166 =>
 cb (S_jrnl_Journal_Seq [.nilp] H165) fun v167 H168 =>
 vb (aBin .add v166 v167) fun v169 =>
 vb (aBin .eql v169 (.int .i64 0)) fun v170 =>
 isB v170 fun b171 => cond b171
 (cb (S_jrnl_Journal_Anchor [.nilp] H168) fun v172 H173 =>
 vb (aBuild (List.replicate 32 (.int .u8 0)) (fun k => some (k * 1, 1)) []) fun v174 =>
 vb (aEql false (.agg (List.replicate 32 .int)) H173 v172 v174) fun v175 =>
 isB v175 fun b176 => cond b176
 (cb (S_jrnl_Journal_Root [.nilp] H173) fun v177 H178 =>
 vb (aBuild (List.replicate 32 (.int .u8 0)) (fun k => some (k * 1, 1)) []) fun v179 =>
 vb (aEql false (.agg (List.replicate 32 .int)) H178 v177 v179) fun v180 =>
 isB v180 fun b181 => cond b181
 (vb (aBin .eql v115 (.int .i64 1)) fun v182 =>
 isB v182 fun b183 => cond b183
 (vb (aBin .eql v122 (.int .i64 1)) fun v184 =>
 isB v184 fun b185 => cond b185
 (vb (aEql false .ptr H178 v134 .nilp) fun v186 =>
 isB v186 fun b187 => cond b187
 (vb (aBin .eql v135 (.int .i64 2)) fun v188 =>
 isB v188 fun b189 => cond b189
 (isB (vs148.getD 0 .undef) fun b190 => cond b190
 (fin .ret [.v (.bool true)] H178 K)
 (vb (aBin .eql v135 (.int .i64 2)) fun v191 =>
 fin .ret [.v (v191)] H178 K))
 (fin .ret [.v (.bool false)] H178 K))
 (fin .ret [.v (.bool false)] H178 K))
 (fin .ret [.v (.bool false)] H178 K))
 (fin .ret [.v (.bool false)] H178 K))
 (fin .ret [.v (.bool false)] H178 K))
 (fin .ret [.v (.bool false)] H173 K))
 (fin .ret [.v (.bool false)] H168 K))
 (fin .ret [.v (.bool false)] H159 K))
 (fin .ret [.v (.bool false)] H155 K))
 (fin .ret [.v (.bool false)] H151 K))
 (False))))
 (False))

end Go.Sh

/- The laws' small functions. -/
namespace Go.Sh
open Go Go.Abs

/-- Rows of records that came in. -/
def RowsW (H : AHeap) (x : AVal) (l : List RC) : Prop := Vw H x 34 l.length (flat rc l) ∧ ∀ r ∈ l, RecW H r.1.1 r.1.2
theorem rem8 {a : Int} (h0 : 0 ≤ a) : aBin .rem (.int .u8 a) (.int .u8 2) = some (.int .u8 (a % 2)) := by
  show (if (2 : Int) = 0 then none else some (AVal.int .u8 (a.tmod 2))) = _
  rw [if_neg (by decide), Int.tmod_eq_emod_of_nonneg h0]
def superT : List UInt8 := full [115, 117, 112, 101, 114] 64
theorem super_len : superT.length = 64 := full_len (by decide)
section
variable {H0 B : AHeap} {own : Nat → Prop} {R : List Part} {p : Nat} {rp op x : AVal} {j : JV} {L : RL} {v : RV} {n : Int} {q : Rcd} {i m : Nat} {lv : AVal} {T : List (List UInt8)} {s : List UInt8} {d a : Int}
theorem where_spec {D A : Int} (hD : 0 ≤ D) (hA : 0 ≤ A) : ∃ C, S_cellaretlaw15_where [.int .u8 D, .int .u8 A] B (.agg [.str superT, .int .i64 (D % 2), .int .i64 (A % 2)]) C ∧ B <+: C := by
  obtain ⟨r, C, h, rfl, k⟩ := cellaretlaw15_where.out (x0 := .int .u8 D) (x1 := .int .u8 A) (H := B) (Q := fun r C => r = .agg [.str superT, .int .i64 (D % 2), .int .i64 (A % 2)] ∧ B <+: C) (by
    unfold cellaretlaw15_where.w
    have hs : Sep B (fun _ => False) B [] := Sep.start B
    refine s_alloc hs fun b C1 _ hs => ?_
    refine cb_i _ _ ⟨_, 64, rfl, by decide, rfl, rfl⟩ ?_
    refine vb_i (rem8 hD) ?_
    refine vb_i (int_of_int _ (by omega) (by omega)) ?_
    refine vb_i (rem8 hA) ?_
    refine vb_i (int_of_int _ (by omega) (by omega)) ?_
    refine vb_bld (cs := [.str superT, .int .i64 (D % 2), .int .i64 (A % 2)]) rfl ?_
    refine s_storeA hs rfl rfl rfl rfl fun C2 hs => ?_
    exact fin_ret (rvs_c (e_loadAll hs.g0 rfl) (rvs_nil _)) ⟨hs.pre fun _ x => x, rfl, hs.pre fun _ x => x⟩)
  exact ⟨C, h, k⟩
theorem light_spec15 {l : List RC} (hx : RowsW B x l) (hlen : l.length ≤ 9223372036854775807) (hpl : ∀ r ∈ l, r.1.1.puts.length ≤ 9223372036854775807) :
    ∃ b : Bool, S_cellaretlaw15_light [x] B (.bool b) B ∧ (b = true → ∀ k, k < 20 → ∀ r, l[k]? = some r → r.1.1.puts.length ≤ 100) := by
  obtain ⟨r, C, h, b, rfl, rfl, k⟩ := cellaretlaw15_light.out (x0 := x) (H := B) (Q := fun r C => ∃ b : Bool, r = .bool b ∧ B = C ∧ (b = true → ∀ k, k < 20 → ∀ r, l[k]? = some r → r.1.1.puts.length ≤ 100)) (by
    unfold cellaretlaw15_light.w
    refine LoopP.ruleG (α := Nat) (fun j => [.int .i64 (j : Int)]) (fun j D => (j ≤ l.length ∧ ∀ k, k < j → ∀ r, l[k]? = some r → r.1.1.puts.length ≤ 100) ∧ B = D) (fun j => l.length - j) 0 (by simp) ⟨⟨Nat.zero_le _, fun k hk => by omega⟩, rfl⟩ ?_
    rintro j D Kn ⟨⟨hj, hg⟩, rfl⟩ hk
    unfold cellaretlaw15_light.L2 cellaretlaw15_light.L2.b
    try simp only [evB]
    refine JoinP.mk (fun e vs D => B = D ∧ ((e = .normal ∧ j < l.length ∧ j < 20) ∨ (e = .exit 0 ∧ ¬ (j < l.length ∧ j < 20)))) ?_ ?_
    · refine vb_lenW hx.1 ?_
      refine vb_i (lss64 _ _ _) ?_
      refine isB_c (fun h1 => ?_) (fun h1 => ?_)
      · refine vb_i (lss64 _ _ _) ?_
        refine isB_c (fun h2 => ⟨rfl, .inl ⟨rfl, by omega, by omega⟩⟩) (fun h2 => ⟨rfl, .inr ⟨rfl, by omega⟩⟩)
      · exact ⟨rfl, .inr ⟨rfl, by omega⟩⟩
    rintro e vs D ⟨rfl, ⟨rfl, h1, h2⟩ | ⟨rfl, h1⟩⟩
    · refine onE_s (by decide) ?_
      refine onE_i ?_
      have hb := List.getElem?_eq_getElem h1
      have hm := List.getElem_mem h1
      have hr := hx.2 _ hm
      have hrl := hpl _ hm
      generalize l[j] = r at hb hr hrl
      have hv := hx.1.at h1
      refine vb_addrN hv h1 ?_
      refine vb_i (e_fieldAddr _ _) ?_
      refine vb_el1 (f := rc) (l := l) hv rc_len hb (rc33 r) ?_
      refine vb_lenW hr.2 ?_
      refine vb_i (gtr64 _ _ _) ?_
      refine isB_c (fun h3 => ?_) (fun h3 => ?_)
      · repeat first
        | with_reducible refine onE_i ?_
        | ((with_reducible refine onE_s ?_ ?_); (· decide))
        try simp only [evB]
        exact fin_ret (rvs_v (rvs_nil _)) ⟨List.prefix_refl _, false, rfl, rfl, by simp⟩
      refine LoopP.ruleG (α := Nat) (fun t => [.int .i64 (t : Int)]) (fun t D => t ≤ r.1.1.puts.length ∧ B = D) (fun t => r.1.1.puts.length - t) 0 (by simp) ⟨Nat.zero_le _, rfl⟩ ?_
      rintro t D Kn2 ⟨ht, rfl⟩ hk2
      unfold cellaretlaw15_light.L7 cellaretlaw15_light.L7.b
      try simp only [evB]
      refine vb_addrN hv h1 ?_
      refine vb_i (e_fieldAddr _ _) ?_
      refine vb_el1 (f := rc) (l := l) hv rc_len hb (rc33 r) ?_
      refine vb_lenW hr.2 ?_
      refine vb_i (lss64 _ _ _) ?_
      refine isB_c (fun h4 => ?_) (fun h4 => ?_)
      · have h4' : t < r.1.1.puts.length := by omega
        have hp := List.getElem?_eq_getElem h4'
        generalize r.1.1.puts[t] = pt at hp
        refine vb_addrN hv h1 ?_
        refine vb_i (e_fieldAddr _ _) ?_
        refine vb_el1 (f := rc) (l := l) hv rc_len hb (rc33 r) ?_
        refine vb_addrN (hr.2.at h4') h4' ?_
        refine vb_i (e_fieldAddr _ _) ?_
        refine vb_el1 (f := ptc) (hr.2.at h4') ptc_len hp (o := 1) (x := .str pt.b) rfl ?_
        refine vb_i (e_lenSt _) ?_
        refine vb_i (gtr64 _ _ _) ?_
        refine isB_c (fun h5 => ?_) (fun h5 => ?_)
        · repeat first
          | with_reducible refine onE_i ?_
          | ((with_reducible refine onE_s ?_ ?_); (· decide))
          try simp only [evB]
          skip
          exact fin_ret (rvs_v (rvs_nil _)) ⟨List.prefix_refl _, false, rfl, rfl, by simp⟩
        · refine vb_i (add64 (by omega) (by omega)) ?_
          exact hk2 (t + 1) _ ⟨h4', rfl⟩ (by omega)
      · refine onE_i ?_
        refine vb_i (add64 (by omega) (by omega)) ?_
        refine hk (j + 1) _ ⟨⟨h1, fun k hk' r' hr' => ?_⟩, rfl⟩ (by omega)
        rcases Nat.lt_or_eq_of_le (Nat.le_of_lt_succ hk') with h | rfl
        · exact hg k h r' hr'
        · rw [hb] at hr'; cases hr'; omega
    · repeat first
      | with_reducible refine onE_i ?_
      refine fin_ret (rvs_v (rvs_nil _)) ⟨List.prefix_refl _, true, rfl, rfl, fun _ k hk' r hr => hg k ?_ r hr⟩
      have := (List.getElem?_eq_some_iff.1 hr).1
      omega)
  exact ⟨b, h, k⟩
theorem load_back {qs : List Rcd} {J : JV} (hg : ∀ q ∈ qs, GoodQ q) (h0 : (qs.getD 0 zR).puts = []) (hl : loadFrom (j0 s d a (sum (startT d a s))) false qs = some J) (A : List UInt8) :
    loadR s d a (blocksQ qs) A = if J.anchor = A then some (J, qs) else none := by
  unfold loadR
  rw [allR_back hg, if_neg (by simp only; rw [h0]; simp)]
  simp only
  rw [hl]; rfl
end
end Go.Sh

/- What must come at any rate. -/
namespace Go.Sh
open Go Go.Abs

section
variable {H0 B : AHeap} {own : Nat → Prop} {R : List Part} {p : Nat} {rp op x : AVal} {j : JV} {L : RL} {v : RV} {n : Int} {q : Rcd} {i m : Nat} {lv : AVal} {T : List (List UInt8)} {s : List UInt8} {d a : Int}
def qa0 : Rcd := ⟨3, zs 32, []⟩
def qa1 : Rcd := ⟨4, 5 :: zs 31, [⟨161, full [97] 64⟩]⟩
theorem qa0_good : GoodQ qa0 := ⟨zs32_len, by decide, by decide⟩
theorem qa1_good : GoodQ qa1 := ⟨by decide, by decide, by decide⟩
theorem qa0_len : (layR qa0).length = 1 := by rw [lay_len]; rfl
theorem qa1_len : (layR qa1).length = 3 := by rw [lay_len]; rfl
set_option maxRecDepth 20000 in
theorem awake15 : ∃ C, S_cellaretlaw15_awake [] B (.bool true) C ∧ B <+: C := by
  obtain ⟨r, C, h, rfl, k⟩ := cellaretlaw15_awake.out (H := B) (Q := fun r C => r = .bool true ∧ B <+: C) (by
    unfold cellaretlaw15_awake.w
    obtain ⟨C1, L, hc, hs⟩ := rig_New_spec (B := B)
    refine cb_i _ _ hc ?_
    refine cb_i _ _ ⟨rfl, rfl, rfl⟩ ?_
    have hs := orc_new hs
    generalize newO C1 = C2 at hs
    generalize C1.length + 1 = i at *
    generalize C1.length = m at *
    obtain ⟨C3, hc, e⟩ := where_spec (B := C2) (D := 1) (A := 0) (by decide) (by decide)
    refine cb_i _ _ hc ?_
    have hs := hs.quiet e
    refine s_alloc hs fun b C4 _ hs => ?_
    refine s_storeA hs rfl rfl rfl rfl fun C5 hs => ?_
    refine vb_ldA hs.g0 rfl ?_
    refine vb_bld (cs := rcells qa0 .nils) rfl ?_
    have hs := rp_in (X := [_, _]) (hs.f1 : Sep B (fun _ => False) C5 ([_, _] ++ rparts L rig0 []))
    obtain ⟨r, C6, v1, lv1, T1, hc, c1, t1, _, _, b1, _⟩ := begin_spec (q := qa0) hs calm_rig0 (by decide) (by decide) super_len (.inr rfl) (.inl rfl) zs32_len rfl
    obtain ⟨f1, hh1, s1, s2, p, rfl, hs⟩ := b1 (by decide) rfl
    refine cb_i _ _ hc ?_
    have J0 : JOk (j0 superT 1 0 (sum (startT 1 0 superT))) := j0_ok (.inr rfl) (.inl rfl) (sum_len _)
    have J1 := J0.add (q := qa0) (l := layR qa0) zs32_len (by decide) (by rw [qa0_len]; decide)
    obtain ⟨j1, hj1⟩ : ∃ j1, j1 = (j0 superT 1 0 (sum (startT 1 0 superT))).add qa0 (layR qa0) := ⟨_, rfl⟩
    have hj1s : j1.seq = 3 := by rw [hj1]; rfl
    have hj1u : j1.used = 1 := by rw [hj1]; unfold JV.add; dsimp only; rw [qa0_len]; rfl
    have hj1d : j1.d = 1 := by rw [hj1]; rfl
    have hj1a : j1.a = 0 := by rw [hj1]; rfl
    have hl1 : loadFrom (j0 superT 1 0 (sum (startT 1 0 superT))) false [qa0] = some j1 := by rw [hj1]; rfl
    rw [← hj1] at hs J1
    refine vb_i e_ext0 ?_
    refine vb_i e_ext1 ?_
    refine JoinP.mk (fun e vs D => e = .normal ∧ C6 = D) ?_ ?_
    · repeat first
      | with_reducible refine isB_F ?_
      | ((with_reducible refine isB_cf ?_ ?_); (· omega))
      | with_reducible refine vb_i (neq64 _ _ _) ?_
      | with_reducible refine vb_i (e_ptrNil _ _) ?_
      exact ⟨rfl, rfl⟩
    rintro e vs D ⟨rfl, rfl⟩
    refine onE_i ?_
    refine vb_bld (cs := (5 :: zs 31).map ofByte) rfl ?_
    refine cb_i _ _ ⟨_, 64, rfl, by decide, rfl, rfl⟩ ?_
    refine vb_bld (cs := ptc ⟨161, full [97] 64⟩) rfl ?_
    refine s_row (es := 2) (n := 1) (z := [.int .i64 0, .str []]) (cs := flat ptc qa1.puts) hs rfl fun y C7 _ hs => ?_
    refine vb_bld (cs := rcells qa1 (.slice ⟨y, 0, 0⟩ 1 (.ex 1))) rfl ?_
    have hy : View C7 (.slice ⟨y, 0, 0⟩ 1 (.ex 1)) 2 1 (flat ptc qa1.puts) := ⟨rfl, .inr ⟨y, 0, 0, _, .exact, _, rfl, hs.g0, fun _ => by decide, rfl, Nat.le_refl _⟩⟩
    have hs := rp_in (X := [_, _, _]) (rp_out (X := [_, _, _]) (rp_in (X := [_]) hs)).b2
    have hce : checkE qa1 = 0 := by decide
    have ha : appE j1 qa1 = 0 := by
      unfold appE
      rw [hce, hj1s, if_neg (by decide), if_neg (by decide), if_neg]
      rw [Classical.not_not]
      unfold roomP
      rw [hj1u]; decide
    obtain ⟨e, C8, v2, j2, lv2, T2, hc, hs, c2, _, b2⟩ := append_spec (q := qa1) (px := .slice ⟨y, 0, 0⟩ 1 (.ex 1)) hs c1 (by decide) J1 (by have : (([] : List (List UInt8))).length = 0 := rfl; omega) ⟨by decide, .inl hy⟩ (by decide)
    obtain ⟨rfl, f2, rfl, rfl, hh2⟩ := (b2 ha).1 f1
    have J2 := J1.add (q := qa1) (l := layR qa1) (by decide) (by decide) (by rw [hj1u, qa1_len]; decide)
    have hl2 := load_app (q := qa1) hl1 (fun _ => by rw [hj1s]; rfl)
    have hh2 := hh2 (layR qa0) (by rw [hj1u, qa0_len]; rfl) (by rw [hj1d, hj1a]; exact hh1)
    rw [hj1d, hj1a] at hh2
    have hj2u : (j1.add qa1 (layR qa1)).used = 4 := by unfold JV.add; dsimp only; rw [hj1u, qa1_len]; rfl
    have hj2s : (j1.add qa1 (layR qa1)).seq = 4 := rfl
    generalize j1.add qa1 (layR qa1) = j2 at *
    refine cb_i _ _ hc ?_
    refine vb_ldA hs.g6 rfl ?_
    refine cb_i _ _ (used_spec hs.g3) ?_
    obtain ⟨C9, hc, e⟩ := anchor_spec hs.g3 J2
    refine cb_i _ _ hc ?_
    have hs := hs.quiet e
    rw [hj2u]
    have hbl : (layR qa0 ++ layR qa1).length = 4 := by rw [List.length_append, qa0_len, qa1_len]
    have hrd : rdL v2 1 0 4 = blocksQ [qa0, qa1] := by
      have := rdL_has hh2
      rw [hbl] at this
      rw [this]; simp [blocksQ]
    have hlb := load_back (qs := [qa0, qa1]) (J := j2) (fun q hq => by
      simp only [List.mem_cons, List.not_mem_nil, or_false] at hq
      rcases hq with rfl | rfl
      · exact qa0_good
      · exact qa1_good) rfl hl2 j2.anchor
    rw [if_pos rfl] at hlb
    obtain ⟨r, C10, v3, lv3, T3, hc, c3, _, _, _, _, b3⟩ := load_spec (L := L) (s := superT) (d := 1) (a := 0) (rp_in (X := [_, _]) (rp_out (X := [_, _]) hs).f1) c2 (by decide) (by
      have : (keepT T1 (nextT j1.anchor (layR qa1))).length ≤ T1.length + 1 := (keepT_len _ _).2
      have h0 : (([] : List (List UInt8))).length = 0 := rfl
      omega) super_len (.inr rfl) (.inl rfl) 4 J2.anchor (.inl f2)
    obtain ⟨_, _, _, b3⟩ := b3 (by decide) (by decide) f2
    rw [show (4 : Int).toNat = 4 from rfl, hrd] at b3
    obtain ⟨_, _, J3, p3, out, rows, rfl, hm, hs⟩ := b3 _ _ hlb
    refine cb_i _ _ hc ?_
    have hrl : rows.length = 2 := by have := congrArg List.length hm; simpa using this
    have hb1 := List.getElem?_eq_getElem (l := rows) (i := 1) (by omega)
    have hq1 : rows[1].1.1 = qa1 := by
      have := congrArg (fun l => l[1]?) hm
      simp only [List.getElem?_map, hb1] at this
      simpa using this
    generalize rows[1] = r1 at hb1 hq1
    have hs := rp_out (X := [_, _, _, _, _]) hs
    have hpv := recs_view hs.tail.tail.head hb1
    rw [hq1] at hpv
    refine vb_i e_ext0 ?_
    refine vb_i e_ext1 ?_
    refine vb_i e_ext2 ?_
    refine vb_i (eql64 _ _ _) ?_
    refine isB_ct rfl ?_
    refine vb_i (eql64 _ _ _) ?_
    refine isB_ct rfl ?_
    refine cb_i _ _ (used_spec hs.g4) ?_
    refine vb_i (eql64 _ _ _) ?_
    refine isB_ct hj2u ?_
    refine vb_len hs.o1.view ?_
    refine vb_i (eql64 _ _ _) ?_
    refine isB_ct (by omega) ?_
    refine vb_addr (kd := .i64) (j := 1) hs.o1.view (by omega) (by omega) ?_
    refine vb_i (e_fieldAddr _ _) ?_
    refine vb_el1 (f := rc) (l := rows) (j := 1) hs.o1.view rc_len hb1 (rc33 r1) ?_
    refine vb_addr (kd := .i64) (j := 0) hpv (by omega) (by decide) ?_
    refine vb_i (e_fieldAddr _ _) ?_
    refine vb_el1 (f := ptc) (l := qa1.puts) (j := 0) hpv ptc_len (b := ⟨161, full [97] 64⟩) rfl (o := 0) (x := .int .i64 161) rfl ?_
    refine vb_i (eql64 _ _ _) ?_
    refine isB_ct rfl ?_
    obtain ⟨D1, hc, e⟩ := anchor_spec hs.g0 J3
    refine cb_i _ _ hc ?_
    have hs := hs.quiet e
    obtain ⟨D2, hc, e⟩ := anchor_spec hs.g4 J2
    refine cb_i _ _ hc ?_
    have hs := hs.quiet e
    refine vb_i (e_eqBytes J3.anchor J2.anchor) ?_
    refine isB_ct rfl ?_
    refine cb_i _ _ (seq_spec15 hs.g0) ?_
    refine vb_i (eql64 _ _ _) ?_
    refine isB_ct hj2s ?_
    obtain ⟨D3, hc, e⟩ := root_spec15 hs.g0 J3
    refine cb_i _ _ hc ?_
    have hs := hs.quiet e
    obtain ⟨D4, hc, e⟩ := root_spec15 hs.g4 J2
    refine cb_i _ _ hc ?_
    have hs := hs.quiet e
    refine vb_i (e_eqBytes J3.root J2.root) ?_
    rw [decide_eq_true rfl]
    exact fin_ret (rvs_v (rvs_nil _)) ⟨hs.pre fun _ x => x, rfl, hs.pre fun _ x => x⟩)
  exact ⟨C, h, k⟩
end
end Go.Sh

/- A journal with records, of which those that may be are appended. -/
namespace Go.Sh
open Go Go.Abs

abbrev bare (q : Rcd) : Rcd := { q with puts := [] }
section
variable {H0 B : AHeap} {R : List Part} {p : Nat} {rp op x bx : AVal} {j : JV} {L : RL} {v : RV} {n : Int} {q : Rcd} {i m : Nat} {lv : AVal} {T : List (List UInt8)} {s : List UInt8} {d a : Int} {l : List RC}
end
end Go.Sh

/- What was appended is loaded. -/
namespace Go.Sh
open Go Go.Abs

section
variable {H0 B : AHeap} {R : List Part} {p b : Nat} {rp op x bx : AVal} {J : JV} {L : RL} {v : RV} {n : Int} {q : Rcd} {i m : Nat} {lv : AVal} {T : List (List UInt8)} {s : List UInt8} {d a D A : Int} {rows : List RC}
end
end Go.Sh

/- What was changed is told. -/
namespace Go.Sh
open Go Go.Abs

end Go.Sh

/- What a rig does not do is told. -/
namespace Go.Sh
open Go Go.Abs

end Go.Sh

/- What any records are appended as. -/
namespace Go.Sh
open Go Go.Abs

end Go.Sh

/- A nil journal does nothing. -/
namespace Go.Sh
open Go Go.Abs

def fcells (q : Rcd) (px : AVal) (d a n : Int) : List AVal := rcells q px ++ [.int .i64 d, .int .i64 a, .int .i64 n]
section
variable {H0 B : AHeap} {b : Nat} {px : AVal} {q : Rcd} {d a n : Int} {s : List UInt8} {K : AVal → Prop}
theorem fc_len (hr : q.root.length = 32) : (fcells q px d a n).length = 37 := by unfold fcells; rw [List.length_append, rcells_len hr]; rfl
theorem fc_rec (h : B[b]? = some (.cells 0 .exact (fcells q px d a n))) (hr : q.root.length = 32) (k : K (recV q px)) : vb (aLoad B true 34 (.ptr ⟨b, 0, 0⟩)) K :=
  vb_ldP h (by rw [fc_len hr]; rfl) (by unfold fcells; rw [List.drop_zero, List.take_left' (rcells_len hr)]) k
theorem fc_at (hr : q.root.length = 32) (j : Nat) : (fcells q px d a n)[34 + j]? = ([.int .i64 d, .int .i64 a, .int .i64 n] : List AVal)[j]? := by
  unfold fcells
  rw [List.getElem?_append_right (by rw [rcells_len hr]; omega), rcells_len hr, Nat.add_sub_cancel_left]
theorem fc_d (h : B[b]? = some (.cells 0 .exact (fcells q px d a n))) (hr : q.root.length = 32) (k : K (.int .i64 d)) : vb (aLoad B false 1 (.ptr ⟨b, 0, 34⟩)) K := vb_ld h (fc_at hr 0) k
theorem fc_a (h : B[b]? = some (.cells 0 .exact (fcells q px d a n))) (hr : q.root.length = 32) (k : K (.int .i64 a)) : vb (aLoad B false 1 (.ptr ⟨b, 0, 35⟩)) K := vb_ld h (fc_at hr 1) k
theorem fc_n (h : B[b]? = some (.cells 0 .exact (fcells q px d a n))) (hr : q.root.length = 32) (k : K (.int .i64 n)) : vb (aLoad B false 1 (.ptr ⟨b, 0, 36⟩)) K := vb_ld h (fc_at hr 2) k
theorem begin_nil (x1 x2 x3 : AVal) (h2 : x2.defd = true) (h3 : x3.defd = true) : ∃ C, S_jrnl_Begin [.nilp, x1, x2, x3] B (.tup [.nilp, .int .i64 1]) C ∧ B <+: C := by
  obtain ⟨r, C, h, rfl, k⟩ := jrnl_Begin.out (x0 := .nilp) (x1 := x1) (x2 := x2) (x3 := x3) (H := B) (Q := fun r C => r = .tup [.nilp, .int .i64 1] ∧ B <+: C) (by
    unfold jrnl_Begin.w
    have hs : Sep B (fun _ => False) B [] := Sep.start B
    refine s_box hs h2 fun b1 C1 _ hs => ?_
    refine s_box hs h3 fun b2 C2 _ hs => ?_
    refine vb_i (e_nilNil _) ?_
    refine isB_T ?_
    exact fin_ret (rvs_v (rvs_v (rvs_nil _))) ⟨rfl, hs.pre fun _ x => x⟩)
  exact ⟨C, h, k⟩
theorem load_nil (s : List UInt8) (d a : Int) : ∃ C, S_jrnl_Load [.nilp, .nilp, .agg [.str s, .int .i64 d, .int .i64 a], .int .i64 1, .agg ((zs 32).map ofByte)] B (bad15 1) C ∧ B <+: C := by
  obtain ⟨r, C, h, rfl, k⟩ := jrnl_Load.out (x0 := .nilp) (x1 := .nilp) (x2 := .agg [.str s, .int .i64 d, .int .i64 a]) (x3 := .int .i64 1) (x4 := .agg ((zs 32).map ofByte)) (H := B) (Q := fun r C => r = bad15 1 ∧ B <+: C) (by
    unfold jrnl_Load.w
    have hs : Sep B (fun _ => False) B [] := Sep.start B
    refine s_box hs rfl fun b1 C1 _ hs => ?_
    refine s_box hs rfl fun b2 C2 _ hs => ?_
    simp only [AVal.cells] at hs
    refine vb_ldA hs.g1 rfl ?_
    refine vb_bld (jfill3n s d a) ?_
    refine s_box hs rfl fun p C3 _ hs => ?_
    refine vb_i (e_fieldAddr _ _) ?_
    refine vb_ld hs.g2 rfl ?_
    refine vb_i (e_fieldAddr _ _) ?_
    refine vb_ld hs.g2 rfl ?_
    refine vb_i (e_fieldAddr _ _) ?_
    refine vb_ld hs.g2 rfl ?_
    obtain ⟨t, ht, hc⟩ := Start_nil (B := C3) (s := s) (d := d) (a := a)
    refine cb_i _ _ hc ?_
    refine vb_i e_ext0 ?_
    refine vb_i e_ext1 ?_
    refine s_alloc hs fun a1 C4 _ hs => ?_
    refine s_storeA hs rfl (by simp [ht]) rfl (cells_byte _) fun C5 hs => ?_
    refine vb_i (e_nilNil _) ?_
    refine isB_T ?_
    exact fin_ret (rvs_v (rvs_v (rvs_v (rvs_nil _)))) ⟨rfl, hs.pre fun _ x => x⟩)
  exact ⟨C, h, k⟩
theorem begin_puts {r0 : Ref} (hs64 : s.length = 64) (hq : RecW B q px) (h64 : q.puts.length ≤ 64) (hg : goodR q = true) (hp : 0 < q.puts.length) :
    ∃ C, S_jrnl_Begin [.ptr r0, .nilp, .agg [.str s, .int .i64 d, .int .i64 a], recV q px] B (.tup [.nilp, .int .i64 2]) C ∧ B <+: C := by
  obtain ⟨r, C, h, rfl, k⟩ := jrnl_Begin.out (x0 := .ptr r0) (x1 := .nilp) (x2 := .agg [.str s, .int .i64 d, .int .i64 a]) (x3 := recV q px) (H := B) (Q := fun r C => r = .tup [.nilp, .int .i64 2] ∧ B <+: C) (by
    unfold jrnl_Begin.w
    have hs : Sep B (fun _ => False) B [] := Sep.start B
    refine s_box hs rfl fun b1 C1 _ hs => ?_
    refine s_box hs rfl fun b2 C2 _ hs => ?_
    simp only [recV, AVal.cells] at hs
    refine vb_i (e_ptrNil _ _) ?_
    refine isB_F ?_
    refine vb_i (e_fieldAddr _ _) ?_
    refine vb_ld hs.g1 rfl ?_
    refine vb_i (e_fieldAddr _ _) ?_
    refine vb_ld hs.g1 rfl ?_
    refine vb_i (e_fieldAddr _ _) ?_
    refine vb_ld hs.g1 rfl ?_
    obtain ⟨t, ht, hc⟩ := Start_nil (B := C2) (s := s) (d := d) (a := a)
    refine cb_i _ _ hc ?_
    refine vb_i e_ext0 ?_
    refine vb_i e_ext1 ?_
    refine s_alloc hs fun a1 C4 _ hs => ?_
    refine s_storeA hs rfl (by simp [ht]) rfl (cells_byte _) fun C5 hs => ?_
    refine vb_i (neq64 _ _ _) ?_
    refine isB_c (fun h1 => ?_) (fun h1 => ?_)
    · have he : startE d a s = 2 := by
        unfold startE at h1 ⊢
        split
        · rfl
        · rename_i h2
          rw [if_neg h2, if_neg (by omega)] at h1
          exact absurd rfl h1
      rw [he]
      exact fin_ret (rvs_v (rvs_v (rvs_nil _))) ⟨rfl, hs.pre fun _ x => x⟩
    refine vb_recA (q := q) (x := px) hs.g1 hq.1 rfl ?_
    have hq5 := hq.pre (hs.pre fun _ x => x)
    obtain ⟨l, C6, hc, kk⟩ := lay_goodW hq5 h64 hg
    refine cb_i _ _ hc ?_
    have hs := hs.quiet (kk.pre fun _ x => x)
    refine vb_i e_ext0 ?_
    refine vb_i e_ext1 ?_
    refine vb_i (neq64 _ _ _) ?_
    refine isB_cf (by decide) ?_
    refine vb_i (e_fieldAddr _ _) ?_
    refine vb_rec33 (q := q) (x := px) hs.g1 hq.1 ?_
    refine vb_lenW (hq.pre (hs.pre fun _ x => x)).2 ?_
    refine vb_i (gtr64 _ _ _) ?_
    refine isB_ct (by omega) ?_
    exact fin_ret (rvs_v (rvs_v (rvs_nil _))) ⟨rfl, hs.pre fun _ x => x⟩)
  exact ⟨C, h, k⟩
end
def S_cellaretlaw15_JrnlNone : Abs.Spec := fun args H r H' => ∃ (q : Rcd) (px : AVal) (d a n : Int), args = [.agg (fcells q px d a n)] ∧ RecW H q px ∧ q.puts.length ≤ 9223372036854775807 ∧ r = .bool true ∧ H' = H
set_option maxRecDepth 20000 in
theorem cellaretlaw15_JrnlNone.ok (args : List AVal) (H : AHeap) (r : AVal) (H' : AHeap) (h : S_cellaretlaw15_JrnlNone args H r H') : ∃ x0, args = [x0] ∧ cellaretlaw15_JrnlNone.w x0 H fun r1 H1 => Weak H r1 H1 r H' := by
  obtain ⟨q, px, d, a, n, rfl, hq, hpl, rfl, rfl⟩ := h
  refine ⟨_, rfl, ?_⟩
  unfold cellaretlaw15_JrnlNone.w
  have hr := hq.1
  have hcell := hq.2.cell
  have hs : Sep H' (fun _ => False) H' [] := Sep.start H'
  refine s_box hs rfl fun b C2 _ hs => ?_
  simp only [AVal.cells] at hs
  refine JoinP.mk (fun e vs D => e = .normal ∧ ∃ t, vs = [.ptr ⟨t, 0, 0⟩, .int .i64 d, .int .i64 a, .int .i64 n] ∧ Sep H' (fun _ => False) D [.obj t (.cells 0 .exact (rcells q px)), .obj b (.cells 0 .exact (fcells q px d a n))]) ?_ ?_
  · refine ⟨⟨⟨?_, ?_⟩, ⟨?_, ?_⟩⟩, ⟨⟨?_, ?_⟩, ⟨?_, ?_⟩⟩⟩
    all_goals
      repeat first
      | refine vb_i (e_fieldAddr _ _) ?_
      | refine fc_rec hs.g0 hr ?_
      | refine fc_d hs.g0 hr ?_
      | refine fc_a hs.g0 hr ?_
      | refine fc_n hs.g0 hr ?_
      | (refine s_alloc hs ?_; intro t D1 _ hs; refine s_storeA hs rfl (rcells_len hr) rfl (rcells_all hcell) ?_; intro D2 hs;
          repeat first
          | refine fc_d hs.g1 hr ?_
          | refine fc_a hs.g1 hr ?_
          | refine fc_n hs.g1 hr ?_
         exact ⟨rfl, t, rfl, hs⟩)
  clear hs
  rintro e vs C3 ⟨rfl, t, rfl, hs⟩
  refine onE_i ?_
  try simp only [evB]
  refine vb_recA (q := q) (x := px) hs.g0 hr rfl ?_
  obtain ⟨row, hrow⟩ : ∃ row : RC, row = ⟨(q, px), hr⟩ := ⟨_, rfl⟩
  refine s_row (es := 34) (n := 1) (cs := rc row) hs (by rw [hrow]; exact fill_row (rcells_len hr) rfl) fun y C4 _ hs => ?_
  have hvy : View C4 (.slice ⟨y, 0, 0⟩ 1 (.ex 1)) 34 1 (flat rc [row]) := by
    have := (s_own (n := 1) (es := 34) hs (rc_len row)).o0.view
    rw [← flat_one (f := rc)] at this
    exact this
  have hqn : RecW C4 q px := hq.pre (hs.pre fun _ x => x)
  obtain ⟨bl, hc, hli⟩ := light_spec15 (B := C4) (x := .slice ⟨y, 0, 0⟩ 1 (.ex 1)) (l := [row]) ⟨.inl hvy, fun r hr' => by rw [List.mem_singleton.1 hr', hrow]; exact hqn⟩ (by show 1 ≤ 9223372036854775807; decide) (fun r hr' => by rw [List.mem_singleton.1 hr', hrow]; exact hpl)
  refine cb_i _ _ hc ?_
  cases bl
  · refine vb_i (v := .bool true) rfl ?_
    refine isB_T ?_
    obtain ⟨C, hc, e⟩ := awake15 (B := C4)
    refine cb_i _ _ hc ?_
    exact fin_bool rfl ((hs.quiet e).pre fun _ x => x)
  refine vb_i (v := .bool false) rfl ?_
  refine isB_F ?_
  refine cb_i _ _ ⟨_, 64, rfl, by decide, rfl, rfl⟩ ?_
  have hs64 : (full [115] 64).length = 64 := full_len (by decide)
  generalize full [115] 64 = s at hs64
  refine vb_bld (cs := [.str s, .int .i64 d, .int .i64 a]) rfl ?_
  refine s_alloc hs.tail fun w C5 _ hs => ?_
  refine s_storeA hs rfl rfl rfl rfl fun C6 hs => ?_
  refine vb_ldA hs.g0 rfl ?_
  refine vb_recA (q := q) (x := px) hs.g1 hr rfl ?_
  obtain ⟨C7, hc, e⟩ := begin_nil (B := C6) .nilp (.agg [.str s, .int .i64 d, .int .i64 a]) (recV q px) rfl rfl
  refine cb_i _ _ hc ?_
  have hs := hs.quiet e
  refine vb_i e_ext0 ?_
  refine vb_i e_ext1 ?_
  refine vb_ldA hs.g0 rfl ?_
  refine vb_i build_zs ?_
  obtain ⟨C8, hc, e⟩ := load_nil (B := C7) s d a
  refine cb_i _ _ hc ?_
  have hs := hs.quiet e
  refine vb_i e_ext0 ?_
  refine vb_i e_ext1 ?_
  refine vb_i e_ext2 ?_
  obtain ⟨C9, L, hc, kk⟩ := rig_New_spec (B := C8)
  refine cb_i _ _ hc ?_
  have hs := hs.quiet (kk.pre fun _ x => x)
  refine vb_ldA hs.g0 rfl ?_
  refine cb_i _ _ ⟨64, rfl, by decide, rfl, rfl⟩ ?_
  obtain ⟨q3, hq3⟩ : ∃ q3 : Rcd, q3 = ⟨0, zs 32, [⟨200, zs 64⟩]⟩ := ⟨_, rfl⟩
  refine vb_bld (cs := ptc ⟨200, zs 64⟩) rfl ?_
  refine s_row (es := 2) (n := 1) (z := [.int .i64 0, .str []]) (cs := flat ptc q3.puts) hs (by rw [hq3]; rfl) fun y2 C10 _ hs => ?_
  refine vb_bld (cs := rcells q3 (.slice ⟨y2, 0, 0⟩ 1 (.ex 1))) (by rw [hq3]; rfl) ?_
  have hy : View C10 (.slice ⟨y2, 0, 0⟩ 1 (.ex 1)) 2 q3.puts.length (flat ptc q3.puts) := by
    have h1 : q3.puts.length = 1 := by rw [hq3]; rfl
    have h2 : (flat ptc q3.puts).length = 1 * 2 := by rw [hq3]; rfl
    rw [h1]
    exact (s_own (n := 1) (es := 2) hs h2).o0.view
  obtain ⟨C11, hc, e⟩ := begin_puts (B := C10) (r0 := ⟨L.p, 0, 0⟩) (s := s) (d := d) (a := a) (q := q3) (px := .slice ⟨y2, 0, 0⟩ 1 (.ex 1)) hs64 ⟨by rw [hq3]; exact zs32_len, .inl hy⟩ (by rw [hq3]; decide) (by rw [hq3]; decide) (by rw [hq3]; decide)
  refine cb_i _ _ hc ?_
  have hs := hs.quiet e
  refine vb_i e_ext0 ?_
  refine vb_i e_ext1 ?_
  refine JoinP.mk (fun e vs D => e = .normal ∧ (∃ bb : Bool, vs = [.bool bb]) ∧ C11 = D) ?_ ?_
  · refine vb_i (eql64 _ _ _) ?_
    refine isB_c (fun h1 => ?_) (fun h1 => ?_)
    · refine vb_i (eql64 _ _ _) ?_
      refine isB_c (fun h2 => ⟨rfl, ⟨true, rfl⟩, rfl⟩) (fun h2 => ?_)
      refine vb_i (eql64 _ _ _) ?_
      exact ⟨rfl, ⟨_, rfl⟩, rfl⟩
    · refine vb_i (eql64 _ _ _) ?_
      refine isB_c (fun h2 => ?_) (fun h2 => ⟨rfl, ⟨false, rfl⟩, rfl⟩)
      refine vb_i (eql64 _ _ _) ?_
      refine isB_c (fun h3 => ⟨rfl, ⟨true, rfl⟩, rfl⟩) (fun h3 => ?_)
      refine vb_i (eql64 _ _ _) ?_
      exact ⟨rfl, ⟨_, rfl⟩, rfl⟩
  rintro e vs D ⟨rfl, ⟨bb, rfl⟩, rfl⟩
  refine onE_i ?_
  try simp only [evB]
  obtain ⟨D1, hc, e⟩ := awake15 (B := C11)
  refine cb_i _ _ hc ?_
  have hs := hs.quiet e
  refine isB_T ?_
  refine vb_recA (q := q) (x := px) hs.g2 hr rfl ?_
  obtain ⟨D2, hc, e⟩ := append_nil (B := D1) (recV q px) rfl
  refine cb_i _ _ hc ?_
  have hs := hs.quiet e
  refine vb_i (eql64 _ _ _) ?_
  refine isB_ct rfl ?_
  obtain ⟨D3, hc, e⟩ := room_nil (B := D2) n
  refine cb_i _ _ hc ?_
  have hs := hs.quiet e
  refine vb_i (v := .bool true) rfl ?_
  refine isB_T ?_
  refine cb_i _ _ used_nil ?_
  refine cb_i _ _ area_nil ?_
  refine vb_i (add64 (by decide) (by decide)) ?_
  refine cb_i _ _ seq_nil ?_
  refine vb_i (add64 (by decide) (by decide)) ?_
  refine vb_i (eql64 _ _ _) ?_
  refine isB_ct rfl ?_
  obtain ⟨D4, hc, e⟩ := anchor_nil (B := D3)
  rw [zero32_zs] at hc
  refine cb_i _ _ hc ?_
  have hs := hs.quiet e
  refine vb_i build_zs ?_
  refine vb_i (e_eqBytes zs32_len zs32_len) ?_
  refine isB_ct rfl ?_
  obtain ⟨D5, hc, e⟩ := root_nil (B := D4)
  rw [zero32_zs] at hc
  refine cb_i _ _ hc ?_
  have hs := hs.quiet e
  refine vb_i build_zs ?_
  refine vb_i (e_eqBytes zs32_len zs32_len) ?_
  refine isB_ct rfl ?_
  refine vb_i (eql64 _ _ _) ?_
  refine isB_ct rfl ?_
  refine vb_i (eql64 _ _ _) ?_
  refine isB_ct rfl ?_
  refine vb_i (e_nilNil _) ?_
  refine isB_T ?_
  refine vb_i (eql64 _ _ _) ?_
  refine isB_ct rfl ?_
  cases bb
  · refine isB_F ?_
    refine vb_i (eql64 _ _ _) ?_
    exact fin_bool rfl (hs.pre fun _ x => x)
  · refine isB_T ?_
    exact fin_bool rfl (hs.pre fun _ x => x)
end Go.Sh

/- Arguments: a device, an area, a base, records. -/
namespace Go.Sh
open Go Go.Abs
section
variable {H : Type} {P : Program} {B : AHeap} {top : Bool}
theorem arg_vwJ {β : Type} {t e : TypeId} {a : AVal} {d : DataW H} (f : β → List AVal) (hf : ∀ b, (f b).length = P.cellsOf e) (ht : P.underlying t = some (.slice e)) (h : Arg P B top t [a] d)
    (each : ∀ cs (d : DataW H), Arg P B false e cs d → ∃ b, cs = f b) : ∃ l : List β, Vw B a (P.cellsOf e) l.length (flat f l) ∧ l.length ≤ maxLen := by
  rcases Arg.slice_inv ht h with ⟨h1, h2⟩ | ⟨_, i, h1, _⟩ | ⟨i, off, len, cap, cs', elems, spare, h1, rfl, hb, hc, hm, he, hs, hl, ha⟩
  · cases h1
    exact ⟨[], .inl ⟨by simp [flat], .inl ⟨rfl, rfl⟩⟩, Nat.zero_le _⟩
  · cases h1
    exact ⟨[], .inr ⟨rfl, rfl, i, rfl⟩, Nat.zero_le _⟩
  · cases h1
    have h' : Arg P B true t [.slice ⟨i, 1, off⟩ len (.ex cap)] (.slice elems spare) := .slice ht hb hc hm he hs hl ha
    obtain ⟨l, hv, hl, _⟩ := h'.viewR f (fun _ _ => True) hf ht (fun cs d hd => by obtain ⟨b, hb⟩ := each cs d hd; exact ⟨b, hb, trivial⟩)
    exact ⟨l, .inl hv, hl⟩
theorem pts_vw {t e : TypeId} {a : AVal} {d : DataW H} (ht : P.underlying t = some (.slice e)) (hk : flatK P 9 e = some [.int .i64, .str]) (hc : P.cellsOf e = 2) (h : Arg P B top t [a] d) :
    ∃ l : List Pt, Vw B a 2 l.length (flat ptc l) ∧ l.length ≤ 9223372036854775807 := by
  obtain ⟨l, hv, hl⟩ := arg_vwJ ptc (fun b => by rw [ptc_len, hc]) ht h (fun cs d hd => by
    obtain ⟨_, _, rfl, ⟨n, rfl, _⟩, _, _, rfl, ⟨s, rfl, _⟩, rfl⟩ := Arg.fit 9 e _ hk cs d hd
    exact ⟨⟨n, s⟩, rfl⟩)
  rw [hc] at hv
  exact ⟨l, hv, Nat.le_trans hl (by decide)⟩
theorem rec_fit {p q : TypeId} {ks : List Fk} {cs : List AVal} (hp : P.underlying p = some (.slice q)) (hq : flatK P 9 q = some [.int .i64, .str]) (hqc : P.cellsOf q = 2) (h : Fit H P B top (.int .i64 :: (List.replicate 32 (.int .u8) ++ (.sl p :: ks))) cs) :
    ∃ (r : Rcd) (x : AVal) (cs' : List AVal), cs = rcells r x ++ cs' ∧ RecW B r x ∧ r.puts.length ≤ 9223372036854775807 ∧ Fit H P B top ks cs' := by
  obtain ⟨_, cs1, rfl, ⟨seq, rfl, _⟩, hf⟩ := h
  obtain ⟨root, cs2, hr, rfl, hf2⟩ := hf.bytes
  obtain ⟨pv, cs3, rfl, ⟨dp, hpv⟩, hf3⟩ := hf2
  obtain ⟨ps, hps, hpl⟩ := pts_vw hp hq hqc hpv
  exact ⟨⟨seq, root, ps⟩, pv, cs3, by simp [rcells], ⟨hr, hps⟩, hpl, hf3⟩
theorem four_in {p q c : TypeId} {x : AVal} {d : DataW H} (hs : structT P c = true) (hkc : flatK P 9 c = some (.int .i64 :: (List.replicate 32 (.int .u8) ++ [.sl p, .int .i64, .int .i64, .int .i64])))
    (hp : P.underlying p = some (.slice q)) (hq : flatK P 9 q = some [.int .i64, .str]) (hqc : P.cellsOf q = 2) (h : ArgV P B c x d) :
    ∃ (r : Rcd) (bx : AVal) (i j k : Int), x = .agg (fcells r bx i j k) ∧ RecW B r bx ∧ r.puts.length ≤ 9223372036854775807 := by
  obtain ⟨cs, rfl, hf⟩ := h.fit 9 _ hs hkc
  obtain ⟨r, bx, cs', rfl, h1, h2, h3⟩ := rec_fit hp hq hqc hf
  obtain ⟨_, _, rfl, ⟨i, rfl, _⟩, _, _, rfl, ⟨j, rfl, _⟩, _, _, rfl, ⟨k, rfl, _⟩, rfl⟩ := h3
  exact ⟨r, bx, i, j, k, rfl, h1, h2⟩
end
end Go.Sh
