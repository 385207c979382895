/- One text of these: JrnW2, JrnP8, JrnP9, JrnPa, JrnPb, JrnPc, JrnPd, JrnPe, JrnPf, JrnA. -/
import Derived.Test.YtkpcnmaohhgofaaJrA
import Derived.Test.YtkpcnmaohhgofaaAbsE
import Derived.Test.YtkpcnmaohhgofaaAbsF

/- What Go functions come to over abstract values, printed by a program (wx.py); of each function its own text is what is told of it. -/
namespace Go.Sh
open Go Go.Abs

def cellaretlaw15_where.w (x0 : AVal) (x1 : AVal) (H : AHeap) (K : AVal → AHeap → Prop) : Prop :=
 hb (aAlloc H [.str [], .int .i64 0, .int .i64 0]) fun v1 H2 =>
 cb (S_cellaretref01_Full [.str [115, 117, 112, 101, 114], .int .i64 64] H2) fun v3 H4 =>
 vb (aBin .rem x0 (.int .u8 2)) fun v5 =>
 vb (aInt2 .i64 v5) fun v6 =>
 vb (aBin .rem x1 (.int .u8 2)) fun v7 =>
 vb (aInt2 .i64 v7) fun v8 =>
 vb (aBuild [.str [], .int .i64 0, .int .i64 0] (fun k => ([(0, 1), (1, 1), (2, 1)] : List (Nat × Nat))[k]?) [(0, v3), (1, v6), (2, v8)]) fun v9 =>
 sb (aStore H4 3 v1 v9) fun H10 =>
 fin .ret [.c true 3 (v1)] H10 K

def S_cellaretlaw15_where : Abs.Spec := fun args H r H' => ∃ x0 x1 : AVal, args = [x0, x1] ∧ (cellaretlaw15_where.w x0 x1 H fun r1 H1 => r1 = r ∧ H1 = H') ∧ H <+: H'
theorem cellaretlaw15_where.ok (args : List AVal) (H : AHeap) (r : AVal) (H' : AHeap) (h : S_cellaretlaw15_where args H r H') : ∃ x0 x1 : AVal, args = [x0, x1] ∧ cellaretlaw15_where.w x0 x1 H fun r1 H1 => r1 = r ∧ H1 = H' := by
  obtain ⟨x0, x1, h1, h2, _⟩ := h
  exact ⟨x0, x1, h1, h2⟩
theorem cellaretlaw15_where.quiet {args : List AVal} {H : AHeap} {r : AVal} {H' : AHeap} (h : S_cellaretlaw15_where args H r H') : H <+: H' := by
  obtain ⟨_, _, _, _, h⟩ := h
  exact h
set_option maxRecDepth 100000 in
theorem cellaretlaw15_where.ex (x0 x1 : AVal) (H : AHeap) : Ex fun K : AVal × AHeap → Prop => cellaretlaw15_where.w x0 x1 H fun r H => K (r, H) := by
  unfold cellaretlaw15_where.w
  repeat with_reducible first
    | exact Ex.pt _
    | exact Ex.fin
    | exact Ex.no
    | refine Ex.vb fun _ => ?_
    | refine Ex.hb fun _ _ => ?_
    | refine Ex.sb fun _ => ?_
    | refine Ex.cb fun _ _ => ?_
    | refine Ex.isB fun _ => ?_
    | refine Ex.cond ?_ ?_
    | refine Ex.onE ?_ ?_
    | refine Ex.join ?_ fun _ _ _ => ?_
    | refine Ex.loop (fun _ _ => ?_) fun _ _ _ => ?_

theorem cellaretlaw15_where.out {x0 x1 : AVal} {H : AHeap} {Q : AVal → AHeap → Prop} (h : cellaretlaw15_where.w x0 x1 H fun r H' => (H <+: H') ∧ Q r H') : ∃ r H', S_cellaretlaw15_where [x0, x1] H r H' ∧ Q r H' := by
  obtain ⟨r, H', h1, h2⟩ := (cellaretlaw15_where.ex x0 x1 H).out h
  exact ⟨r, H', ⟨_, _, rfl, h1, h2.1⟩, h2.2⟩

def cellaretlaw15_light.L7.b (x0 : AVal) (x3_2 : AVal) (x4_7 : AVal) (H19 : AHeap) (Kn20 : List AVal → AHeap → Prop) (Ke21 : AExit → List AVal → AHeap → Prop) : Prop :=
 vb (aIndexAddr 34 x0 x3_2) fun v22 =>
 vb (aFieldAddr 33 v22) fun v23 =>
 vb (aLoad H19 false 1 v23) fun v24 =>
 vb (lenSl v24) fun v25 =>
 vb (aBin .lss x4_7 v25) fun v26 =>
 isB v26 fun b27 => cond b27
 (vb (aIndexAddr 34 x0 x3_2) fun v28 =>
 vb (aFieldAddr 33 v28) fun v29 =>
 vb (aLoad H19 false 1 v29) fun v30 =>
 vb (aIndexAddr 2 v30 x4_7) fun v31 =>
 vb (aFieldAddr 1 v31) fun v32 =>
 vb (aLoad H19 false 1 v32) fun v33 =>
 vb (lenSt v33) fun v34 =>
 vb (aBin .gtr v34 (.int .i64 200)) fun v35 =>
 isB v35 fun b36 => cond b36
 (Ke21 .ret [.bool false] H19)
 (vb (aBin .add x4_7 (.int .i64 1)) fun v37 =>
 Kn20 [v37] H19))
 (Ke21 (.exit 2) [.undef] H19)

def cellaretlaw15_light.L7 (x0 : AVal) (x3_2 : AVal) : Body := fun vs H Kn Ke => cellaretlaw15_light.L7.b x0 x3_2 (vs.getD 0 .undef) H Kn Ke

def cellaretlaw15_light.L2.b (x0 : AVal) (x3_2 : AVal) (H1 : AHeap) (Kn2 : List AVal → AHeap → Prop) (Ke3 : AExit → List AVal → AHeap → Prop) : Prop :=
 JoinP (fun Kj4 => vb (lenSl x0) fun v5 =>
 vb (aBin .lss x3_2 v5) fun v6 =>
 isB v6 fun b7 => cond b7
 (vb (aBin .lss x3_2 (.int .i64 20)) fun v8 =>
 isB v8 fun b9 => cond b9
 (Kj4 .normal [] H1)
 (Kj4 (.exit 0) [] H1))
 (Kj4 (.exit 0) [] H1))
 (fun e10 vs11 H12 =>
 onE e10 (.exit 0)
 (Ke3 (.exit 0) [.undef] H12)
 (onE e10 .normal
 (vb (aIndexAddr 34 x0 x3_2) fun v13 =>
 vb (aFieldAddr 33 v13) fun v14 =>
 vb (aLoad H12 false 1 v14) fun v15 =>
 vb (lenSl v15) fun v16 =>
 vb (aBin .gtr v16 (.int .i64 100)) fun v17 =>
 isB v17 fun b18 => cond b18
 (Ke3 .ret [.bool false] H12)
 (LoopP (cellaretlaw15_light.L7 x0 x3_2) [.int .i64 0] H12 fun e38 vs39 H40 =>
 onE e38 (.exit 2)
 (vb (aBin .add x3_2 (.int .i64 1)) fun v41 =>
 Kn2 [v41] H40)
 (onE e38 .ret
 (Ke3 .ret [vs39.getD 0 .undef] H40)
 (False))))
 (False)))

def cellaretlaw15_light.L2 (x0 : AVal) : Body := fun vs H Kn Ke => cellaretlaw15_light.L2.b x0 (vs.getD 0 .undef) H Kn Ke

def cellaretlaw15_light.w (x0 : AVal) (H : AHeap) (K : AVal → AHeap → Prop) : Prop :=
 LoopP (cellaretlaw15_light.L2 x0) [.int .i64 0] H fun e42 vs43 H44 =>
 onE e42 (.exit 0)
 (fin .ret [.v (.bool true)] H44 K)
 (onE e42 .ret
 (fin .ret [.v (vs43.getD 0 .undef)] H44 K)
 (False))

def S_cellaretlaw15_light : Abs.Spec := fun args H r H' => ∃ x0 : AVal, args = [x0] ∧ (cellaretlaw15_light.w x0 H fun r1 H1 => r1 = r ∧ H1 = H') ∧ H <+: H'
theorem cellaretlaw15_light.ok (args : List AVal) (H : AHeap) (r : AVal) (H' : AHeap) (h : S_cellaretlaw15_light args H r H') : ∃ x0 : AVal, args = [x0] ∧ cellaretlaw15_light.w x0 H fun r1 H1 => r1 = r ∧ H1 = H' := by
  obtain ⟨x0, h1, h2, _⟩ := h
  exact ⟨x0, h1, h2⟩
theorem cellaretlaw15_light.quiet {args : List AVal} {H : AHeap} {r : AVal} {H' : AHeap} (h : S_cellaretlaw15_light args H r H') : H <+: H' := by
  obtain ⟨_, _, _, h⟩ := h
  exact h
set_option maxRecDepth 100000 in
theorem cellaretlaw15_light.ex (x0 : AVal) (H : AHeap) : Ex fun K : AVal × AHeap → Prop => cellaretlaw15_light.w x0 H fun r H => K (r, H) := by
  unfold cellaretlaw15_light.w
  repeat with_reducible first
    | exact Ex.pt _
    | exact Ex.fin
    | exact Ex.no
    | refine Ex.vb fun _ => ?_
    | refine Ex.hb fun _ _ => ?_
    | refine Ex.sb fun _ => ?_
    | refine Ex.cb fun _ _ => ?_
    | refine Ex.isB fun _ => ?_
    | refine Ex.cond ?_ ?_
    | refine Ex.onE ?_ ?_
    | refine Ex.join ?_ fun _ _ _ => ?_
    | refine Ex.loop (fun _ _ => ?_) fun _ _ _ => ?_
    | (unfold cellaretlaw15_light.L7; unfold cellaretlaw15_light.L7.b)
    | (unfold cellaretlaw15_light.L2; unfold cellaretlaw15_light.L2.b)

theorem cellaretlaw15_light.out {x0 : AVal} {H : AHeap} {Q : AVal → AHeap → Prop} (h : cellaretlaw15_light.w x0 H fun r H' => (H <+: H') ∧ Q r H') : ∃ r H', S_cellaretlaw15_light [x0] H r H' ∧ Q r H' := by
  obtain ⟨r, H', h1, h2⟩ := (cellaretlaw15_light.ex x0 H).out h
  exact ⟨r, H', ⟨_, rfl, h1, h2.1⟩, h2.2⟩

def cellaretlaw15_awake.w (H : AHeap) (K : AVal → AHeap → Prop) : Prop :=
 cb (S_rig_New [] H) fun v1 H2 =>
 cb (S_oracle_New [] H2) fun v3 H4 =>
 cb (S_cellaretlaw15_where [.int .u8 1, .int .u8 0] H4) fun v5 H6 =>
 hb (aAlloc H6 [.str [], .int .i64 0, .int .i64 0]) fun v7 H8 =>
 sb (aStore H8 3 v7 v5) fun H9 =>
 vb (aLoad H9 true 3 v7) fun v10 =>
 vb (aBuild [.int .i64 0, .int .u8 0, .int .u8 0, .int .u8 0, .int .u8 0, .int .u8 0, .int .u8 0, .int .u8 0, .int .u8 0, .int .u8 0, .int .u8 0, .int .u8 0, .int .u8 0, .int .u8 0, .int .u8 0, .int .u8 0, .int .u8 0, .int .u8 0, .int .u8 0, .int .u8 0, .int .u8 0, .int .u8 0, .int .u8 0, .int .u8 0, .int .u8 0, .int .u8 0, .int .u8 0, .int .u8 0, .int .u8 0, .int .u8 0, .int .u8 0, .int .u8 0, .int .u8 0, .nils] (fun k => ([(0, 1), (1, 32), (33, 1)] : List (Nat × Nat))[k]?) [(0, .int .i64 3)]) fun v11 =>
 cb (S_jrnl_Begin [v1, v3, v10, v11] H9) fun v12 H13 =>
 vb (aExtract v12 0) fun v14 =>
 vb (aExtract v12 1) fun v15 =>
 JoinP (fun Kj16 => vb (aBin .neq v15 (.int .i64 0)) fun v17 =>
 isB v17 fun b18 => cond b18
 (Kj16 .ret [.bool false] H13)
 (vb (aEql false .ptr H13 v14 .nilp) fun v19 =>
 isB v19 fun b20 => cond b20
 (Kj16 .ret [.bool false] H13)
 (Kj16 .normal [.bool false] H13)))
 (fun e21 vs22 H23 =>
 onE e21 .normal
 (vb (aBuild (List.replicate 32 (.int .u8 0)) (fun k => some (k * 1, 1)) [(0, .int .u8 5)]) fun v24 =>
 cb (S_cellaretref01_Full [.str [97], .int .i64 64] H23) fun v25 H26 =>
 vb (aBuild [.int .i64 0, .str []] (fun k => ([(0, 1), (1, 1)] : List (Nat × Nat))[k]?) [(0, .int .i64 161), (1, v25)]) fun v27 =>
 hb (aBuildSlice H26 2 [.int .i64 0, .str []] 1 [(0, v27)]) fun v28 H29 =>
 vb (aBuild [.int .i64 0, .int .u8 0, .int .u8 0, .int .u8 0, .int .u8 0, .int .u8 0, .int .u8 0, .int .u8 0, .int .u8 0, .int .u8 0, .int .u8 0, .int .u8 0, .int .u8 0, .int .u8 0, .int .u8 0, .int .u8 0, .int .u8 0, .int .u8 0, .int .u8 0, .int .u8 0, .int .u8 0, .int .u8 0, .int .u8 0, .int .u8 0, .int .u8 0, .int .u8 0, .int .u8 0, .int .u8 0, .int .u8 0, .int .u8 0, .int .u8 0, .int .u8 0, .int .u8 0, .nils] (fun k => ([(0, 1), (1, 32), (33, 1)] : List (Nat × Nat))[k]?) [(0, .int .i64 4), (1, v24), (2, v28)]) fun v30 =>
 cb (S_jrnl_Journal_Append [v14, v30] H29) fun v31 H32 =>
 vb (aLoad H32 true 3 v7) fun v33 =>
 cb (S_jrnl_Journal_Used [v14] H32) fun v34 H35 =>
 cb (S_jrnl_Journal_Anchor [v14] H35) fun v36 H37 =>
 cb (S_jrnl_Load [v1, v3, v33, v34, v36] H37) fun v38 H39 =>
 vb (aExtract v38 0) fun v40 =>
 vb (aExtract v38 1) fun v41 =>
 vb (aExtract v38 2) fun v42 =>
 vb (aBin .eql v31 (.int .i64 0)) fun v43 =>
 isB v43 fun b44 => cond b44
 (vb (aBin .eql v42 (.int .i64 0)) fun v45 =>
 isB v45 fun b46 => cond b46
 (cb (S_jrnl_Journal_Used [v14] H39) fun v47 H48 =>
 vb (aBin .eql v47 (.int .i64 4)) fun v49 =>
 isB v49 fun b50 => cond b50
 (vb (lenSl v41) fun v51 =>
 vb (aBin .eql v51 (.int .i64 2)) fun v52 =>
 isB v52 fun b53 => cond b53
 (vb (aIndexAddr 34 v41 (.int .i64 1)) fun v54 =>
 vb (aFieldAddr 33 v54) fun v55 =>
 vb (aLoad H48 false 1 v55) fun v56 =>
 vb (aIndexAddr 2 v56 (.int .i64 0)) fun v57 =>
 vb (aFieldAddr 0 v57) fun v58 =>
 vb (aLoad H48 false 1 v58) fun v59 =>
 vb (aBin .eql v59 (.int .i64 161)) fun v60 =>
 isB v60 fun b61 => cond b61
 (cb (S_jrnl_Journal_Anchor [v40] H48) fun v62 H63 =>
 cb (S_jrnl_Journal_Anchor [v14] H63) fun v64 H65 =>
 vb (aEql false (.agg (List.replicate 32 .int)) H65 v62 v64) fun v66 =>
 isB v66 fun b67 => cond b67
 (cb (S_jrnl_Journal_Seq [v40] H65) fun v68 H69 =>
 vb (aBin .eql v68 (.int .i64 4)) fun v70 =>
 isB v70 fun b71 => cond b71
 (cb (S_jrnl_Journal_Root [v40] H69) fun v72 H73 =>
 cb (S_jrnl_Journal_Root [v14] H73) fun v74 H75 =>
 vb (aEql false (.agg (List.replicate 32 .int)) H75 v72 v74) fun v76 =>
 fin .ret [.v (v76)] H75 K)
 (fin .ret [.v (.bool false)] H69 K))
 (fin .ret [.v (.bool false)] H65 K))
 (fin .ret [.v (.bool false)] H48 K))
 (fin .ret [.v (.bool false)] H48 K))
 (fin .ret [.v (.bool false)] H48 K))
 (fin .ret [.v (.bool false)] H39 K))
 (fin .ret [.v (.bool false)] H39 K))
 (onE e21 .ret
 (fin .ret [.v (vs22.getD 0 .undef)] H23 K)
 (False)))

def S_cellaretlaw15_awake : Abs.Spec := fun args H r H' => args = [] ∧ (cellaretlaw15_awake.w H fun r1 H1 => r1 = r ∧ H1 = H') ∧ H <+: H'
theorem cellaretlaw15_awake.ok (args : List AVal) (H : AHeap) (r : AVal) (H' : AHeap) (h : S_cellaretlaw15_awake args H r H') : args = [] ∧ cellaretlaw15_awake.w H fun r1 H1 => r1 = r ∧ H1 = H' := by
  obtain ⟨h1, h2, _⟩ := h
  exact ⟨h1, h2⟩
theorem cellaretlaw15_awake.quiet {args : List AVal} {H : AHeap} {r : AVal} {H' : AHeap} (h : S_cellaretlaw15_awake args H r H') : H <+: H' := by
  obtain ⟨_, _, h⟩ := h
  exact h
set_option maxRecDepth 100000 in
theorem cellaretlaw15_awake.ex (H : AHeap) : Ex fun K : AVal × AHeap → Prop => cellaretlaw15_awake.w H fun r H => K (r, H) := by
  unfold cellaretlaw15_awake.w
  repeat with_reducible first
    | exact Ex.pt _
    | exact Ex.fin
    | exact Ex.no
    | refine Ex.vb fun _ => ?_
    | refine Ex.hb fun _ _ => ?_
    | refine Ex.sb fun _ => ?_
    | refine Ex.cb fun _ _ => ?_
    | refine Ex.isB fun _ => ?_
    | refine Ex.cond ?_ ?_
    | refine Ex.onE ?_ ?_
    | refine Ex.join ?_ fun _ _ _ => ?_
    | refine Ex.loop (fun _ _ => ?_) fun _ _ _ => ?_

theorem cellaretlaw15_awake.out {H : AHeap} {Q : AVal → AHeap → Prop} (h : cellaretlaw15_awake.w H fun r H' => (H <+: H') ∧ Q r H') : ∃ r H', S_cellaretlaw15_awake [] H r H' ∧ Q r H' := by
  obtain ⟨r, H', h1, h2⟩ := (cellaretlaw15_awake.ex H).out h
  exact ⟨r, H', ⟨rfl, h1, h2.1⟩, h2.2⟩

def cellaretlaw15_grown.L10.b (x4 : AVal) (v11 : AVal) (x15_10 : AVal) (x16_10 : AVal) (x17_10 : AVal) (H42 : AHeap) (Kn43 : List AVal → AHeap → Prop) (Ke44 : AExit → List AVal → AHeap → Prop) : Prop :=
 JoinP (fun Kj45 => vb (lenSl x4) fun v46 =>
 vb (aBin .lss x17_10 v46) fun v47 =>
 isB v47 fun b48 => cond b48
 (vb (aBin .lss x17_10 (.int .i64 20)) fun v49 =>
 isB v49 fun b50 => cond b50
 (Kj45 .normal [] H42)
 (Kj45 (.exit 0) [] H42))
 (Kj45 (.exit 0) [] H42))
 (fun e51 vs52 H53 =>
 onE e51 (.exit 0)
 (Ke44 (.exit 0) [.undef, .undef, .undef, x15_10, x16_10] H53)
 (onE e51 .normal
 (vb (aIndexAddr 34 x4 x17_10) fun v54 =>
 vb (aLoad H53 true 34 v54) fun v55 =>
 hb (aAlloc H53 [.int .i64 0, .int .u8 0, .int .u8 0, .int .u8 0, .int .u8 0, .int .u8 0, .int .u8 0, .int .u8 0, .int .u8 0, .int .u8 0, .int .u8 0, .int .u8 0, .int .u8 0, .int .u8 0, .int .u8 0, .int .u8 0, .int .u8 0, .int .u8 0, .int .u8 0, .int .u8 0, .int .u8 0, .int .u8 0, .int .u8 0, .int .u8 0, .int .u8 0, .int .u8 0, .int .u8 0, .int .u8 0, .int .u8 0, .int .u8 0, .int .u8 0, .int .u8 0, .int .u8 0, .nils]) fun v56 H57 =>
 sb (aStore H57 34 v56 v55) fun H58 =>
 JoinP (fun Kj59 => vb (aBin .rem x17_10 (.int .i64 5)) fun v60 =>
 vb (aBin .neq v60 (.int .i64 4)) fun v61 =>
 isB v61 fun b62 => cond b62
 (vb (lenSl x15_10) fun v63 =>
 vb (aBin .sub v63 (.int .i64 1)) fun v64 =>
 vb (aIndexAddr 34 x15_10 v64) fun v65 =>
 vb (aFieldAddr 0 v65) fun v66 =>
 vb (aLoad H58 false 1 v66) fun v67 =>
 vb (aBin .add v67 (.int .i64 1)) fun v68 =>
 vb (aFieldAddr 0 v56) fun v69 =>
 sb (aStore H58 1 v69 v68) fun H70 =>
 Kj59 .normal [] H70)
 (Kj59 .normal [] H58))
 (fun e71 vs72 H73 =>
 onE e71 .normal
 (vb (aLoad H73 true 34 v56) fun v74 =>
 cb (S_jrnl_Journal_Append [v11, v74] H73) fun v75 H76 =>
 vb (aFieldAddr 33 v56) fun v77 =>
 vb (aLoad H76 false 1 v77) fun v78 =>
 vb (lenSl v78) fun v79 =>
 vb (aBin .add (.int .i64 1) v79) fun v80 =>
 vb (aFieldAddr 33 v56) fun v81 =>
 vb (aLoad H76 false 1 v81) fun v82 =>
 vb (lenSl v82) fun v83 =>
 vb (aBin .add v83 (.int .i64 31)) fun v84 =>
 vb (aBin .quo v84 (.int .i64 32)) fun v85 =>
 vb (aBin .add v80 v85) fun v86 =>
 vb (aFieldAddr 33 v56) fun v87 =>
 vb (aLoad H76 false 1 v87) fun v88 =>
 vb (lenSl v88) fun v89 =>
 vb (aBin .gtr v89 (.int .i64 64)) fun v90 =>
 isB v90 fun b91 => cond b91
 (JoinP (fun Kj92 => vb (aBin .neq v75 (.int .i64 4)) fun v93 =>
 isB v93 fun b94 => cond b94
 (Kj92 .ret [.nilp, .nils, .bool false] H76)
 (vb (aBin .eql (.int .i64 4) (.int .i64 0)) fun v95 =>
 isB v95 fun b96 => cond b96
 (cb (S_jrnl_Journal_Used [v11] H76) fun v97 H98 =>
 vb (aBin .add x16_10 v86) fun v99 =>
 vb (aBin .neq v97 v99) fun v100 =>
 isB v100 fun b101 => cond b101
 (Kj92 .ret [.nilp, .nils, .bool false] H98)
 (vb (aFieldAddr 33 v56) fun v102 =>
 vb (aLoad H98 false 1 v102) fun v103 =>
 vb (lenSl v103) fun v104 =>
 vb (aBin .leq v104 (.int .i64 64)) fun v105 =>
 isB v105 fun b106 => cond b106
 (vb (aBin .neq (.int .i64 4) (.int .i64 2)) fun v107 =>
 isB v107 fun b108 => cond b108
 (vb (aBin .eql (.int .i64 4) (.int .i64 0)) fun v109 =>
 vb (aBin .add x16_10 v86) fun v110 =>
 vb (aBin .leq v110 (.int .i64 80)) fun v111 =>
 vb (aEql true .bool H98 v109 v111) fun v112 =>
 isB v112 fun b113 => cond b113
 (Kj92 .ret [.nilp, .nils, .bool false] H98)
 (Kj92 .normal [.undef, .undef, .undef] H98))
 (Kj92 .normal [.undef, .undef, .undef] H98))
 (Kj92 .normal [.undef, .undef, .undef] H98)))
 (vb (aFieldAddr 33 v56) fun v114 =>
 vb (aLoad H76 false 1 v114) fun v115 =>
 vb (lenSl v115) fun v116 =>
 vb (aBin .leq v116 (.int .i64 64)) fun v117 =>
 isB v117 fun b118 => cond b118
 (vb (aBin .neq (.int .i64 4) (.int .i64 2)) fun v119 =>
 isB v119 fun b120 => cond b120
 (vb (aBin .eql (.int .i64 4) (.int .i64 0)) fun v121 =>
 vb (aBin .add x16_10 v86) fun v122 =>
 vb (aBin .leq v122 (.int .i64 80)) fun v123 =>
 vb (aEql true .bool H76 v121 v123) fun v124 =>
 isB v124 fun b125 => cond b125
 (Kj92 .ret [.nilp, .nils, .bool false] H76)
 (Kj92 .normal [.undef, .undef, .undef] H76))
 (Kj92 .normal [.undef, .undef, .undef] H76))
 (Kj92 .normal [.undef, .undef, .undef] H76))))
 (fun e126 vs127 H128 =>
 onE e126 .normal
 (vb (aBin .eql (.int .i64 4) (.int .i64 0)) fun v129 =>
 isB v129 fun b130 => cond b130
 (vb (aLoad H128 true 34 v56) fun v131 =>
 hb (aBuildSlice H128 34 [.int .i64 0, .int .u8 0, .int .u8 0, .int .u8 0, .int .u8 0, .int .u8 0, .int .u8 0, .int .u8 0, .int .u8 0, .int .u8 0, .int .u8 0, .int .u8 0, .int .u8 0, .int .u8 0, .int .u8 0, .int .u8 0, .int .u8 0, .int .u8 0, .int .u8 0, .int .u8 0, .int .u8 0, .int .u8 0, .int .u8 0, .int .u8 0, .int .u8 0, .int .u8 0, .int .u8 0, .int .u8 0, .int .u8 0, .int .u8 0, .int .u8 0, .int .u8 0, .int .u8 0, .nils] 1 [(0, v131)]) fun v132 H133 =>
 hb (aAppendS H133 34 64 x15_10 v132) fun v134 H135 =>
 vb (aBin .add x16_10 v86) fun v136 =>
 vb (aBin .add x17_10 (.int .i64 1)) fun v137 =>
 Kn43 [v134, v136, v137] H135)
 (vb (aBin .add x17_10 (.int .i64 1)) fun v138 =>
 Kn43 [x15_10, x16_10, v138] H128))
 (onE e126 .ret
 (Ke44 .ret [vs127.getD 0 .undef, vs127.getD 1 .undef, vs127.getD 2 .undef, x15_10, x16_10] H128)
 (False))))
 (vb (aLoad H76 true 34 v56) fun v139 =>
 cb (S_cellaretref13_Right [v139] H76) fun v140 H141 =>
 vb (aUn .not v140) fun v142 =>
 isB v142 fun b143 => cond b143
 (JoinP (fun Kj144 => vb (aBin .neq v75 (.int .i64 2)) fun v145 =>
 isB v145 fun b146 => cond b146
 (Kj144 .ret [.nilp, .nils, .bool false] H141)
 (vb (aBin .eql (.int .i64 2) (.int .i64 0)) fun v147 =>
 isB v147 fun b148 => cond b148
 (cb (S_jrnl_Journal_Used [v11] H141) fun v149 H150 =>
 vb (aBin .add x16_10 v86) fun v151 =>
 vb (aBin .neq v149 v151) fun v152 =>
 isB v152 fun b153 => cond b153
 (Kj144 .ret [.nilp, .nils, .bool false] H150)
 (vb (aFieldAddr 33 v56) fun v154 =>
 vb (aLoad H150 false 1 v154) fun v155 =>
 vb (lenSl v155) fun v156 =>
 vb (aBin .leq v156 (.int .i64 64)) fun v157 =>
 isB v157 fun b158 => cond b158
 (vb (aBin .neq (.int .i64 2) (.int .i64 2)) fun v159 =>
 isB v159 fun b160 => cond b160
 (vb (aBin .eql (.int .i64 2) (.int .i64 0)) fun v161 =>
 vb (aBin .add x16_10 v86) fun v162 =>
 vb (aBin .leq v162 (.int .i64 80)) fun v163 =>
 vb (aEql true .bool H150 v161 v163) fun v164 =>
 isB v164 fun b165 => cond b165
 (Kj144 .ret [.nilp, .nils, .bool false] H150)
 (Kj144 .normal [.undef, .undef, .undef] H150))
 (Kj144 .normal [.undef, .undef, .undef] H150))
 (Kj144 .normal [.undef, .undef, .undef] H150)))
 (vb (aFieldAddr 33 v56) fun v166 =>
 vb (aLoad H141 false 1 v166) fun v167 =>
 vb (lenSl v167) fun v168 =>
 vb (aBin .leq v168 (.int .i64 64)) fun v169 =>
 isB v169 fun b170 => cond b170
 (vb (aBin .neq (.int .i64 2) (.int .i64 2)) fun v171 =>
 isB v171 fun b172 => cond b172
 (vb (aBin .eql (.int .i64 2) (.int .i64 0)) fun v173 =>
 vb (aBin .add x16_10 v86) fun v174 =>
 vb (aBin .leq v174 (.int .i64 80)) fun v175 =>
 vb (aEql true .bool H141 v173 v175) fun v176 =>
 isB v176 fun b177 => cond b177
 (Kj144 .ret [.nilp, .nils, .bool false] H141)
 (Kj144 .normal [.undef, .undef, .undef] H141))
 (Kj144 .normal [.undef, .undef, .undef] H141))
 (Kj144 .normal [.undef, .undef, .undef] H141))))
 (fun e178 vs179 H180 =>
 onE e178 .normal
 (vb (aBin .eql (.int .i64 2) (.int .i64 0)) fun v181 =>
 isB v181 fun b182 => cond b182
 (vb (aLoad H180 true 34 v56) fun v183 =>
 hb (aBuildSlice H180 34 [.int .i64 0, .int .u8 0, .int .u8 0, .int .u8 0, .int .u8 0, .int .u8 0, .int .u8 0, .int .u8 0, .int .u8 0, .int .u8 0, .int .u8 0, .int .u8 0, .int .u8 0, .int .u8 0, .int .u8 0, .int .u8 0, .int .u8 0, .int .u8 0, .int .u8 0, .int .u8 0, .int .u8 0, .int .u8 0, .int .u8 0, .int .u8 0, .int .u8 0, .int .u8 0, .int .u8 0, .int .u8 0, .int .u8 0, .int .u8 0, .int .u8 0, .int .u8 0, .int .u8 0, .nils] 1 [(0, v183)]) fun v184 H185 =>
 hb (aAppendS H185 34 64 x15_10 v184) fun v186 H187 =>
 vb (aBin .add x16_10 v86) fun v188 =>
 vb (aBin .add x17_10 (.int .i64 1)) fun v189 =>
 Kn43 [v186, v188, v189] H187)
 (vb (aBin .add x17_10 (.int .i64 1)) fun v190 =>
 Kn43 [x15_10, x16_10, v190] H180))
 (onE e178 .ret
 (Ke44 .ret [vs179.getD 0 .undef, vs179.getD 1 .undef, vs179.getD 2 .undef, x15_10, x16_10] H180)
 (False))))
 (vb (aFieldAddr 0 v56) fun v191 =>
 vb (aLoad H141 false 1 v191) fun v192 =>
 vb (lenSl x15_10) fun v193 =>
 vb (aBin .sub v193 (.int .i64 1)) fun v194 =>
 vb (aIndexAddr 34 x15_10 v194) fun v195 =>
 vb (aFieldAddr 0 v195) fun v196 =>
 vb (aLoad H141 false 1 v196) fun v197 =>
 vb (aBin .add v197 (.int .i64 1)) fun v198 =>
 vb (aBin .neq v192 v198) fun v199 =>
 isB v199 fun b200 => cond b200
 (JoinP (fun Kj201 => vb (aBin .neq v75 (.int .i64 2)) fun v202 =>
 isB v202 fun b203 => cond b203
 (Kj201 .ret [.nilp, .nils, .bool false] H141)
 (vb (aBin .eql (.int .i64 2) (.int .i64 0)) fun v204 =>
 isB v204 fun b205 => cond b205
 (cb (S_jrnl_Journal_Used [v11] H141) fun v206 H207 =>
 vb (aBin .add x16_10 v86) fun v208 =>
 vb (aBin .neq v206 v208) fun v209 =>
 isB v209 fun b210 => cond b210
 (Kj201 .ret [.nilp, .nils, .bool false] H207)
 (vb (aFieldAddr 33 v56) fun v211 =>
 vb (aLoad H207 false 1 v211) fun v212 =>
 vb (lenSl v212) fun v213 =>
 vb (aBin .leq v213 (.int .i64 64)) fun v214 =>
 isB v214 fun b215 => cond b215
 (vb (aBin .neq (.int .i64 2) (.int .i64 2)) fun v216 =>
 isB v216 fun b217 => cond b217
 (vb (aBin .eql (.int .i64 2) (.int .i64 0)) fun v218 =>
 vb (aBin .add x16_10 v86) fun v219 =>
 vb (aBin .leq v219 (.int .i64 80)) fun v220 =>
 vb (aEql true .bool H207 v218 v220) fun v221 =>
 isB v221 fun b222 => cond b222
 (Kj201 .ret [.nilp, .nils, .bool false] H207)
 (Kj201 .normal [.undef, .undef, .undef] H207))
 (Kj201 .normal [.undef, .undef, .undef] H207))
 (Kj201 .normal [.undef, .undef, .undef] H207)))
 (vb (aFieldAddr 33 v56) fun v223 =>
 vb (aLoad H141 false 1 v223) fun v224 =>
 vb (lenSl v224) fun v225 =>
 vb (aBin .leq v225 (.int .i64 64)) fun v226 =>
 isB v226 fun b227 => cond b227
 (vb (aBin .neq (.int .i64 2) (.int .i64 2)) fun v228 =>
 isB v228 fun b229 => cond b229
 (vb (aBin .eql (.int .i64 2) (.int .i64 0)) fun v230 =>
 vb (aBin .add x16_10 v86) fun v231 =>
 vb (aBin .leq v231 (.int .i64 80)) fun v232 =>
 vb (aEql true .bool H141 v230 v232) fun v233 =>
 isB v233 fun b234 => cond b234
 (Kj201 .ret [.nilp, .nils, .bool false] H141)
 (Kj201 .normal [.undef, .undef, .undef] H141))
 (Kj201 .normal [.undef, .undef, .undef] H141))
 (Kj201 .normal [.undef, .undef, .undef] H141))))
 (fun e235 vs236 H237 =>
 onE e235 .normal
 (vb (aBin .eql (.int .i64 2) (.int .i64 0)) fun v238 =>
 isB v238 fun b239 => cond b239
 (vb (aLoad H237 true 34 v56) fun v240 =>
 hb (aBuildSlice H237 34 [.int .i64 0, .int .u8 0, .int .u8 0, .int .u8 0, .int .u8 0, .int .u8 0, .int .u8 0, .int .u8 0, .int .u8 0, .int .u8 0, .int .u8 0, .int .u8 0, .int .u8 0, .int .u8 0, .int .u8 0, .int .u8 0, .int .u8 0, .int .u8 0, .int .u8 0, .int .u8 0, .int .u8 0, .int .u8 0, .int .u8 0, .int .u8 0, .int .u8 0, .int .u8 0, .int .u8 0, .int .u8 0, .int .u8 0, .int .u8 0, .int .u8 0, .int .u8 0, .int .u8 0, .nils] 1 [(0, v240)]) fun v241 H242 =>
 hb (aAppendS H242 34 64 x15_10 v241) fun v243 H244 =>
 vb (aBin .add x16_10 v86) fun v245 =>
 vb (aBin .add x17_10 (.int .i64 1)) fun v246 =>
 Kn43 [v243, v245, v246] H244)
 (vb (aBin .add x17_10 (.int .i64 1)) fun v247 =>
 Kn43 [x15_10, x16_10, v247] H237))
 (onE e235 .ret
 (Ke44 .ret [vs236.getD 0 .undef, vs236.getD 1 .undef, vs236.getD 2 .undef, x15_10, x16_10] H237)
 (False))))
 (vb (aBin .add x16_10 v86) fun v248 =>
 vb (aBin .gtr v248 (.int .i64 80)) fun v249 =>
 isB v249 fun b250 => cond b250
 (JoinP (fun Kj251 => vb (aBin .neq v75 (.int .i64 9)) fun v252 =>
 isB v252 fun b253 => cond b253
 (Kj251 .ret [.nilp, .nils, .bool false] H141)
 (vb (aBin .eql (.int .i64 9) (.int .i64 0)) fun v254 =>
 isB v254 fun b255 => cond b255
 (cb (S_jrnl_Journal_Used [v11] H141) fun v256 H257 =>
 vb (aBin .add x16_10 v86) fun v258 =>
 vb (aBin .neq v256 v258) fun v259 =>
 isB v259 fun b260 => cond b260
 (Kj251 .ret [.nilp, .nils, .bool false] H257)
 (vb (aFieldAddr 33 v56) fun v261 =>
 vb (aLoad H257 false 1 v261) fun v262 =>
 vb (lenSl v262) fun v263 =>
 vb (aBin .leq v263 (.int .i64 64)) fun v264 =>
 isB v264 fun b265 => cond b265
 (vb (aBin .neq (.int .i64 9) (.int .i64 2)) fun v266 =>
 isB v266 fun b267 => cond b267
 (vb (aBin .eql (.int .i64 9) (.int .i64 0)) fun v268 =>
 vb (aBin .add x16_10 v86) fun v269 =>
 vb (aBin .leq v269 (.int .i64 80)) fun v270 =>
 vb (aEql true .bool H257 v268 v270) fun v271 =>
 isB v271 fun b272 => cond b272
 (Kj251 .ret [.nilp, .nils, .bool false] H257)
 (Kj251 .normal [.undef, .undef, .undef] H257))
 (Kj251 .normal [.undef, .undef, .undef] H257))
 (Kj251 .normal [.undef, .undef, .undef] H257)))
 (vb (aFieldAddr 33 v56) fun v273 =>
 vb (aLoad H141 false 1 v273) fun v274 =>
 vb (lenSl v274) fun v275 =>
 vb (aBin .leq v275 (.int .i64 64)) fun v276 =>
 isB v276 fun b277 => cond b277
 (vb (aBin .neq (.int .i64 9) (.int .i64 2)) fun v278 =>
 isB v278 fun b279 => cond b279
 (vb (aBin .eql (.int .i64 9) (.int .i64 0)) fun v280 =>
 vb (aBin .add x16_10 v86) fun v281 =>
 vb (aBin .leq v281 (.int .i64 80)) fun v282 =>
 vb (aEql true .bool H141 v280 v282) fun v283 =>
 isB v283 fun b284 => cond b284
 (Kj251 .ret [.nilp, .nils, .bool false] H141)
 (Kj251 .normal [.undef, .undef, .undef] H141))
 (Kj251 .normal [.undef, .undef, .undef] H141))
 (Kj251 .normal [.undef, .undef, .undef] H141))))
 (fun e285 vs286 H287 =>
 onE e285 .normal
 (vb (aBin .eql (.int .i64 9) (.int .i64 0)) fun v288 =>
 isB v288 fun b289 => cond b289
 (vb (aLoad H287 true 34 v56) fun v290 =>
 hb (aBuildSlice H287 34 [.int .i64 0, .int .u8 0, .int .u8 0, .int .u8 0, .int .u8 0, .int .u8 0, .int .u8 0, .int .u8 0, .int .u8 0, .int .u8 0, .int .u8 0, .int .u8 0, .int .u8 0, .int .u8 0, .int .u8 0, .int .u8 0, .int .u8 0, .int .u8 0, .int .u8 0, .int .u8 0, .int .u8 0, .int .u8 0, .int .u8 0, .int .u8 0, .int .u8 0, .int .u8 0, .int .u8 0, .int .u8 0, .int .u8 0, .int .u8 0, .int .u8 0, .int .u8 0, .int .u8 0, .nils] 1 [(0, v290)]) fun v291 H292 =>
 hb (aAppendS H292 34 64 x15_10 v291) fun v293 H294 =>
 vb (aBin .add x16_10 v86) fun v295 =>
 vb (aBin .add x17_10 (.int .i64 1)) fun v296 =>
 Kn43 [v293, v295, v296] H294)
 (vb (aBin .add x17_10 (.int .i64 1)) fun v297 =>
 Kn43 [x15_10, x16_10, v297] H287))
 (onE e285 .ret
 (Ke44 .ret [vs286.getD 0 .undef, vs286.getD 1 .undef, vs286.getD 2 .undef, x15_10, x16_10] H287)
 (False))))
 (JoinP (fun Kj298 => vb (aBin .neq v75 (.int .i64 0)) fun v299 =>
 isB v299 fun b300 => cond b300
 (Kj298 .ret [.nilp, .nils, .bool false] H141)
 (vb (aBin .eql (.int .i64 0) (.int .i64 0)) fun v301 =>
 isB v301 fun b302 => cond b302
 (cb (S_jrnl_Journal_Used [v11] H141) fun v303 H304 =>
 vb (aBin .add x16_10 v86) fun v305 =>
 vb (aBin .neq v303 v305) fun v306 =>
 isB v306 fun b307 => cond b307
 (Kj298 .ret [.nilp, .nils, .bool false] H304)
 (vb (aFieldAddr 33 v56) fun v308 =>
 vb (aLoad H304 false 1 v308) fun v309 =>
 vb (lenSl v309) fun v310 =>
 vb (aBin .leq v310 (.int .i64 64)) fun v311 =>
 isB v311 fun b312 => cond b312
 (vb (aBin .neq (.int .i64 0) (.int .i64 2)) fun v313 =>
 isB v313 fun b314 => cond b314
 (vb (aBin .eql (.int .i64 0) (.int .i64 0)) fun v315 =>
 vb (aBin .add x16_10 v86) fun v316 =>
 vb (aBin .leq v316 (.int .i64 80)) fun v317 =>
 vb (aEql true .bool H304 v315 v317) fun v318 =>
 isB v318 fun b319 => cond b319
 (Kj298 .ret [.nilp, .nils, .bool false] H304)
 (Kj298 .normal [.undef, .undef, .undef] H304))
 (Kj298 .normal [.undef, .undef, .undef] H304))
 (Kj298 .normal [.undef, .undef, .undef] H304)))
 (vb (aFieldAddr 33 v56) fun v320 =>
 vb (aLoad H141 false 1 v320) fun v321 =>
 vb (lenSl v321) fun v322 =>
 vb (aBin .leq v322 (.int .i64 64)) fun v323 =>
 isB v323 fun b324 => cond b324
 (vb (aBin .neq (.int .i64 0) (.int .i64 2)) fun v325 =>
 isB v325 fun b326 => cond b326
 (vb (aBin .eql (.int .i64 0) (.int .i64 0)) fun v327 =>
 vb (aBin .add x16_10 v86) fun v328 =>
 vb (aBin .leq v328 (.int .i64 80)) fun v329 =>
 vb (aEql true .bool H141 v327 v329) fun v330 =>
 isB v330 fun b331 => cond b331
 (Kj298 .ret [.nilp, .nils, .bool false] H141)
 (Kj298 .normal [.undef, .undef, .undef] H141))
 (Kj298 .normal [.undef, .undef, .undef] H141))
 (Kj298 .normal [.undef, .undef, .undef] H141))))
 (fun e332 vs333 H334 =>
 onE e332 .normal
 (vb (aBin .eql (.int .i64 0) (.int .i64 0)) fun v335 =>
 isB v335 fun b336 => cond b336
 (vb (aLoad H334 true 34 v56) fun v337 =>
 hb (aBuildSlice H334 34 [.int .i64 0, .int .u8 0, .int .u8 0, .int .u8 0, .int .u8 0, .int .u8 0, .int .u8 0, .int .u8 0, .int .u8 0, .int .u8 0, .int .u8 0, .int .u8 0, .int .u8 0, .int .u8 0, .int .u8 0, .int .u8 0, .int .u8 0, .int .u8 0, .int .u8 0, .int .u8 0, .int .u8 0, .int .u8 0, .int .u8 0, .int .u8 0, .int .u8 0, .int .u8 0, .int .u8 0, .int .u8 0, .int .u8 0, .int .u8 0, .int .u8 0, .int .u8 0, .int .u8 0, .nils] 1 [(0, v337)]) fun v338 H339 =>
 hb (aAppendS H339 34 64 x15_10 v338) fun v340 H341 =>
 vb (aBin .add x16_10 v86) fun v342 =>
 vb (aBin .add x17_10 (.int .i64 1)) fun v343 =>
 Kn43 [v340, v342, v343] H341)
 (vb (aBin .add x17_10 (.int .i64 1)) fun v344 =>
 Kn43 [x15_10, x16_10, v344] H334))
 (onE e332 .ret
 (Ke44 .ret [vs333.getD 0 .undef, vs333.getD 1 .undef, vs333.getD 2 .undef, x15_10, x16_10] H334)
 (False))))))))
 (False)))
 (False)))

def cellaretlaw15_grown.L10 (x4 : AVal) (v11 : AVal) : Body := fun vs H Kn Ke => cellaretlaw15_grown.L10.b x4 v11 (vs.getD 0 .undef) (vs.getD 1 .undef) (vs.getD 2 .undef) H Kn Ke

def cellaretlaw15_grown.w (x0 : AVal) (x1 : AVal) (x2 : AVal) (x3 : AVal) (x4 : AVal) (H : AHeap) (K : AVal → AHeap → Prop) : Prop :=
 hb (aBox H x2) fun v1 H2 =>
 hb (aBox H2 x3) fun v3 H4 =>
 vb (aFieldAddr 33 v3) fun v5 =>
 sb (aStore H4 1 v5 .nils) fun H6 =>
 vb (aLoad H6 true 3 v1) fun v7 =>
 vb (aLoad H6 true 34 v3) fun v8 =>
 cb (S_jrnl_Begin [x0, x1, v7, v8] H6) fun v9 H10 =>
 vb (aExtract v9 0) fun v11 =>
 vb (aExtract v9 1) fun v12 =>
 JoinP (fun Kj13 => vb (aFieldAddr 0 v3) fun v14 =>
 vb (aLoad H10 false 1 v14) fun v15 =>
 vb (aBin .lss v15 (.int .i64 0)) fun v16 =>
 isB v16 fun b17 => cond b17
 (vb (aEql false .ptr H10 v11 .nilp) fun v18 =>
 isB v18 fun b19 => cond b19
 (vb (aBin .eql v12 (.int .i64 2)) fun v20 =>
 Kj13 .ret [.nilp, .nils, v20] H10)
 (Kj13 .ret [.nilp, .nils, .bool false] H10))
 (vb (aFieldAddr 0 v3) fun v21 =>
 vb (aLoad H10 false 1 v21) fun v22 =>
 vb (aBin .gtr v22 (.int .i64 4294967295)) fun v23 =>
 isB v23 fun b24 => cond b24
 (vb (aEql false .ptr H10 v11 .nilp) fun v25 =>
 isB v25 fun b26 => cond b26
 (vb (aBin .eql v12 (.int .i64 2)) fun v27 =>
 Kj13 .ret [.nilp, .nils, v27] H10)
 (Kj13 .ret [.nilp, .nils, .bool false] H10))
 (Kj13 .normal [.nilp, .nils, .bool false] H10)))
 (fun e28 vs29 H30 =>
 onE e28 .normal
 (JoinP (fun Kj31 => vb (aBin .neq v12 (.int .i64 0)) fun v32 =>
 isB v32 fun b33 => cond b33
 (Kj31 .ret [.nilp, .nils, .bool false] H30)
 (vb (aEql false .ptr H30 v11 .nilp) fun v34 =>
 isB v34 fun b35 => cond b35
 (Kj31 .ret [.nilp, .nils, .bool false] H30)
 (Kj31 .normal [vs29.getD 0 .undef, vs29.getD 1 .undef, vs29.getD 2 .undef] H30)))
 (fun e36 vs37 H38 =>
 onE e36 .normal
 (vb (aLoad H38 true 34 v3) fun v39 =>
 hb (aBuildSlice H38 34 [.int .i64 0, .int .u8 0, .int .u8 0, .int .u8 0, .int .u8 0, .int .u8 0, .int .u8 0, .int .u8 0, .int .u8 0, .int .u8 0, .int .u8 0, .int .u8 0, .int .u8 0, .int .u8 0, .int .u8 0, .int .u8 0, .int .u8 0, .int .u8 0, .int .u8 0, .int .u8 0, .int .u8 0, .int .u8 0, .int .u8 0, .int .u8 0, .int .u8 0, .int .u8 0, .int .u8 0, .int .u8 0, .int .u8 0, .int .u8 0, .int .u8 0, .int .u8 0, .int .u8 0, .nils] 1 [(0, v39)]) fun v40 H41 =>
 LoopP (cellaretlaw15_grown.L10 x4 v11) [v40, .int .i64 1, .int .i64 0] H41 fun e345 vs346 H347 =>
 onE e345 (.exit 0)
 (cb (S_jrnl_Journal_Used [v11] H347) fun v348 H349 =>
 vb (aBin .eql v348 (vs346.getD 4 .undef)) fun v350 =>
 isB v350 fun b351 => cond b351
 (cb (S_jrnl_Journal_Area [v11] H349) fun v352 H353 =>
 vb (aFieldAddr 2 v1) fun v354 =>
 vb (aLoad H353 false 1 v354) fun v355 =>
 vb (aBin .eql v352 v355) fun v356 =>
 fin .ret [.v (v11), .v (vs346.getD 3 .undef), .v (v356)] H353 K)
 (fin .ret [.v (v11), .v (vs346.getD 3 .undef), .v (.bool false)] H349 K))
 (onE e345 .ret
 (fin .ret [.v (vs346.getD 0 .undef), .v (vs346.getD 1 .undef), .v (vs346.getD 2 .undef)] H347 K)
 (False)))
 (onE e36 .ret
 (fin .ret [.v (vs37.getD 0 .undef), .v (vs37.getD 1 .undef), .v (vs37.getD 2 .undef)] H38 K)
 (False))))
 (onE e28 .ret
 (fin .ret [.v (vs29.getD 0 .undef), .v (vs29.getD 1 .undef), .v (vs29.getD 2 .undef)] H30 K)
 (False)))

def S_cellaretlaw15_grown : Abs.Spec := fun args H r H' => ∃ x0 x1 x2 x3 x4 : AVal, args = [x0, x1, x2, x3, x4] ∧ (cellaretlaw15_grown.w x0 x1 x2 x3 x4 H fun r1 H1 => r1 = r ∧ H1 = H')
theorem cellaretlaw15_grown.ok (args : List AVal) (H : AHeap) (r : AVal) (H' : AHeap) (h : S_cellaretlaw15_grown args H r H') : ∃ x0 x1 x2 x3 x4 : AVal, args = [x0, x1, x2, x3, x4] ∧ cellaretlaw15_grown.w x0 x1 x2 x3 x4 H fun r1 H1 => r1 = r ∧ H1 = H' := by
  obtain ⟨x0, x1, x2, x3, x4, h1, h2⟩ := h
  exact ⟨x0, x1, x2, x3, x4, h1, h2⟩
set_option maxRecDepth 100000 in
theorem cellaretlaw15_grown.ex (x0 x1 x2 x3 x4 : AVal) (H : AHeap) : Ex fun K : AVal × AHeap → Prop => cellaretlaw15_grown.w x0 x1 x2 x3 x4 H fun r H => K (r, H) := by
  unfold cellaretlaw15_grown.w
  repeat with_reducible first
    | exact Ex.pt _
    | exact Ex.fin
    | exact Ex.no
    | refine Ex.vb fun _ => ?_
    | refine Ex.hb fun _ _ => ?_
    | refine Ex.sb fun _ => ?_
    | refine Ex.cb fun _ _ => ?_
    | refine Ex.isB fun _ => ?_
    | refine Ex.cond ?_ ?_
    | refine Ex.onE ?_ ?_
    | refine Ex.join ?_ fun _ _ _ => ?_
    | refine Ex.loop (fun _ _ => ?_) fun _ _ _ => ?_
    | (unfold cellaretlaw15_grown.L10; unfold cellaretlaw15_grown.L10.b)

theorem cellaretlaw15_grown.out {x0 x1 x2 x3 x4 : AVal} {H : AHeap} {Q : AVal → AHeap → Prop} (h : cellaretlaw15_grown.w x0 x1 x2 x3 x4 H fun r H' => Q r H') : ∃ r H', S_cellaretlaw15_grown [x0, x1, x2, x3, x4] H r H' ∧ Q r H' := by
  obtain ⟨r, H', h1, h2⟩ := (cellaretlaw15_grown.ex x0 x1 x2 x3 x4 H).out h
  exact ⟨r, H', ⟨_, _, _, _, _, rfl, h1⟩, h2⟩

def cellaretlaw15_JrnlChanged.L16.b (v80 : AVal) (v41 : AVal) (x16_16 : AVal) (x17_16 : AVal) (H94 : AHeap) (Kn95 : List AVal → AHeap → Prop) (Ke96 : AExit → List AVal → AHeap → Prop) : Prop :=
 JoinP (fun Kj97 => vb (lenSl v80) fun v98 =>
 vb (aBin .lss x17_16 v98) fun v99 =>
 isB v99 fun b100 => cond b100
 (vb (lenSl v41) fun v101 =>
 vb (aBin .lss x17_16 v101) fun v102 =>
 isB v102 fun b103 => cond b103
 (Kj97 .normal [] H94)
 (Kj97 (.exit 0) [] H94))
 (Kj97 (.exit 0) [] H94))
 (fun e104 vs105 H106 =>
 onE e104 (.exit 0)
 (Ke96 (.exit 0) [x16_16] H106)
 (onE e104 .normal
 (isB x16_16 fun b107 => cond b107
 (vb (aIndexAddr 34 v80 x17_16) fun v108 =>
 vb (aLoad H106 true 34 v108) fun v109 =>
 vb (aIndexAddr 34 v41 x17_16) fun v110 =>
 vb (aLoad H106 true 34 v110) fun v111 =>
 cb (S_cellaretref13_Same [v109, v111] H106) fun v112 H113 =>
 vb (aBin .add x17_16 (.int .i64 1)) fun v114 =>
 Kn95 [v112, v114] H113)
 (vb (aBin .add x17_16 (.int .i64 1)) fun v115 =>
 Kn95 [.bool false, v115] H106))
 (False)))

def cellaretlaw15_JrnlChanged.L16 (v80 : AVal) (v41 : AVal) : Body := fun vs H Kn Ke => cellaretlaw15_JrnlChanged.L16.b v80 v41 (vs.getD 0 .undef) (vs.getD 1 .undef) H Kn Ke

def cellaretlaw15_JrnlChanged.w (x0 : AVal) (x1 : AVal) (x2 : AVal) (H : AHeap) (K : AVal → AHeap → Prop) : Prop :=
 hb (aBox H x0) fun v1 H2 =>
 JoinP (fun Kj3 => vb (aFieldAddr 36 v1) fun v4 =>
 vb (aLoad H2 false 1 v4) fun v5 =>
 cb (S_cellaretlaw15_light [v5] H2) fun v6 H7 =>
 vb (aUn .not v6) fun v8 =>
 isB v8 fun b9 => cond b9
 (cb (S_cellaretlaw15_awake [] H7) fun v10 H11 =>
 Kj3 .ret [v10] H11)
 (vb (lenSt x2) fun v12 =>
 vb (aBin .gtr v12 (.int .i64 64)) fun v13 =>
 isB v13 fun b14 => cond b14
 (cb (S_cellaretlaw15_awake [] H7) fun v15 H16 =>
 Kj3 .ret [v15] H16)
 (Kj3 .normal [.bool false] H7)))
 (fun e17 vs18 H19 =>
 onE e17 .normal
 (cb (S_rig_New [] H19) fun v20 H21 =>
 cb (S_oracle_New [] H21) fun v22 H23 =>
 vb (aFieldAddr 0 v1) fun v24 =>
 vb (aLoad H23 false 1 v24) fun v25 =>
 vb (aFieldAddr 1 v1) fun v26 =>
 vb (aLoad H23 false 1 v26) fun v27 =>
 cb (S_cellaretlaw15_where [v25, v27] H23) fun v28 H29 =>
 hb (aAlloc H29 [.str [], .int .i64 0, .int .i64 0]) fun v30 H31 =>
 sb (aStore H31 3 v30 v28) fun H32 =>
 vb (aLoad H32 true 3 v30) fun v33 =>
 vb (aFieldAddr 2 v1) fun v34 =>
 vb (aLoad H32 true 34 v34) fun v35 =>
 vb (aFieldAddr 36 v1) fun v36 =>
 vb (aLoad H32 false 1 v36) fun v37 =>
 cb (S_cellaretlaw15_grown [v20, v22, v33, v35, v37] H32) fun v38 H39 =>
 vb (aExtract v38 0) fun v40 =>
 vb (aExtract v38 1) fun v41 =>
 vb (aExtract v38 2) fun v42 =>
 JoinP (fun Kj43 => vb (aUn .not v42) fun v44 =>
 isB v44 fun b45 => cond b45
 (isB v42 fun b46 => cond b46
 (cb (S_cellaretlaw15_awake [] H39) fun v47 H48 =>
 Kj43 .ret [v47] H48)
 (Kj43 .ret [.bool false] H39))
 (vb (aEql false .ptr H39 v40 .nilp) fun v49 =>
 isB v49 fun b50 => cond b50
 (isB v42 fun b51 => cond b51
 (cb (S_cellaretlaw15_awake [] H39) fun v52 H53 =>
 Kj43 .ret [v52] H53)
 (Kj43 .ret [.bool false] H39))
 (Kj43 .normal [vs18.getD 0 .undef] H39)))
 (fun e54 vs55 H56 =>
 onE e54 .normal
 (vb (aFieldAddr 1 v30) fun v57 =>
 vb (aLoad H56 false 1 v57) fun v58 =>
 vb (aFieldAddr 2 v30) fun v59 =>
 vb (aLoad H56 false 1 v59) fun v60 =>
 vb (aBin .mul (.int .i64 80) v60) fun v61 =>
 vb (aBin .add (.int .i64 1) v61) fun v62 =>
 vb (aInt2 .i64 x1) fun v63 =>
 cb (S_jrnl_Journal_Used [v40] H56) fun v64 H65 =>
 vb (aBin .rem v63 v64) fun v66 =>
 vb (aBin .add v62 v66) fun v67 =>
 cb (S_cellaretref01_Full [x2, .int .i64 64] H65) fun v68 H69 =>
 cb (S_rig_Rig_Tamper [v20, v58, v67, v68] H69) fun v70 H71 =>
 vb (aLoad H71 true 3 v30) fun v72 =>
 cb (S_jrnl_Journal_Used [v40] H71) fun v73 H74 =>
 cb (S_jrnl_Journal_Anchor [v40] H74) fun v75 H76 =>
 cb (S_jrnl_Load [v20, v22, v72, v73, v75] H76) fun v77 H78 =>
 vb (aExtract v77 0) fun v79 =>
 vb (aExtract v77 1) fun v80 =>
 vb (aExtract v77 2) fun v81 =>
 vb (aBin .eql v81 (.int .i64 12)) fun v82 =>
 isB v82 fun b83 => cond b83
 (cb (S_cellaretlaw15_awake [] H78) fun v84 H85 =>
 isB v84 fun b86 => cond b86
 (vb (lenSl v80) fun v87 =>
 vb (aBin .eql v87 (.int .i64 0)) fun v88 =>
 fin .ret [.v (v88)] H85 K)
 (fin .ret [.v (.bool false)] H85 K))
 (vb (aBin .neq v81 (.int .i64 0)) fun v89 =>
 isB v89 fun b90 => cond b90
 (fin .ret [.v (.bool false)] H78 K)
 (vb (lenSl v80) fun v91 =>
 vb (lenSl v41) fun v92 =>
 vb (aBin .eql v91 v92) fun v93 =>
 LoopP (cellaretlaw15_JrnlChanged.L16 v80 v41) [v93, .int .i64 0] H78 fun e116 vs117 H118 =>
 onE e116 (.exit 0)
 (isB (vs117.getD 0 .undef) fun b119 => cond b119
 (cb (S_cellaretlaw15_awake [] H118) fun v120 H121 =>
 fin .ret [.v (v120)] H121 K)
 (cb (S_oracle_Oracle_Collide [v22] H118) fun v122 H123 =>
 vb (aExtract v122 0) fun v124 =>
 vb (aExtract v122 1) fun v125 =>
 vb (aExtract v122 2) fun v126 =>
 cb (S_cellaretlaw15_awake [] H123) fun v127 H128 =>
 isB v127 fun b129 => cond b129
 (fin .ret [.v (v126)] H128 K)
 (fin .ret [.v (.bool false)] H128 K)))
 (False))))
 (onE e54 .ret
 (fin .ret [.v (vs55.getD 0 .undef)] H56 K)
 (False))))
 (onE e17 .ret
 (fin .ret [.v (vs18.getD 0 .undef)] H19 K)
 (False)))

end Go.Sh

/- The laws' small functions. -/
namespace Go.Sh
open Go Go.Abs

/-- Rows of records that came in. -/
def RowsW (H : AHeap) (x : AVal) (l : List RC) : Prop := Vw H x 34 l.length (flat rc l) ∧ ∀ r ∈ l, RecW H r.1.1 r.1.2
theorem RowsW.pre {H K : AHeap} {x : AVal} {l : List RC} (h : RowsW H x l) (p : H <+: K) : RowsW K x l := ⟨h.1.pre p, fun r hr => (h.2 r hr).pre p⟩
theorem rem8 {a : Int} (h0 : 0 ≤ a) : aBin .rem (.int .u8 a) (.int .u8 2) = some (.int .u8 (a % 2)) := by
  show (if (2 : Int) = 0 then none else some (AVal.int .u8 (a.tmod 2))) = _
  rw [if_neg (by decide), Int.tmod_eq_emod_of_nonneg h0]
def superT : List UInt8 := full [115, 117, 112, 101, 114] 64
theorem super_len : superT.length = 64 := full_len (by decide)
section
variable {H0 B : AHeap} {own : Nat → Prop} {R : List Part} {p : Nat} {rp op x : AVal} {j : JV} {L : RL} {v : RV} {n : Int} {q : Rcd} {i m : Nat} {lv : AVal} {T : List (List UInt8)} {s : List UInt8} {d a : Int}
theorem where_spec {D A : Int} (hD : 0 ≤ D) (hA : 0 ≤ A) : ∃ C, S_cellaretlaw15_where [.int .u8 D, .int .u8 A] B (.agg [.str superT, .int .i64 (D % 2), .int .i64 (A % 2)]) C ∧ B <+: C := by
  obtain ⟨r, C, h, rfl, k⟩ := cellaretlaw15_where.out (x0 := .int .u8 D) (x1 := .int .u8 A) (H := B) (Q := fun r C => r = .agg [.str superT, .int .i64 (D % 2), .int .i64 (A % 2)] ∧ B <+: C) (by
    unfold cellaretlaw15_where.w
    have hs : Sep B (fun _ => False) B [] := Sep.start B
    refine s_alloc hs fun b C1 _ hs => ?_
    refine cb_i _ _ ⟨_, 64, rfl, by decide, rfl, rfl⟩ ?_
    refine vb_i (rem8 hD) ?_
    refine vb_i (int_of_int _ (by omega) (by omega)) ?_
    refine vb_i (rem8 hA) ?_
    refine vb_i (int_of_int _ (by omega) (by omega)) ?_
    refine vb_bld (cs := [.str superT, .int .i64 (D % 2), .int .i64 (A % 2)]) rfl ?_
    refine s_storeA hs rfl rfl rfl rfl fun C2 hs => ?_
    exact fin_ret (rvs_c (e_loadAll hs.g0 rfl) (rvs_nil _)) ⟨hs.pre fun _ x => x, rfl, hs.pre fun _ x => x⟩)
  exact ⟨C, h, k⟩
theorem light_spec15 {l : List RC} (hx : RowsW B x l) (hlen : l.length ≤ 9223372036854775807) (hpl : ∀ r ∈ l, r.1.1.puts.length ≤ 9223372036854775807) :
    ∃ b : Bool, S_cellaretlaw15_light [x] B (.bool b) B ∧ (b = true → ∀ k, k < 20 → ∀ r, l[k]? = some r → r.1.1.puts.length ≤ 100) := by
  obtain ⟨r, C, h, b, rfl, rfl, k⟩ := cellaretlaw15_light.out (x0 := x) (H := B) (Q := fun r C => ∃ b : Bool, r = .bool b ∧ B = C ∧ (b = true → ∀ k, k < 20 → ∀ r, l[k]? = some r → r.1.1.puts.length ≤ 100)) (by
    unfold cellaretlaw15_light.w
    refine LoopP.ruleG (α := Nat) (fun j => [.int .i64 (j : Int)]) (fun j D => (j ≤ l.length ∧ ∀ k, k < j → ∀ r, l[k]? = some r → r.1.1.puts.length ≤ 100) ∧ B = D) (fun j => l.length - j) 0 (by simp) ⟨⟨Nat.zero_le _, fun k hk => by omega⟩, rfl⟩ ?_
    rintro j D Kn ⟨⟨hj, hg⟩, rfl⟩ hk
    unfold cellaretlaw15_light.L2 cellaretlaw15_light.L2.b
    try simp only [evB]
    refine JoinP.mk (fun e vs D => B = D ∧ ((e = .normal ∧ j < l.length ∧ j < 20) ∨ (e = .exit 0 ∧ ¬ (j < l.length ∧ j < 20)))) ?_ ?_
    · refine vb_lenW hx.1 ?_
      refine vb_i (lss64 _ _ _) ?_
      refine isB_c (fun h1 => ?_) (fun h1 => ?_)
      · refine vb_i (lss64 _ _ _) ?_
        refine isB_c (fun h2 => ⟨rfl, .inl ⟨rfl, by omega, by omega⟩⟩) (fun h2 => ⟨rfl, .inr ⟨rfl, by omega⟩⟩)
      · exact ⟨rfl, .inr ⟨rfl, by omega⟩⟩
    rintro e vs D ⟨rfl, ⟨rfl, h1, h2⟩ | ⟨rfl, h1⟩⟩
    · refine onE_s (by decide) ?_
      refine onE_i ?_
      have hb := List.getElem?_eq_getElem h1
      have hm := List.getElem_mem h1
      have hr := hx.2 _ hm
      have hrl := hpl _ hm
      generalize l[j] = r at hb hr hrl
      have hv := hx.1.at h1
      refine vb_addrN hv h1 ?_
      refine vb_i (e_fieldAddr _ _) ?_
      refine vb_el1 (f := rc) (l := l) hv rc_len hb (rc33 r) ?_
      refine vb_lenW hr.2 ?_
      refine vb_i (gtr64 _ _ _) ?_
      refine isB_c (fun h3 => ?_) (fun h3 => ?_)
      · repeat first
        | with_reducible refine onE_i ?_
        | ((with_reducible refine onE_s ?_ ?_); (· decide))
        try simp only [evB]
        exact fin_ret (rvs_v (rvs_nil _)) ⟨List.prefix_refl _, false, rfl, rfl, by simp⟩
      refine LoopP.ruleG (α := Nat) (fun t => [.int .i64 (t : Int)]) (fun t D => t ≤ r.1.1.puts.length ∧ B = D) (fun t => r.1.1.puts.length - t) 0 (by simp) ⟨Nat.zero_le _, rfl⟩ ?_
      rintro t D Kn2 ⟨ht, rfl⟩ hk2
      unfold cellaretlaw15_light.L7 cellaretlaw15_light.L7.b
      try simp only [evB]
      refine vb_addrN hv h1 ?_
      refine vb_i (e_fieldAddr _ _) ?_
      refine vb_el1 (f := rc) (l := l) hv rc_len hb (rc33 r) ?_
      refine vb_lenW hr.2 ?_
      refine vb_i (lss64 _ _ _) ?_
      refine isB_c (fun h4 => ?_) (fun h4 => ?_)
      · have h4' : t < r.1.1.puts.length := by omega
        have hp := List.getElem?_eq_getElem h4'
        generalize r.1.1.puts[t] = pt at hp
        refine vb_addrN hv h1 ?_
        refine vb_i (e_fieldAddr _ _) ?_
        refine vb_el1 (f := rc) (l := l) hv rc_len hb (rc33 r) ?_
        refine vb_addrN (hr.2.at h4') h4' ?_
        refine vb_i (e_fieldAddr _ _) ?_
        refine vb_el1 (f := ptc) (hr.2.at h4') ptc_len hp (o := 1) (x := .str pt.b) rfl ?_
        refine vb_i (e_lenSt _) ?_
        refine vb_i (gtr64 _ _ _) ?_
        refine isB_c (fun h5 => ?_) (fun h5 => ?_)
        · repeat first
          | with_reducible refine onE_i ?_
          | ((with_reducible refine onE_s ?_ ?_); (· decide))
          try simp only [evB]
          skip
          exact fin_ret (rvs_v (rvs_nil _)) ⟨List.prefix_refl _, false, rfl, rfl, by simp⟩
        · refine vb_i (add64 (by omega) (by omega)) ?_
          exact hk2 (t + 1) _ ⟨h4', rfl⟩ (by omega)
      · refine onE_i ?_
        refine vb_i (add64 (by omega) (by omega)) ?_
        refine hk (j + 1) _ ⟨⟨h1, fun k hk' r' hr' => ?_⟩, rfl⟩ (by omega)
        rcases Nat.lt_or_eq_of_le (Nat.le_of_lt_succ hk') with h | rfl
        · exact hg k h r' hr'
        · rw [hb] at hr'; cases hr'; omega
    · repeat first
      | with_reducible refine onE_i ?_
      refine fin_ret (rvs_v (rvs_nil _)) ⟨List.prefix_refl _, true, rfl, rfl, fun _ k hk' r hr => hg k ?_ r hr⟩
      have := (List.getElem?_eq_some_iff.1 hr).1
      omega)
  exact ⟨b, h, k⟩
theorem load_back {qs : List Rcd} {J : JV} (hg : ∀ q ∈ qs, GoodQ q) (h0 : (qs.getD 0 zR).puts = []) (hl : loadFrom (j0 s d a (sum (startT d a s))) false qs = some J) (A : List UInt8) :
    loadR s d a (blocksQ qs) A = if J.anchor = A then some (J, qs) else none := by
  unfold loadR
  rw [allR_back hg, if_neg (by simp only; rw [h0]; simp)]
  simp only
  rw [hl]; rfl
end
end Go.Sh

/- What must come at any rate. -/
namespace Go.Sh
open Go Go.Abs

section
variable {H0 B : AHeap} {own : Nat → Prop} {R : List Part} {p : Nat} {rp op x : AVal} {j : JV} {L : RL} {v : RV} {n : Int} {q : Rcd} {i m : Nat} {lv : AVal} {T : List (List UInt8)} {s : List UInt8} {d a : Int}
def qa0 : Rcd := ⟨3, zs 32, []⟩
def qa1 : Rcd := ⟨4, 5 :: zs 31, [⟨161, full [97] 64⟩]⟩
theorem qa0_good : GoodQ qa0 := ⟨zs32_len, by decide, by decide⟩
theorem qa1_good : GoodQ qa1 := ⟨by decide, by decide, by decide⟩
theorem qa0_len : (layR qa0).length = 1 := by rw [lay_len]; rfl
theorem qa1_len : (layR qa1).length = 3 := by rw [lay_len]; rfl
set_option maxRecDepth 20000 in
theorem awake15 : ∃ C, S_cellaretlaw15_awake [] B (.bool true) C ∧ B <+: C := by
  obtain ⟨r, C, h, rfl, k⟩ := cellaretlaw15_awake.out (H := B) (Q := fun r C => r = .bool true ∧ B <+: C) (by
    unfold cellaretlaw15_awake.w
    obtain ⟨C1, L, hc, hs⟩ := rig_New_spec (B := B)
    refine cb_i _ _ hc ?_
    refine cb_i _ _ ⟨rfl, rfl, rfl⟩ ?_
    have hs := orc_new hs
    generalize newO C1 = C2 at hs
    generalize C1.length + 1 = i at *
    generalize C1.length = m at *
    obtain ⟨C3, hc, e⟩ := where_spec (B := C2) (D := 1) (A := 0) (by decide) (by decide)
    refine cb_i _ _ hc ?_
    have hs := hs.quiet e
    refine s_alloc hs fun b C4 _ hs => ?_
    refine s_storeA hs rfl rfl rfl rfl fun C5 hs => ?_
    refine vb_ldA hs.g0 rfl ?_
    refine vb_bld (cs := rcells qa0 .nils) rfl ?_
    have hs := rp_in (X := [_, _]) (hs.f1 : Sep B (fun _ => False) C5 ([_, _] ++ rparts L rig0 []))
    obtain ⟨r, C6, v1, lv1, T1, hc, c1, t1, _, _, b1, _⟩ := begin_spec (q := qa0) hs calm_rig0 (by decide) (by decide) super_len (.inr rfl) (.inl rfl) zs32_len rfl
    obtain ⟨f1, hh1, s1, s2, p, rfl, hs⟩ := b1 (by decide) rfl
    refine cb_i _ _ hc ?_
    have J0 : JOk (j0 superT 1 0 (sum (startT 1 0 superT))) := j0_ok (.inr rfl) (.inl rfl) (sum_len _)
    have J1 := J0.add (q := qa0) (l := layR qa0) zs32_len (by decide) (by rw [qa0_len]; decide)
    obtain ⟨j1, hj1⟩ : ∃ j1, j1 = (j0 superT 1 0 (sum (startT 1 0 superT))).add qa0 (layR qa0) := ⟨_, rfl⟩
    have hj1s : j1.seq = 3 := by rw [hj1]; rfl
    have hj1u : j1.used = 1 := by rw [hj1]; unfold JV.add; dsimp only; rw [qa0_len]; rfl
    have hj1d : j1.d = 1 := by rw [hj1]; rfl
    have hj1a : j1.a = 0 := by rw [hj1]; rfl
    have hl1 : loadFrom (j0 superT 1 0 (sum (startT 1 0 superT))) false [qa0] = some j1 := by rw [hj1]; rfl
    rw [← hj1] at hs J1
    refine vb_i e_ext0 ?_
    refine vb_i e_ext1 ?_
    refine JoinP.mk (fun e vs D => e = .normal ∧ C6 = D) ?_ ?_
    · repeat first
      | with_reducible refine isB_F ?_
      | ((with_reducible refine isB_cf ?_ ?_); (· omega))
      | with_reducible refine vb_i (neq64 _ _ _) ?_
      | with_reducible refine vb_i (e_ptrNil _ _) ?_
      exact ⟨rfl, rfl⟩
    rintro e vs D ⟨rfl, rfl⟩
    refine onE_i ?_
    refine vb_bld (cs := (5 :: zs 31).map ofByte) rfl ?_
    refine cb_i _ _ ⟨_, 64, rfl, by decide, rfl, rfl⟩ ?_
    refine vb_bld (cs := ptc ⟨161, full [97] 64⟩) rfl ?_
    refine s_row (es := 2) (n := 1) (z := [.int .i64 0, .str []]) (cs := flat ptc qa1.puts) hs rfl fun y C7 _ hs => ?_
    refine vb_bld (cs := rcells qa1 (.slice ⟨y, 0, 0⟩ 1 (.ex 1))) rfl ?_
    have hy : View C7 (.slice ⟨y, 0, 0⟩ 1 (.ex 1)) 2 1 (flat ptc qa1.puts) := ⟨rfl, .inr ⟨y, 0, 0, _, .exact, _, rfl, hs.g0, fun _ => by decide, rfl, Nat.le_refl _⟩⟩
    have hs := rp_in (X := [_, _, _]) (rp_out (X := [_, _, _]) (rp_in (X := [_]) hs)).b2
    have hce : checkE qa1 = 0 := by decide
    have ha : appE j1 qa1 = 0 := by
      unfold appE
      rw [hce, hj1s, if_neg (by decide), if_neg (by decide), if_neg]
      rw [Classical.not_not]
      unfold roomP
      rw [hj1u]; decide
    obtain ⟨e, C8, v2, j2, lv2, T2, hc, hs, c2, _, b2⟩ := append_spec (q := qa1) (px := .slice ⟨y, 0, 0⟩ 1 (.ex 1)) hs c1 (by decide) J1 (by have : (([] : List (List UInt8))).length = 0 := rfl; omega) ⟨by decide, .inl hy⟩ (by decide)
    obtain ⟨rfl, f2, rfl, rfl, hh2⟩ := (b2 ha).1 f1
    have J2 := J1.add (q := qa1) (l := layR qa1) (by decide) (by decide) (by rw [hj1u, qa1_len]; decide)
    have hl2 := load_app (q := qa1) hl1 (fun _ => by rw [hj1s]; rfl)
    have hh2 := hh2 (layR qa0) (by rw [hj1u, qa0_len]; rfl) (by rw [hj1d, hj1a]; exact hh1)
    rw [hj1d, hj1a] at hh2
    have hj2u : (j1.add qa1 (layR qa1)).used = 4 := by unfold JV.add; dsimp only; rw [hj1u, qa1_len]; rfl
    have hj2s : (j1.add qa1 (layR qa1)).seq = 4 := rfl
    generalize j1.add qa1 (layR qa1) = j2 at *
    refine cb_i _ _ hc ?_
    refine vb_ldA hs.g6 rfl ?_
    refine cb_i _ _ (used_spec hs.g3) ?_
    obtain ⟨C9, hc, e⟩ := anchor_spec hs.g3 J2
    refine cb_i _ _ hc ?_
    have hs := hs.quiet e
    rw [hj2u]
    have hbl : (layR qa0 ++ layR qa1).length = 4 := by rw [List.length_append, qa0_len, qa1_len]
    have hrd : rdL v2 1 0 4 = blocksQ [qa0, qa1] := by
      have := rdL_has hh2
      rw [hbl] at this
      rw [this]; simp [blocksQ]
    have hlb := load_back (qs := [qa0, qa1]) (J := j2) (fun q hq => by
      simp only [List.mem_cons, List.not_mem_nil, or_false] at hq
      rcases hq with rfl | rfl
      · exact qa0_good
      · exact qa1_good) rfl hl2 j2.anchor
    rw [if_pos rfl] at hlb
    obtain ⟨r, C10, v3, lv3, T3, hc, c3, _, _, _, _, b3⟩ := load_spec (L := L) (s := superT) (d := 1) (a := 0) (rp_in (X := [_, _]) (rp_out (X := [_, _]) hs).f1) c2 (by decide) (by
      have : (keepT T1 (nextT j1.anchor (layR qa1))).length ≤ T1.length + 1 := (keepT_len _ _).2
      have h0 : (([] : List (List UInt8))).length = 0 := rfl
      omega) super_len (.inr rfl) (.inl rfl) 4 J2.anchor (.inl f2)
    obtain ⟨_, _, _, b3⟩ := b3 (by decide) (by decide) f2
    rw [show (4 : Int).toNat = 4 from rfl, hrd] at b3
    obtain ⟨_, _, J3, p3, out, rows, rfl, hm, hs⟩ := b3 _ _ hlb
    refine cb_i _ _ hc ?_
    have hrl : rows.length = 2 := by have := congrArg List.length hm; simpa using this
    have hb1 := List.getElem?_eq_getElem (l := rows) (i := 1) (by omega)
    have hq1 : rows[1].1.1 = qa1 := by
      have := congrArg (fun l => l[1]?) hm
      simp only [List.getElem?_map, hb1] at this
      simpa using this
    generalize rows[1] = r1 at hb1 hq1
    have hs := rp_out (X := [_, _, _, _, _]) hs
    have hpv := recs_view hs.tail.tail.head hb1
    rw [hq1] at hpv
    refine vb_i e_ext0 ?_
    refine vb_i e_ext1 ?_
    refine vb_i e_ext2 ?_
    refine vb_i (eql64 _ _ _) ?_
    refine isB_ct rfl ?_
    refine vb_i (eql64 _ _ _) ?_
    refine isB_ct rfl ?_
    refine cb_i _ _ (used_spec hs.g4) ?_
    refine vb_i (eql64 _ _ _) ?_
    refine isB_ct hj2u ?_
    refine vb_len hs.o1.view ?_
    refine vb_i (eql64 _ _ _) ?_
    refine isB_ct (by omega) ?_
    refine vb_addr (kd := .i64) (j := 1) hs.o1.view (by omega) (by omega) ?_
    refine vb_i (e_fieldAddr _ _) ?_
    refine vb_el1 (f := rc) (l := rows) (j := 1) hs.o1.view rc_len hb1 (rc33 r1) ?_
    refine vb_addr (kd := .i64) (j := 0) hpv (by omega) (by decide) ?_
    refine vb_i (e_fieldAddr _ _) ?_
    refine vb_el1 (f := ptc) (l := qa1.puts) (j := 0) hpv ptc_len (b := ⟨161, full [97] 64⟩) rfl (o := 0) (x := .int .i64 161) rfl ?_
    refine vb_i (eql64 _ _ _) ?_
    refine isB_ct rfl ?_
    obtain ⟨D1, hc, e⟩ := anchor_spec hs.g0 J3
    refine cb_i _ _ hc ?_
    have hs := hs.quiet e
    obtain ⟨D2, hc, e⟩ := anchor_spec hs.g4 J2
    refine cb_i _ _ hc ?_
    have hs := hs.quiet e
    refine vb_i (e_eqBytes J3.anchor J2.anchor) ?_
    refine isB_ct rfl ?_
    refine cb_i _ _ (seq_spec15 hs.g0) ?_
    refine vb_i (eql64 _ _ _) ?_
    refine isB_ct hj2s ?_
    obtain ⟨D3, hc, e⟩ := root_spec15 hs.g0 J3
    refine cb_i _ _ hc ?_
    have hs := hs.quiet e
    obtain ⟨D4, hc, e⟩ := root_spec15 hs.g4 J2
    refine cb_i _ _ hc ?_
    have hs := hs.quiet e
    refine vb_i (e_eqBytes J3.root J2.root) ?_
    rw [decide_eq_true rfl]
    exact fin_ret (rvs_v (rvs_nil _)) ⟨hs.pre fun _ x => x, rfl, hs.pre fun _ x => x⟩)
  exact ⟨C, h, k⟩
end
end Go.Sh

/- A journal with records, of which those that may be are appended. -/
namespace Go.Sh
open Go Go.Abs

abbrev qsOf (rows : List RC) : List Rcd := rows.map fun r => r.1.1
/-- What a journal has that has grown. -/
structure GSt (H0 : AHeap) (s : List UInt8) (d a : Int) (v : RV) (n : Int) (T : List (List UInt8)) (J : JV) (rows : List RC) : Prop where
  calm : Calm v n
  fault : v.fault = 0
  ok : JOk J
  load : loadFrom (j0 s d a (sum (startT d a s))) false (qsOf rows) = some J
  has : Has v d a (blocksQ (qsOf rows))
  good : ∀ q ∈ qsOf rows, GoodQ q
  ne : 0 < rows.length
  bare : ((qsOf rows).getD 0 zR).puts = []
  start : startT d a s ∈ T
  texts : ∀ t ∈ textsJ (sum (startT d a s)) (qsOf rows), t ∈ T
  recs : ∀ r ∈ rows, RecW H0 r.1.1 r.1.2
  last : ∃ r, rows[rows.length - 1]? = some r ∧ J.seq = r.1.1.seq ∧ J.root = r.1.1.root
theorem GSt.used {H0 : AHeap} {s : List UInt8} {d a : Int} {v : RV} {n : Int} {T : List (List UInt8)} {J : JV} {rows : List RC} (h : GSt H0 s d a v n T J rows) : J.used = (blocksQ (qsOf rows)).length ∧ J.a = a ∧ J.d = d := by
  obtain ⟨h1, h2, h3, _⟩ := load_used h.load
  refine ⟨by rw [h1]; unfold j0; dsimp only; omega, h2, h3⟩
theorem GSt.push {H0 : AHeap} {s : List UInt8} {d a : Int} {v v' : RV} {n n' : Int} {T : List (List UInt8)} {J : JV} {rows : List RC} (h : GSt H0 s d a v n T J rows) {r : RC} (hr : RecW H0 r.1.1 r.1.2) (ha : appE J r.1.1 = 0) (c : Calm v' n') (f : v'.fault = 0)
    (hb : ∀ bs : List (List UInt8), (bs.length : Int) = J.used → Has v J.d J.a bs → Has v' J.d J.a (bs ++ layR r.1.1)) : GSt H0 s d a v' n' (keepT T (nextT J.anchor (layR r.1.1))) (J.add r.1.1 (layR r.1.1)) (rows ++ [r]) := by
  obtain ⟨hu, hua, hud⟩ := h.used
  obtain ⟨a1, a2, a3⟩ := app_room ha
  obtain ⟨h64, hg⟩ := check_good a1
  have hgq : GoodQ r.1.1 := ⟨r.2, hg, h64⟩
  have hq : qsOf (rows ++ [r]) = qsOf rows ++ [r.1.1] := List.map_append
  have hlen : (qsOf rows).length = rows.length := List.length_map ..
  refine ⟨c, f, h.ok.add r.2 (good_inv hg).1 (room_lay h64 a3), ?_, ?_, fun q hq' => ?_, by simp, ?_, keep_mem.2 (.inl h.start), fun t ht => ?_, fun x hx => ?_, r, by simp, rfl, rfl⟩
  · rw [hq]
    exact load_app h.load fun _ => a2
  · rw [hq, blocksQ_app]
    rw [hud, hua] at hb
    exact hb _ hu.symm h.has
  · rw [hq] at hq'
    rcases List.mem_append.1 hq' with h' | h'
    · exact h.good q h'
    · rw [List.mem_singleton.1 h']; exact hgq
  · rw [hq, List.getD_eq_getElem?_getD, List.getElem?_append_left (by have := h.ne; omega), ← List.getD_eq_getElem?_getD]
    exact h.bare
  · rw [hq, texts_snoc] at ht
    rcases List.mem_append.1 ht with h' | h'
    · exact keep_mem.2 (.inl (h.texts t h'))
    · have hA : J.anchor = anchorJ (sum (startT d a s)) (qsOf rows) := load_anchor h.load
      rw [List.mem_singleton.1 h', hA]
      exact keep_mem.2 (.inr rfl)
  · rcases List.mem_append.1 hx with h' | h'
    · exact h.recs x h'
    · rw [List.mem_singleton.1 h']; exact hr
theorem GSt.le {H0 : AHeap} {s : List UInt8} {d a : Int} {v : RV} {n n' : Int} {T : List (List UInt8)} {J : JV} {rows : List RC} (g : GSt H0 s d a v n T J rows) (h : n ≤ n') : GSt H0 s d a v n' T J rows :=
  ⟨calm_le g.calm h, g.fault, g.ok, g.load, g.has, g.good, g.ne, g.bare, g.start, g.texts, g.recs, g.last⟩
structure GS where
  out : AVal
  rows : List RC
  k : Nat
  v : RV
  lv : AVal
  T : List (List UInt8)
  J : JV
abbrev bare (q : Rcd) : Rcd := { q with puts := [] }
section
variable {H0 B : AHeap} {R : List Part} {p : Nat} {rp op x bx : AVal} {j : JV} {L : RL} {v : RV} {n : Int} {q : Rcd} {i m : Nat} {lv : AVal} {T : List (List UInt8)} {s : List UInt8} {d a : Int} {l : List RC}
set_option maxRecDepth 20000 in
theorem grown_spec (h : Sep H0 (fun _ => False) B (rparts L v (Part.orc i m lv T :: R))) (c : Calm v n) (hf : v.fault = 0) (hn : n ≤ 1000) (hT : T.length ≤ 1000) (hs64 : s.length = 64) (hd : d = 0 ∨ d = 1) (ha : a = 0 ∨ a = 1)
    (hr : q.root.length = 32) (hx : RowsW H0 x l) (hlen : l.length ≤ 9223372036854775807) (hli : ∀ k, k < 20 → ∀ r, l[k]? = some r → r.1.1.puts.length ≤ 100) :
    ∃ r C, S_cellaretlaw15_grown [.ptr ⟨L.p, 0, 0⟩, .ptr ⟨i, 0, 0⟩, .agg [.str s, .int .i64 d, .int .i64 a], recV q bx, x] B r C ∧
      ((¬ okSeq q ∧ r = .tup [.nilp, .nils, .bool true] ∧ Sep H0 (fun _ => False) C R) ∨
       (okSeq q ∧ ∃ p, ∃ z : GS, r = .tup [.ptr ⟨p, 0, 0⟩, z.out, .bool true] ∧ GSt H0 s d a z.v (n + 1700) z.T z.J z.rows ∧ z.T.length ≤ T.length + 22 ∧ z.rows.length ≤ 21 ∧
         Sep H0 (fun _ => False) C (rparts L z.v (.obj p (.cells 0 .exact (jcells (.ptr ⟨L.p, 0, 0⟩) (.ptr ⟨i, 0, 0⟩) z.J)) :: Part.orc i m z.lv z.T :: .sl z.out 34 z.rows.length (flat rc z.rows) :: R)))) := by
  obtain ⟨r, C, k1, k2⟩ := cellaretlaw15_grown.out (x0 := .ptr ⟨L.p, 0, 0⟩) (x1 := .ptr ⟨i, 0, 0⟩) (x2 := .agg [.str s, .int .i64 d, .int .i64 a]) (x3 := recV q bx) (x4 := x) (H := B) (Q := fun r C =>
      ((¬ okSeq q ∧ r = .tup [.nilp, .nils, .bool true] ∧ Sep H0 (fun _ => False) C R) ∨
       (okSeq q ∧ ∃ p, ∃ z : GS, r = .tup [.ptr ⟨p, 0, 0⟩, z.out, .bool true] ∧ GSt H0 s d a z.v (n + 1700) z.T z.J z.rows ∧ z.T.length ≤ T.length + 22 ∧ z.rows.length ≤ 21 ∧
         Sep H0 (fun _ => False) C (rparts L z.v (.obj p (.cells 0 .exact (jcells (.ptr ⟨L.p, 0, 0⟩) (.ptr ⟨i, 0, 0⟩) z.J)) :: Part.orc i m z.lv z.T :: .sl z.out 34 z.rows.length (flat rc z.rows) :: R))))) (by
    unfold cellaretlaw15_grown.w
    refine s_box h rfl fun b1 C1 p1 hs => ?_
    refine s_box hs rfl fun b2 C2 p2 hs => ?_
    simp only [recV, AVal.cells] at hs
    refine vb_i (e_fieldAddr _ _) ?_
    refine s_store1 hs rfl rfl (by rw [rcells_len hr]; dsimp only; omega) fun C3 hs => ?_
    have hs : Sep H0 (fun _ => False) C3 (.obj b2 (.cells 0 .exact (rcells (bare q) .nils)) :: _) := (rcells_puts (q := q) (y := bx) (z := .nils) (l := []) hr) ▸ hs
    refine vb_ldA hs.g1 rfl ?_
    refine vb_recA (q := bare q) (x := .nils) hs.g0 hr rfl ?_
    have hs := rp_in (X := [_, _, _]) (rp_out (X := [_, _, _]) (rp_in (X := [_, _]) hs)).f2
    obtain ⟨r, C4, v1, lv1, T1, hc, c1, t1, _, bad, ok, _⟩ := begin_spec (q := bare q) hs c (by omega) (by omega) hs64 hd ha hr rfl
    refine cb_i _ _ hc ?_
    by_cases hok : okSeq q
    · obtain ⟨f1, hh1, s1, s2, p, rfl, hs⟩ := ok hok hf
      have hok' := hok
      unfold okSeq at hok'
      refine vb_i e_ext0 ?_
      refine vb_i e_ext1 ?_
      have hs := rp_out (X := [_, _, _, _]) hs
      refine JoinP.mk (fun e vs D => e = .normal ∧ C4 = D) ?_ ?_
      · refine vb_i (e_fieldAddr _ _) ?_
        refine vb_rec0 (q := bare q) (x := .nils) hs.g2 ?_
        refine vb_i (lss64 _ _ _) ?_
        refine isB_cf (by dsimp only; omega) ?_
        refine vb_i (e_fieldAddr _ _) ?_
        refine vb_rec0 (q := bare q) (x := .nils) hs.g2 ?_
        refine vb_i (gtr64 _ _ _) ?_
        refine isB_cf (by dsimp only; omega) ?_
        exact ⟨rfl, rfl⟩
      rintro e vs D ⟨rfl, rfl⟩
      refine onE_i ?_
      refine JoinP.mk (fun e vs D => e = .normal ∧ C4 = D) ?_ ?_
      · refine vb_i (neq64 _ _ _) ?_
        refine isB_cf (by decide) ?_
        refine vb_i (e_ptrNil _ _) ?_
        refine isB_F ?_
        exact ⟨rfl, rfl⟩
      rintro e vs D ⟨rfl, rfl⟩
      refine onE_i ?_
      refine vb_recA (q := bare q) (x := .nils) hs.g2 hr rfl ?_
      obtain ⟨row, hrow⟩ : ∃ row : RC, row = ⟨(bare q, .nils), hr⟩ := ⟨_, rfl⟩
      refine s_row (es := 34) (n := 1) (cs := rc row) hs (by rw [hrow]; exact fill_row (rcells_len hr) rfl) fun y C5 _ hs => ?_
      have hs := s_own (n := 1) (es := 34) hs (rc_len row)
      have hs := rp_in (X := [_, _, _, _]) (hs.b2.f3.tail : Sep H0 (fun _ => False) C5 ([_, _, _, _] ++ rparts L v1 R))
      have hlay : (layR (bare q)).length = 1 := by rw [lay_len]; show longN ([] : List Pt).length = 1; decide
      have hgq : GoodQ (bare q) := ⟨hr, by unfold goodR; rw [decide_eq_true (show okSeq (bare q) from hok)]; rfl, by show ([] : List Pt).length ≤ 64; decide⟩
      have hqs : qsOf [row] = [bare q] := by rw [hrow]; rfl
      have g0 : GSt H0 s d a v1 (n + 80) T1 ((j0 s d a (sum (startT d a s))).add (bare q) (layR (bare q))) [row] := by
        refine ⟨c1, f1, (j0_ok hd ha (sum_len _)).add hr hok (by rw [hlay]; unfold j0; dsimp only; omega), ?_, ?_, ?_, Nat.one_pos, ?_, s1, ?_, ?_, row, rfl, by rw [hrow]; rfl, by rw [hrow]; rfl⟩
        · rw [hqs]; rfl
        · rw [hqs]; simpa [blocksQ] using hh1
        · rw [hqs]; intro x hx; rw [List.mem_singleton.1 hx]; exact hgq
        · rw [hqs]; rfl
        · rw [hqs]; intro t ht; rw [List.mem_singleton.1 ht]; exact s2
        · intro x hx
          rw [List.mem_singleton.1 hx, hrow]
          exact recW_nils hr rfl
      have hu0 : ((j0 s d a (sum (startT d a s))).add (bare q) (layR (bare q))).used = 1 := by unfold JV.add; dsimp only; rw [hlay]; rfl
      generalize (j0 s d a (sum (startT d a s))).add (bare q) (layR (bare q)) = J1 at g0 hs hu0
      refine LoopP.ruleG (α := GS) (fun z => [z.out, .int .i64 z.J.used, .int .i64 (z.k : Int)])
        (fun z D => (z.k ≤ 20 ∧ z.k ≤ l.length ∧ z.rows.length ≤ z.k + 1 ∧ z.T.length ≤ T.length + 2 + z.k ∧ GSt H0 s d a z.v (n + 80 * ((z.k : Int) + 1)) z.T z.J z.rows) ∧
          Sep H0 (fun _ => False) D (rparts L z.v (.obj p (.cells 0 .exact (jcells (.ptr ⟨L.p, 0, 0⟩) (.ptr ⟨i, 0, 0⟩) z.J)) :: Part.orc i m z.lv z.T :: .sl z.out 34 z.rows.length (flat rc z.rows) :: .obj b1 (.cells 0 .exact [.str s, .int .i64 d, .int .i64 a]) :: R)))
        (fun z => 20 - z.k) ⟨.slice ⟨y, 0, 0⟩ 1 (.ex 1), [row], 0, v1, lv1, T1, J1⟩ (by simp [hu0])
        ⟨⟨Nat.zero_le _, Nat.zero_le _, Nat.le_refl _, by dsimp only; omega, by simpa using g0⟩, by simpa [flat] using hs⟩ ?_
      clear hs g0 hu0
      rintro ⟨out, rows, k, w, lw, T2, J⟩ D Kn ⟨⟨hk20, hkl, hrk, hTk, g⟩, hs⟩ hk
      simp only at hk20 hkl hrk hTk g hs
      unfold cellaretlaw15_grown.L10 cellaretlaw15_grown.L10.b
      try simp only [evB]
      have hs := rp_out (X := [_, _, _, _]) hs
      refine JoinP.mk (fun e vs E => D = E ∧ ((e = .normal ∧ k < l.length ∧ k < 20) ∨ (e = .exit 0 ∧ ¬ (k < l.length ∧ k < 20)))) ?_ ?_
      · refine vb_lenW (hx.1.pre (hs.pre fun _ x => x)) ?_
        refine vb_i (lss64 _ _ _) ?_
        refine isB_c (fun h1 => ?_) (fun h1 => ?_)
        · refine vb_i (lss64 _ _ _) ?_
          refine isB_c (fun h2 => ⟨rfl, .inl ⟨rfl, by omega, by omega⟩⟩) (fun h2 => ⟨rfl, .inr ⟨rfl, by omega⟩⟩)
        · exact ⟨rfl, .inr ⟨rfl, by omega⟩⟩
      rintro e vs E ⟨rfl, ⟨rfl, h1, h2⟩ | ⟨rfl, h1⟩⟩
      case inr =>
        repeat first
        | with_reducible refine onE_i ?_
        obtain ⟨hu, hua, hud⟩ := g.used
        refine cb_i _ _ (used_spec hs.g0) ?_
        refine vb_i (eql64 _ _ _) ?_
        refine isB_ct rfl ?_
        refine cb_i _ _ (area_of_spec hs.g0) ?_
        refine vb_i (e_fieldAddr _ _) ?_
        refine vb_ld hs.g3 rfl ?_
        refine vb_i (eql64 _ _ _) ?_
        rw [decide_eq_true hua]
        have hs := rp_in (X := [_, _, _]) (hs.f3.tail : Sep H0 (fun _ => False) D ([_, _, _] ++ rparts L w R))
        exact fin_ret (rvs_v (rvs_v (rvs_v (rvs_nil _)))) (.inr ⟨hok, p, ⟨out, rows, k, w, lw, T2, J⟩, rfl, g.le (by omega), by dsimp only; omega, by dsimp only; omega, hs⟩)
      refine onE_s (by decide) ?_
      refine onE_i ?_
      have hb := List.getElem?_eq_getElem h1
      have hm := List.getElem_mem h1
      have hrW := hx.2 _ hm
      have hl100 := hli k h2 _ hb
      have hvx : View D x 34 l.length (flat rc l) := hs.rv (hx.1.at h1)
      generalize l[k] = r at hb hrW hl100
      obtain ⟨⟨q1, px⟩, hroot⟩ := r
      simp only at hrW hl100 hroot
      have hcell : px.isCell = true := hrW.2.cell
      refine vb_addrN hvx h1 ?_
      refine vb_elN (f := rc) hvx rc_len hb ?_
      refine s_alloc hs fun t D1 _ hs => ?_
      refine s_storeA hs rfl (rcells_len hroot) rfl (rcells_all hcell) fun D2 hs => ?_
      have hs : Sep H0 (fun _ => False) D2 (.obj t (.cells 0 .exact (rcells q1 px)) :: _) := hs
      have hJq := g.ok.q
      refine JoinP.mk (fun e vs E => e = .normal ∧ ∃ q2 : Rcd, q2.root = q1.root ∧ q2.puts = q1.puts ∧ Sep H0 (fun _ => False) E (.obj t (.cells 0 .exact (rcells q2 px)) :: .obj p (.cells 0 .exact (jcells (.ptr ⟨L.p, 0, 0⟩) (.ptr ⟨i, 0, 0⟩) J)) :: Part.orc i m lw T2 :: .sl out 34 rows.length (flat rc rows) :: .obj b1 (.cells 0 .exact [.str s, .int .i64 d, .int .i64 a]) :: rparts L w R)) ?_ ?_
      · refine vb_i (rem64 (by omega) (by omega)) ?_
        refine vb_i (neq64 _ _ _) ?_
        refine isB_c (fun h3 => ?_) (fun h3 => ?_)
        · refine vb_len hs.o3.view ?_
          have hne := g.ne
          refine vb_i (sub64 (by omega) (by omega)) ?_
          refine vb_addr (kd := .i64) (j := (rows.length : Int) - 1) hs.o3.view (by omega) (by omega) ?_
          rw [show ((rows.length : Int) - 1).toNat = rows.length - 1 by omega]
          refine vb_i (e_fieldAddr _ _) ?_
          obtain ⟨rl, hrl, hrl1, _⟩ := g.last
          refine vb_el1 (f := rc) (l := rows) (j := rows.length - 1) hs.o3.view rc_len hrl (o := 0) (x := .int .i64 rl.1.1.seq) rfl ?_
          rw [← hrl1]
          refine vb_i (add64 (by omega) (by omega)) ?_
          refine vb_i (e_fieldAddr _ _) ?_
          refine s_store1 hs rfl rfl (by rw [rcells_len hroot]; dsimp only; omega) fun E hs => ?_
          exact ⟨rfl, { q1 with seq := J.seq + 1 }, rfl, rfl, hs⟩
        · exact ⟨rfl, q1, rfl, rfl, hs⟩
      clear hs
      rintro e vs E ⟨rfl, q2, hq2r, hq2p, hs⟩
      refine onE_i ?_
      have hroot2 : q2.root.length = 32 := by rw [hq2r]; exact hroot
      have hW0 : RecW H0 q2 px := ⟨hroot2, by rw [hq2p]; exact hrW.2⟩
      rw [← hq2p] at hl100
      refine vb_recA (q := q2) (x := px) hs.g0 hroot2 rfl ?_
      have cc := g.calm
      have hgl := g.has
      obtain ⟨e, E1, w', j', lw', T', hc, hs, c', A1, A2⟩ := append_spec (q := q2) (px := px) (rp_in (X := [_, _, _, _, _]) (hs.f2.f2 : Sep H0 (fun _ => False) E ([_, _, _, _, _] ++ rparts L w R))) cc (by omega) g.ok (by omega) (hW0.pre (hs.pre fun _ x => x)) (by omega)
      refine cb_i _ _ hc ?_
      have hs := (rp_out (X := [_, _, _, _, _]) hs).f2
      have hqn : (q2.puts.length : Int) ≤ 100 := by omega
      have hW : RecW E1 q2 px := hW0.pre (hs.pre fun _ x => x)
      have hJu := g.ok.u
      have next : ∀ {F : AHeap} {a1 : AVal}, Sep H0 (fun _ => False) F (.obj t (.cells 0 .exact (rcells q2 px)) :: .obj p (.cells 0 .exact (jcells (.ptr ⟨L.p, 0, 0⟩) (.ptr ⟨i, 0, 0⟩) j')) :: Part.orc i m lw' T' :: .sl out 34 rows.length (flat rc rows) :: .obj b1 (.cells 0 .exact [.str s, .int .i64 d, .int .i64 a]) :: rparts L w' R) →
          appE J q2 ≠ 0 → a1 = .int .i64 ((k : Int) + 1) → Kn [out, .int .i64 J.used, a1] F := by
        intro F a1 hs ha e1
        obtain ⟨_, hw', hj', hT'⟩ := A1 ha
        rw [hw', hj', hT'] at hs
        subst e1
        exact hk ⟨out, rows, k + 1, w, lw', T2, J⟩ F ⟨⟨by dsimp only; omega, by dsimp only; omega, by dsimp only; omega, by dsimp only; omega, g.le (by dsimp only; omega)⟩, rp_in (X := [_, _, _, _]) hs.tail⟩ (by dsimp only; omega)
      repeat first
      | ((with_reducible apply vb_rec33); (· exact hs.g0); (· exact hroot2))
      | ((with_reducible apply vb_lenW); (· exact hW.2))
      | with_reducible refine vb_i (gtr64 _ _ _) ?_
      | ((with_reducible refine vb_i (add64 ?_ ?_) ?_); (· omega); (· omega))
      | ((with_reducible refine vb_i (quo64 ?_ ?_ ?_) ?_); (· omega); (· omega); (· omega))
      | with_reducible refine vb_i (e_fieldAddr _ _) ?_
      refine isB_c (fun h64 => ?_) (fun h64 => ?_)
      · have hce : checkE q2 = 4 := if_pos (by omega)
        have hae : appE J q2 = 4 := by unfold appE; rw [hce, if_pos (by decide)]
        obtain ⟨rfl, _⟩ := A1 (by rw [hae]; decide)
        rw [hae]
        refine JoinP.mk (fun e vs F => e = .normal ∧ E1 = F) ?_ ?_
        · repeat first
          | ((with_reducible apply vb_rec33); (· exact hs.g0); (· exact hroot2))
          | ((with_reducible apply vb_lenW); (· exact hW.2))
          | ((with_reducible refine isB_cf ?_ ?_); (· omega))
          | with_reducible refine vb_i (leq64 _ _ _) ?_
          | with_reducible refine vb_i (eql64 _ _ _) ?_
          | with_reducible refine vb_i (neq64 _ _ _) ?_
          | with_reducible refine vb_i (e_fieldAddr _ _) ?_
          exact ⟨rfl, rfl⟩
        rintro e vs F ⟨rfl, rfl⟩
        repeat first
        | ((with_reducible refine isB_cf ?_ ?_); (· omega))
        | with_reducible refine onE_i ?_
        | with_reducible refine vb_i (eql64 _ _ _) ?_
        | ((with_reducible refine vb_i (add64 ?_ ?_) ?_); (· omega); (· omega))
        exact next hs (by rw [hae]; decide) rfl
      refine vb_recA (q := q2) (x := px) hs.g0 hroot2 rfl ?_
      obtain ⟨F, hc, ek⟩ := right_specW hW (by omega)
      refine cb_i _ _ hc ?_
      have hs := hs.quiet ek
      have hW : RecW F q2 px := hW0.pre (hs.pre fun _ x => x)
      by_cases hg : goodR q2 = true
      case neg =>
        have hg' : goodR q2 = false := by simpa using hg
        rw [hg']
        have hce : checkE q2 = 2 := by unfold checkE; rw [if_neg (by omega), if_neg hg]
        have hae : appE J q2 = 2 := by unfold appE; rw [hce, if_pos (by decide)]
        obtain ⟨rfl, _⟩ := A1 (by rw [hae]; decide)
        rw [hae]
        refine vb_i (v := .bool true) rfl ?_
        refine isB_T ?_
        refine JoinP.mk (fun e vs G => e = .normal ∧ F = G) ?_ ?_
        · repeat first
          | ((with_reducible apply vb_rec33); (· exact hs.g0); (· exact hroot2))
          | ((with_reducible apply vb_lenW); (· exact hW.2))
          | ((with_reducible refine isB_ct ?_ ?_); (· omega))
          | ((with_reducible refine isB_cf ?_ ?_); (· omega))
          | with_reducible refine vb_i (leq64 _ _ _) ?_
          | with_reducible refine vb_i (eql64 _ _ _) ?_
          | with_reducible refine vb_i (neq64 _ _ _) ?_
          | with_reducible refine vb_i (e_fieldAddr _ _) ?_
          exact ⟨rfl, rfl⟩
        rintro e vs G ⟨rfl, rfl⟩
        repeat first
        | ((with_reducible refine isB_cf ?_ ?_); (· omega))
        | with_reducible refine onE_i ?_
        | with_reducible refine vb_i (eql64 _ _ _) ?_
        | ((with_reducible refine vb_i (add64 ?_ ?_) ?_); (· omega); (· omega))
        exact next hs (by rw [hae]; decide) rfl
      rw [hg]
      have hce : checkE q2 = 0 := by unfold checkE; rw [if_neg (by omega), if_pos hg]
      refine vb_i (v := .bool false) rfl ?_
      refine isB_F ?_
      refine vb_i (e_fieldAddr _ _) ?_
      refine vb_rec0 (q := q2) (x := px) hs.g0 ?_
      refine vb_len hs.o3.view ?_
      have hne := g.ne
      refine vb_i (sub64 (by omega) (by omega)) ?_
      refine vb_addr (kd := .i64) (j := (rows.length : Int) - 1) hs.o3.view (by omega) (by omega) ?_
      rw [show ((rows.length : Int) - 1).toNat = rows.length - 1 by omega]
      refine vb_i (e_fieldAddr _ _) ?_
      obtain ⟨rl, hrl, hrl1, _⟩ := g.last
      refine vb_el1 (f := rc) (l := rows) (j := rows.length - 1) hs.o3.view rc_len hrl (o := 0) (x := .int .i64 rl.1.1.seq) rfl ?_
      rw [← hrl1]
      refine vb_i (add64 (by omega) (by omega)) ?_
      refine vb_i (neq64 _ _ _) ?_
      refine isB_c (fun hsq => ?_) (fun hsq => ?_)
      · have hae : appE J q2 = 2 := by unfold appE; rw [hce, if_neg (by decide), if_pos hsq]
        obtain ⟨rfl, _⟩ := A1 (by rw [hae]; decide)
        rw [hae]
        refine JoinP.mk (fun e vs G => e = .normal ∧ F = G) ?_ ?_
        · repeat first
          | ((with_reducible apply vb_rec33); (· exact hs.g0); (· exact hroot2))
          | ((with_reducible apply vb_lenW); (· exact hW.2))
          | ((with_reducible refine isB_ct ?_ ?_); (· omega))
          | ((with_reducible refine isB_cf ?_ ?_); (· omega))
          | with_reducible refine vb_i (leq64 _ _ _) ?_
          | with_reducible refine vb_i (eql64 _ _ _) ?_
          | with_reducible refine vb_i (neq64 _ _ _) ?_
          | with_reducible refine vb_i (e_fieldAddr _ _) ?_
          exact ⟨rfl, rfl⟩
        rintro e vs G ⟨rfl, rfl⟩
        repeat first
        | ((with_reducible refine isB_cf ?_ ?_); (· omega))
        | with_reducible refine onE_i ?_
        | with_reducible refine vb_i (eql64 _ _ _) ?_
        | ((with_reducible refine vb_i (add64 ?_ ?_) ?_); (· omega); (· omega))
        exact next hs (by rw [hae]; decide) rfl
      have hsq := Classical.not_not.1 hsq
      have hlr : lengthR q2.puts.length = (longN q2.puts.length : Nat) := length_long (by omega)
      have hln : (longN q2.puts.length : Int) = 1 + (q2.puts.length : Int) + ((q2.puts.length : Int) + 31) / 32 := by unfold longN; omega
      refine vb_i (add64 (by omega) (by omega)) ?_
      refine vb_i (gtr64 _ _ _) ?_
      refine isB_c (fun h80 => ?_) (fun h80 => ?_)
      · have hnr : ¬ roomP J q2.puts.length := fun h => by have := h.2; omega
        have hae : appE J q2 = 9 := by unfold appE; rw [hce, if_neg (by decide), if_neg (by omega), if_pos hnr]
        obtain ⟨rfl, _⟩ := A1 (by rw [hae]; decide)
        rw [hae]
        refine JoinP.mk (fun e vs G => e = .normal ∧ F = G) ?_ ?_
        · repeat first
          | ((with_reducible apply vb_rec33); (· exact hs.g0); (· exact hroot2))
          | ((with_reducible apply vb_lenW); (· exact hW.2))
          | ((with_reducible refine isB_ct ?_ ?_); (· omega))
          | ((with_reducible refine isB_cf ?_ ?_); (· omega))
          | with_reducible refine vb_i (leq64 _ _ _) ?_
          | with_reducible refine vb_i (eql64 _ _ _) ?_
          | with_reducible refine vb_i (neq64 _ _ _) ?_
          | ((with_reducible refine vb_i (add64 ?_ ?_) ?_); (· omega); (· omega))
          | with_reducible refine vb_i e_boolNe ?_
          | with_reducible refine vb_i (e_fieldAddr _ _) ?_
          exact ⟨rfl, rfl⟩
        rintro e vs G ⟨rfl, rfl⟩
        repeat first
        | ((with_reducible refine isB_cf ?_ ?_); (· omega))
        | with_reducible refine onE_i ?_
        | with_reducible refine vb_i (eql64 _ _ _) ?_
        | ((with_reducible refine vb_i (add64 ?_ ?_) ?_); (· omega); (· omega))
        exact next hs (by rw [hae]; decide) rfl
      have hnr : roomP J q2.puts.length := ⟨by omega, by omega⟩
      have hae : appE J q2 = 0 := by unfold appE; rw [hce, if_neg (by decide), if_neg (by omega), if_neg (by simpa using hnr)]
      obtain ⟨rfl, f', rfl, rfl, hh⟩ := (A2 hae).1 g.fault
      have hu2 : (J.add q2 (layR q2)).used = J.used + (1 + (q2.puts.length : Int) + ((q2.puts.length : Int) + 31) / 32) := by
        show J.used + ((layR q2).length : Int) = _
        rw [lay_len, hln]
      refine JoinP.mk (fun e vs G => e = .normal ∧ F = G) ?_ ?_
      · refine vb_i (neq64 _ _ _) ?_
        refine isB_cf (by decide) ?_
        refine vb_i (eql64 _ _ _) ?_
        refine isB_ct rfl ?_
        refine cb_i _ _ (used_spec hs.g1) ?_
        rw [hu2]
        repeat first
        | ((with_reducible apply vb_rec33); (· exact hs.g0); (· exact hroot2))
        | ((with_reducible apply vb_lenW); (· exact hW.2))
        | ((with_reducible refine isB_ct ?_ ?_); (· omega))
        | ((with_reducible refine isB_cf ?_ ?_); (· omega))
        | with_reducible refine vb_i (leq64 _ _ _) ?_
        | with_reducible refine vb_i (eql64 _ _ _) ?_
        | with_reducible refine vb_i (neq64 _ _ _) ?_
        | ((with_reducible refine vb_i (add64 ?_ ?_) ?_); (· omega); (· omega))
        | with_reducible refine vb_i e_boolNe ?_
        | with_reducible refine vb_i (e_fieldAddr _ _) ?_
        exact ⟨rfl, rfl⟩
      rintro e vs G ⟨rfl, rfl⟩
      refine onE_i ?_
      refine vb_i (eql64 _ _ _) ?_
      refine isB_ct rfl ?_
      refine vb_recA (q := q2) (x := px) hs.g0 hroot2 rfl ?_
      obtain ⟨row2, hrow2⟩ : ∃ row : RC, row = ⟨(q2, px), hroot2⟩ := ⟨_, rfl⟩
      refine s_push (es := 34) (m := 1) (xs := rc row2) hs.f3 (by rw [hrow2]; exact fill_row (rcells_len hroot2) rfl) (by decide) (rc_len row2) (by rw [hrow2]; exact rcells_all hcell) (by unfold room; omega) (by unfold room; omega) fun out' C6 hs => ?_
      refine vb_i (add64 (by omega) (by omega)) ?_
      refine vb_i (add64 (by omega) (by omega)) ?_
      rw [← hu2]
      have g2 := g.push (r := row2) (by rw [hrow2]; exact hW0) (by rw [hrow2]; exact hae) c' f' (by rw [hrow2]; exact hh)
      rw [hrow2] at g2
      have hs := rp_in (X := [_, _, _, _]) (hs.f1.tail.b2 : Sep H0 (fun _ => False) C6 ([_, _, _, _] ++ rparts L w' R))
      have hkl := (keepT_len T2 (nextT J.anchor (layR q2))).2
      refine hk ⟨out', rows ++ [row2], k + 1, w', lw', keepT T2 (nextT J.anchor (layR q2)), J.add q2 (layR q2)⟩ C6 ⟨⟨by dsimp only; omega, by dsimp only; omega, by dsimp only; rw [List.length_append, List.length_singleton]; omega, by dsimp only; omega, ?_⟩, ?_⟩ (by dsimp only; omega)
      · rw [hrow2]
        exact g2.le (by dsimp only; omega)
      · have e1 : flat rc rows ++ rc row2 = flat rc (rows ++ [row2]) := by rw [flat_app, flat_one]
        have e2 : rows.length + 1 = (rows ++ [row2]).length := by simp
        rw [e1, e2] at hs
        exact hs
      done
    · obtain ⟨rfl, _, hs4⟩ := bad hok
      have hs := rp_out (X := [_, _, _]) hs4
      refine vb_i e_ext0 ?_
      refine vb_i e_ext1 ?_
      have hok' := hok
      unfold okSeq at hok'
      refine JoinP.mk (fun e vs D => e = .ret ∧ vs = [.nilp, .nils, .bool true] ∧ C4 = D) ?_ ?_
      · refine vb_i (e_fieldAddr _ _) ?_
        refine vb_rec0 (q := bare q) (x := .nils) hs.g1 ?_
        refine vb_i (lss64 _ _ _) ?_
        refine isB_c (fun h1 => ?_) (fun h1 => ?_)
        · repeat first
          | with_reducible refine isB_T ?_
          | with_reducible refine vb_i (eql64 _ _ _) ?_
          | with_reducible refine vb_i (e_nilNil _) ?_
          exact ⟨rfl, rfl, rfl⟩
        refine vb_i (e_fieldAddr _ _) ?_
        refine vb_rec0 (q := bare q) (x := .nils) hs.g1 ?_
        refine vb_i (gtr64 _ _ _) ?_
        refine isB_ct (by dsimp only at h1 ⊢; omega) ?_
        repeat first
        | with_reducible refine isB_T ?_
        | with_reducible refine vb_i (eql64 _ _ _) ?_
        | with_reducible refine vb_i (e_nilNil _) ?_
        exact ⟨rfl, rfl, rfl⟩
      rintro e vs D ⟨rfl, rfl, rfl⟩
      repeat first
      | with_reducible refine onE_i ?_
      | ((with_reducible refine onE_s ?_ ?_); (· decide))
      try simp only [evB]
      exact fin_ret (rvs_v (rvs_v (rvs_v (rvs_nil _)))) (.inl ⟨hok, rfl, sep_tails (A := R) (X := [_, _, _, _, _, _]) hs⟩))
  exact ⟨r, C, k1, k2⟩
end
end Go.Sh

/- What was appended is loaded. -/
namespace Go.Sh
open Go Go.Abs

def ccells (D A : Int) (q : Rcd) (bx x : AVal) : List AVal := .int .u8 D :: .int .u8 A :: (rcells q bx ++ [x])
section
variable {H0 B : AHeap} {R : List Part} {p b : Nat} {rp op x bx : AVal} {J : JV} {L : RL} {v : RV} {n : Int} {q : Rcd} {i m : Nat} {lv : AVal} {T : List (List UInt8)} {s : List UInt8} {d a D A : Int} {rows : List RC}
theorem cc_rec (h : B[b]? = some (.cells 0 .exact (ccells D A q bx x))) (hr : q.root.length = 32) {K : AVal → Prop} (k : K (recV q bx)) : vb (aLoad B true 34 (.ptr ⟨b, 0, 2⟩)) K :=
  vb_ldP h (by unfold ccells; rw [List.length_cons, List.length_cons, List.length_append, rcells_len hr]; rfl) (by unfold ccells; rw [List.drop_succ_cons, List.drop_succ_cons, List.drop_zero, List.take_left' (rcells_len hr)]) k
theorem cc_x (h : B[b]? = some (.cells 0 .exact (ccells D A q bx x))) (hr : q.root.length = 32) {K : AVal → Prop} (k : K x) : vb (aLoad B false 1 (.ptr ⟨b, 0, 36⟩)) K :=
  vb_ld h (by unfold ccells; rw [List.getElem?_cons_succ, List.getElem?_cons_succ, List.getElem?_append_right (by rw [rcells_len hr]; decide), rcells_len hr]; rfl) k
theorem GSt.used1 (g : GSt H0 s d a v n T J rows) : 1 ≤ J.used ∧ J.used ≤ 80 := by
  have h1 := blocks_len g.good
  have h2 : (qsOf rows).length = rows.length := List.length_map ..
  have h3 := g.ne
  have h4 := g.used.1
  have h5 := g.ok.u
  omega
theorem load_inv {bs : List (List UInt8)} {AN : List UInt8} {J2 : JV} {qs2 : List Rcd} (h : loadR s d a bs AN = some (J2, qs2)) :
    blocksQ qs2 = bs ∧ (∀ q ∈ qs2, GoodQ q) ∧ J2.anchor = AN ∧ J2.anchor = anchorJ (sum (startT d a s)) qs2 ∧ loadFrom (j0 s d a (sum (startT d a s))) false qs2 = some J2 := by
  unfold loadR at h
  split at h
  · cases h
  rename_i hn
  have h0 : (allR bs).2 = 0 := Classical.byContradiction fun h => hn (.inl h)
  obtain ⟨i1, i2⟩ := allR_inv h0
  cases hl : loadFrom (j0 s d a (sum (startT d a s))) false (allR bs).1 with
  | none => rw [hl] at h; cases h
  | some j =>
    rw [hl] at h
    have h : (if j.anchor = AN then some (j, (allR bs).1) else none) = some (J2, qs2) := h
    split at h
    · rename_i ha
      cases h
      exact ⟨i1, i2, ha, load_anchor hl, hl⟩
    · cases h
theorem collide_J {T : List (List UInt8)} (h : pairs T (sums T) T.length ≠ none) : ∃ s t, collideR T = [.str s, .str t, .bool true] := by
  unfold collideR
  rw [sums_len, Nat.min_self]
  cases hp : pairs T (sums T) T.length with
  | none => exact absurd hp h
  | some p => exact ⟨_, _, rfl⟩
/-- Other records of the same anchor: two texts have one sum. -/
theorem clash_of (g : GSt H0 s d a v n T J rows) {T' : List (List UInt8)} (hT : ∀ t ∈ T, t ∈ T') {bs : List (List UInt8)} {J2 : JV} {qs2 : List Rcd} (h : loadR s d a bs J.anchor = some (J2, qs2)) (ht : ∀ t ∈ textsJ (sum (startT d a s)) qs2, t ∈ T') (hne : qs2 ≠ qsOf rows) :
    ∃ s t, collideR T' = [.str s, .str t, .bool true] := by
  refine collide_J fun hp => hne ?_
  obtain ⟨_, h2, h3, h4, _⟩ := load_inv h
  have h5 : J.anchor = anchorJ (sum (startT d a s)) (qsOf rows) := load_anchor (j := j0 s d a (sum (startT d a s))) g.load
  exact rows_apart (no_clash_of hp) (hT _ g.start) _ qs2 (qsOf rows) rfl h2 g.good ht (fun t h => hT t (g.texts t h)) (by rw [← h4, h3, h5])
end
end Go.Sh

/- What was changed is told. -/
namespace Go.Sh
open Go Go.Abs

def S_cellaretlaw15_JrnlChanged : Abs.Spec := fun args H r H' => ∃ (D A at_ : Int) (q : Rcd) (bx x : AVal) (l : List RC) (s : List UInt8), args = [.agg (ccells D A q bx x), .int .u8 at_, .str s] ∧ 0 ≤ D ∧ 0 ≤ A ∧ 0 ≤ at_ ∧ at_ ≤ 255 ∧ q.root.length = 32 ∧
  RowsW H x l ∧ l.length ≤ 9223372036854775807 ∧ (∀ r ∈ l, r.1.1.puts.length ≤ 9223372036854775807) ∧ r = .bool true ∧ H' = H
set_option maxRecDepth 20000 in
theorem cellaretlaw15_JrnlChanged.ok (args : List AVal) (H : AHeap) (r : AVal) (H' : AHeap) (h : S_cellaretlaw15_JrnlChanged args H r H') : ∃ x0 x1 x2, args = [x0, x1, x2] ∧ cellaretlaw15_JrnlChanged.w x0 x1 x2 H fun r1 H1 => Weak H r1 H1 r H' := by
  obtain ⟨DD, A, at_, q, bx, x, l, s, rfl, hD, hA, hat0, hat1, hr, hx, hlen, hpl, rfl, rfl⟩ := h
  refine ⟨_, _, _, rfl, ?_⟩
  unfold cellaretlaw15_JrnlChanged.w
  have hs : Sep H' (fun _ => False) H' [] := Sep.start H'
  refine s_box hs rfl fun b C2 _ hs => ?_
  simp only [AVal.cells] at hs
  refine JoinP.mk (fun e vs D => (e = .ret ∧ vs = [.bool true] ∧ C2 <+: D) ∨ (e = .normal ∧ C2 = D ∧ s.length ≤ 64 ∧ ∀ k, k < 20 → ∀ r, l[k]? = some r → r.1.1.puts.length ≤ 100)) ?_ ?_
  · refine vb_i (e_fieldAddr _ _) ?_
    refine cc_x hs.g0 hr ?_
    obtain ⟨bl, hc, hli⟩ := light_spec15 (hx.pre (hs.pre fun _ x => x)) hlen hpl
    refine cb_i _ _ hc ?_
    cases bl
    · refine vb_i (v := .bool true) rfl ?_
      refine isB_T ?_
      obtain ⟨C, hc, e⟩ := awake15 (B := C2)
      refine cb_i _ _ hc ?_
      exact .inl ⟨rfl, rfl, e⟩
    refine vb_i (v := .bool false) rfl ?_
    refine isB_F ?_
    refine vb_i (e_lenSt _) ?_
    refine vb_i (gtr64 _ _ _) ?_
    refine isB_c (fun h1 => ?_) (fun h1 => ?_)
    · obtain ⟨C, hc, e⟩ := awake15 (B := C2)
      refine cb_i _ _ hc ?_
      exact .inl ⟨rfl, rfl, e⟩
    · exact .inr ⟨rfl, rfl, by omega, hli rfl⟩
  rintro e vs E (⟨rfl, rfl, e⟩ | ⟨rfl, rfl, hsl, hli⟩)
  · repeat first
    | with_reducible refine onE_i ?_
    | ((with_reducible refine onE_s ?_ ?_); (· decide))
    try simp only [evB]
    exact fin_bool rfl ((hs.quiet e).pre fun _ x => x)
  refine onE_i ?_
  obtain ⟨C3, L, hc, kk⟩ := rig_New_spec (B := C2)
  refine cb_i _ _ hc ?_
  have hs : Sep H' (fun _ => False) C3 (rparts L rig0 _) := Sep.call0 hs (kk.own_of fun _ h => h.elim)
  refine cb_i _ _ ⟨rfl, rfl, rfl⟩ ?_
  have hs := orc_new hs
  generalize newO C3 = C4 at hs
  generalize C3.length + 1 = i at *
  generalize C3.length = m at *
  have hs := rp_out (X := [_, _]) (rp_in (X := [_]) hs)
  refine vb_i (e_fieldAddr _ _) ?_
  refine vb_ld hs.g1 rfl ?_
  refine vb_i (e_fieldAddr _ _) ?_
  refine vb_ld hs.g1 rfl ?_
  obtain ⟨C5, hc, e⟩ := where_spec (B := C4) hD hA
  refine cb_i _ _ hc ?_
  have hs := hs.quiet e
  refine s_alloc hs fun w C6 _ hs => ?_
  refine s_storeA hs rfl rfl rfl rfl fun C7 hs => ?_
  refine vb_ldA hs.g0 rfl ?_
  refine vb_i (e_fieldAddr _ _) ?_
  refine cc_rec hs.g2 hr ?_
  refine vb_i (e_fieldAddr _ _) ?_
  refine cc_x hs.g2 hr ?_
  have hd : DD % 2 = 0 ∨ DD % 2 = 1 := by omega
  have ha : A % 2 = 0 ∨ A % 2 = 1 := by omega
  generalize DD % 2 = d at *
  generalize A % 2 = a at *
  have hs := rp_in (X := [_, _, _]) (hs.f1 : Sep H' (fun _ => False) C7 ([_, _, _] ++ rparts L rig0 []))
  obtain ⟨r, C8, hc, hg⟩ := grown_spec (q := q) (bx := bx) hs calm_rig0 rfl (by decide) (by show 0 ≤ 1000; decide) super_len hd ha hr hx hlen hli
  refine cb_i _ _ hc ?_
  rcases hg with ⟨_, rfl, hs⟩ | ⟨_, p, z, rfl, g, tl, rl, hs⟩
  · refine vb_i e_ext0 ?_
    refine vb_i e_ext1 ?_
    refine vb_i e_ext2 ?_
    refine JoinP.mk (fun e vs D => e = .ret ∧ vs = [.bool true] ∧ C8 <+: D) ?_ ?_
    · refine vb_i (v := .bool false) rfl ?_
      refine isB_F ?_
      refine vb_i (e_nilNil _) ?_
      refine isB_T ?_
      refine isB_T ?_
      obtain ⟨C, hc, e⟩ := awake15 (B := C8)
      refine cb_i _ _ hc ?_
      exact ⟨rfl, rfl, e⟩
    rintro e vs E ⟨rfl, rfl, e⟩
    repeat first
    | with_reducible refine onE_i ?_
    | ((with_reducible refine onE_s ?_ ?_); (· decide))
    try simp only [evB]
    exact fin_bool rfl ((hs.quiet e).pre fun _ x => x)
  refine vb_i e_ext0 ?_
  refine vb_i e_ext1 ?_
  refine vb_i e_ext2 ?_
  refine JoinP.mk (fun e vs D => e = .normal ∧ C8 = D) ?_ ?_
  · refine vb_i (v := .bool false) rfl ?_
    refine isB_F ?_
    refine vb_i (e_ptrNil _ _) ?_
    refine isB_F ?_
    exact ⟨rfl, rfl⟩
  rintro e vs E ⟨rfl, rfl⟩
  refine onE_i ?_
  obtain ⟨out, rows, _, v, lv, T, J⟩ := z
  simp only at g hs tl rl ⊢
  have h00 : ([] : List (List UInt8)).length = 0 := rfl
  have hs := (rp_out (X := [_, _, _, _, _]) hs).f1
  obtain ⟨u1, u2⟩ := g.used1
  refine vb_i (e_fieldAddr _ _) ?_
  refine vb_ld hs.g3 rfl ?_
  refine vb_i (e_fieldAddr _ _) ?_
  refine vb_ld hs.g3 rfl ?_
  refine vb_i (mul64 (by omega) (by omega)) ?_
  refine vb_i (add64 (by omega) (by omega)) ?_
  refine vb_i (int_of_int _ (by omega) (by omega)) ?_
  refine cb_i _ _ (used_spec hs.g1) ?_
  refine vb_i (rem64 (by omega) (by omega)) ?_
  have hm0 : 0 ≤ at_ % J.used := Int.emod_nonneg _ (by omega)
  have hm1 : at_ % J.used < J.used := Int.emod_lt_of_pos _ (by omega)
  generalize at_ % J.used = k at hm0 hm1
  refine vb_i (add64 (by omega) (by omega)) ?_
  refine cb_i _ _ ⟨_, 64, rfl, by decide, rfl, rfl⟩ ?_
  have hmay := may_pos hd ha hm0 (i := k) (by omega)
  obtain ⟨c1, f1⟩ := tamper_calm g.calm hmay (full_len hsl)
  obtain ⟨C9, hc, hs⟩ := rig_Tamper_spec (rp_in (X := [_, _, _, _, _]) hs) g.calm.wr d (1 + 80 * a + k) (full s 64)
  refine cb_i _ _ hc ?_
  have hs := rp_out (X := [_, _, _, _, _]) hs
  generalize v.tamper d (1 + 80 * a + k) (full s 64) = v2 at hs c1 f1
  rw [g.fault] at f1
  refine vb_ldA hs.g3 rfl ?_
  refine cb_i _ _ (used_spec hs.g1) ?_
  obtain ⟨C10, hc, e⟩ := anchor_spec hs.g1 g.ok
  refine cb_i _ _ hc ?_
  have hs := hs.quiet e
  obtain ⟨r, C11, v3, lv3, T3, hc, c3, tl3, m3, _, _, b3⟩ := load_spec (s := superT) (d := d) (a := a) (A := J.anchor) (rp_in (X := [_, _, _, _, _]) hs) c1 (by omega) (by omega) super_len hd ha J.used g.ok.anchor (.inl f1)
  obtain ⟨_, _, b3, b4⟩ := b3 u1 u2 f1
  refine cb_i _ _ hc ?_
  cases hlr : loadR superT d a (rdL v2 d a J.used.toNat) J.anchor with
  | none =>
    obtain ⟨rfl, hs⟩ := b3 hlr
    refine vb_i e_ext0 ?_
    refine vb_i e_ext1 ?_
    refine vb_i e_ext2 ?_
    refine vb_i (eql64 _ _ _) ?_
    refine isB_ct rfl ?_
    obtain ⟨G2, hc, e3⟩ := awake15 (B := C11)
    refine cb_i _ _ hc ?_
    refine isB_T ?_
    refine vb_i e_lenNil ?_
    refine vb_i (eql64 _ _ _) ?_
    exact fin_bool rfl ((hs.quiet e3).pre fun _ x => x)
  | some y =>
    obtain ⟨J2, qs2⟩ := y
    obtain ⟨_, ht, _, p2, out2, rows2, rfl, hm2, hs⟩ := b4 _ _ hlr
    have hs := rp_out (X := [_, _, _, _, _, _, _, _]) hs
    have hq2 := (load_inv hlr).2.1
    refine vb_i e_ext0 ?_
    refine vb_i e_ext1 ?_
    refine vb_i e_ext2 ?_
    refine vb_i (eql64 _ _ _) ?_
    refine isB_cf (by decide) ?_
    refine vb_i (neq64 _ _ _) ?_
    refine isB_cf (by decide) ?_
    refine vb_len hs.o1.view ?_
    refine vb_len hs.o5.view ?_
    refine vb_i (eql64 _ _ _) ?_
    refine LoopP.ruleG (α := Bool × Nat) (fun z => [.bool z.1, .int .i64 (z.2 : Int)]) (fun z D => ((z.1 = false → qs2 ≠ qsOf rows) ∧ z.2 ≤ rows.length) ∧ C11 <+: D) (fun z => rows.length - z.2) (decide ((rows2.length : Int) = (rows.length : Int)), 0) (by simp)
      ⟨⟨fun h e => ?_, Nat.zero_le _⟩, List.prefix_refl _⟩ ?_
    · have h := of_decide_eq_false h
      have h2 := congrArg List.length (hm2.trans e)
      rw [List.length_map, List.length_map] at h2
      omega
    rintro ⟨sm, k2⟩ D Kn ⟨⟨hsm, hkr⟩, e⟩ hk
    simp only at hsm hkr
    unfold cellaretlaw15_JrnlChanged.L16 cellaretlaw15_JrnlChanged.L16.b
    try simp only [evB]
    have hs := hs.quiet e
    refine JoinP.mk (fun e vs F => D = F ∧ ((e = .normal ∧ k2 < rows2.length ∧ k2 < rows.length) ∨ (e = .exit 0))) ?_ ?_
    · refine vb_len hs.o1.view ?_
      refine vb_i (lss64 _ _ _) ?_
      refine isB_c (fun h1 => ?_) (fun h1 => ?_)
      · refine vb_len hs.o5.view ?_
        refine vb_i (lss64 _ _ _) ?_
        refine isB_c (fun h2 => ⟨rfl, .inl ⟨rfl, by omega, by omega⟩⟩) (fun h2 => ⟨rfl, .inr rfl⟩)
      · exact ⟨rfl, .inr rfl⟩
    rintro e2 vs F ⟨rfl, ⟨rfl, h1, h2⟩ | rfl⟩
    · refine onE_s (by decide) ?_
      refine onE_i ?_
      cases sm
      · refine isB_F ?_
        refine vb_i (add64 (by omega) (by omega)) ?_
        exact hk (false, k2 + 1) _ ⟨⟨hsm, h2⟩, e⟩ (by dsimp only; omega)
      · refine isB_T ?_
        have hb := List.getElem?_eq_getElem h2
        have hb2 := List.getElem?_eq_getElem h1
        have hrW := g.recs _ (List.getElem_mem h2)
        have hpl2 := hq2 rows2[k2].1.1 (by rw [← hm2]; exact List.mem_map_of_mem (List.getElem_mem h1))
        have he : qs2 = qsOf rows → rows2[k2].1.1 = rows[k2].1.1 := fun e => by
          rw [e] at hm2
          have := congrArg (fun l => l[k2]?) hm2
          simp only [qsOf, List.getElem?_map, hb, hb2] at this
          simpa using this
        generalize rows[k2] = r1 at hb he hrW
        generalize rows2[k2] = r2 at hb2 he hpl2
        refine vb_addrN hs.o1.view (by omega) ?_
        refine vb_elN (f := rc) hs.o1.view rc_len hb2 ?_
        refine vb_addrN hs.o5.view h2 ?_
        refine vb_elN (f := rc) hs.o5.view rc_len hb ?_
        have hw2 : RecW D r2.1.1 r2.1.2 := ⟨r2.2, .inl (recs_view hs.tail.tail.head hb2)⟩
        obtain ⟨F, hc, ef⟩ := ref_same_specW hw2 (hrW.pre (hs.pre fun _ x => x)) (by have := hpl2.few; omega)
        refine cb_i _ _ hc ?_
        refine vb_i (add64 (by omega) (by omega)) ?_
        exact hk (decide (r2.1.1 = r1.1.1), k2 + 1) _ ⟨⟨fun h e => of_decide_eq_false h (he e), h2⟩, e.trans ef⟩ (by dsimp only; omega)
    refine onE_i ?_
    refine onE_i ?_
    try simp only [evB]
    cases sm
    · refine isB_F ?_
      obtain ⟨s1, s2, hcl⟩ := clash_of g m3 hlr ht (hsm rfl)
      have hcs := Collide_spec (T := T3) (B := D) (i := i) hs.f3 (by omega)
      rw [hcl] at hcs
      refine cb_i _ _ hcs ?_
      refine vb_i e_ext0 ?_
      refine vb_i e_ext1 ?_
      refine vb_i e_ext2 ?_
      obtain ⟨G2, hc, e3⟩ := awake15 (B := D)
      refine cb_i _ _ hc ?_
      refine isB_T ?_
      exact fin_bool rfl ((hs.quiet e3).pre fun _ x => x)
    · refine isB_T ?_
      obtain ⟨G2, hc, e3⟩ := awake15 (B := D)
      refine cb_i _ _ hc ?_
      exact fin_bool rfl ((hs.quiet e3).pre fun _ x => x)
end Go.Sh

/- What a rig does not do is told. -/
namespace Go.Sh
open Go Go.Abs

end Go.Sh

/- What any records are appended as. -/
namespace Go.Sh
open Go Go.Abs

end Go.Sh

/- A nil journal does nothing. -/
namespace Go.Sh
open Go Go.Abs

section
variable {H0 B : AHeap} {b : Nat} {px : AVal} {q : Rcd} {d a n : Int} {s : List UInt8} {K : AVal → Prop}
end
end Go.Sh

/- Arguments: a device, an area, a base, records. -/
namespace Go.Sh
open Go Go.Abs
section
variable {H : Type} {P : Program} {B : AHeap} {top : Bool}
theorem arg_vwJ {β : Type} {t e : TypeId} {a : AVal} {d : DataW H} (f : β → List AVal) (hf : ∀ b, (f b).length = P.cellsOf e) (ht : P.underlying t = some (.slice e)) (h : Arg P B top t [a] d)
    (each : ∀ cs (d : DataW H), Arg P B false e cs d → ∃ b, cs = f b) : ∃ l : List β, Vw B a (P.cellsOf e) l.length (flat f l) ∧ l.length ≤ maxLen := by
  rcases Arg.slice_inv ht h with ⟨h1, h2⟩ | ⟨_, i, h1, _⟩ | ⟨i, off, len, cap, cs', elems, spare, h1, rfl, hb, hc, hm, he, hs, hl, ha⟩
  · cases h1
    exact ⟨[], .inl ⟨by simp [flat], .inl ⟨rfl, rfl⟩⟩, Nat.zero_le _⟩
  · cases h1
    exact ⟨[], .inr ⟨rfl, rfl, i, rfl⟩, Nat.zero_le _⟩
  · cases h1
    have h' : Arg P B true t [.slice ⟨i, 1, off⟩ len (.ex cap)] (.slice elems spare) := .slice ht hb hc hm he hs hl ha
    obtain ⟨l, hv, hl, _⟩ := h'.viewR f (fun _ _ => True) hf ht (fun cs d hd => by obtain ⟨b, hb⟩ := each cs d hd; exact ⟨b, hb, trivial⟩)
    exact ⟨l, .inl hv, hl⟩
theorem pts_vw {t e : TypeId} {a : AVal} {d : DataW H} (ht : P.underlying t = some (.slice e)) (hk : flatK P 9 e = some [.int .i64, .str]) (hc : P.cellsOf e = 2) (h : Arg P B top t [a] d) :
    ∃ l : List Pt, Vw B a 2 l.length (flat ptc l) ∧ l.length ≤ 9223372036854775807 := by
  obtain ⟨l, hv, hl⟩ := arg_vwJ ptc (fun b => by rw [ptc_len, hc]) ht h (fun cs d hd => by
    obtain ⟨_, _, rfl, ⟨n, rfl, _⟩, _, _, rfl, ⟨s, rfl, _⟩, rfl⟩ := Arg.fit 9 e _ hk cs d hd
    exact ⟨⟨n, s⟩, rfl⟩)
  rw [hc] at hv
  exact ⟨l, hv, Nat.le_trans hl (by decide)⟩
theorem rec_fit {p q : TypeId} {ks : List Fk} {cs : List AVal} (hp : P.underlying p = some (.slice q)) (hq : flatK P 9 q = some [.int .i64, .str]) (hqc : P.cellsOf q = 2) (h : Fit H P B top (.int .i64 :: (List.replicate 32 (.int .u8) ++ (.sl p :: ks))) cs) :
    ∃ (r : Rcd) (x : AVal) (cs' : List AVal), cs = rcells r x ++ cs' ∧ RecW B r x ∧ r.puts.length ≤ 9223372036854775807 ∧ Fit H P B top ks cs' := by
  obtain ⟨_, cs1, rfl, ⟨seq, rfl, _⟩, hf⟩ := h
  obtain ⟨root, cs2, hr, rfl, hf2⟩ := hf.bytes
  obtain ⟨pv, cs3, rfl, ⟨dp, hpv⟩, hf3⟩ := hf2
  obtain ⟨ps, hps, hpl⟩ := pts_vw hp hq hqc hpv
  exact ⟨⟨seq, root, ps⟩, pv, cs3, by simp [rcells], ⟨hr, hps⟩, hpl, hf3⟩
theorem rows_of {t e p q : TypeId} {x : AVal} {d : DataW H} (ht : P.underlying t = some (.slice e)) (hc : P.cellsOf e = 34) (hk : flatK P 9 e = some (.int .i64 :: (List.replicate 32 (.int .u8) ++ [.sl p])))
    (hp : P.underlying p = some (.slice q)) (hq : flatK P 9 q = some [.int .i64, .str]) (hqc : P.cellsOf q = 2) (h : Arg P B true t [x] d) :
    ∃ l : List RC, RowsW B x l ∧ l.length ≤ 9223372036854775807 ∧ ∀ r ∈ l, r.1.1.puts.length ≤ 9223372036854775807 := by
  obtain ⟨l, hv, hl, hR⟩ := h.viewR rc (fun r _ => RecW B r.1.1 r.1.2 ∧ r.1.1.puts.length ≤ 9223372036854775807) (fun r => by rw [rc_len, hc]) ht (fun cs d hd => by
    obtain ⟨r, x, cs', rfl, h1, h2, h3⟩ := rec_fit (ks := []) hp hq hqc (Arg.fit 9 e _ hk cs d hd)
    simp only [Fit] at h3
    subst h3
    exact ⟨⟨(r, x), h1.1⟩, List.append_nil _, h1, h2⟩)
  rw [hc] at hv
  have hm : ∀ r ∈ l, RecW B r.1.1 r.1.2 ∧ r.1.1.puts.length ≤ 9223372036854775807 := by
    intro r hr
    rcases hR with rfl | ⟨elems, spare, _, hR⟩
    · cases hr
    · obtain ⟨k, hk⟩ := List.getElem?_of_mem hr
      obtain ⟨_, _, h⟩ := hR k r hk
      exact h
  exact ⟨l, ⟨.inl hv, fun r hr => (hm r hr).1⟩, Nat.le_trans hl (by decide), fun r hr => (hm r hr).2⟩
theorem case_in {t e p q c : TypeId} {x : AVal} {d : DataW H} (hs : structT P c = true) (hkc : flatK P 9 c = some (.int .u8 :: .int .u8 :: .int .i64 :: (List.replicate 32 (.int .u8) ++ [.sl p, .sl t])))
    (ht : P.underlying t = some (.slice e)) (hc : P.cellsOf e = 34) (hk : flatK P 9 e = some (.int .i64 :: (List.replicate 32 (.int .u8) ++ [.sl p])))
    (hp : P.underlying p = some (.slice q)) (hq : flatK P 9 q = some [.int .i64, .str]) (hqc : P.cellsOf q = 2) (h : ArgV P B c x d) :
    ∃ (D A : Int) (r : Rcd) (bx y : AVal) (l : List RC), x = .agg (ccells D A r bx y) ∧ 0 ≤ D ∧ 0 ≤ A ∧ r.root.length = 32 ∧ RowsW B y l ∧ l.length ≤ 9223372036854775807 ∧ ∀ r ∈ l, r.1.1.puts.length ≤ 9223372036854775807 := by
  obtain ⟨cs, rfl, hf⟩ := h.fit 9 _ hs hkc
  obtain ⟨_, _, rfl, ⟨D, rfl, hD, _⟩, _, _, rfl, ⟨A, rfl, hA, _⟩, hf⟩ := hf
  obtain ⟨r, bx, cs', rfl, h1, h2, h3⟩ := rec_fit hp hq hqc hf
  obtain ⟨y, _, rfl, ⟨dy, hy⟩, rfl⟩ := h3
  obtain ⟨l, hl, h4, h5⟩ := rows_of ht hc hk hp hq hqc hy
  exact ⟨D, A, r, bx, y, l, rfl, hD, hA, h1.1, hl, h4, h5⟩
end
end Go.Sh
