/- One text of these: Plan0, PlanW1, PlanP1, PlanP2, PlanP3, PlanP4, PlanP5, PlanP6, PlanP7, PlanP8, PlanP9, PlanQ, PlanA. -/
import Derived.Test.YtgepelnaibjllaaOver
import Derived.Test.YtgepelnaibjllaaRecB
import Derived.Test.YtgepelnaibjllaaAbsE
import Derived.Test.YtgepelnaibjllaaAbsF

/- Plans: records' blocks; slices that came in, empty ones without a block too. -/
namespace Go.Sh
open Go Go.Abs

abbrev S_sortPuts26 : Abs.Spec := S_sortPuts 26
def toP (p : Pt) : PutV := (p.pos, p.b)
theorem flat_toP (l : List Pt) : flat ptc l = flat putC (l.map toP) := by
  unfold flat
  rw [List.map_map]
  rfl
/-- A slice that is read; an empty one may have no block. -/
def Vw (B : AHeap) (sv : AVal) (es n : Nat) (cs : List AVal) : Prop := View B sv es n cs ∨ (n = 0 ∧ cs = [] ∧ ∃ i, sv = .slice ⟨i, 0, 0⟩ 0 (.ex 0))
theorem view_vw {B : AHeap} {sv : AVal} {es n : Nat} {cs : List AVal} (h : View B sv es n cs) : Vw B sv es n cs := .inl h
theorem vb_lenW {B : AHeap} {sv : AVal} {es n : Nat} {cs : List AVal} {K : AVal → Prop} (h : Vw B sv es n cs) (k : K (.int .i64 n)) : vb (lenSl sv) K := by
  rcases h with h | ⟨rfl, rfl, i, rfl⟩
  · exact vb_len h k
  · exact vb_i (v := .int .i64 (0 : Nat)) rfl k
theorem Vw.at {B : AHeap} {sv : AVal} {es n : Nat} {cs : List AVal} (h : Vw B sv es n cs) {k : Nat} (hk : k < n) : View B sv es n cs := by
  rcases h with h | ⟨rfl, _⟩
  · exact h
  · omega
theorem view_pre {B C : AHeap} {sv : AVal} {es n : Nat} {cs : List AVal} (h : View B sv es n cs) (p : B <+: C) : View C sv es n cs := ((Sep.start B).quiet p).view h (fun _ _ h => h)
theorem Vw.pre {B C : AHeap} {sv : AVal} {es n : Nat} {cs : List AVal} (h : Vw B sv es n cs) (p : B <+: C) : Vw C sv es n cs := h.imp (fun h => view_pre h p) id
theorem src_vw {B : AHeap} {x : AVal} {es m : Nat} {xs : List AVal} (h : Vw B x es m xs) : srcLen x = some m ∧ srcCells B es m x = some xs ∧ (∀ s, x ≠ .str s) := by
  rcases h with h | ⟨rfl, rfl, i, rfl⟩
  · exact src_view h
  · exact ⟨rfl, by simp [srcCells], fun s e => by cases e⟩
/-- append(s, x..), x.. in view -/
theorem s_appw {H0 B : AHeap} {own : Nat → Prop} {R : List Part} {K : AVal → AHeap → Prop} {sv x : AVal} {es bytes n m : Nat} {cs xs : List AVal} (h : Sep H0 own B (.sl sv es n cs :: R)) (he : 0 < es) (hl : xs.length = m * es) (hx : Vw B x es m xs) (hc : xs.all AVal.isCell = true) (h1 : (n + m) * bytes ≤ room) (h2 : n + m ≤ room)
    (k : ∀ sv' C, Sep H0 own C (.sl sv' es (n + m) (cs ++ xs) :: R) → K sv' C) : hb (aAppendS B es bytes sv x) K := by
  obtain ⟨e1, e2, e3⟩ := src_vw hx
  refine s_to h he hl hc h1 h2 ?_ k
  rw [aAppendS_eq e3]; simp only [aAppend, e1, e2]
/-- Records that came in. -/
abbrev Rc := { q : Rcd // q.root.length = 32 }
def recC (r : Rc × AVal) : List AVal := rcells r.1.1 r.2
theorem recC_len (r : Rc × AVal) : (recC r).length = 34 := rcells_len r.1.2
abbrev Rc.puts (r : Rc × AVal) : List PutV := r.1.1.puts.map toP
def recsAt (B : AHeap) (x : AVal) (l : List (Rc × AVal)) : Prop := View B x 34 l.length (flat recC l) ∧ ∀ r ∈ l, Vw B r.2 2 (Rc.puts r).length (flat putC (Rc.puts r))
theorem recsAt.pre {B C : AHeap} {x : AVal} {l : List (Rc × AVal)} (h : recsAt B x l) (p : B <+: C) : recsAt C x l := ⟨view_pre h.1 p, fun r hr => (h.2 r hr).pre p⟩
def allL (l : List (Rc × AVal)) : List PutV := (l.map Rc.puts).flatten
def planL (l : List (Rc × AVal)) : List PutV := setAll [] (allL l)
/-- Both lists' blocks, the second one's last. -/
def S_plan_Behind : Abs.Spec := fun args H r H' => ∃ (x y : AVal) (a b : List PutV), args = [x, y] ∧ Vw H x 2 a.length (flat putC a) ∧ Vw H y 2 b.length (flat putC b) ∧ x.sc = true ∧ y.sc = true ∧ a.length ≤ 1048576 ∧ b.length ≤ 1048576 ∧
  ((setAll (setAll [] a) b = [] ∧ r = .nils ∧ H' = H) ∨ (setAll (setAll [] a) b ≠ [] ∧ r = .slice ⟨H.length, 0, 0⟩ (setAll (setAll [] a) b).length (.op 2) ∧ H' = H ++ [.cells 0 .opn (flat putC (setAll (setAll [] a) b))]))
theorem plan_Behind.quiet {args : List AVal} {H : AHeap} {r : AVal} {H' : AHeap} (h : S_plan_Behind args H r H') : H <+: H' := by
  obtain ⟨x, y, a, b, _, _, _, _, _, _, _, ⟨_, _, rfl⟩ | ⟨_, _, rfl⟩⟩ := h
  · exact List.prefix_refl _
  · exact pre_app _ _
theorem setAll_self {l : List PutV} (h : Rising l) : setAll [] l = l := by rw [setAll_rise (by simpa using h), List.nil_append]
end Go.Sh

/- What Go functions come to over abstract values, printed by a program (wx.py); of each function its own text is what is told of it. -/
namespace Go.Sh
open Go Go.Abs

def plan_Behind.L6.b (v13 : AVal) (v12 : AVal) (v1 : AVal) (x24_6 : AVal) (H14 : AHeap) (Kn15 : List AVal → AHeap → Prop) (Ke16 : AExit → List AVal → AHeap → Prop) : Prop :=
  vb (aBin .lss x24_6 v13) fun v17 =>
  isB v17 fun b18 => cond b18
    (vb (aIndexAddr 2 v12 x24_6) fun v19 =>
    vb (aLoad H14 true 2 v19) fun v20 =>
    hb (aAlloc H14 [.int .i64 0, .str []]) fun v21 H22 =>
    sb (aStore H22 2 v21 v20) fun H23 =>
    vb (aFieldAddr 0 v21) fun v24 =>
    vb (aLoad H23 false 1 v24) fun v25 =>
    hb (aDelete H23 (.int .i64) v1 v25) fun v26 H27 =>
    vb (aFieldAddr 0 v21) fun v28 =>
    vb (aLoad H27 false 1 v28) fun v29 =>
    vb (aFieldAddr 1 v21) fun v30 =>
    vb (aLoad H27 false 1 v30) fun v31 =>
    sb (aMapUpdate H27 (.int .i64) v1 v29 v31) fun H32 =>
    vb (aBin .add x24_6 (.int .i64 1)) fun v33 =>
    Kn15 [v33] H32)
    (Ke16 (.exit 2) [] H14)

def plan_Behind.L6 (v13 : AVal) (v12 : AVal) (v1 : AVal) : Body := fun vs H Kn Ke => plan_Behind.L6.b v13 v12 v1 (vs.getD 0 .undef) H Kn Ke

def plan_Behind.L3.b (v5 : AVal) (v3 : AVal) (v1 : AVal) (x18_3 : AVal) (H6 : AHeap) (Kn7 : List AVal → AHeap → Prop) (Ke8 : AExit → List AVal → AHeap → Prop) : Prop :=
  vb (aBin .lss x18_3 v5) fun v9 =>
  isB v9 fun b10 => cond b10
    (vb (aIndexAddr 1 v3 x18_3) fun v11 =>
    vb (aLoad H6 false 1 v11) fun v12 =>
    vb (lenSl v12) fun v13 =>
    LoopP (plan_Behind.L6 v13 v12 v1) [.int .i64 0] H6 fun e34 vs35 H36 =>
      onE e34 (.exit 2)
        (vb (aBin .add x18_3 (.int .i64 1)) fun v37 =>
        Kn7 [v37] H36)
      (False))
    (Ke8 (.exit 0) [] H6)

def plan_Behind.L3 (v5 : AVal) (v3 : AVal) (v1 : AVal) : Body := fun vs H Kn Ke => plan_Behind.L3.b v5 v3 v1 (vs.getD 0 .undef) H Kn Ke

def plan_Behind.L14.b (v41 : AVal) (x10_14 : AVal) (H43 : AHeap) (Kn44 : List AVal → AHeap → Prop) (Ke45 : AExit → List AVal → AHeap → Prop) : Prop :=
  nxP v41 H43 fun v46 b47 H48 =>
  isB (.bool b47) fun b49 => cond b49
    (vb (aEntry H48 v41) fun v50 =>
    vb (aExtract v50 0) fun v51 =>
    vb (aExtract v50 1) fun v52 =>
    vb (aBuild [.int .i64 0, .str []] (fun k => ([(0, 1), (1, 1)] : List (Nat × Nat))[k]?) [(0, v51), (1, v52)]) fun v53 =>
    hb (aBuildSlice H48 2 [.int .i64 0, .str []] 1 [(0, v53)]) fun v54 H55 =>
    hb (aAppendS H55 2 24 x10_14 v54) fun v56 H57 =>
    Kn44 [v56] H57)
    (Ke45 (.exit 4) [x10_14] H48)

def plan_Behind.L14 (v41 : AVal) : Body := fun vs H Kn Ke => plan_Behind.L14.b v41 (vs.getD 0 .undef) H Kn Ke

def plan_Behind.w (x0 : AVal) (x1 : AVal) (H : AHeap) (K : AVal → AHeap → Prop) : Prop :=
  hb (aMakeMap H) fun v1 H2 =>
  hb (aBuildSlice H2 1 [.nils] 2 [(0, x0), (1, x1)]) fun v3 H4 =>
  vb (lenSl v3) fun v5 =>
  LoopP (plan_Behind.L3 v5 v3 v1) [.int .i64 0] H4 fun e38 vs39 H40 =>
    onE e38 (.exit 0)
      (hb (aRangeMap H40 v1) fun v41 H42 =>
      LoopP (plan_Behind.L14 v41) [.nils] H42 fun e58 vs59 H60 =>
        onE e58 (.exit 4)
          (cb (S_sortPuts26 [vs59.getD 0 .undef, .func (.func 26) [] []] H60) fun v61 H62 =>
          fin .ret [.v (vs59.getD 0 .undef)] H62 K)
        (False))
    (False)

def plan_Of.L2.b (v1 : AVal) (x0 : AVal) (x12_2 : AVal) (H2 : AHeap) (Kn3 : List AVal → AHeap → Prop) (Ke4 : AExit → List AVal → AHeap → Prop) : Prop :=
  vb (aBin .lss x12_2 v1) fun v5 =>
  isB v5 fun b6 => cond b6
    (vb (aIndexAddr 34 x0 x12_2) fun v7 =>
    vb (aLoad H2 true 34 v7) fun v8 =>
    hb (aAlloc H2 [.int .i64 0, .int .u8 0, .int .u8 0, .int .u8 0, .int .u8 0, .int .u8 0, .int .u8 0, .int .u8 0, .int .u8 0, .int .u8 0, .int .u8 0, .int .u8 0, .int .u8 0, .int .u8 0, .int .u8 0, .int .u8 0, .int .u8 0, .int .u8 0, .int .u8 0, .int .u8 0, .int .u8 0, .int .u8 0, .int .u8 0, .int .u8 0, .int .u8 0, .int .u8 0, .int .u8 0, .int .u8 0, .int .u8 0, .int .u8 0, .int .u8 0, .int .u8 0, .int .u8 0, .nils]) fun v9 H10 =>
    sb (aStore H10 34 v9 v8) fun H11 =>
    vb (aLoad H11 true 34 v9) fun v12 =>
    cb (S_record_Check [v12] H11) fun v13 H14 =>
    vb (aBin .neq v13 (.int .i64 0)) fun v15 =>
    isB v15 fun b16 => cond b16
      (Ke4 .ret [.nils, v13] H14)
      (vb (aBin .add x12_2 (.int .i64 1)) fun v17 =>
      Kn3 [v17] H14))
    (Ke4 (.exit 0) [.undef, .undef] H2)

def plan_Of.L2 (v1 : AVal) (x0 : AVal) : Body := fun vs H Kn Ke => plan_Of.L2.b v1 x0 (vs.getD 0 .undef) H Kn Ke

def plan_Of.L10.b (v21 : AVal) (x0 : AVal) (x7_10 : AVal) (x24_10 : AVal) (H22 : AHeap) (Kn23 : List AVal → AHeap → Prop) (Ke24 : AExit → List AVal → AHeap → Prop) : Prop :=
  vb (aBin .lss x24_10 v21) fun v25 =>
  isB v25 fun b26 => cond b26
    (vb (aIndexAddr 34 x0 x24_10) fun v27 =>
    vb (aLoad H22 true 34 v27) fun v28 =>
    hb (aAlloc H22 [.int .i64 0, .int .u8 0, .int .u8 0, .int .u8 0, .int .u8 0, .int .u8 0, .int .u8 0, .int .u8 0, .int .u8 0, .int .u8 0, .int .u8 0, .int .u8 0, .int .u8 0, .int .u8 0, .int .u8 0, .int .u8 0, .int .u8 0, .int .u8 0, .int .u8 0, .int .u8 0, .int .u8 0, .int .u8 0, .int .u8 0, .int .u8 0, .int .u8 0, .int .u8 0, .int .u8 0, .int .u8 0, .int .u8 0, .int .u8 0, .int .u8 0, .int .u8 0, .int .u8 0, .nils]) fun v29 H30 =>
    sb (aStore H30 34 v29 v28) fun H31 =>
    vb (aFieldAddr 33 v29) fun v32 =>
    vb (aLoad H31 false 1 v32) fun v33 =>
    cb (S_plan_Behind [x7_10, v33] H31) fun v34 H35 =>
    vb (aBin .add x24_10 (.int .i64 1)) fun v36 =>
    Kn23 [v34, v36] H35)
    (Ke24 (.exit 2) [x7_10] H22)

def plan_Of.L10 (v21 : AVal) (x0 : AVal) : Body := fun vs H Kn Ke => plan_Of.L10.b v21 x0 (vs.getD 0 .undef) (vs.getD 1 .undef) H Kn Ke

def plan_Of.w (x0 : AVal) (H : AHeap) (K : AVal → AHeap → Prop) : Prop :=
  vb (lenSl x0) fun v1 =>
  LoopP (plan_Of.L2 v1 x0) [.int .i64 0] H fun e18 vs19 H20 =>
    onE e18 (.exit 0)
      (vb (lenSl x0) fun v21 =>
      LoopP (plan_Of.L10 v21 x0) [.nils, .int .i64 0] H20 fun e37 vs38 H39 =>
        onE e37 (.exit 2)
          (fin .ret [.v (vs38.getD 0 .undef), .v (.int .i64 0)] H39 K)
        (False))
    (onE e18 .ret
      (fin .ret [.v (vs19.getD 0 .undef), .v (vs19.getD 1 .undef)] H20 K)
    (False))

def S_plan_Of : Abs.Spec := fun args H r H' => ∃ x0 : AVal, args = [x0] ∧ (plan_Of.w x0 H fun r1 H1 => r1 = r ∧ H1 = H') ∧ H <+: H'
theorem plan_Of.ok (args : List AVal) (H : AHeap) (r : AVal) (H' : AHeap) (h : S_plan_Of args H r H') : ∃ x0 : AVal, args = [x0] ∧ plan_Of.w x0 H fun r1 H1 => r1 = r ∧ H1 = H' := by
  obtain ⟨x0, h1, h2, _⟩ := h
  exact ⟨x0, h1, h2⟩
theorem plan_Of.quiet {args : List AVal} {H : AHeap} {r : AVal} {H' : AHeap} (h : S_plan_Of args H r H') : H <+: H' := by
  obtain ⟨_, _, _, h⟩ := h
  exact h
set_option maxRecDepth 100000 in
theorem plan_Of.ex (x0 : AVal) (H : AHeap) : Ex fun K : AVal × AHeap → Prop => plan_Of.w x0 H fun r H => K (r, H) := by
  unfold plan_Of.w
  repeat with_reducible first
    | exact Ex.pt _
    | exact Ex.fin
    | exact Ex.no
    | refine Ex.vb fun _ => ?_
    | refine Ex.hb fun _ _ => ?_
    | refine Ex.sb fun _ => ?_
    | refine Ex.cb fun _ _ => ?_
    | refine Ex.isB fun _ => ?_
    | refine Ex.cond ?_ ?_
    | refine Ex.onE ?_ ?_
    | refine Ex.join ?_ fun _ _ _ => ?_
    | refine Ex.loop (fun _ _ => ?_) fun _ _ _ => ?_
    | (unfold plan_Of.L2; unfold plan_Of.L2.b)
    | (unfold plan_Of.L10; unfold plan_Of.L10.b)

theorem plan_Of.out {x0 : AVal} {H : AHeap} {Q : AVal → AHeap → Prop} (h : plan_Of.w x0 H fun r H' => H <+: H' ∧ Q r H') : ∃ r H', S_plan_Of [x0] H r H' ∧ Q r H' := by
  obtain ⟨r, H', h1, h2⟩ := (plan_Of.ex x0 H).out h
  exact ⟨r, H', ⟨_, rfl, h1, h2.1⟩, h2.2⟩

def plan_Root.w (x0 : AVal) (H : AHeap) (K : AVal → AHeap → Prop) : Prop :=
  hb (aAlloc H (List.replicate 32 (.int .u8 0))) fun v1 H2 =>
  vb (lenSl x0) fun v3 =>
  vb (aBin .eql v3 (.int .i64 0)) fun v4 =>
  isB v4 fun b5 => cond b5
    (vb (aBuild (List.replicate 32 (.int .u8 0)) (fun k => some (k * 1, 1)) []) fun v6 =>
    sb (aStore H2 32 v1 v6) fun H7 =>
    fin .ret [.c true 32 (v1), .v (.int .i64 7)] H7 K)
    (vb (lenSl x0) fun v8 =>
    vb (aBin .sub v8 (.int .i64 1)) fun v9 =>
    vb (aIndexAddr 34 x0 v9) fun v10 =>
    vb (aFieldAddr 1 v10) fun v11 =>
    vb (aLoad H2 true 32 v11) fun v12 =>
    sb (aStore H2 32 v1 v12) fun H13 =>
    fin .ret [.c true 32 (v1), .v (.int .i64 0)] H13 K)

def S_plan_Root : Abs.Spec := fun args H r H' => ∃ x0 : AVal, args = [x0] ∧ (plan_Root.w x0 H fun r1 H1 => r1 = r ∧ H1 = H') ∧ H <+: H'
theorem plan_Root.ok (args : List AVal) (H : AHeap) (r : AVal) (H' : AHeap) (h : S_plan_Root args H r H') : ∃ x0 : AVal, args = [x0] ∧ plan_Root.w x0 H fun r1 H1 => r1 = r ∧ H1 = H' := by
  obtain ⟨x0, h1, h2, _⟩ := h
  exact ⟨x0, h1, h2⟩
theorem plan_Root.quiet {args : List AVal} {H : AHeap} {r : AVal} {H' : AHeap} (h : S_plan_Root args H r H') : H <+: H' := by
  obtain ⟨_, _, _, h⟩ := h
  exact h
set_option maxRecDepth 100000 in
theorem plan_Root.ex (x0 : AVal) (H : AHeap) : Ex fun K : AVal × AHeap → Prop => plan_Root.w x0 H fun r H => K (r, H) := by
  unfold plan_Root.w
  repeat with_reducible first
    | exact Ex.pt _
    | exact Ex.fin
    | exact Ex.no
    | refine Ex.vb fun _ => ?_
    | refine Ex.hb fun _ _ => ?_
    | refine Ex.sb fun _ => ?_
    | refine Ex.cb fun _ _ => ?_
    | refine Ex.isB fun _ => ?_
    | refine Ex.cond ?_ ?_
    | refine Ex.onE ?_ ?_
    | refine Ex.join ?_ fun _ _ _ => ?_
    | refine Ex.loop (fun _ _ => ?_) fun _ _ _ => ?_

theorem plan_Root.out {x0 : AVal} {H : AHeap} {Q : AVal → AHeap → Prop} (h : plan_Root.w x0 H fun r H' => H <+: H' ∧ Q r H') : ∃ r H', S_plan_Root [x0] H r H' ∧ Q r H' := by
  obtain ⟨r, H', h1, h2⟩ := (plan_Root.ex x0 H).out h
  exact ⟨r, H', ⟨_, rfl, h1, h2.1⟩, h2.2⟩

def plan_right.L4.b (v4 : AVal) (x1 : AVal) (x12_4 : AVal) (H5 : AHeap) (Kn6 : List AVal → AHeap → Prop) (Ke7 : AExit → List AVal → AHeap → Prop) : Prop :=
  vb (aBin .lss x12_4 v4) fun v8 =>
  isB v8 fun b9 => cond b9
    (vb (aIndexAddr 2 x1 x12_4) fun v10 =>
    vb (aLoad H5 true 2 v10) fun v11 =>
    hb (aAlloc H5 [.int .i64 0, .str []]) fun v12 H13 =>
    sb (aStore H13 2 v12 v11) fun H14 =>
    vb (aFieldAddr 0 v12) fun v15 =>
    vb (aLoad H14 false 1 v15) fun v16 =>
    vb (aBin .lss v16 (.int .i64 0)) fun v17 =>
    isB v17 fun b18 => cond b18
      (Ke7 .ret [.int .i64 3] H14)
      (vb (aFieldAddr 0 v12) fun v19 =>
      vb (aLoad H14 false 1 v19) fun v20 =>
        vb (aBin .geq v20 (.int .i64 288)) fun v21 =>
          isB v21 fun b22 => cond b22
            (Ke7 .ret [.int .i64 3] H14)
            (vb (aFieldAddr 1 v12) fun v23 =>
            vb (aLoad H14 false 1 v23) fun v24 =>
            vb (lenSt v24) fun v25 =>
            vb (aBin .neq v25 (.int .i64 64)) fun v26 =>
            isB v26 fun b27 => cond b27
              (Ke7 .ret [.int .i64 6] H14)
              (vb (aBin .add x12_4 (.int .i64 1)) fun v28 =>
              Kn6 [v28] H14))))
    (Ke7 (.exit 0) [.undef] H5)

def plan_right.L4 (v4 : AVal) (x1 : AVal) : Body := fun vs H Kn Ke => plan_right.L4.b v4 x1 (vs.getD 0 .undef) H Kn Ke

def plan_right.w (x0 : AVal) (x1 : AVal) (H : AHeap) (K : AVal → AHeap → Prop) : Prop :=
  vb (lenSt x0) fun v1 =>
  vb (aBin .neq v1 (.int .i64 18432)) fun v2 =>
  isB v2 fun b3 => cond b3
    (fin .ret [.v (.int .i64 6)] H K)
    (vb (lenSl x1) fun v4 =>
    LoopP (plan_right.L4 v4 x1) [.int .i64 0] H fun e29 vs30 H31 =>
      onE e29 (.exit 0)
        (fin .ret [.v (.int .i64 0)] H31 K)
      (onE e29 .ret
        (fin .ret [.v (vs30.getD 0 .undef)] H31 K)
      (False)))

def S_plan_right : Abs.Spec := fun args H r H' => ∃ x0 x1 : AVal, args = [x0, x1] ∧ (plan_right.w x0 x1 H fun r1 H1 => r1 = r ∧ H1 = H') ∧ H <+: H'
theorem plan_right.ok (args : List AVal) (H : AHeap) (r : AVal) (H' : AHeap) (h : S_plan_right args H r H') : ∃ x0 x1 : AVal, args = [x0, x1] ∧ plan_right.w x0 x1 H fun r1 H1 => r1 = r ∧ H1 = H' := by
  obtain ⟨x0, x1, h1, h2, _⟩ := h
  exact ⟨x0, x1, h1, h2⟩
theorem plan_right.quiet {args : List AVal} {H : AHeap} {r : AVal} {H' : AHeap} (h : S_plan_right args H r H') : H <+: H' := by
  obtain ⟨_, _, _, _, h⟩ := h
  exact h
set_option maxRecDepth 100000 in
theorem plan_right.ex (x0 x1 : AVal) (H : AHeap) : Ex fun K : AVal × AHeap → Prop => plan_right.w x0 x1 H fun r H => K (r, H) := by
  unfold plan_right.w
  repeat with_reducible first
    | exact Ex.pt _
    | exact Ex.fin
    | exact Ex.no
    | refine Ex.vb fun _ => ?_
    | refine Ex.hb fun _ _ => ?_
    | refine Ex.sb fun _ => ?_
    | refine Ex.cb fun _ _ => ?_
    | refine Ex.isB fun _ => ?_
    | refine Ex.cond ?_ ?_
    | refine Ex.onE ?_ ?_
    | refine Ex.join ?_ fun _ _ _ => ?_
    | refine Ex.loop (fun _ _ => ?_) fun _ _ _ => ?_
    | (unfold plan_right.L4; unfold plan_right.L4.b)

theorem plan_right.out {x0 x1 : AVal} {H : AHeap} {Q : AVal → AHeap → Prop} (h : plan_right.w x0 x1 H fun r H' => H <+: H' ∧ Q r H') : ∃ r H', S_plan_right [x0, x1] H r H' ∧ Q r H' := by
  obtain ⟨r, H', h1, h2⟩ := (plan_right.ex x0 x1 H).out h
  exact ⟨r, H', ⟨_, _, rfl, h1, h2.1⟩, h2.2⟩

def plan_Apply_1.w (x0 : AVal) (x1 : AVal) (H : AHeap) (K : AVal → AHeap → Prop) : Prop :=
  hb (aBox H x0) fun v1 H2 =>
  vb (aLoad H2 false 1 x1) fun v3 =>
  vb (aFieldAddr 0 v1) fun v4 =>
  vb (aLoad H2 false 1 v4) fun v5 =>
  vb (aBin .mul (.int .i64 64) v5) fun v6 =>
  vb (aSlice H2 1 v3 (some v6) none none) fun v7 =>
  vb (aFieldAddr 1 v1) fun v8 =>
  vb (aLoad H2 false 1 v8) fun v9 =>
  hb (aCopy H2 1 v7 v9) fun v10 H11 =>
  fin .normal [] H11 K

def S_plan_Apply_1 : Abs.Spec := fun args H r H' => ∃ x0 x1 : AVal, args = [x0, x1] ∧ (plan_Apply_1.w x0 x1 H fun r1 H1 => r1 = r ∧ H1 = H')
theorem plan_Apply_1.ok (args : List AVal) (H : AHeap) (r : AVal) (H' : AHeap) (h : S_plan_Apply_1 args H r H') : ∃ x0 x1 : AVal, args = [x0, x1] ∧ plan_Apply_1.w x0 x1 H fun r1 H1 => r1 = r ∧ H1 = H' := by
  obtain ⟨x0, x1, h1, h2⟩ := h
  exact ⟨x0, x1, h1, h2⟩
set_option maxRecDepth 100000 in
theorem plan_Apply_1.ex (x0 x1 : AVal) (H : AHeap) : Ex fun K : AVal × AHeap → Prop => plan_Apply_1.w x0 x1 H fun r H => K (r, H) := by
  unfold plan_Apply_1.w
  repeat with_reducible first
    | exact Ex.pt _
    | exact Ex.fin
    | exact Ex.no
    | refine Ex.vb fun _ => ?_
    | refine Ex.hb fun _ _ => ?_
    | refine Ex.sb fun _ => ?_
    | refine Ex.cb fun _ _ => ?_
    | refine Ex.isB fun _ => ?_
    | refine Ex.cond ?_ ?_
    | refine Ex.onE ?_ ?_
    | refine Ex.join ?_ fun _ _ _ => ?_
    | refine Ex.loop (fun _ _ => ?_) fun _ _ _ => ?_

theorem plan_Apply_1.out {x0 x1 : AVal} {H : AHeap} {Q : AVal → AHeap → Prop} (h : plan_Apply_1.w x0 x1 H fun r H' => Q r H') : ∃ r H', S_plan_Apply_1 [x0, x1] H r H' ∧ Q r H' := by
  obtain ⟨r, H', h1, h2⟩ := (plan_Apply_1.ex x0 x1 H).out h
  exact ⟨r, H', ⟨_, _, rfl, h1⟩, h2⟩

def plan_Apply.L7.b (v10 : AVal) (x1 : AVal) (v7 : AVal) (x22_7 : AVal) (H11 : AHeap) (Kn12 : List AVal → AHeap → Prop) (Ke13 : AExit → List AVal → AHeap → Prop) : Prop :=
  vb (aBin .lss x22_7 v10) fun v14 =>
  isB v14 fun b15 => cond b15
    (vb (aIndexAddr 2 x1 x22_7) fun v16 =>
    vb (aLoad H11 true 2 v16) fun v17 =>
    hb (aAlloc H11 [.int .i64 0, .str []]) fun v18 H19 =>
    sb (aStore H19 2 v18 v17) fun H20 =>
    vb (aLoad H20 true 2 v18) fun v21 =>
    cb (S_plan_Apply_1 [v21, v7] H20) fun v22 H23 =>
    vb (aBin .add x22_7 (.int .i64 1)) fun v24 =>
    Kn12 [v24] H23)
    (Ke13 (.exit 0) [] H11)

def plan_Apply.L7 (v10 : AVal) (x1 : AVal) (v7 : AVal) : Body := fun vs H Kn Ke => plan_Apply.L7.b v10 x1 v7 (vs.getD 0 .undef) H Kn Ke

def plan_Apply.w (x0 : AVal) (x1 : AVal) (H : AHeap) (K : AVal → AHeap → Prop) : Prop :=
  cb (S_plan_right [x0, x1] H) fun v1 H2 =>
  vb (aBin .neq v1 (.int .i64 0)) fun v3 =>
  isB v3 fun b4 => cond b4
    (fin .ret [.v (.str []), .v (v1)] H2 K)
    (hb (aStr2Bytes H2 x0) fun v5 H6 =>
    hb (aAlloc H6 [.nils]) fun v7 H8 =>
    sb (aStore H8 1 v7 v5) fun H9 =>
    vb (lenSl x1) fun v10 =>
    LoopP (plan_Apply.L7 v10 x1 v7) [.int .i64 0] H9 fun e25 vs26 H27 =>
      onE e25 (.exit 0)
        (vb (aLoad H27 false 1 v7) fun v28 =>
        vb (aBytes2Str H27 v28) fun v29 =>
        fin .ret [.v (v29), .v (.int .i64 0)] H27 K)
      (False))

def S_plan_Apply : Abs.Spec := fun args H r H' => ∃ x0 x1 : AVal, args = [x0, x1] ∧ (plan_Apply.w x0 x1 H fun r1 H1 => r1 = r ∧ H1 = H') ∧ H <+: H'
theorem plan_Apply.ok (args : List AVal) (H : AHeap) (r : AVal) (H' : AHeap) (h : S_plan_Apply args H r H') : ∃ x0 x1 : AVal, args = [x0, x1] ∧ plan_Apply.w x0 x1 H fun r1 H1 => r1 = r ∧ H1 = H' := by
  obtain ⟨x0, x1, h1, h2, _⟩ := h
  exact ⟨x0, x1, h1, h2⟩
theorem plan_Apply.quiet {args : List AVal} {H : AHeap} {r : AVal} {H' : AHeap} (h : S_plan_Apply args H r H') : H <+: H' := by
  obtain ⟨_, _, _, _, h⟩ := h
  exact h
set_option maxRecDepth 100000 in
theorem plan_Apply.ex (x0 x1 : AVal) (H : AHeap) : Ex fun K : AVal × AHeap → Prop => plan_Apply.w x0 x1 H fun r H => K (r, H) := by
  unfold plan_Apply.w
  repeat with_reducible first
    | exact Ex.pt _
    | exact Ex.fin
    | exact Ex.no
    | refine Ex.vb fun _ => ?_
    | refine Ex.hb fun _ _ => ?_
    | refine Ex.sb fun _ => ?_
    | refine Ex.cb fun _ _ => ?_
    | refine Ex.isB fun _ => ?_
    | refine Ex.cond ?_ ?_
    | refine Ex.onE ?_ ?_
    | refine Ex.join ?_ fun _ _ _ => ?_
    | refine Ex.loop (fun _ _ => ?_) fun _ _ _ => ?_
    | (unfold plan_Apply.L7; unfold plan_Apply.L7.b)

theorem plan_Apply.out {x0 x1 : AVal} {H : AHeap} {Q : AVal → AHeap → Prop} (h : plan_Apply.w x0 x1 H fun r H' => H <+: H' ∧ Q r H') : ∃ r H', S_plan_Apply [x0, x1] H r H' ∧ Q r H' := by
  obtain ⟨r, H', h1, h2⟩ := (plan_Apply.ex x0 x1 H).out h
  exact ⟨r, H', ⟨_, _, rfl, h1, h2.1⟩, h2.2⟩

def plan_Missing.L6.b (v5 : AVal) (x1 : AVal) (x0 : AVal) (x7_6 : AVal) (x18_6 : AVal) (H6 : AHeap) (Kn7 : List AVal → AHeap → Prop) (Ke8 : AExit → List AVal → AHeap → Prop) : Prop :=
  vb (aBin .lss x18_6 v5) fun v9 =>
  isB v9 fun b10 => cond b10
    (vb (aIndexAddr 2 x1 x18_6) fun v11 =>
    vb (aLoad H6 true 2 v11) fun v12 =>
    hb (aAlloc H6 [.int .i64 0, .str []]) fun v13 H14 =>
    sb (aStore H14 2 v13 v12) fun H15 =>
    vb (aFieldAddr 0 v13) fun v16 =>
    vb (aLoad H15 false 1 v16) fun v17 =>
    vb (aBin .mul (.int .i64 64) v17) fun v18 =>
    vb (aFieldAddr 0 v13) fun v19 =>
    vb (aLoad H15 false 1 v19) fun v20 =>
    vb (aBin .add v20 (.int .i64 1)) fun v21 =>
    vb (aBin .mul (.int .i64 64) v21) fun v22 =>
    vb (aSliceStr x0 (some v18) (some v22)) fun v23 =>
    vb (aFieldAddr 1 v13) fun v24 =>
    vb (aLoad H15 false 1 v24) fun v25 =>
    vb (aBin .neq v23 v25) fun v26 =>
    isB v26 fun b27 => cond b27
      (vb (aFieldAddr 0 v13) fun v28 =>
      vb (aLoad H15 false 1 v28) fun v29 =>
      hb (aBuildSlice H15 1 [.int .i64 0] 1 [(0, v29)]) fun v30 H31 =>
      hb (aAppendS H31 1 8 x7_6 v30) fun v32 H33 =>
      vb (aBin .add x18_6 (.int .i64 1)) fun v34 =>
      Kn7 [v32, v34] H33)
      (vb (aBin .add x18_6 (.int .i64 1)) fun v35 =>
      Kn7 [x7_6, v35] H15))
    (Ke8 (.exit 0) [x7_6] H6)

def plan_Missing.L6 (v5 : AVal) (x1 : AVal) (x0 : AVal) : Body := fun vs H Kn Ke => plan_Missing.L6.b v5 x1 x0 (vs.getD 0 .undef) (vs.getD 1 .undef) H Kn Ke

def plan_Missing.w (x0 : AVal) (x1 : AVal) (H : AHeap) (K : AVal → AHeap → Prop) : Prop :=
  cb (S_plan_right [x0, x1] H) fun v1 H2 =>
  vb (aBin .neq v1 (.int .i64 0)) fun v3 =>
  isB v3 fun b4 => cond b4
    (fin .ret [.v (.nils), .v (v1)] H2 K)
    (vb (lenSl x1) fun v5 =>
    LoopP (plan_Missing.L6 v5 x1 x0) [.nils, .int .i64 0] H2 fun e36 vs37 H38 =>
      onE e36 (.exit 0)
        (fin .ret [.v (vs37.getD 0 .undef), .v (.int .i64 0)] H38 K)
      (False))

def S_plan_Missing : Abs.Spec := fun args H r H' => ∃ x0 x1 : AVal, args = [x0, x1] ∧ (plan_Missing.w x0 x1 H fun r1 H1 => r1 = r ∧ H1 = H') ∧ H <+: H'
theorem plan_Missing.ok (args : List AVal) (H : AHeap) (r : AVal) (H' : AHeap) (h : S_plan_Missing args H r H') : ∃ x0 x1 : AVal, args = [x0, x1] ∧ plan_Missing.w x0 x1 H fun r1 H1 => r1 = r ∧ H1 = H' := by
  obtain ⟨x0, x1, h1, h2, _⟩ := h
  exact ⟨x0, x1, h1, h2⟩
theorem plan_Missing.quiet {args : List AVal} {H : AHeap} {r : AVal} {H' : AHeap} (h : S_plan_Missing args H r H') : H <+: H' := by
  obtain ⟨_, _, _, _, h⟩ := h
  exact h
set_option maxRecDepth 100000 in
theorem plan_Missing.ex (x0 x1 : AVal) (H : AHeap) : Ex fun K : AVal × AHeap → Prop => plan_Missing.w x0 x1 H fun r H => K (r, H) := by
  unfold plan_Missing.w
  repeat with_reducible first
    | exact Ex.pt _
    | exact Ex.fin
    | exact Ex.no
    | refine Ex.vb fun _ => ?_
    | refine Ex.hb fun _ _ => ?_
    | refine Ex.sb fun _ => ?_
    | refine Ex.cb fun _ _ => ?_
    | refine Ex.isB fun _ => ?_
    | refine Ex.cond ?_ ?_
    | refine Ex.onE ?_ ?_
    | refine Ex.join ?_ fun _ _ _ => ?_
    | refine Ex.loop (fun _ _ => ?_) fun _ _ _ => ?_
    | (unfold plan_Missing.L6; unfold plan_Missing.L6.b)

theorem plan_Missing.out {x0 x1 : AVal} {H : AHeap} {Q : AVal → AHeap → Prop} (h : plan_Missing.w x0 x1 H fun r H' => H <+: H' ∧ Q r H') : ∃ r H', S_plan_Missing [x0, x1] H r H' ∧ Q r H' := by
  obtain ⟨r, H', h1, h2⟩ := (plan_Missing.ex x0 x1 H).out h
  exact ⟨r, H', ⟨_, _, rfl, h1, h2.1⟩, h2.2⟩

def cellaretlaw32_light.L2.b (x0 : AVal) (x3_2 : AVal) (H1 : AHeap) (Kn2 : List AVal → AHeap → Prop) (Ke3 : AExit → List AVal → AHeap → Prop) : Prop :=
  JoinP (fun Kj4 => vb (lenSl x0) fun v5 =>
    vb (aBin .lss x3_2 v5) fun v6 =>
    isB v6 fun b7 => cond b7
      (vb (aBin .lss x3_2 (.int .i64 80)) fun v8 =>
        isB v8 fun b9 => cond b9
          (Kj4 .normal [] H1)
          (Kj4 (.exit 0) [] H1))
      (Kj4 (.exit 0) [] H1))
  (fun e10 vs11 H12 =>
    onE e10 (.exit 0)
      (Ke3 (.exit 0) [.undef] H12)
    (onE e10 .normal
      (vb (aIndexAddr 2 x0 x3_2) fun v13 =>
      vb (aFieldAddr 1 v13) fun v14 =>
      vb (aLoad H12 false 1 v14) fun v15 =>
      vb (lenSt v15) fun v16 =>
      vb (aBin .gtr v16 (.int .i64 200)) fun v17 =>
      isB v17 fun b18 => cond b18
        (Ke3 .ret [.bool false] H12)
        (vb (aBin .add x3_2 (.int .i64 1)) fun v19 =>
        Kn2 [v19] H12))
    (False)))

def cellaretlaw32_light.L2 (x0 : AVal) : Body := fun vs H Kn Ke => cellaretlaw32_light.L2.b x0 (vs.getD 0 .undef) H Kn Ke

def cellaretlaw32_light.w (x0 : AVal) (H : AHeap) (K : AVal → AHeap → Prop) : Prop :=
  LoopP (cellaretlaw32_light.L2 x0) [.int .i64 0] H fun e20 vs21 H22 =>
    onE e20 (.exit 0)
      (vb (lenSl x0) fun v23 =>
      vb (aBin .lss v23 (.int .i64 80)) fun v24 =>
      fin .ret [.v (v24)] H22 K)
    (onE e20 .ret
      (fin .ret [.v (vs21.getD 0 .undef)] H22 K)
    (False))

def S_cellaretlaw32_light : Abs.Spec := fun args H r H' => ∃ x0 : AVal, args = [x0] ∧ (cellaretlaw32_light.w x0 H fun r1 H1 => r1 = r ∧ H1 = H') ∧ H <+: H'
theorem cellaretlaw32_light.ok (args : List AVal) (H : AHeap) (r : AVal) (H' : AHeap) (h : S_cellaretlaw32_light args H r H') : ∃ x0 : AVal, args = [x0] ∧ cellaretlaw32_light.w x0 H fun r1 H1 => r1 = r ∧ H1 = H' := by
  obtain ⟨x0, h1, h2, _⟩ := h
  exact ⟨x0, h1, h2⟩
theorem cellaretlaw32_light.quiet {args : List AVal} {H : AHeap} {r : AVal} {H' : AHeap} (h : S_cellaretlaw32_light args H r H') : H <+: H' := by
  obtain ⟨_, _, _, h⟩ := h
  exact h
set_option maxRecDepth 100000 in
theorem cellaretlaw32_light.ex (x0 : AVal) (H : AHeap) : Ex fun K : AVal × AHeap → Prop => cellaretlaw32_light.w x0 H fun r H => K (r, H) := by
  unfold cellaretlaw32_light.w
  repeat with_reducible first
    | exact Ex.pt _
    | exact Ex.fin
    | exact Ex.no
    | refine Ex.vb fun _ => ?_
    | refine Ex.hb fun _ _ => ?_
    | refine Ex.sb fun _ => ?_
    | refine Ex.cb fun _ _ => ?_
    | refine Ex.isB fun _ => ?_
    | refine Ex.cond ?_ ?_
    | refine Ex.onE ?_ ?_
    | refine Ex.join ?_ fun _ _ _ => ?_
    | refine Ex.loop (fun _ _ => ?_) fun _ _ _ => ?_
    | (unfold cellaretlaw32_light.L2; unfold cellaretlaw32_light.L2.b)

theorem cellaretlaw32_light.out {x0 : AVal} {H : AHeap} {Q : AVal → AHeap → Prop} (h : cellaretlaw32_light.w x0 H fun r H' => H <+: H' ∧ Q r H') : ∃ r H', S_cellaretlaw32_light [x0] H r H' ∧ Q r H' := by
  obtain ⟨r, H', h1, h2⟩ := (cellaretlaw32_light.ex x0 H).out h
  exact ⟨r, H', ⟨_, rfl, h1, h2.1⟩, h2.2⟩

def cellaretlaw32_few.L2.b (x0 : AVal) (x3_2 : AVal) (H1 : AHeap) (Kn2 : List AVal → AHeap → Prop) (Ke3 : AExit → List AVal → AHeap → Prop) : Prop :=
  JoinP (fun Kj4 => vb (lenSl x0) fun v5 =>
    vb (aBin .lss x3_2 v5) fun v6 =>
    isB v6 fun b7 => cond b7
      (vb (aBin .lss x3_2 (.int .i64 10)) fun v8 =>
        isB v8 fun b9 => cond b9
          (Kj4 .normal [] H1)
          (Kj4 (.exit 0) [] H1))
      (Kj4 (.exit 0) [] H1))
  (fun e10 vs11 H12 =>
    onE e10 (.exit 0)
      (Ke3 (.exit 0) [.undef] H12)
    (onE e10 .normal
      (vb (aIndexAddr 34 x0 x3_2) fun v13 =>
      vb (aFieldAddr 33 v13) fun v14 =>
      vb (aLoad H12 false 1 v14) fun v15 =>
      cb (S_cellaretlaw32_light [v15] H12) fun v16 H17 =>
      vb (aUn .not v16) fun v18 =>
      isB v18 fun b19 => cond b19
        (Ke3 .ret [.bool false] H17)
        (vb (aBin .add x3_2 (.int .i64 1)) fun v20 =>
        Kn2 [v20] H17))
    (False)))

def cellaretlaw32_few.L2 (x0 : AVal) : Body := fun vs H Kn Ke => cellaretlaw32_few.L2.b x0 (vs.getD 0 .undef) H Kn Ke

def cellaretlaw32_few.w (x0 : AVal) (H : AHeap) (K : AVal → AHeap → Prop) : Prop :=
  LoopP (cellaretlaw32_few.L2 x0) [.int .i64 0] H fun e21 vs22 H23 =>
    onE e21 (.exit 0)
      (vb (lenSl x0) fun v24 =>
      vb (aBin .leq v24 (.int .i64 10)) fun v25 =>
      fin .ret [.v (v25)] H23 K)
    (onE e21 .ret
      (fin .ret [.v (vs22.getD 0 .undef)] H23 K)
    (False))

def S_cellaretlaw32_few : Abs.Spec := fun args H r H' => ∃ x0 : AVal, args = [x0] ∧ (cellaretlaw32_few.w x0 H fun r1 H1 => r1 = r ∧ H1 = H') ∧ H <+: H'
theorem cellaretlaw32_few.ok (args : List AVal) (H : AHeap) (r : AVal) (H' : AHeap) (h : S_cellaretlaw32_few args H r H') : ∃ x0 : AVal, args = [x0] ∧ cellaretlaw32_few.w x0 H fun r1 H1 => r1 = r ∧ H1 = H' := by
  obtain ⟨x0, h1, h2, _⟩ := h
  exact ⟨x0, h1, h2⟩
theorem cellaretlaw32_few.quiet {args : List AVal} {H : AHeap} {r : AVal} {H' : AHeap} (h : S_cellaretlaw32_few args H r H') : H <+: H' := by
  obtain ⟨_, _, _, h⟩ := h
  exact h
set_option maxRecDepth 100000 in
theorem cellaretlaw32_few.ex (x0 : AVal) (H : AHeap) : Ex fun K : AVal × AHeap → Prop => cellaretlaw32_few.w x0 H fun r H => K (r, H) := by
  unfold cellaretlaw32_few.w
  repeat with_reducible first
    | exact Ex.pt _
    | exact Ex.fin
    | exact Ex.no
    | refine Ex.vb fun _ => ?_
    | refine Ex.hb fun _ _ => ?_
    | refine Ex.sb fun _ => ?_
    | refine Ex.cb fun _ _ => ?_
    | refine Ex.isB fun _ => ?_
    | refine Ex.cond ?_ ?_
    | refine Ex.onE ?_ ?_
    | refine Ex.join ?_ fun _ _ _ => ?_
    | refine Ex.loop (fun _ _ => ?_) fun _ _ _ => ?_
    | (unfold cellaretlaw32_few.L2; unfold cellaretlaw32_few.L2.b)

theorem cellaretlaw32_few.out {x0 : AVal} {H : AHeap} {Q : AVal → AHeap → Prop} (h : cellaretlaw32_few.w x0 H fun r H' => H <+: H' ∧ Q r H') : ∃ r H', S_cellaretlaw32_few [x0] H r H' ∧ Q r H' := by
  obtain ⟨r, H', h1, h2⟩ := (cellaretlaw32_few.ex x0 H).out h
  exact ⟨r, H', ⟨_, rfl, h1, h2.1⟩, h2.2⟩

def cellaretlaw32_image.w (x0 : AVal) (x1 : AVal) (H : AHeap) (K : AVal → AHeap → Prop) : Prop :=
  JoinP (fun Kj1 => vb (lenSt x0) fun v2 =>
    vb (aBin .gtr v2 (.int .i64 18432)) fun v3 =>
    isB v3 fun b4 => cond b4
      (vb (aSliceStr x0 none (some (.int .i64 18432))) fun v5 =>
      Kj1 .normal [v5] H)
      (Kj1 .normal [x0] H))
  (fun e6 vs7 H8 =>
    onE e6 .normal
      (cb (S_cellaretref01_Full [vs7.getD 0 .undef, .int .i64 18432] H8) fun v9 H10 =>
      isB x1 fun b11 => cond b11
        (vb (aSliceStr v9 (some (.int .i64 1)) none) fun v12 =>
        fin .ret [.v (v12)] H10 K)
        (fin .ret [.v (v9)] H10 K))
    (False))

def S_cellaretlaw32_image : Abs.Spec := fun args H r H' => ∃ x0 x1 : AVal, args = [x0, x1] ∧ (cellaretlaw32_image.w x0 x1 H fun r1 H1 => r1 = r ∧ H1 = H') ∧ H <+: H'
theorem cellaretlaw32_image.ok (args : List AVal) (H : AHeap) (r : AVal) (H' : AHeap) (h : S_cellaretlaw32_image args H r H') : ∃ x0 x1 : AVal, args = [x0, x1] ∧ cellaretlaw32_image.w x0 x1 H fun r1 H1 => r1 = r ∧ H1 = H' := by
  obtain ⟨x0, x1, h1, h2, _⟩ := h
  exact ⟨x0, x1, h1, h2⟩
theorem cellaretlaw32_image.quiet {args : List AVal} {H : AHeap} {r : AVal} {H' : AHeap} (h : S_cellaretlaw32_image args H r H') : H <+: H' := by
  obtain ⟨_, _, _, _, h⟩ := h
  exact h
set_option maxRecDepth 100000 in
theorem cellaretlaw32_image.ex (x0 x1 : AVal) (H : AHeap) : Ex fun K : AVal × AHeap → Prop => cellaretlaw32_image.w x0 x1 H fun r H => K (r, H) := by
  unfold cellaretlaw32_image.w
  repeat with_reducible first
    | exact Ex.pt _
    | exact Ex.fin
    | exact Ex.no
    | refine Ex.vb fun _ => ?_
    | refine Ex.hb fun _ _ => ?_
    | refine Ex.sb fun _ => ?_
    | refine Ex.cb fun _ _ => ?_
    | refine Ex.isB fun _ => ?_
    | refine Ex.cond ?_ ?_
    | refine Ex.onE ?_ ?_
    | refine Ex.join ?_ fun _ _ _ => ?_
    | refine Ex.loop (fun _ _ => ?_) fun _ _ _ => ?_

theorem cellaretlaw32_image.out {x0 x1 : AVal} {H : AHeap} {Q : AVal → AHeap → Prop} (h : cellaretlaw32_image.w x0 x1 H fun r H' => H <+: H' ∧ Q r H') : ∃ r H', S_cellaretlaw32_image [x0, x1] H r H' ∧ Q r H' := by
  obtain ⟨r, H', h1, h2⟩ := (cellaretlaw32_image.ex x0 x1 H).out h
  exact ⟨r, H', ⟨_, _, rfl, h1, h2.1⟩, h2.2⟩

def cellaretref32_Right.L4.b (x1 : AVal) (x5_4 : AVal) (H4 : AHeap) (Kn5 : List AVal → AHeap → Prop) (Ke6 : AExit → List AVal → AHeap → Prop) : Prop :=
  vb (lenSl x1) fun v7 =>
  vb (aBin .lss x5_4 v7) fun v8 =>
  isB v8 fun b9 => cond b9
    (JoinP (fun Kj10 => vb (aIndexAddr 2 x1 x5_4) fun v11 =>
      vb (aFieldAddr 0 v11) fun v12 =>
      vb (aLoad H4 false 1 v12) fun v13 =>
      vb (aBin .lss v13 (.int .i64 0)) fun v14 =>
      isB v14 fun b15 => cond b15
        (Kj10 .ret [.int .i64 3] H4)
        (vb (aIndexAddr 2 x1 x5_4) fun v16 =>
            vb (aFieldAddr 0 v16) fun v17 =>
              vb (aLoad H4 false 1 v17) fun v18 =>
                vb (aBin .gtr v18 (.int .i64 287)) fun v19 =>
                  isB v19 fun b20 => cond b20
                    (Kj10 .ret [.int .i64 3] H4)
                    (Kj10 .normal [.undef] H4)))
    (fun e21 vs22 H23 =>
      onE e21 .normal
        (vb (aIndexAddr 2 x1 x5_4) fun v24 =>
        vb (aFieldAddr 1 v24) fun v25 =>
        vb (aLoad H23 false 1 v25) fun v26 =>
        vb (lenSt v26) fun v27 =>
        vb (aBin .neq v27 (.int .i64 64)) fun v28 =>
        isB v28 fun b29 => cond b29
          (Ke6 .ret [.int .i64 6] H23)
          (vb (aBin .add x5_4 (.int .i64 1)) fun v30 =>
          Kn5 [v30] H23))
      (onE e21 .ret
        (Ke6 .ret [vs22.getD 0 .undef] H23)
      (False))))
    (Ke6 (.exit 0) [.undef] H4)

def cellaretref32_Right.L4 (x1 : AVal) : Body := fun vs H Kn Ke => cellaretref32_Right.L4.b x1 (vs.getD 0 .undef) H Kn Ke

def cellaretref32_Right.w (x0 : AVal) (x1 : AVal) (H : AHeap) (K : AVal → AHeap → Prop) : Prop :=
  vb (lenSt x0) fun v1 =>
  vb (aBin .neq v1 (.int .i64 18432)) fun v2 =>
  isB v2 fun b3 => cond b3
    (fin .ret [.v (.int .i64 6)] H K)
    (LoopP (cellaretref32_Right.L4 x1) [.int .i64 0] H fun e31 vs32 H33 =>
      onE e31 (.exit 0)
        (fin .ret [.v (.int .i64 0)] H33 K)
      (onE e31 .ret
        (fin .ret [.v (vs32.getD 0 .undef)] H33 K)
      (False)))

def S_cellaretref32_Right : Abs.Spec := fun args H r H' => ∃ x0 x1 : AVal, args = [x0, x1] ∧ (cellaretref32_Right.w x0 x1 H fun r1 H1 => r1 = r ∧ H1 = H') ∧ H <+: H'
theorem cellaretref32_Right.ok (args : List AVal) (H : AHeap) (r : AVal) (H' : AHeap) (h : S_cellaretref32_Right args H r H') : ∃ x0 x1 : AVal, args = [x0, x1] ∧ cellaretref32_Right.w x0 x1 H fun r1 H1 => r1 = r ∧ H1 = H' := by
  obtain ⟨x0, x1, h1, h2, _⟩ := h
  exact ⟨x0, x1, h1, h2⟩
theorem cellaretref32_Right.quiet {args : List AVal} {H : AHeap} {r : AVal} {H' : AHeap} (h : S_cellaretref32_Right args H r H') : H <+: H' := by
  obtain ⟨_, _, _, _, h⟩ := h
  exact h
set_option maxRecDepth 100000 in
theorem cellaretref32_Right.ex (x0 x1 : AVal) (H : AHeap) : Ex fun K : AVal × AHeap → Prop => cellaretref32_Right.w x0 x1 H fun r H => K (r, H) := by
  unfold cellaretref32_Right.w
  repeat with_reducible first
    | exact Ex.pt _
    | exact Ex.fin
    | exact Ex.no
    | refine Ex.vb fun _ => ?_
    | refine Ex.hb fun _ _ => ?_
    | refine Ex.sb fun _ => ?_
    | refine Ex.cb fun _ _ => ?_
    | refine Ex.isB fun _ => ?_
    | refine Ex.cond ?_ ?_
    | refine Ex.onE ?_ ?_
    | refine Ex.join ?_ fun _ _ _ => ?_
    | refine Ex.loop (fun _ _ => ?_) fun _ _ _ => ?_
    | (unfold cellaretref32_Right.L4; unfold cellaretref32_Right.L4.b)

theorem cellaretref32_Right.out {x0 x1 : AVal} {H : AHeap} {Q : AVal → AHeap → Prop} (h : cellaretref32_Right.w x0 x1 H fun r H' => H <+: H' ∧ Q r H') : ∃ r H', S_cellaretref32_Right [x0, x1] H r H' ∧ Q r H' := by
  obtain ⟨r, H', h1, h2⟩ := (cellaretref32_Right.ex x0 x1 H).out h
  exact ⟨r, H', ⟨_, _, rfl, h1, h2.1⟩, h2.2⟩

def cellaretref32_Apply.L2.b (x1 : AVal) (x0_2 : AVal) (x5_2 : AVal) (H1 : AHeap) (Kn2 : List AVal → AHeap → Prop) (Ke3 : AExit → List AVal → AHeap → Prop) : Prop :=
  vb (lenSl x1) fun v4 =>
  vb (aBin .lss x5_2 v4) fun v5 =>
  isB v5 fun b6 => cond b6
    (vb (aIndexAddr 2 x1 x5_2) fun v7 =>
    vb (aFieldAddr 0 v7) fun v8 =>
    vb (aLoad H1 false 1 v8) fun v9 =>
    vb (aBin .mul (.int .i64 64) v9) fun v10 =>
    vb (aSliceStr x0_2 none (some v10)) fun v11 =>
    vb (aIndexAddr 2 x1 x5_2) fun v12 =>
    vb (aFieldAddr 1 v12) fun v13 =>
    vb (aLoad H1 false 1 v13) fun v14 =>
    vb (aBin .add v11 v14) fun v15 =>
    vb (aBin .add v10 (.int .i64 64)) fun v16 =>
    vb (aSliceStr x0_2 (some v16) none) fun v17 =>
    vb (aBin .add v15 v17) fun v18 =>
    vb (aBin .add x5_2 (.int .i64 1)) fun v19 =>
    Kn2 [v18, v19] H1)
    (Ke3 (.exit 0) [x0_2] H1)

def cellaretref32_Apply.L2 (x1 : AVal) : Body := fun vs H Kn Ke => cellaretref32_Apply.L2.b x1 (vs.getD 0 .undef) (vs.getD 1 .undef) H Kn Ke

def cellaretref32_Apply.w (x0 : AVal) (x1 : AVal) (H : AHeap) (K : AVal → AHeap → Prop) : Prop :=
  LoopP (cellaretref32_Apply.L2 x1) [x0, .int .i64 0] H fun e20 vs21 H22 =>
    onE e20 (.exit 0)
      (fin .ret [.v (vs21.getD 0 .undef)] H22 K)
    (False)

def S_cellaretref32_Apply : Abs.Spec := fun args H r H' => ∃ x0 x1 : AVal, args = [x0, x1] ∧ (cellaretref32_Apply.w x0 x1 H fun r1 H1 => r1 = r ∧ H1 = H') ∧ H <+: H'
theorem cellaretref32_Apply.ok (args : List AVal) (H : AHeap) (r : AVal) (H' : AHeap) (h : S_cellaretref32_Apply args H r H') : ∃ x0 x1 : AVal, args = [x0, x1] ∧ cellaretref32_Apply.w x0 x1 H fun r1 H1 => r1 = r ∧ H1 = H' := by
  obtain ⟨x0, x1, h1, h2, _⟩ := h
  exact ⟨x0, x1, h1, h2⟩
theorem cellaretref32_Apply.quiet {args : List AVal} {H : AHeap} {r : AVal} {H' : AHeap} (h : S_cellaretref32_Apply args H r H') : H <+: H' := by
  obtain ⟨_, _, _, _, h⟩ := h
  exact h
set_option maxRecDepth 100000 in
theorem cellaretref32_Apply.ex (x0 x1 : AVal) (H : AHeap) : Ex fun K : AVal × AHeap → Prop => cellaretref32_Apply.w x0 x1 H fun r H => K (r, H) := by
  unfold cellaretref32_Apply.w
  repeat with_reducible first
    | exact Ex.pt _
    | exact Ex.fin
    | exact Ex.no
    | refine Ex.vb fun _ => ?_
    | refine Ex.hb fun _ _ => ?_
    | refine Ex.sb fun _ => ?_
    | refine Ex.cb fun _ _ => ?_
    | refine Ex.isB fun _ => ?_
    | refine Ex.cond ?_ ?_
    | refine Ex.onE ?_ ?_
    | refine Ex.join ?_ fun _ _ _ => ?_
    | refine Ex.loop (fun _ _ => ?_) fun _ _ _ => ?_
    | (unfold cellaretref32_Apply.L2; unfold cellaretref32_Apply.L2.b)

theorem cellaretref32_Apply.out {x0 x1 : AVal} {H : AHeap} {Q : AVal → AHeap → Prop} (h : cellaretref32_Apply.w x0 x1 H fun r H' => H <+: H' ∧ Q r H') : ∃ r H', S_cellaretref32_Apply [x0, x1] H r H' ∧ Q r H' := by
  obtain ⟨r, H', h1, h2⟩ := (cellaretref32_Apply.ex x0 x1 H).out h
  exact ⟨r, H', ⟨_, _, rfl, h1, h2.1⟩, h2.2⟩

def cellaretref32_All.L3.b (x0 : AVal) (x3_3 : AVal) (x4_3 : AVal) (H1 : AHeap) (Kn2 : List AVal → AHeap → Prop) (Ke3 : AExit → List AVal → AHeap → Prop) : Prop :=
  vb (lenSl x0) fun v4 =>
  vb (aBin .lss x4_3 v4) fun v5 =>
  isB v5 fun b6 => cond b6
    (vb (aIndexAddr 34 x0 x4_3) fun v7 =>
    vb (aFieldAddr 33 v7) fun v8 =>
    vb (aLoad H1 false 1 v8) fun v9 =>
    hb (aAppendS H1 2 24 x3_3 v9) fun v10 H11 =>
    vb (aBin .add x4_3 (.int .i64 1)) fun v12 =>
    Kn2 [v10, v12] H11)
    (Ke3 (.exit 0) [x3_3] H1)

def cellaretref32_All.L3 (x0 : AVal) : Body := fun vs H Kn Ke => cellaretref32_All.L3.b x0 (vs.getD 0 .undef) (vs.getD 1 .undef) H Kn Ke

def cellaretref32_All.w (x0 : AVal) (H : AHeap) (K : AVal → AHeap → Prop) : Prop :=
  LoopP (cellaretref32_All.L3 x0) [.nils, .int .i64 0] H fun e13 vs14 H15 =>
    onE e13 (.exit 0)
      (fin .ret [.v (vs14.getD 0 .undef)] H15 K)
    (False)

def S_cellaretref32_All : Abs.Spec := fun args H r H' => ∃ x0 : AVal, args = [x0] ∧ (cellaretref32_All.w x0 H fun r1 H1 => r1 = r ∧ H1 = H') ∧ H <+: H'
theorem cellaretref32_All.ok (args : List AVal) (H : AHeap) (r : AVal) (H' : AHeap) (h : S_cellaretref32_All args H r H') : ∃ x0 : AVal, args = [x0] ∧ cellaretref32_All.w x0 H fun r1 H1 => r1 = r ∧ H1 = H' := by
  obtain ⟨x0, h1, h2, _⟩ := h
  exact ⟨x0, h1, h2⟩
theorem cellaretref32_All.quiet {args : List AVal} {H : AHeap} {r : AVal} {H' : AHeap} (h : S_cellaretref32_All args H r H') : H <+: H' := by
  obtain ⟨_, _, _, h⟩ := h
  exact h
set_option maxRecDepth 100000 in
theorem cellaretref32_All.ex (x0 : AVal) (H : AHeap) : Ex fun K : AVal × AHeap → Prop => cellaretref32_All.w x0 H fun r H => K (r, H) := by
  unfold cellaretref32_All.w
  repeat with_reducible first
    | exact Ex.pt _
    | exact Ex.fin
    | exact Ex.no
    | refine Ex.vb fun _ => ?_
    | refine Ex.hb fun _ _ => ?_
    | refine Ex.sb fun _ => ?_
    | refine Ex.cb fun _ _ => ?_
    | refine Ex.isB fun _ => ?_
    | refine Ex.cond ?_ ?_
    | refine Ex.onE ?_ ?_
    | refine Ex.join ?_ fun _ _ _ => ?_
    | refine Ex.loop (fun _ _ => ?_) fun _ _ _ => ?_
    | (unfold cellaretref32_All.L3; unfold cellaretref32_All.L3.b)

theorem cellaretref32_All.out {x0 : AVal} {H : AHeap} {Q : AVal → AHeap → Prop} (h : cellaretref32_All.w x0 H fun r H' => H <+: H' ∧ Q r H') : ∃ r H', S_cellaretref32_All [x0] H r H' ∧ Q r H' := by
  obtain ⟨r, H', h1, h2⟩ := (cellaretref32_All.ex x0 H).out h
  exact ⟨r, H', ⟨_, rfl, h1, h2.1⟩, h2.2⟩

def cellaretref32_Of.L3.b (x0 : AVal) (x3_3 : AVal) (x4_3 : AVal) (H1 : AHeap) (Kn2 : List AVal → AHeap → Prop) (Ke3 : AExit → List AVal → AHeap → Prop) : Prop :=
  vb (lenSl x0) fun v4 =>
  vb (aBin .lss x4_3 v4) fun v5 =>
  isB v5 fun b6 => cond b6
    (vb (aIndexAddr 2 x0 x4_3) fun v7 =>
    vb (aLoad H1 true 2 v7) fun v8 =>
    cb (S_cellaretref16_Set [x3_3, v8] H1) fun v9 H10 =>
    vb (aBin .add x4_3 (.int .i64 1)) fun v11 =>
    Kn2 [v9, v11] H10)
    (Ke3 (.exit 0) [x3_3] H1)

def cellaretref32_Of.L3 (x0 : AVal) : Body := fun vs H Kn Ke => cellaretref32_Of.L3.b x0 (vs.getD 0 .undef) (vs.getD 1 .undef) H Kn Ke

def cellaretref32_Of.w (x0 : AVal) (H : AHeap) (K : AVal → AHeap → Prop) : Prop :=
  LoopP (cellaretref32_Of.L3 x0) [.nils, .int .i64 0] H fun e12 vs13 H14 =>
    onE e12 (.exit 0)
      (fin .ret [.v (vs13.getD 0 .undef)] H14 K)
    (False)

def S_cellaretref32_Of : Abs.Spec := fun args H r H' => ∃ x0 : AVal, args = [x0] ∧ (cellaretref32_Of.w x0 H fun r1 H1 => r1 = r ∧ H1 = H') ∧ H <+: H'
theorem cellaretref32_Of.ok (args : List AVal) (H : AHeap) (r : AVal) (H' : AHeap) (h : S_cellaretref32_Of args H r H') : ∃ x0 : AVal, args = [x0] ∧ cellaretref32_Of.w x0 H fun r1 H1 => r1 = r ∧ H1 = H' := by
  obtain ⟨x0, h1, h2, _⟩ := h
  exact ⟨x0, h1, h2⟩
theorem cellaretref32_Of.quiet {args : List AVal} {H : AHeap} {r : AVal} {H' : AHeap} (h : S_cellaretref32_Of args H r H') : H <+: H' := by
  obtain ⟨_, _, _, h⟩ := h
  exact h
set_option maxRecDepth 100000 in
theorem cellaretref32_Of.ex (x0 : AVal) (H : AHeap) : Ex fun K : AVal × AHeap → Prop => cellaretref32_Of.w x0 H fun r H => K (r, H) := by
  unfold cellaretref32_Of.w
  repeat with_reducible first
    | exact Ex.pt _
    | exact Ex.fin
    | exact Ex.no
    | refine Ex.vb fun _ => ?_
    | refine Ex.hb fun _ _ => ?_
    | refine Ex.sb fun _ => ?_
    | refine Ex.cb fun _ _ => ?_
    | refine Ex.isB fun _ => ?_
    | refine Ex.cond ?_ ?_
    | refine Ex.onE ?_ ?_
    | refine Ex.join ?_ fun _ _ _ => ?_
    | refine Ex.loop (fun _ _ => ?_) fun _ _ _ => ?_
    | (unfold cellaretref32_Of.L3; unfold cellaretref32_Of.L3.b)

theorem cellaretref32_Of.out {x0 : AVal} {H : AHeap} {Q : AVal → AHeap → Prop} (h : cellaretref32_Of.w x0 H fun r H' => H <+: H' ∧ Q r H') : ∃ r H', S_cellaretref32_Of [x0] H r H' ∧ Q r H' := by
  obtain ⟨r, H', h1, h2⟩ := (cellaretref32_Of.ex x0 H).out h
  exact ⟨r, H', ⟨_, rfl, h1, h2.1⟩, h2.2⟩

def cellaretlaw32_awake.w (H : AHeap) (K : AVal → AHeap → Prop) : Prop :=
  cb (S_cellaretref01_Full [.str [97], .int .i64 64] H) fun v1 H2 =>
  cb (S_cellaretref01_Full [.str [98], .int .i64 64] H2) fun v3 H4 =>
  vb (aBuild [.int .i64 0, .str []] (fun k => ([(0, 1), (1, 1)] : List (Nat × Nat))[k]?) [(0, .int .i64 161), (1, v1)]) fun v5 =>
  hb (aBuildSlice H4 2 [.int .i64 0, .str []] 1 [(0, v5)]) fun v6 H7 =>
  vb (aBuild [.int .i64 0, .int .u8 0, .int .u8 0, .int .u8 0, .int .u8 0, .int .u8 0, .int .u8 0, .int .u8 0, .int .u8 0, .int .u8 0, .int .u8 0, .int .u8 0, .int .u8 0, .int .u8 0, .int .u8 0, .int .u8 0, .int .u8 0, .int .u8 0, .int .u8 0, .int .u8 0, .int .u8 0, .int .u8 0, .int .u8 0, .int .u8 0, .int .u8 0, .int .u8 0, .int .u8 0, .int .u8 0, .int .u8 0, .int .u8 0, .int .u8 0, .int .u8 0, .int .u8 0, .nils] (fun k => ([(0, 1), (1, 32), (33, 1)] : List (Nat × Nat))[k]?) [(2, v6)]) fun v8 =>
  vb (aBuild [.int .i64 0, .str []] (fun k => ([(0, 1), (1, 1)] : List (Nat × Nat))[k]?) [(0, .int .i64 161), (1, v3)]) fun v9 =>
  vb (aBuild [.int .i64 0, .str []] (fun k => ([(0, 1), (1, 1)] : List (Nat × Nat))[k]?) [(0, .int .i64 170), (1, v1)]) fun v10 =>
  hb (aBuildSlice H7 2 [.int .i64 0, .str []] 2 [(0, v9), (1, v10)]) fun v11 H12 =>
  vb (aBuild [.int .i64 0, .int .u8 0, .int .u8 0, .int .u8 0, .int .u8 0, .int .u8 0, .int .u8 0, .int .u8 0, .int .u8 0, .int .u8 0, .int .u8 0, .int .u8 0, .int .u8 0, .int .u8 0, .int .u8 0, .int .u8 0, .int .u8 0, .int .u8 0, .int .u8 0, .int .u8 0, .int .u8 0, .int .u8 0, .int .u8 0, .int .u8 0, .int .u8 0, .int .u8 0, .int .u8 0, .int .u8 0, .int .u8 0, .int .u8 0, .int .u8 0, .int .u8 0, .int .u8 0, .nils] (fun k => ([(0, 1), (1, 32), (33, 1)] : List (Nat × Nat))[k]?) [(2, v11)]) fun v13 =>
  hb (aBuildSlice H12 34 [.int .i64 0, .int .u8 0, .int .u8 0, .int .u8 0, .int .u8 0, .int .u8 0, .int .u8 0, .int .u8 0, .int .u8 0, .int .u8 0, .int .u8 0, .int .u8 0, .int .u8 0, .int .u8 0, .int .u8 0, .int .u8 0, .int .u8 0, .int .u8 0, .int .u8 0, .int .u8 0, .int .u8 0, .int .u8 0, .int .u8 0, .int .u8 0, .int .u8 0, .int .u8 0, .int .u8 0, .int .u8 0, .int .u8 0, .int .u8 0, .int .u8 0, .int .u8 0, .int .u8 0, .nils] 2 [(0, v8), (1, v13)]) fun v14 H15 =>
  cb (S_plan_Of [v14] H15) fun v16 H17 =>
  vb (aExtract v16 0) fun v18 =>
  vb (aExtract v16 1) fun v19 =>
  cb (S_cellaretlaw32_image [.str [], .bool false] H17) fun v20 H21 =>
  cb (S_plan_Apply [v20, v18] H21) fun v22 H23 =>
  vb (aExtract v22 0) fun v24 =>
  vb (aExtract v22 1) fun v25 =>
  vb (aBin .eql v19 (.int .i64 0)) fun v26 =>
  isB v26 fun b27 => cond b27
    (vb (aBin .eql v25 (.int .i64 0)) fun v28 =>
      isB v28 fun b29 => cond b29
        (vb (aBuild [.int .i64 0, .str []] (fun k => ([(0, 1), (1, 1)] : List (Nat × Nat))[k]?) [(0, .int .i64 161), (1, v3)]) fun v30 =>
            vb (aBuild [.int .i64 0, .str []] (fun k => ([(0, 1), (1, 1)] : List (Nat × Nat))[k]?) [(0, .int .i64 170), (1, v1)]) fun v31 =>
                hb (aBuildSlice H23 2 [.int .i64 0, .str []] 2 [(0, v30), (1, v31)]) fun v32 H33 =>
                  cb (S_cellaretref16_Same [v18, v32] H33) fun v34 H35 =>
                    isB v34 fun b36 => cond b36
                      (vb (aSliceStr v24 (some (.int .i64 10304)) (some (.int .i64 10368))) fun v37 =>
                        vb (aBin .eql v37 v3) fun v38 =>
                            fin .ret [.v (v38)] H35 K)
                      (fin .ret [.v (.bool false)] H35 K))
        (fin .ret [.v (.bool false)] H23 K))
    (fin .ret [.v (.bool false)] H23 K)

def S_cellaretlaw32_awake : Abs.Spec := fun args H r H' => args = [] ∧ (cellaretlaw32_awake.w H fun r1 H1 => r1 = r ∧ H1 = H') ∧ H <+: H'
theorem cellaretlaw32_awake.ok (args : List AVal) (H : AHeap) (r : AVal) (H' : AHeap) (h : S_cellaretlaw32_awake args H r H') : args = [] ∧ cellaretlaw32_awake.w H fun r1 H1 => r1 = r ∧ H1 = H' := by
  obtain ⟨h1, h2, _⟩ := h
  exact ⟨h1, h2⟩
theorem cellaretlaw32_awake.quiet {args : List AVal} {H : AHeap} {r : AVal} {H' : AHeap} (h : S_cellaretlaw32_awake args H r H') : H <+: H' := by
  obtain ⟨_, _, h⟩ := h
  exact h
set_option maxRecDepth 100000 in
theorem cellaretlaw32_awake.ex (H : AHeap) : Ex fun K : AVal × AHeap → Prop => cellaretlaw32_awake.w H fun r H => K (r, H) := by
  unfold cellaretlaw32_awake.w
  repeat with_reducible first
    | exact Ex.pt _
    | exact Ex.fin
    | exact Ex.no
    | refine Ex.vb fun _ => ?_
    | refine Ex.hb fun _ _ => ?_
    | refine Ex.sb fun _ => ?_
    | refine Ex.cb fun _ _ => ?_
    | refine Ex.isB fun _ => ?_
    | refine Ex.cond ?_ ?_
    | refine Ex.onE ?_ ?_
    | refine Ex.join ?_ fun _ _ _ => ?_
    | refine Ex.loop (fun _ _ => ?_) fun _ _ _ => ?_

theorem cellaretlaw32_awake.out {H : AHeap} {Q : AVal → AHeap → Prop} (h : cellaretlaw32_awake.w H fun r H' => H <+: H' ∧ Q r H') : ∃ r H', S_cellaretlaw32_awake [] H r H' ∧ Q r H' := by
  obtain ⟨r, H', h1, h2⟩ := (cellaretlaw32_awake.ex H).out h
  exact ⟨r, H', ⟨rfl, h1, h2.1⟩, h2.2⟩

def cellaretlaw32_PlanOf.L8.b (x0 : AVal) (v9 : AVal) (v10 : AVal) (x7_8 : AVal) (H57 : AHeap) (Kn58 : List AVal → AHeap → Prop) (Ke59 : AExit → List AVal → AHeap → Prop) : Prop :=
  vb (lenSl x0) fun v60 =>
  vb (aBin .lss x7_8 v60) fun v61 =>
  isB v61 fun b62 => cond b62
    (JoinP (fun Kj63 => vb (aIndexAddr 34 x0 x7_8) fun v64 =>
      vb (aFieldAddr 33 v64) fun v65 =>
      vb (aLoad H57 false 1 v65) fun v66 =>
      vb (lenSl v66) fun v67 =>
      vb (aBin .gtr v67 (.int .i64 64)) fun v68 =>
      isB v68 fun b69 => cond b69
        (Kj63 .normal [.int .i64 4] H57)
        (vb (aIndexAddr 34 x0 x7_8) fun v70 =>
        vb (aLoad H57 true 34 v70) fun v71 =>
        cb (S_cellaretref13_Right [v71] H57) fun v72 H73 =>
        vb (aUn .not v72) fun v74 =>
        isB v74 fun b75 => cond b75
          (Kj63 .normal [.int .i64 2] H73)
          (Kj63 .normal [.int .i64 0] H73)))
    (fun e76 vs77 H78 =>
      onE e76 .normal
        (vb (aBin .neq (vs77.getD 0 .undef) (.int .i64 0)) fun v79 =>
        isB v79 fun b80 => cond b80
          (cb (S_cellaretlaw32_awake [] H78) fun v81 H82 =>
          isB v81 fun b83 => cond b83
            (vb (lenSl v9) fun v84 =>
              vb (aBin .eql v84 (.int .i64 0)) fun v85 =>
                isB v85 fun b86 => cond b86
                  (vb (aBin .eql v10 (vs77.getD 0 .undef)) fun v87 =>
                      Ke59 .ret [v87] H82)
                  (Ke59 .ret [.bool false] H82))
            (Ke59 .ret [.bool false] H82))
          (vb (aBin .add x7_8 (.int .i64 1)) fun v88 =>
          Kn58 [v88] H78))
      (False)))
    (Ke59 (.exit 0) [.undef] H57)

def cellaretlaw32_PlanOf.L8 (x0 : AVal) (v9 : AVal) (v10 : AVal) : Body := fun vs H Kn Ke => cellaretlaw32_PlanOf.L8.b x0 v9 v10 (vs.getD 0 .undef) H Kn Ke

def cellaretlaw32_PlanOf.w (x0 : AVal) (H : AHeap) (K : AVal → AHeap → Prop) : Prop :=
  cb (S_cellaretlaw32_few [x0] H) fun v1 H2 =>
  vb (aUn .not v1) fun v3 =>
  isB v3 fun b4 => cond b4
    (cb (S_cellaretlaw32_awake [] H2) fun v5 H6 =>
    fin .ret [.v (v5)] H6 K)
    (cb (S_plan_Of [x0] H2) fun v7 H8 =>
    vb (aExtract v7 0) fun v9 =>
    vb (aExtract v7 1) fun v10 =>
    cb (S_plan_Root [x0] H8) fun v11 H12 =>
    vb (aExtract v11 0) fun v13 =>
    vb (aExtract v11 1) fun v14 =>
    hb (aAlloc H12 (List.replicate 32 (.int .u8 0))) fun v15 H16 =>
    sb (aStore H16 32 v15 v13) fun H17 =>
    JoinP (fun Kj18 => vb (lenSl x0) fun v19 =>
      vb (aBin .eql v19 (.int .i64 0)) fun v20 =>
      isB v20 fun b21 => cond b21
        (vb (aLoad H17 true 32 v15) fun v22 =>
        vb (aBuild (List.replicate 32 (.int .u8 0)) (fun k => some (k * 1, 1)) []) fun v23 =>
          vb (aEql true (.agg (List.replicate 32 .int)) H17 v22 v23) fun v24 =>
            isB v24 fun b25 => cond b25
                (Kj18 .ret [.bool false] H17)
                (vb (aBin .neq v14 (.int .i64 7)) fun v26 =>
                  isB v26 fun b27 => cond b27
                      (Kj18 .ret [.bool false] H17)
                      (vb (lenSl x0) fun v28 =>
                        vb (aBin .gtr v28 (.int .i64 0)) fun v29 =>
                          isB v29 fun b30 => cond b30
                              (vb (aLoad H17 true 32 v15) fun v31 =>
                              vb (lenSl x0) fun v32 =>
                                    vb (aBin .sub v32 (.int .i64 1)) fun v33 =>
                                      vb (aIndexAddr 34 x0 v33) fun v34 =>
                                        vb (aFieldAddr 1 v34) fun v35 =>
                                          vb (aLoad H17 true 32 v35) fun v36 =>
                                            vb (aEql true (.agg (List.replicate 32 .int)) H17 v31 v36) fun v37 =>
                                              isB v37 fun b38 => cond b38
                                                  (Kj18 .ret [.bool false] H17)
                                                  (vb (aBin .neq v14 (.int .i64 0)) fun v39 =>
                                                    isB v39 fun b40 => cond b40
                                                          (Kj18 .ret [.bool false] H17)
                                                          (Kj18 .normal [.bool false] H17)))
                              (Kj18 .normal [.bool false] H17))))
        (vb (lenSl x0) fun v41 =>
                    vb (aBin .gtr v41 (.int .i64 0)) fun v42 =>
                      isB v42 fun b43 => cond b43
                          (vb (aLoad H17 true 32 v15) fun v44 =>
                          vb (lenSl x0) fun v45 =>
                                vb (aBin .sub v45 (.int .i64 1)) fun v46 =>
                                  vb (aIndexAddr 34 x0 v46) fun v47 =>
                                    vb (aFieldAddr 1 v47) fun v48 =>
                                      vb (aLoad H17 true 32 v48) fun v49 =>
                                        vb (aEql true (.agg (List.replicate 32 .int)) H17 v44 v49) fun v50 =>
                                          isB v50 fun b51 => cond b51
                                              (Kj18 .ret [.bool false] H17)
                                              (vb (aBin .neq v14 (.int .i64 0)) fun v52 =>
                                                isB v52 fun b53 => cond b53
                                                      (Kj18 .ret [.bool false] H17)
                                                      (Kj18 .normal [.bool false] H17)))
                          (Kj18 .normal [.bool false] H17)))
    (fun e54 vs55 H56 =>
      onE e54 .normal
        (LoopP (cellaretlaw32_PlanOf.L8 x0 v9 v10) [.int .i64 0] H56 fun e89 vs90 H91 =>
          onE e89 (.exit 0)
            (cb (S_cellaretlaw32_awake [] H91) fun v92 H93 =>
            isB v92 fun b94 => cond b94
              (vb (aBin .eql v10 (.int .i64 0)) fun v95 =>
                isB v95 fun b96 => cond b96
                  (cb (S_cellaretref32_All [x0] H93) fun v97 H98 =>
                      cb (S_cellaretref32_Of [v97] H98) fun v99 H100 =>
                        cb (S_cellaretref16_Same [v9, v99] H100) fun v101 H102 =>
                          fin .ret [.v (v101)] H102 K)
                  (fin .ret [.v (.bool false)] H93 K))
              (fin .ret [.v (.bool false)] H93 K))
          (onE e89 .ret
            (fin .ret [.v (vs90.getD 0 .undef)] H91 K)
          (False)))
      (onE e54 .ret
        (fin .ret [.v (vs55.getD 0 .undef)] H56 K)
      (False))))

def S_cellaretlaw32_PlanOf : Abs.Spec := fun args H r H' => ∃ x0 : AVal, args = [x0] ∧ (cellaretlaw32_PlanOf.w x0 H fun r1 H1 => r1 = r ∧ H1 = H')
theorem cellaretlaw32_PlanOf.ok (args : List AVal) (H : AHeap) (r : AVal) (H' : AHeap) (h : S_cellaretlaw32_PlanOf args H r H') : ∃ x0 : AVal, args = [x0] ∧ cellaretlaw32_PlanOf.w x0 H fun r1 H1 => r1 = r ∧ H1 = H' := by
  obtain ⟨x0, h1, h2⟩ := h
  exact ⟨x0, h1, h2⟩
set_option maxRecDepth 100000 in
theorem cellaretlaw32_PlanOf.ex (x0 : AVal) (H : AHeap) : Ex fun K : AVal × AHeap → Prop => cellaretlaw32_PlanOf.w x0 H fun r H => K (r, H) := by
  unfold cellaretlaw32_PlanOf.w
  repeat with_reducible first
    | exact Ex.pt _
    | exact Ex.fin
    | exact Ex.no
    | refine Ex.vb fun _ => ?_
    | refine Ex.hb fun _ _ => ?_
    | refine Ex.sb fun _ => ?_
    | refine Ex.cb fun _ _ => ?_
    | refine Ex.isB fun _ => ?_
    | refine Ex.cond ?_ ?_
    | refine Ex.onE ?_ ?_
    | refine Ex.join ?_ fun _ _ _ => ?_
    | refine Ex.loop (fun _ _ => ?_) fun _ _ _ => ?_
    | (unfold cellaretlaw32_PlanOf.L8; unfold cellaretlaw32_PlanOf.L8.b)

theorem cellaretlaw32_PlanOf.out {x0 : AVal} {H : AHeap} {Q : AVal → AHeap → Prop} (h : cellaretlaw32_PlanOf.w x0 H fun r H' => Q r H') : ∃ r H', S_cellaretlaw32_PlanOf [x0] H r H' ∧ Q r H' := by
  obtain ⟨r, H', h1, h2⟩ := (cellaretlaw32_PlanOf.ex x0 H).out h
  exact ⟨r, H', ⟨_, rfl, h1⟩, h2⟩

def cellaretlaw32_PlanApplies.L11.b (x2 : AVal) (v7 : AVal) (x13_11 : AVal) (x14_11 : AVal) (H32 : AHeap) (Kn33 : List AVal → AHeap → Prop) (Ke34 : AExit → List AVal → AHeap → Prop) : Prop :=
  vb (lenSl x2) fun v35 =>
  vb (aBin .lss x14_11 v35) fun v36 =>
  isB v36 fun b37 => cond b37
    (vb (aIndexAddr 2 x2 x14_11) fun v38 =>
    vb (aFieldAddr 0 v38) fun v39 =>
    vb (aLoad H32 false 1 v39) fun v40 =>
    vb (aBin .mul (.int .i64 64) v40) fun v41 =>
    vb (aIndexAddr 2 x2 x14_11) fun v42 =>
    vb (aFieldAddr 0 v42) fun v43 =>
    vb (aLoad H32 false 1 v43) fun v44 =>
    vb (aBin .mul (.int .i64 64) v44) fun v45 =>
    vb (aBin .add v45 (.int .i64 64)) fun v46 =>
    vb (aSliceStr v7 (some v41) (some v46)) fun v47 =>
    vb (aIndexAddr 2 x2 x14_11) fun v48 =>
    vb (aFieldAddr 1 v48) fun v49 =>
    vb (aLoad H32 false 1 v49) fun v50 =>
    vb (aBin .neq v47 v50) fun v51 =>
    isB v51 fun b52 => cond b52
      (vb (aIndexAddr 2 x2 x14_11) fun v53 =>
      vb (aFieldAddr 0 v53) fun v54 =>
      vb (aLoad H32 false 1 v54) fun v55 =>
      hb (aBuildSlice H32 1 [.int .i64 0] 1 [(0, v55)]) fun v56 H57 =>
      hb (aAppendS H57 1 8 x13_11 v56) fun v58 H59 =>
      vb (aBin .add x14_11 (.int .i64 1)) fun v60 =>
      Kn33 [v58, v60] H59)
      (vb (aBin .add x14_11 (.int .i64 1)) fun v61 =>
      Kn33 [x13_11, v61] H32))
    (Ke34 (.exit 0) [x13_11] H32)

def cellaretlaw32_PlanApplies.L11 (x2 : AVal) (v7 : AVal) : Body := fun vs H Kn Ke => cellaretlaw32_PlanApplies.L11.b x2 v7 (vs.getD 0 .undef) (vs.getD 1 .undef) H Kn Ke

def cellaretlaw32_PlanApplies.w (x0 : AVal) (x1 : AVal) (x2 : AVal) (H : AHeap) (K : AVal → AHeap → Prop) : Prop :=
  cb (S_cellaretlaw32_light [x2] H) fun v1 H2 =>
  vb (aUn .not v1) fun v3 =>
  isB v3 fun b4 => cond b4
    (cb (S_cellaretlaw32_awake [] H2) fun v5 H6 =>
    fin .ret [.v (v5)] H6 K)
    (cb (S_cellaretlaw32_image [x0, x1] H2) fun v7 H8 =>
    cb (S_plan_Apply [v7, x2] H8) fun v9 H10 =>
    vb (aExtract v9 0) fun v11 =>
    vb (aExtract v9 1) fun v12 =>
    cb (S_plan_Missing [v7, x2] H10) fun v13 H14 =>
    vb (aExtract v13 0) fun v15 =>
    vb (aExtract v13 1) fun v16 =>
    cb (S_cellaretref32_Right [v7, x2] H14) fun v17 H18 =>
    vb (aBin .neq v17 (.int .i64 0)) fun v19 =>
    isB v19 fun b20 => cond b20
      (cb (S_cellaretlaw32_awake [] H18) fun v21 H22 =>
      isB v21 fun b23 => cond b23
        (vb (aBin .eql v11 (.str [])) fun v24 =>
          isB v24 fun b25 => cond b25
            (vb (lenSl v15) fun v26 =>
              vb (aBin .eql v26 (.int .i64 0)) fun v27 =>
                isB v27 fun b28 => cond b28
                  (vb (aBin .eql v12 v17) fun v29 =>
                      isB v29 fun b30 => cond b30
                        (vb (aBin .eql v16 v17) fun v31 =>
                            fin .ret [.v (v31)] H22 K)
                        (fin .ret [.v (.bool false)] H22 K))
                  (fin .ret [.v (.bool false)] H22 K))
            (fin .ret [.v (.bool false)] H22 K))
        (fin .ret [.v (.bool false)] H22 K))
      (LoopP (cellaretlaw32_PlanApplies.L11 x2 v7) [.nils, .int .i64 0] H18 fun e62 vs63 H64 =>
        onE e62 (.exit 0)
          (cb (S_cellaretlaw32_awake [] H64) fun v65 H66 =>
          isB v65 fun b67 => cond b67
            (vb (aBin .eql v12 (.int .i64 0)) fun v68 =>
              isB v68 fun b69 => cond b69
                (vb (aBin .eql v16 (.int .i64 0)) fun v70 =>
                  isB v70 fun b71 => cond b71
                    (cb (S_cellaretref32_Apply [v7, x2] H66) fun v72 H73 =>
                          vb (aBin .eql v11 v72) fun v74 =>
                            isB v74 fun b75 => cond b75
                              (cb (S_cellaretref01_Ints [v15, vs63.getD 0 .undef] H73) fun v76 H77 =>
                                  fin .ret [.v (v76)] H77 K)
                              (fin .ret [.v (.bool false)] H73 K))
                    (fin .ret [.v (.bool false)] H66 K))
                (fin .ret [.v (.bool false)] H66 K))
            (fin .ret [.v (.bool false)] H66 K))
        (False)))

def S_cellaretlaw32_PlanApplies : Abs.Spec := fun args H r H' => ∃ x0 x1 x2 : AVal, args = [x0, x1, x2] ∧ (cellaretlaw32_PlanApplies.w x0 x1 x2 H fun r1 H1 => r1 = r ∧ H1 = H')
theorem cellaretlaw32_PlanApplies.ok (args : List AVal) (H : AHeap) (r : AVal) (H' : AHeap) (h : S_cellaretlaw32_PlanApplies args H r H') : ∃ x0 x1 x2 : AVal, args = [x0, x1, x2] ∧ cellaretlaw32_PlanApplies.w x0 x1 x2 H fun r1 H1 => r1 = r ∧ H1 = H' := by
  obtain ⟨x0, x1, x2, h1, h2⟩ := h
  exact ⟨x0, x1, x2, h1, h2⟩
set_option maxRecDepth 100000 in
theorem cellaretlaw32_PlanApplies.ex (x0 x1 x2 : AVal) (H : AHeap) : Ex fun K : AVal × AHeap → Prop => cellaretlaw32_PlanApplies.w x0 x1 x2 H fun r H => K (r, H) := by
  unfold cellaretlaw32_PlanApplies.w
  repeat with_reducible first
    | exact Ex.pt _
    | exact Ex.fin
    | exact Ex.no
    | refine Ex.vb fun _ => ?_
    | refine Ex.hb fun _ _ => ?_
    | refine Ex.sb fun _ => ?_
    | refine Ex.cb fun _ _ => ?_
    | refine Ex.isB fun _ => ?_
    | refine Ex.cond ?_ ?_
    | refine Ex.onE ?_ ?_
    | refine Ex.join ?_ fun _ _ _ => ?_
    | refine Ex.loop (fun _ _ => ?_) fun _ _ _ => ?_
    | (unfold cellaretlaw32_PlanApplies.L11; unfold cellaretlaw32_PlanApplies.L11.b)

theorem cellaretlaw32_PlanApplies.out {x0 x1 x2 : AVal} {H : AHeap} {Q : AVal → AHeap → Prop} (h : cellaretlaw32_PlanApplies.w x0 x1 x2 H fun r H' => Q r H') : ∃ r H', S_cellaretlaw32_PlanApplies [x0, x1, x2] H r H' ∧ Q r H' := by
  obtain ⟨r, H', h1, h2⟩ := (cellaretlaw32_PlanApplies.ex x0 x1 x2 H).out h
  exact ⟨r, H', ⟨_, _, _, rfl, h1⟩, h2⟩

def cellaretlaw32_PlanAlike.L14.b (x2 : AVal) (v9 : AVal) (x16_14 : AVal) (x17_14 : AVal) (H41 : AHeap) (Kn42 : List AVal → AHeap → Prop) (Ke43 : AExit → List AVal → AHeap → Prop) : Prop :=
  JoinP (fun Kj44 => vb (lenSl x2) fun v45 =>
    vb (aBin .lss x17_14 v45) fun v46 =>
    isB v46 fun b47 => cond b47
      (vb (aBin .lss x17_14 (.int .i64 20)) fun v48 =>
        isB v48 fun b49 => cond b49
          (vb (lenSl v9) fun v50 =>
            vb (aBin .gtr v50 (.int .i64 0)) fun v51 =>
              isB v51 fun b52 => cond b52
                (Kj44 .normal [] H41)
                (Kj44 (.exit 0) [] H41))
          (Kj44 (.exit 0) [] H41))
      (Kj44 (.exit 0) [] H41))
  (fun e53 vs54 H55 =>
    onE e53 (.exit 0)
      (Ke43 (.exit 0) [x16_14] H55)
    (onE e53 .normal
      (vb (aIndexAddr 1 x2 x17_14) fun v56 =>
      vb (aLoad H55 false 1 v56) fun v57 =>
      vb (aInt2 .i64 v57) fun v58 =>
      vb (lenSl v9) fun v59 =>
      vb (aBin .rem v58 v59) fun v60 =>
      vb (aIndexAddr 2 v9 v60) fun v61 =>
      vb (aLoad H55 true 2 v61) fun v62 =>
      hb (aBuildSlice H55 2 [.int .i64 0, .str []] 1 [(0, v62)]) fun v63 H64 =>
      hb (aAppendS H64 2 24 x16_14 v63) fun v65 H66 =>
      vb (aBin .add x17_14 (.int .i64 1)) fun v67 =>
      Kn42 [v65, v67] H66)
    (False)))

def cellaretlaw32_PlanAlike.L14 (x2 : AVal) (v9 : AVal) : Body := fun vs H Kn Ke => cellaretlaw32_PlanAlike.L14.b x2 v9 (vs.getD 0 .undef) (vs.getD 1 .undef) H Kn Ke

def cellaretlaw32_PlanAlike.w (x0 : AVal) (x1 : AVal) (x2 : AVal) (H : AHeap) (K : AVal → AHeap → Prop) : Prop :=
  cb (S_cellaretlaw32_few [x1] H) fun v1 H2 =>
  vb (aUn .not v1) fun v3 =>
  isB v3 fun b4 => cond b4
    (cb (S_cellaretlaw32_awake [] H2) fun v5 H6 =>
    fin .ret [.v (v5)] H6 K)
    (cb (S_plan_Of [x1] H2) fun v7 H8 =>
    vb (aExtract v7 0) fun v9 =>
    vb (aExtract v7 1) fun v10 =>
    vb (aBin .neq v10 (.int .i64 0)) fun v11 =>
    isB v11 fun b12 => cond b12
      (cb (S_cellaretlaw32_awake [] H8) fun v13 H14 =>
      fin .ret [.v (v13)] H14 K)
      (cb (S_cellaretlaw32_image [x0, .bool false] H8) fun v15 H16 =>
      cb (S_plan_Apply [v15, v9] H16) fun v17 H18 =>
      vb (aExtract v17 0) fun v19 =>
      vb (aExtract v17 1) fun v20 =>
      JoinP (fun Kj21 => vb (aBin .neq v20 (.int .i64 0)) fun v22 =>
        isB v22 fun b23 => cond b23
          (Kj21 .ret [.bool false] H18)
          (cb (S_cellaretref32_All [x1] H18) fun v24 H25 =>
                cb (S_cellaretref32_Apply [v15, v24] H25) fun v26 H27 =>
                  vb (aBin .neq v19 v26) fun v28 =>
                    isB v28 fun b29 => cond b29
                      (Kj21 .ret [.bool false] H27)
                      (Kj21 .normal [.bool false] H27)))
      (fun e30 vs31 H32 =>
        onE e30 .normal
          (cb (S_plan_Apply [v19, v9] H32) fun v33 H34 =>
          vb (aExtract v33 0) fun v35 =>
          vb (aExtract v33 1) fun v36 =>
          cb (S_plan_Missing [v19, v9] H34) fun v37 H38 =>
          vb (aExtract v37 0) fun v39 =>
          vb (aExtract v37 1) fun v40 =>
          LoopP (cellaretlaw32_PlanAlike.L14 x2 v9) [.nils, .int .i64 0] H38 fun e68 vs69 H70 =>
            onE e68 (.exit 0)
              (cb (S_plan_Apply [v15, vs69.getD 0 .undef] H70) fun v71 H72 =>
              vb (aExtract v71 0) fun v73 =>
              vb (aExtract v71 1) fun v74 =>
              cb (S_plan_Apply [v73, v9] H72) fun v75 H76 =>
              vb (aExtract v75 0) fun v77 =>
              vb (aExtract v75 1) fun v78 =>
              cb (S_cellaretlaw32_awake [] H76) fun v79 H80 =>
              isB v79 fun b81 => cond b81
                (vb (aBin .eql v36 (.int .i64 0)) fun v82 =>
                  isB v82 fun b83 => cond b83
                    (vb (aBin .eql v35 v19) fun v84 =>
                        isB v84 fun b85 => cond b85
                          (vb (aBin .eql v40 (.int .i64 0)) fun v86 =>
                            isB v86 fun b87 => cond b87
                              (vb (lenSl v39) fun v88 =>
                                vb (aBin .eql v88 (.int .i64 0)) fun v89 =>
                                  isB v89 fun b90 => cond b90
                                    (vb (aBin .eql v78 (.int .i64 0)) fun v91 =>
                                      isB v91 fun b92 => cond b92
                                        (vb (aBin .eql v77 v19) fun v93 =>
                                            fin .ret [.v (v93)] H80 K)
                                        (fin .ret [.v (.bool false)] H80 K))
                                    (fin .ret [.v (.bool false)] H80 K))
                              (fin .ret [.v (.bool false)] H80 K))
                          (fin .ret [.v (.bool false)] H80 K))
                    (fin .ret [.v (.bool false)] H80 K))
                (fin .ret [.v (.bool false)] H80 K))
            (False))
        (onE e30 .ret
          (fin .ret [.v (vs31.getD 0 .undef)] H32 K)
        (False)))))

def S_cellaretlaw32_PlanAlike : Abs.Spec := fun args H r H' => ∃ x0 x1 x2 : AVal, args = [x0, x1, x2] ∧ (cellaretlaw32_PlanAlike.w x0 x1 x2 H fun r1 H1 => r1 = r ∧ H1 = H')
theorem cellaretlaw32_PlanAlike.ok (args : List AVal) (H : AHeap) (r : AVal) (H' : AHeap) (h : S_cellaretlaw32_PlanAlike args H r H') : ∃ x0 x1 x2 : AVal, args = [x0, x1, x2] ∧ cellaretlaw32_PlanAlike.w x0 x1 x2 H fun r1 H1 => r1 = r ∧ H1 = H' := by
  obtain ⟨x0, x1, x2, h1, h2⟩ := h
  exact ⟨x0, x1, x2, h1, h2⟩
set_option maxRecDepth 100000 in
theorem cellaretlaw32_PlanAlike.ex (x0 x1 x2 : AVal) (H : AHeap) : Ex fun K : AVal × AHeap → Prop => cellaretlaw32_PlanAlike.w x0 x1 x2 H fun r H => K (r, H) := by
  unfold cellaretlaw32_PlanAlike.w
  repeat with_reducible first
    | exact Ex.pt _
    | exact Ex.fin
    | exact Ex.no
    | refine Ex.vb fun _ => ?_
    | refine Ex.hb fun _ _ => ?_
    | refine Ex.sb fun _ => ?_
    | refine Ex.cb fun _ _ => ?_
    | refine Ex.isB fun _ => ?_
    | refine Ex.cond ?_ ?_
    | refine Ex.onE ?_ ?_
    | refine Ex.join ?_ fun _ _ _ => ?_
    | refine Ex.loop (fun _ _ => ?_) fun _ _ _ => ?_
    | (unfold cellaretlaw32_PlanAlike.L14; unfold cellaretlaw32_PlanAlike.L14.b)

theorem cellaretlaw32_PlanAlike.out {x0 x1 x2 : AVal} {H : AHeap} {Q : AVal → AHeap → Prop} (h : cellaretlaw32_PlanAlike.w x0 x1 x2 H fun r H' => Q r H') : ∃ r H', S_cellaretlaw32_PlanAlike [x0, x1, x2] H r H' ∧ Q r H' := by
  obtain ⟨r, H', h1, h2⟩ := (cellaretlaw32_PlanAlike.ex x0 x1 x2 H).out h
  exact ⟨r, H', ⟨_, _, _, rfl, h1⟩, h2⟩

def cellaretlaw32_PlanParts.w (x0 : AVal) (H : AHeap) (K : AVal → AHeap → Prop) : Prop :=
  hb (aBox H x0) fun v1 H2 =>
  vb (aFieldAddr 0 v1) fun v3 =>
  vb (aLoad H2 false 1 v3) fun v4 =>
  vb (aFieldAddr 1 v1) fun v5 =>
  vb (aLoad H2 false 1 v5) fun v6 =>
  vb (aFieldAddr 2 v1) fun v7 =>
  vb (aLoad H2 false 1 v7) fun v8 =>
  vb (aFieldAddr 3 v1) fun v9 =>
  vb (aLoad H2 false 1 v9) fun v10 =>
  JoinP (fun Kj11 => cb (S_cellaretlaw32_few [v4] H2) fun v12 H13 =>
    vb (aUn .not v12) fun v14 =>
    isB v14 fun b15 => cond b15
      (cb (S_cellaretlaw32_awake [] H13) fun v16 H17 =>
                Kj11 .ret [v16] H17)
      (cb (S_cellaretlaw32_light [v8] H13) fun v18 H19 =>
        vb (aUn .not v18) fun v20 =>
          isB v20 fun b21 => cond b21
            (cb (S_cellaretlaw32_awake [] H19) fun v22 H23 =>
                Kj11 .ret [v22] H23)
            (cb (S_cellaretlaw32_light [v10] H19) fun v24 H25 =>
              vb (aUn .not v24) fun v26 =>
                isB v26 fun b27 => cond b27
                  (cb (S_cellaretlaw32_awake [] H25) fun v28 H29 =>
                  Kj11 .ret [v28] H29)
                  (Kj11 .normal [.bool false] H25))))
  (fun e30 vs31 H32 =>
    onE e30 .normal
      (hb (aBuildSlice H32 2 [.int .i64 0, .str []] 0 []) fun v33 H34 =>
      hb (aAppendS H34 2 24 v33 v8) fun v35 H36 =>
      hb (aAppendS H36 2 24 v35 v10) fun v37 H38 =>
      cb (S_cellaretref32_Of [v37] H38) fun v39 H40 =>
      cb (S_plan_Behind [v8, v10] H40) fun v41 H42 =>
      cb (S_cellaretref16_Same [v41, v39] H42) fun v43 H44 =>
      vb (aUn .not v43) fun v45 =>
      isB v45 fun b46 => cond b46
        (fin .ret [.v (.bool false)] H44 K)
        (cb (S_plan_Of [v4] H44) fun v47 H48 =>
        vb (aExtract v47 0) fun v49 =>
        vb (aExtract v47 1) fun v50 =>
        vb (aBin .neq v50 (.int .i64 0)) fun v51 =>
        isB v51 fun b52 => cond b52
          (cb (S_cellaretlaw32_awake [] H48) fun v53 H54 =>
          fin .ret [.v (v53)] H54 K)
          (vb (aInt2 .i64 v6) fun v55 =>
          vb (lenSl v4) fun v56 =>
          vb (aBin .add v56 (.int .i64 1)) fun v57 =>
          vb (aBin .rem v55 v57) fun v58 =>
          vb (aSlice H48 34 v4 none (some v58) none) fun v59 =>
          cb (S_plan_Of [v59] H48) fun v60 H61 =>
          vb (aExtract v60 0) fun v62 =>
          vb (aExtract v60 1) fun v63 =>
          vb (aSlice H61 34 v4 (some v58) none none) fun v64 =>
          cb (S_plan_Of [v64] H61) fun v65 H66 =>
          vb (aExtract v65 0) fun v67 =>
          vb (aExtract v65 1) fun v68 =>
          cb (S_cellaretlaw32_awake [] H66) fun v69 H70 =>
          isB v69 fun b71 => cond b71
            (vb (aBin .eql v63 (.int .i64 0)) fun v72 =>
              isB v72 fun b73 => cond b73
                (vb (aBin .eql v68 (.int .i64 0)) fun v74 =>
                  isB v74 fun b75 => cond b75
                    (cb (S_plan_Behind [v62, v67] H70) fun v76 H77 =>
                        cb (S_cellaretref16_Same [v76, v49] H77) fun v78 H79 =>
                            fin .ret [.v (v78)] H79 K)
                    (fin .ret [.v (.bool false)] H70 K))
                (fin .ret [.v (.bool false)] H70 K))
            (fin .ret [.v (.bool false)] H70 K))))
    (onE e30 .ret
      (fin .ret [.v (vs31.getD 0 .undef)] H32 K)
    (False)))

def S_cellaretlaw32_PlanParts : Abs.Spec := fun args H r H' => ∃ x0 : AVal, args = [x0] ∧ (cellaretlaw32_PlanParts.w x0 H fun r1 H1 => r1 = r ∧ H1 = H')
theorem cellaretlaw32_PlanParts.ok (args : List AVal) (H : AHeap) (r : AVal) (H' : AHeap) (h : S_cellaretlaw32_PlanParts args H r H') : ∃ x0 : AVal, args = [x0] ∧ cellaretlaw32_PlanParts.w x0 H fun r1 H1 => r1 = r ∧ H1 = H' := by
  obtain ⟨x0, h1, h2⟩ := h
  exact ⟨x0, h1, h2⟩
set_option maxRecDepth 100000 in
theorem cellaretlaw32_PlanParts.ex (x0 : AVal) (H : AHeap) : Ex fun K : AVal × AHeap → Prop => cellaretlaw32_PlanParts.w x0 H fun r H => K (r, H) := by
  unfold cellaretlaw32_PlanParts.w
  repeat with_reducible first
    | exact Ex.pt _
    | exact Ex.fin
    | exact Ex.no
    | refine Ex.vb fun _ => ?_
    | refine Ex.hb fun _ _ => ?_
    | refine Ex.sb fun _ => ?_
    | refine Ex.cb fun _ _ => ?_
    | refine Ex.isB fun _ => ?_
    | refine Ex.cond ?_ ?_
    | refine Ex.onE ?_ ?_
    | refine Ex.join ?_ fun _ _ _ => ?_
    | refine Ex.loop (fun _ _ => ?_) fun _ _ _ => ?_

theorem cellaretlaw32_PlanParts.out {x0 : AVal} {H : AHeap} {Q : AVal → AHeap → Prop} (h : cellaretlaw32_PlanParts.w x0 H fun r H' => Q r H') : ∃ r H', S_cellaretlaw32_PlanParts [x0] H r H' ∧ Q r H' := by
  obtain ⟨r, H', h1, h2⟩ := (cellaretlaw32_PlanParts.ex x0 H).out h
  exact ⟨r, H', ⟨_, rfl, h1⟩, h2⟩

end Go.Sh

/- Images: what may be laid, what is laid, what is missing. -/
namespace Go.Sh
open Go Go.Abs

def rightL : List PutV → Int
  | [] => 0
  | p :: l => if p.1 < 0 ∨ 288 ≤ p.1 then 3 else if p.2.length ≠ 64 then 6 else rightL l
def rightE (s : List UInt8) (l : List PutV) : Int := if s.length ≠ 18432 then 6 else rightL l
def blk (s : List UInt8) (k : Nat) : List UInt8 := (s.take (64 * k + 64)).drop (64 * k)
def layL (s : List UInt8) (p : PutV) : List UInt8 := s.take (64 * p.1.toNat) ++ p.2 ++ s.drop (64 * p.1.toNat + 64)
def applyL (s : List UInt8) (l : List PutV) : List UInt8 := l.foldl layL s
def missL (s : List UInt8) (l : List PutV) : List Int := (l.filter fun p => decide (blk s p.1.toNat ≠ p.2)).map (·.1)
theorem right_all {l : List PutV} (h : rightL l = 0) : ∀ p ∈ l, 0 ≤ p.1 ∧ p.1 < 288 ∧ p.2.length = 64 := by
  induction l with
  | nil => nofun
  | cons q l ih =>
    unfold rightL at h
    split at h
    · omega
    · split at h
      · omega
      · rename_i h1 h2
        intro p hp
        rcases List.mem_cons.1 hp with rfl | hp
        · omega
        · exact ih h p hp
theorem right_cons {l : List PutV} {k : Nat} {p : PutV} (h : l[k]? = some p) : rightL (l.drop k) = if p.1 < 0 ∨ 288 ≤ p.1 then 3 else if p.2.length ≠ 64 then 6 else rightL (l.drop (k + 1)) := by
  obtain ⟨hk, rfl⟩ := List.getElem?_eq_some_iff.1 h
  rw [List.drop_eq_getElem_cons hk]
  rfl
theorem lay1_len {s : List UInt8} {p : PutV} (hs : s.length = 18432) (h : 0 ≤ p.1 ∧ p.1 < 288 ∧ p.2.length = 64) : (layL s p).length = 18432 := by
  unfold layL
  simp only [List.length_append, List.length_take, List.length_drop]
  omega
theorem apply_len : ∀ {l : List PutV} {s : List UInt8}, s.length = 18432 → (∀ p ∈ l, 0 ≤ p.1 ∧ p.1 < 288 ∧ p.2.length = 64) → (applyL s l).length = 18432
  | [], _, h, _ => h
  | p :: l, s, h, hl => apply_len (l := l) (lay1_len h (hl p List.mem_cons_self)) fun q hq => hl q (List.mem_cons_of_mem _ hq)
theorem apply_step {l : List PutV} {k : Nat} {p : PutV} (h : l[k]? = some p) (s : List UInt8) : applyL s (l.take (k + 1)) = layL (applyL s (l.take k)) p := by
  unfold applyL
  rw [List.take_add_one, h, List.foldl_append]
  rfl
theorem miss_step {l : List PutV} {k : Nat} {p : PutV} (h : l[k]? = some p) (s : List UInt8) : missL s (l.take (k + 1)) = missL s (l.take k) ++ (if blk s p.1.toNat ≠ p.2 then [p.1] else []) := by
  unfold missL
  rw [List.take_add_one, h, List.filter_append, List.map_append]
  congr 1
  by_cases hp : blk s p.1.toNat = p.2 <;> simp [hp]
theorem miss_len (s : List UInt8) (l : List PutV) : (missL s l).length ≤ l.length := by
  unfold missL
  rw [List.length_map]
  exact List.length_filter_le _ _
theorem lay_splice {s : List UInt8} {p : PutV} (hs : s.length = 18432) (h : 0 ≤ p.1 ∧ p.1 < 288 ∧ p.2.length = 64) : splice s (64 * p.1.toNat) p.2 = layL s p := by
  unfold splice layL
  rw [h.2.2]
theorem splice_bytes (s t : List UInt8) (o : Nat) : splice (s.map ofByte) o (t.map ofByte) = (splice s o t).map ofByte := by
  simp [splice, List.map_append, List.map_take, List.map_drop]
section
variable {H0 B : AHeap} {own : Nat → Prop} {R : List Part}
/-- copy(b[o:], t) -/
theorem s_into {sv : AVal} {n o : Nat} {s t : List UInt8} {kd : IntKind} (h : Sep H0 own B (.sl sv 1 n (s.map ofByte) :: R)) (h0 : 0 < t.length) (h1 : o + t.length ≤ n) {K : AVal → AHeap → Prop}
    (k : ∀ C, Sep H0 own C (.sl sv 1 n ((splice s o t).map ofByte) :: R) → K (.int .i64 t.length) C) {w : AVal} (hw : aSlice B 1 sv (some (.int kd (o : Int))) none none = some w) : hb (aCopy B 1 w (.str t)) K := by
  obtain ⟨hl, ho⟩ := h.o0
  have hl : s.length = n := by simpa using hl
  have hm : ∀ c, min t.length c = t.length ↔ t.length ≤ c := fun c => by omega
  have key : ∀ i v kd', slId sv = some i → B[i]? = some (.cells v kd' (s.map ofByte)) → kd' ≠ .ro → (∀ C cs', C[i]? = some (.cells v kd' cs') → cs'.length = n → Own C sv 1 n cs') →
      ∀ (r : Ref) (c : Cap), r = ⟨i, v, o⟩ → w = .slice r (n - o) c → hb (aCopy B 1 w (.str t)) K := by
    intro i v kd' hid hg hkd hown r c hr hw'
    subst hr; subst hw'
    have e : wrCells B ⟨i, v, o⟩ (t.map ofByte) = some (B.set i (.cells v kd' (splice (s.map ofByte) o (t.map ofByte)))) := wr_of (r := ⟨i, v, o⟩) hg rfl hkd (by simp; omega) (cells_byte t)
    have e2 : min t.length (n - o) = t.length := by omega
    refine hb_i (v := .int .i64 t.length) (H := B.set i (.cells v kd' (splice (s.map ofByte) o (t.map ofByte)))) ?_ ?_
    · simp only [aCopy, srcLen, srcCells, e2, List.take_length, e]
    · refine k _ (h.put (by simp) (fun j hj => .inl hj) (fun q _ hq => List.getElem?_set_ne fun hq' => hq ?_) ?_)
      · simp only [Part.sl, hid, ← hq']; simp
      · rw [splice_bytes]
        exact hown _ _ (List.getElem?_set_self (lt_of_some hg)) (by rw [List.length_map, splice_length (by omega)]; exact hl)
  rcases ho with ⟨rfl, rfl⟩ | ⟨i, v, rfl, hg⟩ | ⟨i, v, rfl, hg⟩
  · omega
  · have hv := View.vera hg
    simp only [aSlice, bnd_none] at hw
    rw [show bnd 0 (some (.int kd (o : Int))) = some o by simp [bnd]] at hw
    simp only at hw
    rw [if_pos ⟨hv.symm, by omega, by omega, Nat.le_refl _⟩] at hw
    cases hw
    refine key i v .exact rfl hg nofun (fun C cs' hc hl' => ⟨by omega, .inr (.inl ⟨i, v, rfl, hc⟩)⟩) _ _ ?_ rfl
    rw [if_neg (by omega)]; simp
  · have hv := View.vera hg
    simp only [aSlice, bnd_none] at hw
    rw [show bnd 0 (some (.int kd (o : Int))) = some o by simp [bnd]] at hw
    simp only at hw
    rw [if_pos ⟨hv.symm, trivial, by omega, Nat.le_refl _⟩] at hw
    cases hw
    refine key i v .opn rfl hg nofun (fun C cs' hc hl' => ⟨by omega, .inr (.inr ⟨i, v, rfl, hc⟩)⟩) _ _ ?_ rfl
    simp
theorem right_spec32 {x : AVal} {s : List UInt8} {l : List PutV} (hv : View B x 2 l.length (flat putC l)) (hn : l.length ≤ 4611686018427387904) (hs : s.length ≤ 1099511627776) :
    ∃ C, S_plan_right [.str s, x] B (.int .i64 (rightE s l)) C ∧ B <+: C := by
  obtain ⟨r, C, h, rfl, k⟩ := plan_right.out (x0 := .str s) (x1 := x) (H := B) (Q := fun r C => r = .int .i64 (rightE s l) ∧ B <+: C) (by
    unfold plan_right.w
    have hpl := putC_len
    have hsep : Sep B (fun _ => False) B [] := Sep.start B
    repeat first
    | with_reducible refine vb_i (neq64 _ _ _) ?_
    | with_reducible refine vb_i (e_lenSt _) ?_
    refine isB_c (fun h1 => ?_) (fun h1 => ?_)
    · have e : rightE s l = 6 := if_pos (by omega)
      rw [e]
      exact fin_ret (rvs_v (rvs_nil _)) ⟨List.prefix_refl _, rfl, List.prefix_refl _⟩
    have e : rightE s l = rightL l := if_neg (by omega)
    rw [e]
    refine vb_len hv ?_
    refine LoopP.ruleG (α := Nat) (fun j => [.int .i64 (j : Int)]) (fun j C => (j ≤ l.length ∧ rightL l = rightL (l.drop j)) ∧ Sep B (fun _ => False) C []) (fun j => l.length - j) 0 (by simp) ⟨⟨Nat.zero_le _, by simp⟩, hsep⟩ ?_
    clear hsep
    rintro j C Kn ⟨⟨hj, hu⟩, hs⟩ hk
    unfold plan_right.L4 plan_right.L4.b
    try simp only [evB]
    have hv' := hs.view hv (fun _ _ h => h)
    repeat first
    | with_reducible refine vb_i (lss64 _ _ _) ?_
    refine isB_c (fun h1 => ?_) (fun h1 => ?_)
    · have hb := List.getElem?_eq_getElem (l := l) (i := j) (by omega)
      generalize l[j] = p at hb
      rw [right_cons hb] at hu
      repeat first
      | with_reducible refine vb_i (lss64 _ _ _) ?_
      | with_reducible refine vb_i (e_fieldAddr _ _) ?_
      | ((with_reducible apply vb_ld); (· first | exact hs.g0 | exact hs.g1 | exact hs.g2 | exact hs.g3 | exact hs.g4 | exact hs.g5 | exact hs.g6 | exact hs.rd hg | exact hs.rd hg2 | exact hs.rd hg3 | exact hs.rd hg4 | assumption); (· rfl))
      | ((with_reducible apply vb_addrN); (· first | exact hs.o0.view | exact hs.o1.view | exact hs.o2.view | exact hs.o3.view | exact hs.o4.view | exact hs.o5.view | exact hs.o6.view | exact hs.rv hv | exact hs.rv hv2 | exact hs.rv hv3 | exact hs.rv hv4 | exact hs.view hkv hko | assumption); (· omega))
      | ((with_reducible apply vb_elN); (· first | exact hs.o0.view | exact hs.o1.view | exact hs.o2.view | exact hs.o3.view | exact hs.o4.view | exact hs.o5.view | exact hs.o6.view | exact hs.rv hv | exact hs.rv hv2 | exact hs.rv hv3 | exact hs.rv hv4 | exact hs.view hkv hko | assumption); (· first | exact bcell_len | exact pcell_len | exact one_len | assumption); (· first | exact hb | exact hb2 | assumption))
      | ((with_reducible refine s_alloc hs ?_); intro _ _ _ hs)
      | ((with_reducible first | apply s_storeA hs | apply s_storeA hs.f1 | apply s_storeA hs.f2); (· rfl); (· first | rfl | assumption); (· first | rfl | assumption); (· first | rfl | assumption); intro _ hs)
      refine isB_c (fun h2 => ?_) (fun h2 => ?_)
      · repeat first
        | with_reducible refine onE_i ?_
        | ((with_reducible refine onE_s ?_ ?_); (· decide))
        try simp only [evB]
        rw [hu, if_pos (.inl h2)]
        have hp := hs.pre fun _ x => x
        exact fin_ret (rvs_v (rvs_nil _)) ⟨hp, rfl, hp⟩
      repeat first
      | with_reducible refine vb_i (geq64 _ _ _) ?_
      | with_reducible refine vb_i (e_fieldAddr _ _) ?_
      | ((with_reducible apply vb_ld); (· first | exact hs.g0 | exact hs.g1 | exact hs.g2 | exact hs.g3 | exact hs.g4 | exact hs.g5 | exact hs.g6 | exact hs.rd hg | exact hs.rd hg2 | exact hs.rd hg3 | exact hs.rd hg4 | assumption); (· rfl))
      refine isB_c (fun h3 => ?_) (fun h3 => ?_)
      · repeat first
        | with_reducible refine onE_i ?_
        | ((with_reducible refine onE_s ?_ ?_); (· decide))
        try simp only [evB]
        rw [hu, if_pos (.inr h3)]
        have hp := hs.pre fun _ x => x
        exact fin_ret (rvs_v (rvs_nil _)) ⟨hp, rfl, hp⟩
      rw [if_neg (by omega)] at hu
      repeat first
      | with_reducible refine vb_i (neq64 _ _ _) ?_
      | with_reducible refine vb_i (e_lenSt _) ?_
      | with_reducible refine vb_i (e_fieldAddr _ _) ?_
      | ((with_reducible apply vb_ld); (· first | exact hs.g0 | exact hs.g1 | exact hs.g2 | exact hs.g3 | exact hs.g4 | exact hs.g5 | exact hs.g6 | exact hs.rd hg | exact hs.rd hg2 | exact hs.rd hg3 | exact hs.rd hg4 | assumption); (· rfl))
      refine isB_c (fun h4 => ?_) (fun h4 => ?_)
      · repeat first
        | with_reducible refine onE_i ?_
        | ((with_reducible refine onE_s ?_ ?_); (· decide))
        try simp only [evB]
        rw [hu, if_pos (by omega)]
        have hp := hs.pre fun _ x => x
        exact fin_ret (rvs_v (rvs_nil _)) ⟨hp, rfl, hp⟩
      rw [if_neg (by omega)] at hu
      repeat first
      | ((with_reducible refine vb_i (add64 ?_ ?_) ?_); (· omega); (· omega))
      exact hk (j + 1) _ ⟨⟨by omega, hu⟩, hs.drop (R1 := [])⟩ (by omega)
    · obtain rfl : j = l.length := by omega
      repeat first
      | with_reducible refine onE_i ?_
      try simp only [evB]
      rw [hu, List.drop_length]
      have hp := hs.pre fun _ x => x
      exact fin_ret (rvs_v (rvs_nil _)) ⟨hp, rfl, hp⟩)
  exact ⟨C, h, k⟩
theorem ref_right_spec {x : AVal} {s : List UInt8} {l : List PutV} (hv : View B x 2 l.length (flat putC l)) (hn : l.length ≤ 4611686018427387904) (hs : s.length ≤ 1099511627776) :
    ∃ C, S_cellaretref32_Right [.str s, x] B (.int .i64 (rightE s l)) C ∧ B <+: C := by
  obtain ⟨r, C, h, rfl, k⟩ := cellaretref32_Right.out (x0 := .str s) (x1 := x) (H := B) (Q := fun r C => r = .int .i64 (rightE s l) ∧ B <+: C) (by
    unfold cellaretref32_Right.w
    have hpl := putC_len
    repeat first
    | with_reducible refine vb_i (neq64 _ _ _) ?_
    | with_reducible refine vb_i (e_lenSt _) ?_
    refine isB_c (fun h1 => ?_) (fun h1 => ?_)
    · have e : rightE s l = 6 := if_pos (by omega)
      rw [e]
      exact fin_ret (rvs_v (rvs_nil _)) ⟨List.prefix_refl _, rfl, List.prefix_refl _⟩
    have e : rightE s l = rightL l := if_neg (by omega)
    rw [e]
    refine LoopP.ruleG (α := Nat) (fun j => [.int .i64 (j : Int)]) (fun j C => (j ≤ l.length ∧ rightL l = rightL (l.drop j)) ∧ B = C) (fun j => l.length - j) 0 (by simp) ⟨⟨Nat.zero_le _, by simp⟩, rfl⟩ ?_
    rintro j C Kn ⟨⟨hj, hu⟩, rfl⟩ hk
    have hs : Sep B (fun _ => False) B [] := Sep.start B
    unfold cellaretref32_Right.L4 cellaretref32_Right.L4.b
    try simp only [evB]
    repeat first
    | with_reducible refine vb_i (lss64 _ _ _) ?_
    | ((with_reducible apply vb_len); (· first | exact hs.o0.view | exact hs.o1.view | exact hs.o2.view | exact hs.o3.view | exact hs.o4.view | exact hs.o5.view | exact hs.o6.view | exact hs.rv hv | exact hs.rv hv2 | exact hs.rv hv3 | exact hs.rv hv4 | exact hs.view hkv hko | assumption))
    refine isB_c (fun h1 => ?_) (fun h1 => ?_)
    · have hb := List.getElem?_eq_getElem (l := l) (i := j) (by omega)
      generalize l[j] = p at hb
      rw [right_cons hb] at hu
      refine JoinP.mk (fun e vs D => B = D ∧ ((e = .ret ∧ vs = [.int .i64 3] ∧ (p.1 < 0 ∨ 288 ≤ p.1)) ∨ (e = .normal ∧ ¬ (p.1 < 0 ∨ 288 ≤ p.1)))) ?_ ?_
      · repeat first
        | with_reducible refine vb_i (lss64 _ _ _) ?_
        | with_reducible refine vb_i (e_fieldAddr _ _) ?_
        | ((with_reducible apply vb_addrN); (· first | exact hs.o0.view | exact hs.o1.view | exact hs.o2.view | exact hs.o3.view | exact hs.o4.view | exact hs.o5.view | exact hs.o6.view | exact hs.rv hv | exact hs.rv hv2 | exact hs.rv hv3 | exact hs.rv hv4 | exact hs.view hkv hko | assumption); (· omega))
        | ((with_reducible apply vb_el1); (· first | exact hs.o0.view | exact hs.o1.view | exact hs.o2.view | exact hs.o3.view | exact hs.o4.view | exact hs.o5.view | exact hs.o6.view | exact hs.rv hv | exact hs.rv hv2 | exact hs.rv hv3 | exact hs.rv hv4 | exact hs.view hkv hko | assumption); (· first | exact bcell_len | exact pcell_len | exact one_len | assumption); (· first | exact hb | exact hb2 | assumption); (· rfl))
        refine isB_c (fun h2 => ?_) (fun h2 => ?_)
        · exact ⟨rfl, .inl ⟨rfl, rfl, .inl h2⟩⟩
        repeat first
        | with_reducible refine vb_i (gtr64 _ _ _) ?_
        | with_reducible refine vb_i (e_fieldAddr _ _) ?_
        | ((with_reducible apply vb_addrN); (· first | exact hs.o0.view | exact hs.o1.view | exact hs.o2.view | exact hs.o3.view | exact hs.o4.view | exact hs.o5.view | exact hs.o6.view | exact hs.rv hv | exact hs.rv hv2 | exact hs.rv hv3 | exact hs.rv hv4 | exact hs.view hkv hko | assumption); (· omega))
        | ((with_reducible apply vb_el1); (· first | exact hs.o0.view | exact hs.o1.view | exact hs.o2.view | exact hs.o3.view | exact hs.o4.view | exact hs.o5.view | exact hs.o6.view | exact hs.rv hv | exact hs.rv hv2 | exact hs.rv hv3 | exact hs.rv hv4 | exact hs.view hkv hko | assumption); (· first | exact bcell_len | exact pcell_len | exact one_len | assumption); (· first | exact hb | exact hb2 | assumption); (· rfl))
        refine isB_c (fun h3 => ?_) (fun h3 => ?_)
        · exact ⟨rfl, .inl ⟨rfl, rfl, .inr (by omega)⟩⟩
        · exact ⟨rfl, .inr ⟨rfl, by omega⟩⟩
      rintro _ _ _ ⟨rfl, ⟨rfl, rfl, h2⟩ | ⟨rfl, h2⟩⟩
      · repeat first
        | with_reducible refine onE_i ?_
        | ((with_reducible refine onE_s ?_ ?_); (· decide))
        try simp only [evB]
        rw [hu, if_pos h2]
        exact fin_ret (rvs_v (rvs_nil _)) ⟨List.prefix_refl _, rfl, List.prefix_refl _⟩
      rw [if_neg h2] at hu
      repeat first
      | with_reducible refine onE_i ?_
      | with_reducible refine vb_i (neq64 _ _ _) ?_
      | with_reducible refine vb_i (e_lenSt _) ?_
      | with_reducible refine vb_i (e_fieldAddr _ _) ?_
      | ((with_reducible apply vb_addrN); (· first | exact hs.o0.view | exact hs.o1.view | exact hs.o2.view | exact hs.o3.view | exact hs.o4.view | exact hs.o5.view | exact hs.o6.view | exact hs.rv hv | exact hs.rv hv2 | exact hs.rv hv3 | exact hs.rv hv4 | exact hs.view hkv hko | assumption); (· omega))
      | ((with_reducible apply vb_el1); (· first | exact hs.o0.view | exact hs.o1.view | exact hs.o2.view | exact hs.o3.view | exact hs.o4.view | exact hs.o5.view | exact hs.o6.view | exact hs.rv hv | exact hs.rv hv2 | exact hs.rv hv3 | exact hs.rv hv4 | exact hs.view hkv hko | assumption); (· first | exact bcell_len | exact pcell_len | exact one_len | assumption); (· first | exact hb | exact hb2 | assumption); (· rfl))
      refine isB_c (fun h4 => ?_) (fun h4 => ?_)
      · repeat first
        | with_reducible refine onE_i ?_
        | ((with_reducible refine onE_s ?_ ?_); (· decide))
        try simp only [evB]
        rw [hu, if_pos (by omega)]
        exact fin_ret (rvs_v (rvs_nil _)) ⟨List.prefix_refl _, rfl, List.prefix_refl _⟩
      rw [if_neg (by omega)] at hu
      repeat first
      | ((with_reducible refine vb_i (add64 ?_ ?_) ?_); (· omega); (· omega))
      exact hk (j + 1) _ ⟨⟨by omega, hu⟩, rfl⟩ (by omega)
    · obtain rfl : j = l.length := by omega
      repeat first
      | with_reducible refine onE_i ?_
      try simp only [evB]
      rw [hu, List.drop_length]
      exact fin_ret (rvs_v (rvs_nil _)) ⟨List.prefix_refl _, rfl, List.prefix_refl _⟩)
  exact ⟨C, h, k⟩
end
end Go.Sh

/- Images: what is laid and what is missing, by the code; the document's lists. -/
namespace Go.Sh
open Go Go.Abs

def applyR (s : List UInt8) (l : List PutV) : List UInt8 := if rightE s l = 0 then applyL s l else []
def missR (s : List UInt8) (l : List PutV) : List Int := if rightE s l = 0 then missL s l else []
theorem rightE_zero {s : List UInt8} {l : List PutV} (h : rightE s l = 0) : s.length = 18432 ∧ rightL l = 0 := by
  unfold rightE at h
  split at h
  · omega
  · rename_i h1
    exact ⟨by omega, h⟩
def imgL (s : List UInt8) (odd : Bool) : List UInt8 := if odd then (full (s.take 18432) 18432).drop 1 else full (s.take 18432) 18432
theorem img_len (s : List UInt8) : (imgL s false).length = 18432 := full_len (by rw [List.length_take]; omega)
section
variable {H0 B : AHeap} {own : Nat → Prop} {R : List Part}
theorem light_spec32 {x : AVal} {l : List PutV} (hv : Vw B x 2 l.length (flat putC l)) (hn : l.length ≤ 9223372036854775807) :
    ∃ b C, S_cellaretlaw32_light [x] B (.bool b) C ∧ B <+: C ∧ (b = true → l.length < 80 ∧ ∀ p ∈ l, p.2.length ≤ 200) := by
  obtain ⟨r, C, h, ⟨b, rfl, hb⟩, k⟩ := cellaretlaw32_light.out (x0 := x) (H := B) (Q := fun r C => (∃ b, r = .bool b ∧ (b = true → l.length < 80 ∧ ∀ p ∈ l, p.2.length ≤ 200)) ∧ B <+: C) (by
    unfold cellaretlaw32_light.w
    have hpl := putC_len
    refine LoopP.ruleG (α := Nat) (fun j => [.int .i64 (j : Int)]) (fun j C => (j ≤ l.length ∧ j ≤ 80 ∧ ∀ p ∈ l.take j, p.2.length ≤ 200) ∧ B = C) (fun j => l.length - j) 0 (by simp) ⟨⟨Nat.zero_le _, Nat.zero_le _, by simp⟩, rfl⟩ ?_
    rintro j C Kn ⟨⟨hj, hj2, hu⟩, rfl⟩ hk
    have hs : Sep B (fun _ => False) B [] := Sep.start B
    unfold cellaretlaw32_light.L2 cellaretlaw32_light.L2.b
    try simp only [evB]
    refine JoinP.mk (fun e vs D => B = D ∧ ((e = .normal ∧ j < l.length ∧ j < 80) ∨ (e = .exit 0 ∧ ¬ (j < l.length ∧ j < 80)))) ?_ ?_
    · refine vb_lenW hv ?_
      repeat first
      | with_reducible refine vb_i (lss64 _ _ _) ?_
      refine isB_c (fun h4 => ?_) (fun h4 => ?_)
      · repeat first
        | with_reducible refine vb_i (lss64 _ _ _) ?_
        refine isB_c (fun h5 => ?_) (fun h5 => ?_)
        · exact ⟨rfl, .inl ⟨rfl, by omega, by omega⟩⟩
        · exact ⟨rfl, .inr ⟨rfl, by omega⟩⟩
      · exact ⟨rfl, .inr ⟨rfl, by omega⟩⟩
    rintro _ _ _ ⟨rfl, ⟨rfl, h4, h5⟩ | ⟨rfl, h4⟩⟩
    · have hv' := hv.at h4
      have hb := List.getElem?_eq_getElem h4
      generalize l[j] = p at hb
      repeat first
      | with_reducible refine onE_i ?_
      | ((with_reducible refine onE_s ?_ ?_); (· decide))
      | with_reducible refine vb_i (gtr64 _ _ _) ?_
      | with_reducible refine vb_i (e_lenSt _) ?_
      | with_reducible refine vb_i (e_fieldAddr _ _) ?_
      | ((with_reducible apply vb_addrN); (· first | exact hs.o0.view | exact hs.o1.view | exact hs.o2.view | exact hs.o3.view | exact hs.o4.view | exact hs.o5.view | exact hs.o6.view | exact hs.rv hv | exact hs.rv hv2 | exact hs.rv hv3 | exact hs.rv hv4 | exact hs.view hkv hko | assumption); (· omega))
      | ((with_reducible apply vb_el1); (· first | exact hs.o0.view | exact hs.o1.view | exact hs.o2.view | exact hs.o3.view | exact hs.o4.view | exact hs.o5.view | exact hs.o6.view | exact hs.rv hv | exact hs.rv hv2 | exact hs.rv hv3 | exact hs.rv hv4 | exact hs.view hkv hko | assumption); (· first | exact bcell_len | exact pcell_len | exact one_len | assumption); (· first | exact hb | exact hb2 | assumption); (· rfl))
      refine isB_c (fun h2 => ?_) (fun h2 => ?_)
      · repeat first
        | with_reducible refine onE_i ?_
        | ((with_reducible refine onE_s ?_ ?_); (· decide))
        try simp only [evB]
        exact fin_ret (rvs_v (rvs_nil _)) ⟨List.prefix_refl _, ⟨_, rfl, nofun⟩, List.prefix_refl _⟩
      · repeat first
        | ((with_reducible refine vb_i (add64 ?_ ?_) ?_); (· omega); (· omega))
        refine hk (j + 1) _ ⟨⟨by omega, by omega, fun q hq => ?_⟩, rfl⟩ (by omega)
        rw [List.take_add_one, hb] at hq
        simp only [Option.toList_some, List.mem_append, List.mem_singleton] at hq
        rcases hq with hq | rfl
        · exact hu q hq
        · omega
    · repeat first
      | with_reducible refine onE_i ?_
      refine vb_lenW hv ?_
      repeat first
      | with_reducible refine vb_i (lss64 _ _ _) ?_
      refine fin_ret (rvs_v (rvs_nil _)) ⟨List.prefix_refl _, ⟨_, rfl, fun h => ?_⟩, List.prefix_refl _⟩
      have h := of_decide_eq_true h
      obtain rfl : j = l.length := by omega
      rw [List.take_length] at hu
      exact ⟨by omega, hu⟩)
  exact ⟨b, C, h, k, hb⟩
theorem few_spec {x : AVal} {l : List (Rc × AVal)} (hv : recsAt B x l) (hn : l.length ≤ 9223372036854775807) (hm : ∀ r ∈ l, (Rc.puts r).length ≤ 9223372036854775807) :
    ∃ b C, S_cellaretlaw32_few [x] B (.bool b) C ∧ B <+: C ∧ (b = true → l.length ≤ 10 ∧ ∀ r ∈ l, (Rc.puts r).length < 80 ∧ ∀ p ∈ Rc.puts r, p.2.length ≤ 200) := by
  obtain ⟨r, C, h, ⟨b, rfl, hb⟩, k⟩ := cellaretlaw32_few.out (x0 := x) (H := B) (Q := fun r C => (∃ b, r = .bool b ∧ (b = true → l.length ≤ 10 ∧ ∀ r ∈ l, (Rc.puts r).length < 80 ∧ ∀ p ∈ Rc.puts r, p.2.length ≤ 200)) ∧ B <+: C) (by
    unfold cellaretlaw32_few.w
    have hpl := recC_len
    refine LoopP.ruleG (α := Nat) (fun j => [.int .i64 (j : Int)]) (fun j C => (j ≤ l.length ∧ j ≤ 10 ∧ ∀ r ∈ l.take j, (Rc.puts r).length < 80 ∧ ∀ p ∈ Rc.puts r, p.2.length ≤ 200) ∧ B <+: C) (fun j => l.length - j) 0 (by simp) ⟨⟨Nat.zero_le _, Nat.zero_le _, by simp⟩, List.prefix_refl _⟩ ?_
    rintro j C Kn ⟨⟨hj, hj2, hu⟩, hp⟩ hk
    have hs : Sep C (fun _ => False) C [] := Sep.start C
    obtain ⟨hv1, hv2⟩ := hv.pre hp
    unfold cellaretlaw32_few.L2 cellaretlaw32_few.L2.b
    try simp only [evB]
    refine JoinP.mk (fun e vs D => C = D ∧ ((e = .normal ∧ j < l.length ∧ j < 10) ∨ (e = .exit 0 ∧ ¬ (j < l.length ∧ j < 10)))) ?_ ?_
    · repeat first
      | with_reducible refine vb_i (lss64 _ _ _) ?_
      | ((with_reducible apply vb_len); (· first | exact hs.o0.view | exact hs.o1.view | exact hs.o2.view | exact hs.o3.view | exact hs.o4.view | exact hs.o5.view | exact hs.o6.view | exact hs.rv hv | exact hs.rv hv2 | exact hs.rv hv3 | exact hs.rv hv4 | exact hs.view hkv hko | assumption))
      refine isB_c (fun h4 => ?_) (fun h4 => ?_)
      · repeat first
        | with_reducible refine vb_i (lss64 _ _ _) ?_
        refine isB_c (fun h5 => ?_) (fun h5 => ?_)
        · exact ⟨rfl, .inl ⟨rfl, by omega, by omega⟩⟩
        · exact ⟨rfl, .inr ⟨rfl, by omega⟩⟩
      · exact ⟨rfl, .inr ⟨rfl, by omega⟩⟩
    rintro _ _ _ ⟨rfl, ⟨rfl, h4, h5⟩ | ⟨rfl, h4⟩⟩
    · have hb := List.getElem?_eq_getElem h4
      have hmem := List.getElem_mem h4
      generalize l[j] = q at hb hmem
      have h33 : (recC q)[33]? = some q.2 := by
        have := q.1.2
        unfold recC rcells
        rw [List.getElem?_cons_succ, List.getElem?_append_right (by simp [this])]; simp [this]
      repeat first
      | with_reducible refine onE_i ?_
      | ((with_reducible refine onE_s ?_ ?_); (· decide))
      | with_reducible refine vb_i (e_fieldAddr _ _) ?_
      | ((with_reducible apply vb_addrN); (· first | exact hs.o0.view | exact hs.o1.view | exact hs.o2.view | exact hs.o3.view | exact hs.o4.view | exact hs.o5.view | exact hs.o6.view | exact hs.rv hv | exact hs.rv hv2 | exact hs.rv hv3 | exact hs.rv hv4 | exact hs.view hkv hko | assumption); (· omega))
      refine vb_i (el_ld1 recC_len hv1 hb (o := 33) h33) ?_
      obtain ⟨b, D, hc, hp', hbb⟩ := light_spec32 (hv2 q hmem) (hm q hmem)
      refine cb_i _ _ hc ?_
      cases b with
      | false =>
        refine vb_i (v := .bool true) rfl ?_
        refine isB_Tr rfl ?_
        repeat first
        | with_reducible refine onE_i ?_
        | ((with_reducible refine onE_s ?_ ?_); (· decide))
        try simp only [evB]
        exact fin_ret (rvs_v (rvs_nil _)) ⟨hp.trans hp', ⟨_, rfl, nofun⟩, hp.trans hp'⟩
      | true =>
        refine vb_i (v := .bool false) rfl ?_
        refine isB_Fa rfl ?_
        repeat first
        | ((with_reducible refine vb_i (add64 ?_ ?_) ?_); (· omega); (· omega))
        refine hk (j + 1) _ ⟨⟨by omega, by omega, fun r hr => ?_⟩, hp.trans hp'⟩ (by omega)
        rw [List.take_add_one, hb] at hr
        simp only [Option.toList_some, List.mem_append, List.mem_singleton] at hr
        rcases hr with hr | rfl
        · exact hu r hr
        · exact hbb rfl
    · repeat first
      | with_reducible refine onE_i ?_
      | with_reducible refine vb_i (leq64 _ _ _) ?_
      | ((with_reducible apply vb_len); (· first | exact hs.o0.view | exact hs.o1.view | exact hs.o2.view | exact hs.o3.view | exact hs.o4.view | exact hs.o5.view | exact hs.o6.view | exact hs.rv hv | exact hs.rv hv2 | exact hs.rv hv3 | exact hs.rv hv4 | exact hs.view hkv hko | assumption))
      refine fin_ret (rvs_v (rvs_nil _)) ⟨hp, ⟨_, rfl, fun h => ?_⟩, hp⟩
      have h := of_decide_eq_true h
      obtain rfl : j = l.length := by omega
      rw [List.take_length] at hu
      exact ⟨by omega, hu⟩)
  exact ⟨b, C, h, k, hb⟩
theorem img_spec {s : List UInt8} {odd : Bool} (hs : s.length ≤ 1099511627776) : ∃ C, S_cellaretlaw32_image [.str s, .bool odd] B (.str (imgL s odd)) C ∧ B <+: C := by
  obtain ⟨r, C, h, rfl, k⟩ := cellaretlaw32_image.out (x0 := .str s) (x1 := .bool odd) (H := B) (Q := fun r C => r = .str (imgL s odd) ∧ B <+: C) (by
    unfold cellaretlaw32_image.w
    refine JoinP.mk (fun e vs D => B = D ∧ e = .normal ∧ vs = [.str (s.take 18432)]) ?_ ?_
    · repeat first
      | with_reducible refine vb_i (gtr64 _ _ _) ?_
      | with_reducible refine vb_i (e_lenSt _) ?_
      refine isB_c (fun h4 => ?_) (fun h4 => ?_)
      · refine vb_i (e_sliceStrTo (by decide) (by omega)) ?_
        exact ⟨rfl, rfl, rfl⟩
      · exact ⟨rfl, rfl, by rw [List.take_of_length_le (by omega)]⟩
    rintro _ _ _ ⟨rfl, rfl, rfl⟩
    rw [onE_same]
    try simp only [evB]
    refine cb_i (.str (full (s.take 18432) 18432)) _ ⟨s.take 18432, 18432, rfl, by decide, rfl, rfl⟩ ?_
    have hl : (full (s.take 18432) 18432).length = 18432 := full_len (by rw [List.length_take]; omega)
    cases odd with
    | false =>
      refine isB_Fa rfl ?_
      exact fin_ret (rvs_v (rvs_nil _)) ⟨List.prefix_refl _, rfl, List.prefix_refl _⟩
    | true =>
      refine isB_Tr rfl ?_
      refine vb_i (e_sliceStrFrom (by decide) (by rw [hl]; decide)) ?_
      exact fin_ret (rvs_v (rvs_nil _)) ⟨List.prefix_refl _, rfl, List.prefix_refl _⟩)
  exact ⟨C, h, k⟩
theorem apply1_spec {q : Nat} {sv : AVal} {s : List UInt8} {p : PutV} (h0 : Sep H0 own B (.obj q (.cells 0 .exact [sv]) :: .sl sv 1 18432 (s.map ofByte) :: R)) (hs : s.length = 18432) (hp : 0 ≤ p.1 ∧ p.1 < 288 ∧ p.2.length = 64) :
    ∃ C, S_plan_Apply_1 [.agg (putC p), .ptr ⟨q, 0, 0⟩] B (.tup []) C ∧ Sep H0 own C (.obj q (.cells 0 .exact [sv]) :: .sl sv 1 18432 ((layL s p).map ofByte) :: R) := by
  obtain ⟨r, C, h, rfl, k⟩ := plan_Apply_1.out (x0 := .agg (putC p)) (x1 := .ptr ⟨q, 0, 0⟩) (H := B) (Q := fun r C => r = .tup [] ∧ Sep H0 own C (.obj q (.cells 0 .exact [sv]) :: .sl sv 1 18432 ((layL s p).map ofByte) :: R)) (by
    unfold plan_Apply_1.w
    have hs := h0
    obtain ⟨a, t⟩ := p
    simp only at hp
    unfold putC
    repeat first
    | ((with_reducible refine vb_i (mul64 ?_ ?_) ?_); (· omega); (· omega))
    | with_reducible refine vb_i (e_fieldAddr _ _) ?_
    | ((with_reducible apply vb_ld); (· first | exact hs.g0 | exact hs.g1 | exact hs.g2 | exact hs.g3 | exact hs.g4 | exact hs.g5 | exact hs.g6 | exact hs.rd hg | exact hs.rd hg2 | exact hs.rd hg3 | exact hs.rd hg4 | assumption); (· rfl))
    | ((with_reducible apply s_box hs); (· rfl); intro _ _ _ hs; try simp only [AVal.cells] at hs)
    obtain ⟨w, hw, _⟩ := slice_view (l := some (.int .i64 (64 * a))) (h := none) hs.o2.view (lo := 64 * a.toNat) (hi := 18432) (by simp [bnd]; omega) (by simp [bnd]) (by omega) (Nat.le_refl _)
    refine vb_i hw ?_
    repeat first
    | with_reducible refine vb_i (e_fieldAddr _ _) ?_
    | ((with_reducible apply vb_ld); (· first | exact hs.g0 | exact hs.g1 | exact hs.g2 | exact hs.g3 | exact hs.g4 | exact hs.g5 | exact hs.g6 | exact hs.rd hg | exact hs.rd hg2 | exact hs.rd hg3 | exact hs.rd hg4 | assumption); (· rfl))
    rw [show (64 * a : Int) = ((64 * a.toNat : Nat) : Int) by omega] at hw
    refine s_into hs.f2 (by omega) (by omega) ?_ hw
    intro C hs
    refine fin_normal (rvs_nil _) ⟨rfl, ?_⟩
    have e : splice s (64 * a.toNat) t = layL s (a, t) := lay_splice (p := (a, t)) (by assumption) hp
    rw [e] at hs
    exact hs.f2.f2.tail)
  exact ⟨C, h, k⟩
theorem apply_spec {x : AVal} {s : List UInt8} {l : List PutV} (hv : View B x 2 l.length (flat putC l)) (hn : l.length ≤ 4611686018427387904) (hs : s.length ≤ 1099511627776) :
    ∃ C, S_plan_Apply [.str s, x] B (.tup [.str (applyR s l), .int .i64 (rightE s l)]) C ∧ B <+: C := by
  obtain ⟨r, C, h, rfl, k⟩ := plan_Apply.out (x0 := .str s) (x1 := x) (H := B) (Q := fun r C => r = .tup [.str (applyR s l), .int .i64 (rightE s l)] ∧ B <+: C) (by
    unfold plan_Apply.w
    have hpl := putC_len
    have hsep : Sep B (fun _ => False) B [] := Sep.start B
    obtain ⟨C, hc, hp⟩ := right_spec32 hv hn hs
    refine cb_i _ _ hc ?_
    have hsep := hsep.quiet hp
    clear hc hp
    repeat first
    | with_reducible refine vb_i (neq64 _ _ _) ?_
    refine isB_c (fun h1 => ?_) (fun h1 => ?_)
    · have hp := hsep.pre fun _ x => x
      have e : applyR s l = [] := if_neg h1
      rw [e]
      exact fin_ret (rvs_v (rvs_v (rvs_nil _))) ⟨hp, rfl, hp⟩
    have h1 : rightE s l = 0 := by omega
    obtain ⟨hl, hr⟩ := rightE_zero h1
    have hall := right_all hr
    have e : applyR s l = applyL s l := if_pos h1
    rw [e, h1]
    refine hb_i (v := .slice ⟨C.length, 0, 0⟩ s.length (.op 1)) (H := C ++ [.cells 0 .opn (s.map ofByte)]) (by simp only [aStr2Bytes]; rw [if_pos (by omega)]) ?_
    have hsep := hsep.new (.cells 0 .opn (s.map ofByte))
    have hsep := Sep.as (b := .sl (.slice ⟨C.length, 0, 0⟩ s.length (.op 1)) 1 18432 (s.map ofByte)) hsep rfl fun ho => ⟨by simp [hl], .inr (.inr ⟨C.length, 0, by rw [hl], ho⟩)⟩
    generalize AVal.slice ⟨C.length, 0, 0⟩ s.length (.op 1) = sv at hsep
    have hsc : sv.sc = true := by
      rcases hsep.o0.2 with ⟨rfl, _⟩ | ⟨i, v, rfl, _⟩ | ⟨i, v, rfl, _⟩ <;> rfl
    refine s_alloc hsep ?_
    intro q D _ hsep
    refine s_store1 hsep rfl hsc (by simp) ?_
    intro D hsep
    simp only [List.set_cons_zero] at hsep
    refine vb_len hv ?_
    refine LoopP.ruleG (α := Nat) (fun j => [.int .i64 (j : Int)]) (fun j D => j ≤ l.length ∧ Sep B (fun _ => False) D [.obj q (.cells 0 .exact [sv]), .sl sv 1 18432 ((applyL s (l.take j)).map ofByte)]) (fun j => l.length - j) 0 (by simp) ⟨Nat.zero_le _, hsep⟩ ?_
    clear hsep
    rintro j D Kn ⟨hj, hs⟩ hk
    unfold plan_Apply.L7 plan_Apply.L7.b
    try simp only [evB]
    have hv' := hs.view hv (fun _ _ h => h)
    repeat first
    | with_reducible refine vb_i (lss64 _ _ _) ?_
    refine isB_c (fun h2 => ?_) (fun h2 => ?_)
    · have hb := List.getElem?_eq_getElem (l := l) (i := j) (by omega)
      have hmem := List.getElem_mem (l := l) (n := j) (by omega)
      generalize l[j] = p at hb hmem
      have hst := apply_step hb s
      have hlen := apply_len (l := l.take j) hl (fun p hp => hall p (List.mem_of_mem_take hp))
      repeat first
      | ((with_reducible apply vb_ldA); (· first | exact hs.g0 | exact hs.g1 | exact hs.g2 | exact hs.g3 | exact hs.g4 | exact hs.g5 | exact hs.g6 | exact hs.rd hg | exact hs.rd hg2 | exact hs.rd hg3 | exact hs.rd hg4 | assumption); (· rfl))
      | ((with_reducible apply vb_addrN); (· first | exact hs.o0.view | exact hs.o1.view | exact hs.o2.view | exact hs.o3.view | exact hs.o4.view | exact hs.o5.view | exact hs.o6.view | exact hs.rv hv | exact hs.rv hv2 | exact hs.rv hv3 | exact hs.rv hv4 | exact hs.view hkv hko | assumption); (· omega))
      | ((with_reducible apply vb_elN); (· first | exact hs.o0.view | exact hs.o1.view | exact hs.o2.view | exact hs.o3.view | exact hs.o4.view | exact hs.o5.view | exact hs.o6.view | exact hs.rv hv | exact hs.rv hv2 | exact hs.rv hv3 | exact hs.rv hv4 | exact hs.view hkv hko | assumption); (· first | exact bcell_len | exact pcell_len | exact one_len | assumption); (· first | exact hb | exact hb2 | assumption))
      | ((with_reducible refine s_alloc hs ?_); intro _ _ _ hs)
      | ((with_reducible first | apply s_storeA hs | apply s_storeA hs.f1 | apply s_storeA hs.f2); (· rfl); (· first | rfl | assumption); (· first | rfl | assumption); (· first | rfl | assumption); intro _ hs)
      obtain ⟨D2, hc, hs⟩ := apply1_spec hs.tail hlen (hall p hmem)
      refine cb_i _ _ hc ?_
      repeat first
      | ((with_reducible refine vb_i (add64 ?_ ?_) ?_); (· omega); (· omega))
      refine hk (j + 1) _ ⟨by omega, ?_⟩ (by omega)
      rw [hst]
      exact hs
    · obtain rfl : j = l.length := by omega
      repeat first
      | with_reducible refine onE_i ?_
      | ((with_reducible apply vb_ld); (· first | exact hs.g0 | exact hs.g1 | exact hs.g2 | exact hs.g3 | exact hs.g4 | exact hs.g5 | exact hs.g6 | exact hs.rd hg | exact hs.rd hg2 | exact hs.rd hg3 | exact hs.rd hg4 | assumption); (· rfl))
      rw [List.take_length] at hs
      refine vb_i (bytes_str hs.o1.view) ?_
      have hp := hs.pre fun _ x => x
      exact fin_ret (rvs_v (rvs_v (rvs_nil _))) ⟨hp, rfl, hp⟩)
  exact ⟨C, h, k⟩
end
end Go.Sh

/- What is missing; the document's lists of blocks. -/
namespace Go.Sh
open Go Go.Abs

theorem blk_slice {s : List UInt8} {a : Int} (h0 : 0 ≤ a) (h1 : a < 288) (hs : s.length = 18432) : aSliceStr (.str s) (some (.int .i64 (64 * a))) (some (.int .i64 (64 * (a + 1)))) = some (.str (blk s a.toNat)) := by
  rw [e_sliceStr (by omega) (by omega) (by omega)]
  unfold blk
  rw [show (64 * (a + 1)).toNat = 64 * a.toNat + 64 by omega, show (64 * a).toNat = 64 * a.toNat by omega]
theorem allL_step {l : List (Rc × AVal)} {k : Nat} {r : Rc × AVal} (h : l[k]? = some r) : allL (l.take (k + 1)) = allL (l.take k) ++ Rc.puts r := by
  unfold allL
  rw [List.take_add_one, h]
  simp
theorem allL_len {l : List (Rc × AVal)} {n : Nat} (h : ∀ r ∈ l, (Rc.puts r).length ≤ n) : (allL l).length ≤ n * l.length := by
  unfold allL
  induction l with
  | nil => simp
  | cons r l ih =>
    have := ih fun q hq => h q (List.mem_cons_of_mem _ hq)
    have := h r List.mem_cons_self
    simp only [List.map_cons, List.flatten_cons, List.length_append, List.length_cons, Nat.mul_succ]
    omega
section
variable {B : AHeap}
theorem miss_spec {x : AVal} {s : List UInt8} {l : List PutV} (hv : View B x 2 l.length (flat putC l)) (hn : l.length ≤ 1099511627776) (hs : s.length ≤ 1099511627776) :
    ∃ sv C, S_plan_Missing [.str s, x] B (.tup [sv, .int .i64 (rightE s l)]) C ∧ B <+: C ∧ Sep B (fun _ => False) C [.sl sv 1 (missR s l).length (ints (missR s l))] := by
  obtain ⟨r, C, h, ⟨sv, rfl, k1⟩, k⟩ := plan_Missing.out (x0 := .str s) (x1 := x) (H := B) (Q := fun r C => (∃ sv, r = .tup [sv, .int .i64 (rightE s l)] ∧ Sep B (fun _ => False) C [.sl sv 1 (missR s l).length (ints (missR s l))]) ∧ B <+: C) (by
    unfold plan_Missing.w
    have hpl := putC_len
    have hsep : Sep B (fun _ => False) B [] := Sep.start B
    obtain ⟨C, hc, hp⟩ := right_spec32 hv (by omega) hs
    refine cb_i _ _ hc ?_
    have hsep := hsep.quiet hp
    clear hc hp
    repeat first
    | with_reducible refine vb_i (neq64 _ _ _) ?_
    refine isB_c (fun h1 => ?_) (fun h1 => ?_)
    · have hp := hsep.pre fun _ x => x
      have e : missR s l = [] := if_neg h1
      rw [e]
      exact fin_ret (rvs_v (rvs_v (rvs_nil _))) ⟨hp, ⟨.nils, rfl, s_nils hsep 1⟩, hp⟩
    have h1 : rightE s l = 0 := by omega
    obtain ⟨hl, hr⟩ := rightE_zero h1
    have hall := right_all hr
    have e : missR s l = missL s l := if_pos h1
    rw [e, h1]
    refine vb_len hv ?_
    refine LoopP.ruleG (α := AVal × Nat) (fun q => [q.1, .int .i64 (q.2 : Int)]) (fun q D => q.2 ≤ l.length ∧ Sep B (fun _ => False) D [.sl q.1 1 (missL s (l.take q.2)).length (ints (missL s (l.take q.2)))]) (fun q => l.length - q.2) (.nils, 0) (by simp) ⟨Nat.zero_le _, s_nils hsep 1⟩ ?_
    clear hsep
    rintro ⟨sv, j⟩ D Kn ⟨hj, hs⟩ hk
    simp only at hj hs hk
    unfold plan_Missing.L6 plan_Missing.L6.b
    try simp only [evB]
    have hv' := hs.view hv (fun _ _ h => h)
    repeat first
    | with_reducible refine vb_i (lss64 _ _ _) ?_
    refine isB_c (fun h2 => ?_) (fun h2 => ?_)
    · have hb := List.getElem?_eq_getElem (l := l) (i := j) (by omega)
      have hmem := List.getElem_mem (l := l) (n := j) (by omega)
      generalize l[j] = p at hb hmem
      have hst := miss_step hb s
      obtain ⟨hp0, hp1, hp2⟩ := hall p hmem
      have hle := miss_len s (l.take j)
      rw [List.length_take] at hle
      repeat first
      | ((with_reducible refine vb_i (add64 ?_ ?_) ?_); (· omega); (· omega))
      | ((with_reducible refine vb_i (mul64 ?_ ?_) ?_); (· omega); (· omega))
      | with_reducible refine vb_i (e_fieldAddr _ _) ?_
      | ((with_reducible apply vb_ld); (· first | exact hs.g0 | exact hs.g1 | exact hs.g2 | exact hs.g3 | exact hs.g4 | exact hs.g5 | exact hs.g6 | exact hs.rd hg | exact hs.rd hg2 | exact hs.rd hg3 | exact hs.rd hg4 | assumption); (· rfl))
      | ((with_reducible apply vb_addrN); (· first | exact hs.o0.view | exact hs.o1.view | exact hs.o2.view | exact hs.o3.view | exact hs.o4.view | exact hs.o5.view | exact hs.o6.view | exact hs.rv hv | exact hs.rv hv2 | exact hs.rv hv3 | exact hs.rv hv4 | exact hs.view hkv hko | assumption); (· omega))
      | ((with_reducible apply vb_elN); (· first | exact hs.o0.view | exact hs.o1.view | exact hs.o2.view | exact hs.o3.view | exact hs.o4.view | exact hs.o5.view | exact hs.o6.view | exact hs.rv hv | exact hs.rv hv2 | exact hs.rv hv3 | exact hs.rv hv4 | exact hs.view hkv hko | assumption); (· first | exact bcell_len | exact pcell_len | exact one_len | assumption); (· first | exact hb | exact hb2 | assumption))
      | ((with_reducible refine s_alloc hs ?_); intro _ _ _ hs)
      | ((with_reducible first | apply s_storeA hs | apply s_storeA hs.f1 | apply s_storeA hs.f2); (· rfl); (· first | rfl | assumption); (· first | rfl | assumption); (· first | rfl | assumption); intro _ hs)
      refine vb_i (blk_slice hp0 hp1 hl) ?_
      repeat first
      | with_reducible refine vb_i (neqs _ _) ?_
      | with_reducible refine vb_i (e_fieldAddr _ _) ?_
      | ((with_reducible apply vb_ld); (· first | exact hs.g0 | exact hs.g1 | exact hs.g2 | exact hs.g3 | exact hs.g4 | exact hs.g5 | exact hs.g6 | exact hs.rd hg | exact hs.rd hg2 | exact hs.rd hg3 | exact hs.rd hg4 | assumption); (· rfl))
      refine isB_c (fun h3 => ?_) (fun h3 => ?_)
      · rw [if_pos h3] at hst
        repeat first
        | with_reducible refine vb_i (e_fieldAddr _ _) ?_
        | ((with_reducible apply vb_ld); (· first | exact hs.g0 | exact hs.g1 | exact hs.g2 | exact hs.g3 | exact hs.g4 | exact hs.g5 | exact hs.g6 | exact hs.rd hg | exact hs.rd hg2 | exact hs.rd hg3 | exact hs.rd hg4 | assumption); (· rfl))
        refine s_push (m := 1) (xs := [.int .i64 p.1]) hs.f1 (by simp only [evF, evS]; rfl) (by decide) rfl rfl (by unfold room; omega) (by unfold room; omega) ?_
        intro sv' D2 hs
        repeat first
        | ((with_reducible refine vb_i (add64 ?_ ?_) ?_); (· omega); (· omega))
        refine hk (sv', j + 1) _ ⟨by simp only; omega, ?_⟩ (by simp only; omega)
        simp only
        rw [hst, List.length_append, show ints (missL s (l.take j) ++ [p.1]) = ints (missL s (l.take j)) ++ [.int .i64 p.1] by simp [ints]]
        exact hs.drop (R1 := [_])
      · rw [if_neg h3, List.append_nil] at hst
        repeat first
        | ((with_reducible refine vb_i (add64 ?_ ?_) ?_); (· omega); (· omega))
        refine hk (sv, j + 1) _ ⟨by simp only; omega, ?_⟩ (by simp only; omega)
        simp only
        rw [hst]
        exact hs.tail
    · obtain rfl : j = l.length := by omega
      repeat first
      | with_reducible refine onE_i ?_
      try simp only [evB]
      rw [List.take_length] at hs
      have hp := hs.pre fun _ x => x
      exact fin_ret (rvs_v (rvs_v (rvs_nil _))) ⟨hp, ⟨sv, rfl, hs⟩, hp⟩)
  exact ⟨sv, C, h, k, k1⟩
theorem ref_apply_spec {x : AVal} {s : List UInt8} {l : List PutV} (hv : View B x 2 l.length (flat putC l)) (hn : l.length ≤ 4611686018427387904) (hl : s.length = 18432) (hall : ∀ p ∈ l, 0 ≤ p.1 ∧ p.1 < 288 ∧ p.2.length = 64) :
    ∃ C, S_cellaretref32_Apply [.str s, x] B (.str (applyL s l)) C ∧ B <+: C := by
  obtain ⟨r, C, h, rfl, k⟩ := cellaretref32_Apply.out (x0 := .str s) (x1 := x) (H := B) (Q := fun r C => r = .str (applyL s l) ∧ B <+: C) (by
    unfold cellaretref32_Apply.w
    have hpl := putC_len
    refine LoopP.ruleG (α := Nat) (fun j => [.str (applyL s (l.take j)), .int .i64 (j : Int)]) (fun j D => j ≤ l.length ∧ B = D) (fun j => l.length - j) 0 (by simp [applyL]) ⟨Nat.zero_le _, rfl⟩ ?_
    rintro j D Kn ⟨hj, rfl⟩ hk
    have hs : Sep B (fun _ => False) B [] := Sep.start B
    unfold cellaretref32_Apply.L2 cellaretref32_Apply.L2.b
    try simp only [evB]
    repeat first
    | with_reducible refine vb_i (lss64 _ _ _) ?_
    | ((with_reducible apply vb_len); (· first | exact hs.o0.view | exact hs.o1.view | exact hs.o2.view | exact hs.o3.view | exact hs.o4.view | exact hs.o5.view | exact hs.o6.view | exact hs.rv hv | exact hs.rv hv2 | exact hs.rv hv3 | exact hs.rv hv4 | exact hs.view hkv hko | assumption))
    refine isB_c (fun h2 => ?_) (fun h2 => ?_)
    · have hb := List.getElem?_eq_getElem (l := l) (i := j) (by omega)
      have hmem := List.getElem_mem (l := l) (n := j) (by omega)
      generalize l[j] = p at hb hmem
      have hst := apply_step hb s
      have hlen := apply_len (l := l.take j) hl (fun p hp => hall p (List.mem_of_mem_take hp))
      obtain ⟨hp0, hp1, hp2⟩ := hall p hmem
      generalize applyL s (l.take j) = z at *
      repeat first
      | ((with_reducible refine vb_i (mul64 ?_ ?_) ?_); (· omega); (· omega))
      | with_reducible refine vb_i (e_fieldAddr _ _) ?_
      | ((with_reducible apply vb_addrN); (· first | exact hs.o0.view | exact hs.o1.view | exact hs.o2.view | exact hs.o3.view | exact hs.o4.view | exact hs.o5.view | exact hs.o6.view | exact hs.rv hv | exact hs.rv hv2 | exact hs.rv hv3 | exact hs.rv hv4 | exact hs.view hkv hko | assumption); (· omega))
      | ((with_reducible apply vb_el1); (· first | exact hs.o0.view | exact hs.o1.view | exact hs.o2.view | exact hs.o3.view | exact hs.o4.view | exact hs.o5.view | exact hs.o6.view | exact hs.rv hv | exact hs.rv hv2 | exact hs.rv hv3 | exact hs.rv hv4 | exact hs.view hkv hko | assumption); (· first | exact bcell_len | exact pcell_len | exact one_len | assumption); (· first | exact hb | exact hb2 | assumption); (· rfl))
      refine vb_i (e_sliceStrTo (by omega) (by omega)) ?_
      repeat first
      | refine vb_i (adds (by rw [List.length_take]; omega)) ?_
      | ((with_reducible refine vb_i (add64 ?_ ?_) ?_); (· omega); (· omega))
      | with_reducible refine vb_i (e_fieldAddr _ _) ?_
      | ((with_reducible apply vb_addrN); (· first | exact hs.o0.view | exact hs.o1.view | exact hs.o2.view | exact hs.o3.view | exact hs.o4.view | exact hs.o5.view | exact hs.o6.view | exact hs.rv hv | exact hs.rv hv2 | exact hs.rv hv3 | exact hs.rv hv4 | exact hs.view hkv hko | assumption); (· omega))
      | ((with_reducible apply vb_el1); (· first | exact hs.o0.view | exact hs.o1.view | exact hs.o2.view | exact hs.o3.view | exact hs.o4.view | exact hs.o5.view | exact hs.o6.view | exact hs.rv hv | exact hs.rv hv2 | exact hs.rv hv3 | exact hs.rv hv4 | exact hs.view hkv hko | assumption); (· first | exact bcell_len | exact pcell_len | exact one_len | assumption); (· first | exact hb | exact hb2 | assumption); (· rfl))
      refine vb_i (e_sliceStrFrom (by omega) (by omega)) ?_
      repeat first
      | refine vb_i (adds (by rw [List.length_append, List.length_take, List.length_drop]; omega)) ?_
      | ((with_reducible refine vb_i (add64 ?_ ?_) ?_); (· omega); (· omega))
      rw [show (64 * p.1).toNat = 64 * p.1.toNat by omega, show (64 * p.1 + 64).toNat = 64 * p.1.toNat + 64 by omega]
      have := hk (j + 1) B ⟨by omega, rfl⟩ (by omega)
      rw [hst] at this
      exact this
    · obtain rfl : j = l.length := by omega
      repeat first
      | with_reducible refine onE_i ?_
      try simp only [evB]
      rw [List.take_length]
      exact fin_ret (rvs_v (rvs_nil _)) ⟨List.prefix_refl _, rfl, List.prefix_refl _⟩)
  exact ⟨C, h, k⟩
theorem ref_all_spec {x : AVal} {l : List (Rc × AVal)} (hv : recsAt B x l) (hn : l.length ≤ 10) (hm : ∀ r ∈ l, (Rc.puts r).length ≤ 80) :
    ∃ sv C, S_cellaretref32_All [x] B sv C ∧ B <+: C ∧ Sep B (fun _ => False) C [.sl sv 2 (allL l).length (flat putC (allL l))] := by
  obtain ⟨r, C, h, k1, k⟩ := cellaretref32_All.out (x0 := x) (H := B) (Q := fun sv C => Sep B (fun _ => False) C [.sl sv 2 (allL l).length (flat putC (allL l))] ∧ B <+: C) (by
    unfold cellaretref32_All.w
    have hpl := recC_len
    have hsep : Sep B (fun _ => False) B [] := Sep.start B
    refine LoopP.ruleG (α := AVal × Nat) (fun q => [q.1, .int .i64 (q.2 : Int)]) (fun q D => q.2 ≤ l.length ∧ Sep B (fun _ => False) D [.sl q.1 2 (allL (l.take q.2)).length (flat putC (allL (l.take q.2)))]) (fun q => l.length - q.2) (.nils, 0) (by simp) ⟨Nat.zero_le _, s_nils hsep 2⟩ ?_
    clear hsep
    rintro ⟨sv, j⟩ D Kn ⟨hj, hs⟩ hk
    simp only at hj hs hk
    obtain ⟨hv1, hv2⟩ := hv.pre (hs.pre fun _ x => x)
    unfold cellaretref32_All.L3 cellaretref32_All.L3.b
    try simp only [evB]
    repeat first
    | with_reducible refine vb_i (lss64 _ _ _) ?_
    | ((with_reducible apply vb_len); (· first | exact hs.o0.view | exact hs.o1.view | exact hs.o2.view | exact hs.o3.view | exact hs.o4.view | exact hs.o5.view | exact hs.o6.view | exact hs.rv hv | exact hs.rv hv2 | exact hs.rv hv3 | exact hs.rv hv4 | exact hs.view hkv hko | assumption))
    refine isB_c (fun h2 => ?_) (fun h2 => ?_)
    · have hb := List.getElem?_eq_getElem (l := l) (i := j) (by omega)
      have hmem := List.getElem_mem (l := l) (n := j) (by omega)
      generalize l[j] = q at hb hmem
      have hst := allL_step hb
      have hq := hm q hmem
      have hle := allL_len (l := l.take j) (n := 80) (fun r hr => hm r (List.mem_of_mem_take hr))
      rw [List.length_take] at hle
      have h33 : (recC q)[33]? = some q.2 := by
        have := q.1.2
        unfold recC rcells
        rw [List.getElem?_cons_succ, List.getElem?_append_right (by simp [this])]; simp [this]
      repeat first
      | with_reducible refine vb_i (e_fieldAddr _ _) ?_
      | ((with_reducible apply vb_addrN); (· first | exact hs.o0.view | exact hs.o1.view | exact hs.o2.view | exact hs.o3.view | exact hs.o4.view | exact hs.o5.view | exact hs.o6.view | exact hs.rv hv | exact hs.rv hv2 | exact hs.rv hv3 | exact hs.rv hv4 | exact hs.view hkv hko | assumption); (· omega))
      refine vb_i (el_ld1 recC_len hv1 hb (o := 33) h33) ?_
      refine s_appw hs (by decide) (flat_len putC_len _) (hv2 q hmem) (flat_cell putC_cell _) (by unfold room; omega) (by unfold room; omega) ?_
      intro sv' D2 hs
      repeat first
      | ((with_reducible refine vb_i (add64 ?_ ?_) ?_); (· omega); (· omega))
      refine hk (sv', j + 1) _ ⟨by simp only; omega, ?_⟩ (by simp only; omega)
      simp only
      rw [hst, List.length_append, flat_app]
      exact hs
    · obtain rfl : j = l.length := by omega
      repeat first
      | with_reducible refine onE_i ?_
      try simp only [evB]
      rw [List.take_length] at hs
      have hp := hs.pre fun _ x => x
      exact fin_ret (rvs_v (rvs_nil _)) ⟨hp, hs, hp⟩)
  exact ⟨r, C, h, k, k1⟩
theorem ref_of_spec {x : AVal} {l : List PutV} (hv : View B x 2 l.length (flat putC l)) (hn : l.length ≤ 1048576) :
    ∃ sv C, S_cellaretref32_Of [x] B sv C ∧ B <+: C ∧ Sep B (fun _ => False) C [.sl sv 2 (setAll [] l).length (flat putC (setAll [] l))] := by
  obtain ⟨r, C, h, k1, k⟩ := cellaretref32_Of.out (x0 := x) (H := B) (Q := fun sv C => Sep B (fun _ => False) C [.sl sv 2 (setAll [] l).length (flat putC (setAll [] l))] ∧ B <+: C) (by
    unfold cellaretref32_Of.w
    have hpl := putC_len
    have hsep : Sep B (fun _ => False) B [] := Sep.start B
    refine LoopP.ruleG (α := AVal × Nat) (fun q => [q.1, .int .i64 (q.2 : Int)]) (fun q D => q.2 ≤ l.length ∧ Sep B (fun _ => False) D [.sl q.1 2 (setAll [] (l.take q.2)).length (flat putC (setAll [] (l.take q.2)))]) (fun q => l.length - q.2) (.nils, 0) (by simp) ⟨Nat.zero_le _, s_nils hsep 2⟩ ?_
    clear hsep
    rintro ⟨sv, j⟩ D Kn ⟨hj, hs⟩ hk
    simp only at hj hs hk
    have hv' := hs.view hv (fun _ _ h => h)
    unfold cellaretref32_Of.L3 cellaretref32_Of.L3.b
    try simp only [evB]
    refine vb_len hv' ?_
    repeat first
    | with_reducible refine vb_i (lss64 _ _ _) ?_
    refine isB_c (fun h2 => ?_) (fun h2 => ?_)
    · have hb := List.getElem?_eq_getElem (l := l) (i := j) (by omega)
      generalize l[j] = q at hb
      have hst := setAll_step hb []
      have hle := setAll_take l j
      generalize setAll [] (l.take j) = z at *
      refine vb_addrN hv' (by omega) ?_
      refine vb_i (el_ldN putC_len hv' hb) ?_
      obtain ⟨sv', D2, hc, hp, hk2⟩ := set_spec (p := q) hs.o0.view (by omega)
      refine cb_i _ _ hc ?_
      have hs := Sep.call01 hs (hk2.own_of fun _ h => h.elim)
      repeat first
      | ((with_reducible refine vb_i (add64 ?_ ?_) ?_); (· omega); (· omega))
      refine hk (sv', j + 1) _ ⟨by simp only; omega, ?_⟩ (by simp only; omega)
      simp only
      rw [hst]
      exact hs.drop (R1 := [_])
    · obtain rfl : j = l.length := by omega
      repeat first
      | with_reducible refine onE_i ?_
      try simp only [evB]
      rw [List.take_length] at hs
      have hp := hs.pre fun _ x => x
      exact fin_ret (rvs_v (rvs_nil _)) ⟨hp, hs, hp⟩)
  exact ⟨r, C, h, k, k1⟩
end
end Go.Sh

/- Two lists of blocks, one behind the other. -/
namespace Go.Sh
open Go Go.Abs

/-- A map of these blocks. -/
def mapP (m : Nat) (l : List PutV) : Part where
  ids := [m]
  ok B := Rising l ∧ ∃ w es, B[m]? = some (.map w (ments es)) ∧ l.Perm es
  loc B C h k := by
    obtain ⟨h1, w, es, h2, h3⟩ := k
    exact ⟨h1, w, es, by rw [h m (by simp)]; exact h2, h3⟩
  live B h i hi := by
    obtain ⟨h1, w, es, h2, h3⟩ := h
    simp at hi; subst hi; exact lt_of_some h2
theorem drop_twice (l : List PutV) (a : Int) : dropL (dropL l a) a = dropL l a := drop_none (drop_no l a)
theorem set_drop (l : List PutV) (p : PutV) : setL (dropL l p.1) p = setL l p := by unfold setL; rw [drop_twice]
section
variable {H0 B : AHeap} {own : Nat → Prop} {R : List Part}
theorem mp_set {m w : Nat} {l l' es : List PutV} (hs : Sep H0 own B (mapP m l :: R)) (hr : Rising l') (hp : l'.Perm es) : Sep H0 own (B.set m (.map w (ments es))) (mapP m l' :: R) := by
  obtain ⟨h2, w0, es0, h4, h5⟩ := hs.head
  have hm := lt_of_some h4
  refine hs.put (by simp) (fun j hj => .inl hj) (fun k _ hk => List.getElem?_set_ne (fun e => hk (by rw [← e]; simp [mapP]))) ?_
  exact ⟨hr, w, es, by rw [List.getElem?_set_self hm], hp⟩
theorem behind_in {H D : AHeap} {m : Nat} {z : AVal} {c acc : List PutV} (hz : Vw H z 2 c.length (flat putC c)) (hc : c.length ≤ 1048576) (hs : Sep H (fun _ => False) D (mapP m acc :: R)) {K : AExit → List AVal → AHeap → Prop}
    (k : ∀ D', Sep H (fun _ => False) D' (mapP m (setAll acc c) :: R) → K (.exit 2) [] D') : LoopP (plan_Behind.L6 (.int .i64 c.length) z (.map m)) [.int .i64 0] D K := by
  have hpl := putC_len
  refine LoopP.ruleG (α := Nat) (fun j => [.int .i64 (j : Int)]) (fun j D => j ≤ c.length ∧ Sep H (fun _ => False) D (mapP m (setAll acc (c.take j)) :: R)) (fun j => c.length - j) 0 (by simp) ⟨Nat.zero_le _, by simpa [setAll] using hs⟩ ?_
  clear hs
  rintro j D Kn ⟨hj, hs⟩ hk
  unfold plan_Behind.L6 plan_Behind.L6.b
  try simp only [evB]
  repeat first
  | with_reducible refine vb_i (lss64 _ _ _) ?_
  refine isB_c (fun h1 => ?_) (fun h1 => ?_)
  · have hb := List.getElem?_eq_getElem (l := c) (i := j) (by omega)
    generalize c[j] = p at hb
    have hst := setAll_step hb acc
    generalize setAll acc (c.take j) = acc' at *
    have hv' := hs.view (hz.at (k := j) (by omega)) (fun _ _ h => h)
    repeat first
    | with_reducible refine vb_i (e_fieldAddr _ _) ?_
    | ((with_reducible apply vb_ld); (· first | exact hs.g0 | exact hs.g1 | exact hs.g2 | exact hs.g3 | exact hs.g4 | exact hs.g5 | exact hs.g6 | exact hs.rd hg | exact hs.rd hg2 | exact hs.rd hg3 | exact hs.rd hg4 | assumption); (· rfl))
    | ((with_reducible apply vb_addrN); (· first | exact hs.o0.view | exact hs.o1.view | exact hs.o2.view | exact hs.o3.view | exact hs.o4.view | exact hs.o5.view | exact hs.o6.view | exact hs.rv hv | exact hs.rv hv2 | exact hs.rv hv3 | exact hs.rv hv4 | exact hs.view hkv hko | assumption); (· omega))
    | ((with_reducible apply vb_elN); (· first | exact hs.o0.view | exact hs.o1.view | exact hs.o2.view | exact hs.o3.view | exact hs.o4.view | exact hs.o5.view | exact hs.o6.view | exact hs.rv hv | exact hs.rv hv2 | exact hs.rv hv3 | exact hs.rv hv4 | exact hs.view hkv hko | assumption); (· first | exact bcell_len | exact pcell_len | exact one_len | assumption); (· first | exact hb | exact hb2 | assumption))
    | ((with_reducible refine s_alloc hs ?_); intro _ _ _ hs)
    | ((with_reducible first | apply s_storeA hs | apply s_storeA hs.f1 | apply s_storeA hs.f2); (· rfl); (· first | rfl | assumption); (· first | rfl | assumption); (· first | rfl | assumption); intro _ hs)
    obtain ⟨h2, w, es, h3, h4⟩ := hs.tail.head
    obtain ⟨es', e1, e2⟩ := map_del (a := p.1) h3 h2 h4
    refine hb_i e1 ?_
    have hs := mp_set (w := w + 1) hs.f1 (rise_drop h2 _) e2
    have hs := hs.f1
    repeat first
    | with_reducible refine vb_i (e_fieldAddr _ _) ?_
    | ((with_reducible apply vb_ld); (· first | exact hs.g0 | exact hs.g1 | exact hs.g2 | exact hs.g3 | exact hs.g4 | exact hs.g5 | exact hs.g6 | exact hs.rd hg | exact hs.rd hg2 | exact hs.rd hg3 | exact hs.rd hg4 | assumption); (· rfl))
    obtain ⟨h2, w, es, h3, h4⟩ := hs.tail.head
    obtain ⟨es', e1, e2⟩ := map_put (a := p.1) h3 h2 h4 p.2
    refine sb_i e1 ?_
    have hs := mp_set (w := w + 1) hs.f1 (rise_set h2 _) e2
    repeat first
    | ((with_reducible refine vb_i (add64 ?_ ?_) ?_); (· omega); (· omega))
    refine hk (j + 1) _ ⟨by omega, ?_⟩ (by omega)
    rw [hst]
    rw [show (p.1, p.2) = p from rfl, set_drop] at hs
    exact hs.f1.tail
  · obtain rfl : j = c.length := by omega
    skip
    rw [List.take_length] at hs
    exact k _ hs
theorem range_out {H D : AHeap} {m w : Nat} {es l : List PutV} (hHD : H <+: D) (hm : D[m]? = some (.map w (ments es))) (hr : Rising l) (hp0 : l.Perm es) (hl : l.length ≤ 2097152) {r : AVal} {H' : AHeap}
    (h : (l = [] ∧ r = .nils ∧ H' = H) ∨ (l ≠ [] ∧ r = .slice ⟨H.length, 0, 0⟩ l.length (.op 2) ∧ H' = H ++ [.cells 0 .opn (flat putC l)])) :
    LoopP (plan_Behind.L14 (.ptr ⟨D.length, 0, 0⟩)) [.nils] (D ++ [.mapIter (some (m, w)) (ments es) none]) fun e58 vs59 H60 =>
      onE e58 (.exit 4)
        (cb (S_sortPuts26 [vs59.getD 0 .undef, .func (.func 26) [] []] H60) fun _ H62 =>
        fin .ret [.v (vs59.getD 0 .undef)] H62 fun r1 H1 => Weak H r1 H1 r H')
      (False) := by
  have hmD := lt_of_some hm
  have hes : es.length = l.length := hp0.length_eq.symm
  refine LoopP.ruleG (α := AVal × List PutV × List PutV) (fun a => [a.1]) (fun a C => (D <+: C ∧ (∃ cur, C[D.length]? = some (.mapIter (some (m, w)) (ments a.2.2) cur)) ∧ (a.2.1 ++ a.2.2).Perm es ∧ (∀ k, slId a.1 = some k → D.length ≤ k) ∧ (a.2.1 = [] → a.1 = .nils)) ∧ OwnO C a.1 2 a.2.1.length (flat putC a.2.1)) (fun a => a.2.2.length) (.nils, [], es) (by simp)
    ⟨⟨pre_app _ _, ⟨none, by rw [app_get0]; rfl⟩, List.Perm.refl _, (fun k hk => by cases hk), fun _ => rfl⟩, OwnO.nils _ 2⟩ ?_
  rintro ⟨sv, dn, lf⟩ C Kn ⟨⟨hp, ⟨cur, hc⟩, hpm, hid, hnil⟩, ho⟩ hk
  simp only at hc hpm ho hid hnil
  unfold plan_Behind.L14 plan_Behind.L14.b
  try simp only [evB]
  have hver : ∀ E : AHeap, D <+: E → verOf E m = w := fun E hE => verOf_some (o := .map w (ments es)) (by rw [pre_get hE hmD]; exact hm)
  refine nx_iter hc (hver C hp) (fun e => ?_) (fun k p hkp => ?_)
  · subst e
    rw [List.append_nil] at hpm
    rw [isB_bool, cond_false, onE_same]
    have hdl : l.Perm dn := hp0.trans hpm.symm
    have hdn : dn.length = es.length := hpm.length_eq
    rcases ho.2 with ⟨rfl, hz⟩ | ⟨q, v, rfl, hq⟩
    · have hdn0 : dn = [] := List.eq_nil_of_length_eq_zero hz
      subst hdn0
      have hl : l = [] := hdl.eq_nil
      subst hl
      refine cb_i (.tup []) C ⟨[], [], List.Perm.refl _, List.Pairwise.nil, by decide, rfl, .inr ⟨rfl, rfl, rfl⟩⟩ ?_
      rcases h with ⟨_, rfl, rfl⟩ | ⟨h, _⟩
      · exact fin_ret (rvs_v (rvs_nil _)) (Weak.plain rfl (hHD.trans hp))
      · exact absurd rfl h
    · have hqD : D.length ≤ q := hid q rfl
      have hHl := hHD.length_le
      refine cb_i (.tup []) (C.set q (.cells v .opn (flat putC l))) ⟨dn, l, hdl, hr, by omega, rfl, .inl ⟨q, v, rfl, hq, rfl⟩⟩ ?_
      have hfl := flat_len putC_len l
      have ho' : OwnO (C.set q (.cells v .opn (flat putC l))) (.slice ⟨q, v, 0⟩ dn.length (.op 2)) 2 l.length (flat putC l) := by
        rw [← hdl.length_eq]
        exact ⟨hfl, .inr ⟨q, v, rfl, List.getElem?_set_self (lt_of_some hq)⟩⟩
      rcases h with ⟨hl, rfl, rfl⟩ | ⟨hl, rfl, rfl⟩
      · have hd0 : dn = [] := by subst hl; exact hdl.nil_eq.symm
        cases hnil hd0
      · refine fin_ret (rvs_v (rvs_nil _)) (OwnO.weak ho' (List.length_pos_iff.2 hl) (puts_plain l) (pre_set (hHD.trans hp) (by omega) _) (fun k hk => by cases hk; show H.length ≤ q; omega) fun ρ σ N hN hr => ?_)
        exact hr
  · rw [isB_bool, cond_true]
    have hCl : D.length < C.length := lt_of_some hc
    have hp' : D <+: C.set D.length (.mapIter (some (m, w)) (ments (lf.eraseIdx k)) (some (.int .i64 p.1, .str p.2))) := pre_set hp (Nat.le_refl _) _
    have hlf := erase_perm hkp
    have hdl : dn.length + lf.length = es.length := by rw [← List.length_append]; exact hpm.length_eq
    have hlf1 : lf.length = (lf.eraseIdx k).length + 1 := by rw [hlf.length_eq]; rfl
    have hc' : (C.set D.length (.mapIter (some (m, w)) (ments (lf.eraseIdx k)) (some (.int .i64 p.1, .str p.2))))[D.length]? = some (.mapIter (some (m, w)) (ments (lf.eraseIdx k)) (some (.int .i64 p.1, .str p.2))) := List.getElem?_set_self hCl
    refine vb_i (e_entry hc' (hver _ hp')) ?_
    refine vb_i e_ext0 ?_
    refine vb_i e_ext1 ?_
    refine vb_i (v := .agg (putC p)) rfl ?_
    have ho' : OwnO (C.set D.length (.mapIter (some (m, w)) (ments (lf.eraseIdx k)) (some (.int .i64 p.1, .str p.2)))) sv 2 dn.length (flat putC dn) := by
      refine ⟨ho.1, ho.2.imp id fun ⟨q, v, e, hq⟩ => ⟨q, v, e, ?_⟩⟩
      rw [List.getElem?_set_ne (fun e' => by rw [← e', hc] at hq; cases hq)]
      exact hq
    generalize C.set D.length (.mapIter (some (m, w)) (ments (lf.eraseIdx k)) (some (.int .i64 p.1, .str p.2))) = E at *
    have hDl : D.length < E.length := lt_of_some hc'
    have hsv : slId sv ≠ some D.length := by
      intro e
      rcases ho'.2 with ⟨rfl, _⟩ | ⟨q, v, rfl, hq⟩
      · cases e
      · cases e; rw [hc'] at hq; cases hq
    refine pushON ho' (by decide) (putC_len p) rfl (putC_cell p) (by unfold room at *; omega) (by unfold room; omega) fun sv' D' o kk hi => ?_
    have hpm' : ((dn ++ [p]) ++ lf.eraseIdx k).Perm es := by
      refine List.Perm.trans ?_ hpm
      rw [List.append_assoc]
      exact (hlf.symm).append_left dn
    refine hk (sv', dn ++ [p], lf.eraseIdx k) D' ⟨⟨?_, ⟨some (.int .i64 p.1, .str p.2), ?_⟩, hpm', ?_, fun e => by simp at e⟩, ?_⟩ (by simp only; omega)
    · refine pre_of_get (Nat.le_trans (by omega) kk.len) fun j hj => ?_
      rw [kk.get j (by omega) ?_, pre_get hp' hj]
      intro e
      have := hid j e
      omega
    · rw [kk.get _ hDl hsv]; exact hc'
    · intro j hj
      rcases hi with hi | ⟨_, hi⟩
      · rw [hi] at hj; exact hid j hj
      · rw [hi] at hj; cases hj; omega
    · rw [flat_app, flat_one, List.length_append]
      exact o
theorem fill_two {x y : AVal} (sx : x.sc = true) (sy : y.sc = true) : fillA (fun i => some (i * 1, 1)) (fillCells 2 [.nils]) [(0, x), (1, y)] = some [x, y] := by
  have dx : x.defd = true := by cases x <;> simp_all [AVal.sc, AVal.defd]
  have dy : y.defd = true := by cases y <;> simp_all [AVal.sc, AVal.defd]
  simp [fillA, fillCells, sc_cells sx, sc_cells sy, dx, dy, splice]
theorem plan_Behind.ok (args : List AVal) (H : AHeap) (r : AVal) (H' : AHeap) (h : S_plan_Behind args H r H') : ∃ x0 x1, args = [x0, x1] ∧ plan_Behind.w x0 x1 H fun r1 H1 => Weak H r1 H1 r H' := by
  obtain ⟨x, y, a, b, rfl, hx, hy, sx, sy, hla, hlb, h⟩ := h
  refine ⟨x, y, rfl, ?_⟩
  unfold plan_Behind.w
  refine hb_i rfl ?_
  have hs : Sep H (fun _ => False) H [] := Sep.start H
  have hs := hs.new (.map 0 [])
  have hs := Sep.as (b := mapP H.length []) hs rfl fun ho => ⟨List.Pairwise.nil, 0, [], ho, List.Perm.refl _⟩
  refine s_row hs (cs := [x, y]) (fill_two sx sy) ?_
  intro q C _ hs
  have hs := hs.f1
  refine vb_i (e_lenSl _ _ _) ?_
  have la := setAll_len a []
  have lb := setAll_len b (setAll [] a)
  refine LoopP.ruleG (α := Nat) (fun j => [.int .i64 (j : Int)]) (fun j D => j ≤ 2 ∧ Sep H (fun _ => False) D [mapP H.length (if j = 0 then [] else if j = 1 then setAll [] a else setAll (setAll [] a) b), .obj q (.cells 0 .exact [x, y])]) (fun j => 2 - j) 0 (by simp) ⟨Nat.zero_le _, hs⟩ ?_
  clear hs
  rintro j D Kn ⟨hj, hs⟩ hk
  unfold plan_Behind.L3 plan_Behind.L3.b
  try simp only [evB]
  repeat first
  | with_reducible refine vb_i (lss64 _ _ _) ?_
  refine isB_c (fun h1 => ?_) (fun h1 => ?_)
  · refine vb_i (e_idxAddr (by omega) (by omega)) ?_
    simp only [Int.toNat_natCast, Nat.zero_add, Nat.mul_one]
    by_cases hj0 : j = 0
    · subst hj0
      refine vb_ld hs.g1 rfl ?_
      refine vb_lenW (hx.pre (hs.pre fun _ x => x)) ?_
      refine behind_in hx hla hs ?_
      intro D' hs
      repeat first
      | with_reducible refine onE_i ?_
      | ((with_reducible refine vb_i (add64 ?_ ?_) ?_); (· omega); (· omega))
      exact hk 1 _ ⟨by omega, hs⟩ (by omega)
    · obtain rfl : j = 1 := by omega
      refine vb_ld hs.g1 rfl ?_
      refine vb_lenW (hy.pre (hs.pre fun _ x => x)) ?_
      refine behind_in hy hlb hs ?_
      intro D' hs
      repeat first
      | with_reducible refine onE_i ?_
      | ((with_reducible refine vb_i (add64 ?_ ?_) ?_); (· omega); (· omega))
      exact hk 2 _ ⟨by omega, hs⟩ (by omega)
  · obtain rfl : j = 2 := by omega
    repeat first
    | with_reducible refine onE_i ?_
    obtain ⟨h2, w, es, h3, h4⟩ := hs.head
    refine hb_i (v := .ptr ⟨D.length, 0, 0⟩) (H := D ++ [.mapIter (some (H.length, w)) (ments es) none]) (by simp only [aRangeMap, h3]) ?_
    exact range_out (hs.pre fun _ x => x) h3 h2 h4 (by simp only [List.length_nil] at la; simp; omega) h
theorem behind_spec {x y : AVal} {a b : List PutV} (hx : Vw B x 2 a.length (flat putC a)) (hy : Vw B y 2 b.length (flat putC b)) (hla : a.length ≤ 1048576) (hlb : b.length ≤ 1048576) :
    ∃ sv C, S_plan_Behind [x, y] B sv C ∧ B <+: C ∧ Sep B (fun _ => False) C [.sl sv 2 (setAll (setAll [] a) b).length (flat putC (setAll (setAll [] a) b))] := by
  have sc : ∀ {z : AVal} {c : List PutV}, Vw B z 2 c.length (flat putC c) → z.sc = true := by
    intro z c hz
    rcases hz with ⟨_, ⟨rfl, _⟩ | ⟨i, v, off, cp, kd, cs', rfl, _⟩⟩ | ⟨_, _, i, rfl⟩ <;> rfl
  by_cases hl : setAll (setAll [] a) b = []
  · rw [hl]
    exact ⟨.nils, B, ⟨x, y, a, b, rfl, hx, hy, sc hx, sc hy, hla, hlb, .inl ⟨hl, rfl, rfl⟩⟩, List.prefix_refl _, s_nils (Sep.start B) 2⟩
  · refine ⟨_, _, ⟨x, y, a, b, rfl, hx, hy, sc hx, sc hy, hla, hlb, .inr ⟨hl, rfl, rfl⟩⟩, pre_app _ _, ?_⟩
    exact Sep.as ((Sep.start B).new _) rfl fun ho => ⟨flat_len putC_len _, .inr (.inr ⟨_, 0, rfl, ho⟩)⟩
end
end Go.Sh

/- Records that came in: may they be? -/
namespace Go.Sh
open Go Go.Abs

section
variable {B : AHeap}
theorem check_specW {x : AVal} {q : Rcd} (hq : q.root.length = 32 ∧ Vw B x 2 q.puts.length (flat ptc q.puts)) (hl : q.puts.length ≤ 9223372036854775807) : ∃ C, S_record_Check [recV q x] B (.int .i64 (checkE q)) C ∧ B <+: C := by
  obtain ⟨hr, hv0⟩ := hq
  obtain ⟨r, C, h, rfl, k⟩ := record_Check.out (x0 := recV q x) (H := B) (Q := fun r C => r = .int .i64 (checkE q) ∧ B <+: C) (by
    unfold record_Check.w
    have hs : Sep B (fun _ => False) B [] := Sep.start B
    refine s_box hs rfl fun i C1 _ hs => ?_
    simp only [recV, AVal.cells] at hs
    have hw := hv0.pre (hs.pre fun _ x => x)
    repeat first
    | ((with_reducible apply vb_rec33); (· exact hs.g0); (· assumption))
    | ((with_reducible apply vb_lenW); (· exact hw))
    | with_reducible refine vb_i (gtr64 _ _ _) ?_
    | with_reducible refine vb_i (e_fieldAddr _ _) ?_
    by_cases h64 : 64 < q.puts.length
    · repeat first
      | ((with_reducible refine isB_ct ?_ ?_); (· omega))
      refine fin_ret (rvs_v (rvs_nil _)) ⟨hs.pre fun _ x => x, ?_, hs.pre fun _ x => x⟩
      unfold checkE; rw [if_pos h64]; rfl
    repeat first
    | ((with_reducible refine isB_cf ?_ ?_); (· omega))
    refine JoinP.mk (fun e vs C => C1 = C ∧ ((e = .ret ∧ vs = [.int .i64 2] ∧ ¬ okSeq q) ∨ (e = .normal ∧ vs = [.int .i64 0] ∧ okSeq q))) ?_ ?_
    · repeat first
      | ((with_reducible apply vb_rec0); (· exact hs.g0))
      | with_reducible refine vb_i (lss64 _ _ _) ?_
      | with_reducible refine vb_i (e_fieldAddr _ _) ?_
      refine isB_c (fun h1 => ?_) (fun h1 => ?_)
      · exact ⟨rfl, .inl ⟨rfl, rfl, fun h => by unfold okSeq at h; omega⟩⟩
      · repeat first
        | ((with_reducible apply vb_rec0); (· exact hs.g0))
        | with_reducible refine vb_i (gtr64 _ _ _) ?_
        | with_reducible refine vb_i (e_fieldAddr _ _) ?_
        refine isB_c (fun h2 => ?_) (fun h2 => ?_)
        · exact ⟨rfl, .inl ⟨rfl, rfl, fun h => by unfold okSeq at h; omega⟩⟩
        · exact ⟨rfl, .inr ⟨rfl, rfl, by unfold okSeq; omega⟩⟩
    rintro e vs C ⟨rfl, ⟨rfl, rfl, h1⟩ | ⟨rfl, rfl, h1⟩⟩
    · repeat first
      | with_reducible refine onE_i ?_
      | ((with_reducible refine onE_s ?_ ?_); (· decide))
      try simp only [evB]
      refine fin_ret (rvs_v (rvs_nil _)) ⟨hs.pre fun _ x => x, ?_, hs.pre fun _ x => x⟩
      unfold checkE goodR; rw [if_neg h64, decide_eq_false h1]; rfl
    repeat first
    | ((with_reducible apply vb_rec33); (· exact hs.g0); (· assumption))
    | ((with_reducible apply vb_lenW); (· exact hw))
    | with_reducible refine onE_i ?_
    | with_reducible refine vb_i (e_fieldAddr _ _) ?_
    refine LoopP.ruleG (α := Int × Nat) (fun a => [.int .i64 a.1, .int .i64 (a.2 : Int)]) (fun a C => a.2 ≤ q.puts.length ∧ okF 160 q.puts = okF a.1 (q.puts.drop a.2) ∧ Sep B (fun _ => False) C []) (fun a => q.puts.length - a.2) (160, 0) (by simp)
      ⟨by omega, by simp, hs.tail⟩ ?_
    clear hs
    rintro ⟨last, j⟩ C Kn ⟨hj, hok, hs⟩ hk
    unfold record_Check.L7 record_Check.L7.b
    try simp only [evB]
    by_cases hjn : j < q.puts.length
    · have hv := hv0.at hjn
      have hb := List.getElem?_eq_getElem hjn
      rw [List.drop_eq_getElem_cons hjn] at hok
      generalize q.puts[j] = p at hb hok
      repeat first
      | ((with_reducible refine isB_ct ?_ ?_); (· omega))
      | with_reducible refine vb_i (lss64 _ _ _) ?_
      | ((with_reducible apply vb_addrN); (· first | exact hs.o0.view | exact hs.o1.view | exact hs.o2.view | exact hs.o3.view | exact hs.o4.view | exact hs.o5.view | exact hs.o6.view | exact hs.rv hv | exact hs.rv hv2 | exact hs.rv hv3 | exact hs.rv hv4 | exact hs.view hkv hko | assumption); (· omega))
      refine vb_i (el_ldN ptc_len (hs.rv hv) hb) ?_
      refine s_alloc hs fun t C2 _ hs => ?_
      refine s_storeA hs rfl rfl rfl rfl fun C3 hs => ?_
      refine JoinP.mk (fun e vs D => C3 = D ∧ ((e = .ret ∧ vs = [.int .i64 2] ∧ ¬ okP last p) ∨ (e = .normal ∧ okP last p))) ?_ ?_
      · repeat first
        | with_reducible refine vb_i (leq64 _ _ _) ?_
        | with_reducible refine vb_i (e_fieldAddr _ _) ?_
        | ((with_reducible apply vb_ld); (· first | exact hs.g0 | exact hs.g1 | exact hs.g2 | exact hs.g3 | exact hs.g4 | exact hs.g5 | exact hs.g6 | exact hs.rd hg | exact hs.rd hg2 | exact hs.rd hg3 | exact hs.rd hg4 | assumption); (· rfl))
        refine isB_c (fun h1 => ?_) (fun h1 => ?_)
        · exact ⟨rfl, .inl ⟨rfl, rfl, fun h => by unfold okP at h; omega⟩⟩
        repeat first
        | with_reducible refine vb_i (geq64 _ _ _) ?_
        | with_reducible refine vb_i (e_fieldAddr _ _) ?_
        | ((with_reducible apply vb_ld); (· first | exact hs.g0 | exact hs.g1 | exact hs.g2 | exact hs.g3 | exact hs.g4 | exact hs.g5 | exact hs.g6 | exact hs.rd hg | exact hs.rd hg2 | exact hs.rd hg3 | exact hs.rd hg4 | assumption); (· rfl))
        refine isB_c (fun h2 => ?_) (fun h2 => ?_)
        · exact ⟨rfl, .inl ⟨rfl, rfl, fun h => by unfold okP at h; omega⟩⟩
        repeat first
        | with_reducible refine vb_i (neq64 _ _ _) ?_
        | with_reducible refine vb_i (e_lenSt _) ?_
        | with_reducible refine vb_i (e_fieldAddr _ _) ?_
        | ((with_reducible apply vb_ld); (· first | exact hs.g0 | exact hs.g1 | exact hs.g2 | exact hs.g3 | exact hs.g4 | exact hs.g5 | exact hs.g6 | exact hs.rd hg | exact hs.rd hg2 | exact hs.rd hg3 | exact hs.rd hg4 | assumption); (· rfl))
        refine isB_c (fun h3 => ?_) (fun h3 => ?_)
        · exact ⟨rfl, .inl ⟨rfl, rfl, fun h => by unfold okP at h; omega⟩⟩
        · exact ⟨rfl, .inr ⟨rfl, by unfold okP; omega⟩⟩
      rintro e vs D ⟨rfl, ⟨rfl, rfl, h2⟩ | ⟨rfl, h2⟩⟩
      · repeat first
        | with_reducible refine onE_i ?_
        | ((with_reducible refine onE_s ?_ ?_); (· decide))
        try simp only [evB]
        skip
        refine fin_ret (rvs_v (rvs_nil _)) ⟨hs.pre fun _ x => x, ?_, hs.pre fun _ x => x⟩
        unfold checkE goodR; rw [if_neg h64, hok, okF, decide_eq_false h2]; simp [tup1]
      · repeat first
        | with_reducible refine onE_i ?_
        | ((with_reducible refine vb_i (add64 ?_ ?_) ?_); (· omega); (· omega))
        | with_reducible refine vb_i (e_fieldAddr _ _) ?_
        | ((with_reducible apply vb_ld); (· first | exact hs.g0 | exact hs.g1 | exact hs.g2 | exact hs.g3 | exact hs.g4 | exact hs.g5 | exact hs.g6 | exact hs.rd hg | exact hs.rd hg2 | exact hs.rd hg3 | exact hs.rd hg4 | assumption); (· rfl))
        refine hk (p.pos, j + 1) _ ⟨by show j + 1 ≤ _; omega, ?_, hs.tail⟩ (by show q.puts.length - (j + 1) < q.puts.length - j; omega)
        rw [hok, okF, decide_eq_true h2]; rfl
    · obtain rfl : j = q.puts.length := by omega
      repeat first
      | ((with_reducible refine isB_cf ?_ ?_); (· omega))
      | with_reducible refine onE_i ?_
      | with_reducible refine vb_i (lss64 _ _ _) ?_
      try simp only [evB]
      skip
      refine fin_ret (rvs_v (rvs_nil _)) ⟨hs.pre fun _ x => x, ?_, hs.pre fun _ x => x⟩
      unfold checkE goodR; rw [if_neg h64, hok, List.drop_length, okF, decide_eq_true h1]; rfl)
  exact ⟨C, h, k⟩
theorem right_specW {x : AVal} {q : Rcd} (hq : q.root.length = 32 ∧ Vw B x 2 q.puts.length (flat ptc q.puts)) (hl : q.puts.length ≤ 9223372036854775807) : ∃ C, S_cellaretref13_Right [recV q x] B (.bool (goodR q)) C ∧ B <+: C := by
  obtain ⟨hr, hv0⟩ := hq
  obtain ⟨r, C, h, rfl, k⟩ := cellaretref13_Right.out (x0 := recV q x) (H := B) (Q := fun r C => r = .bool (goodR q) ∧ B <+: C) (by
    unfold cellaretref13_Right.w
    have hs : Sep B (fun _ => False) B [] := Sep.start B
    refine s_box hs rfl fun i C1 _ hs => ?_
    simp only [recV, AVal.cells] at hs
    refine JoinP.mk (fun e vs C => C1 = C ∧ ((e = .ret ∧ vs = [.bool false] ∧ ¬ okSeq q) ∨ (e = .normal ∧ okSeq q))) ?_ ?_
    · repeat first
      | ((with_reducible apply vb_rec0); (· exact hs.g0))
      | with_reducible refine vb_i (lss64 _ _ _) ?_
      | with_reducible refine vb_i (e_fieldAddr _ _) ?_
      refine isB_c (fun h1 => ?_) (fun h1 => ?_)
      · exact ⟨rfl, .inl ⟨rfl, rfl, fun h => by unfold okSeq at h; omega⟩⟩
      · repeat first
        | ((with_reducible apply vb_rec0); (· exact hs.g0))
        | with_reducible refine vb_i (gtr64 _ _ _) ?_
        | with_reducible refine vb_i (e_fieldAddr _ _) ?_
        refine isB_c (fun h2 => ?_) (fun h2 => ?_)
        · exact ⟨rfl, .inl ⟨rfl, rfl, fun h => by unfold okSeq at h; omega⟩⟩
        · exact ⟨rfl, .inr ⟨rfl, by unfold okSeq; omega⟩⟩
    rintro e vs C ⟨rfl, ⟨rfl, rfl, h1⟩ | ⟨rfl, h1⟩⟩
    · repeat first
      | with_reducible refine onE_i ?_
      | ((with_reducible refine onE_s ?_ ?_); (· decide))
      try simp only [evB]
      refine fin_ret (rvs_v (rvs_nil _)) ⟨hs.pre fun _ x => x, ?_, hs.pre fun _ x => x⟩
      unfold goodR; rw [decide_eq_false h1]; rfl
    repeat first
    | with_reducible refine onE_i ?_
    refine LoopP.ruleG (α := Nat × Int) (fun a => [.int .i64 (a.1 : Int)])
      (fun a C => a.1 ≤ q.puts.length ∧ okF 160 q.puts = okF a.2 (q.puts.drop a.1) ∧ ((a.1 = 0 ∧ a.2 = 160) ∨ (0 < a.1 ∧ 160 < a.2 ∧ ∃ p, q.puts[a.1 - 1]? = some p ∧ p.pos = a.2)) ∧ Sep B (fun _ => False) C [.obj i (.cells 0 .exact (rcells q x))]) (fun a => q.puts.length - a.1) (0, 160) (by simp)
      ⟨Nat.zero_le _, by simp, .inl ⟨rfl, rfl⟩, hs⟩ ?_
    clear hs
    rintro ⟨j, last⟩ C Kn ⟨hj, hok, hlast, hs⟩ hk
    simp only at hj hok hlast
    unfold cellaretref13_Right.L4 cellaretref13_Right.L4.b
    try simp only [evB]
    have hw := hv0.pre (hs.pre fun _ x => x)
    repeat first
    | ((with_reducible apply vb_rec33); (· exact hs.g0); (· assumption))
    | ((with_reducible apply vb_lenW); (· exact hw))
    | with_reducible refine vb_i (lss64 _ _ _) ?_
    | with_reducible refine vb_i (e_fieldAddr _ _) ?_
    by_cases hjn : j < q.puts.length
    · have hv := hv0.at hjn
      have hv' := hs.rv hv
      have hb := List.getElem?_eq_getElem hjn
      rw [List.drop_eq_getElem_cons hjn] at hok
      generalize q.puts[j] = p at hb hok
      have stop : ¬ okP last p → goodR q = false := fun h => by unfold goodR; rw [hok, okF, decide_eq_false h]; simp
      repeat first
      | ((with_reducible apply vb_rec33); (· exact hs.g0); (· assumption))
      | ((with_reducible refine isB_ct ?_ ?_); (· omega))
      | with_reducible refine vb_i (e_fieldAddr _ _) ?_
      | ((with_reducible apply vb_addrN); (· first | exact hs.o0.view | exact hs.o1.view | exact hs.o2.view | exact hs.o3.view | exact hs.o4.view | exact hs.o5.view | exact hs.o6.view | exact hs.rv hv | exact hs.rv hv2 | exact hs.rv hv3 | exact hs.rv hv4 | exact hs.view hkv hko | assumption); (· omega))
      refine vb_i (el_ldN ptc_len hv' hb) ?_
      refine s_alloc hs fun t C2 _ hs => ?_
      refine s_storeA hs rfl rfl rfl rfl fun C3 hs => ?_
      repeat first
      | with_reducible refine vb_i (lss64 _ _ _) ?_
      | with_reducible refine vb_i (e_fieldAddr _ _) ?_
      | ((with_reducible apply vb_ld); (· first | exact hs.g0 | exact hs.g1 | exact hs.g2 | exact hs.g3 | exact hs.g4 | exact hs.g5 | exact hs.g6 | exact hs.rd hg | exact hs.rd hg2 | exact hs.rd hg3 | exact hs.rd hg4 | assumption); (· rfl))
      refine isB_c (fun h1 => ?_) (fun h1 => ?_)
      · repeat first
        | with_reducible refine onE_i ?_
        | ((with_reducible refine onE_s ?_ ?_); (· decide))
        try simp only [evB]
        refine fin_ret (rvs_v (rvs_nil _)) ⟨hs.pre fun _ x => x, ?_, hs.pre fun _ x => x⟩
        rw [stop (by unfold okP; omega)]; rfl
      repeat first
      | with_reducible refine vb_i (gtr64 _ _ _) ?_
      | with_reducible refine vb_i (e_fieldAddr _ _) ?_
      | ((with_reducible apply vb_ld); (· first | exact hs.g0 | exact hs.g1 | exact hs.g2 | exact hs.g3 | exact hs.g4 | exact hs.g5 | exact hs.g6 | exact hs.rd hg | exact hs.rd hg2 | exact hs.rd hg3 | exact hs.rd hg4 | assumption); (· rfl))
      refine isB_c (fun h2 => ?_) (fun h2 => ?_)
      · repeat first
        | with_reducible refine onE_i ?_
        | ((with_reducible refine onE_s ?_ ?_); (· decide))
        try simp only [evB]
        refine fin_ret (rvs_v (rvs_nil _)) ⟨hs.pre fun _ x => x, ?_, hs.pre fun _ x => x⟩
        rw [stop (by unfold okP; omega)]; rfl
      repeat first
      | with_reducible refine vb_i (neq64 _ _ _) ?_
      | with_reducible refine vb_i (e_lenSt _) ?_
      | with_reducible refine vb_i (e_fieldAddr _ _) ?_
      | ((with_reducible apply vb_ld); (· first | exact hs.g0 | exact hs.g1 | exact hs.g2 | exact hs.g3 | exact hs.g4 | exact hs.g5 | exact hs.g6 | exact hs.rd hg | exact hs.rd hg2 | exact hs.rd hg3 | exact hs.rd hg4 | assumption); (· rfl))
      refine isB_c (fun h3 => ?_) (fun h3 => ?_)
      · repeat first
        | with_reducible refine onE_i ?_
        | ((with_reducible refine onE_s ?_ ?_); (· decide))
        try simp only [evB]
        refine fin_ret (rvs_v (rvs_nil _)) ⟨hs.pre fun _ x => x, ?_, hs.pre fun _ x => x⟩
        rw [stop (by unfold okP; omega)]; rfl
      repeat first
      | with_reducible refine vb_i (gtr64 _ _ _) ?_
      have next : okP last p → okF 160 q.puts = okF p.pos (q.puts.drop (j + 1)) := fun h => by rw [hok, okF, decide_eq_true h]; rfl
      rcases hlast with ⟨rfl, rfl⟩ | ⟨hj0, h160, p', hp', rfl⟩
      · repeat first
        | ((with_reducible refine isB_cf ?_ ?_); (· omega))
        | ((with_reducible refine vb_i (add64 ?_ ?_) ?_); (· omega); (· omega))
        refine hk (1, p.pos) _ ⟨by show 1 ≤ _; omega, next (by unfold okP; omega), .inr ⟨by show 0 < 1; omega, by show 160 < p.pos; omega, p, hb, rfl⟩, hs.tail⟩ (by show _ - 1 < _ - 0; omega)
      · have hv' := hs.rv hv
        repeat first
        | ((with_reducible apply vb_rec33); (· exact hs.g1); (· assumption))
        | ((with_reducible refine isB_ct ?_ ?_); (· omega))
        | ((with_reducible refine vb_i (sub64 ?_ ?_) ?_); (· omega); (· omega))
        | with_reducible refine vb_i (e_fieldAddr _ _) ?_
        | ((with_reducible apply vb_ld); (· first | exact hs.g0 | exact hs.g1 | exact hs.g2 | exact hs.g3 | exact hs.g4 | exact hs.g5 | exact hs.g6 | exact hs.rd hg | exact hs.rd hg2 | exact hs.rd hg3 | exact hs.rd hg4 | assumption); (· rfl))
        | ((with_reducible apply vb_addr); (· first | exact hs.o0.view | exact hs.o1.view | exact hs.o2.view | exact hs.o3.view | exact hs.o4.view | exact hs.o5.view | exact hs.o6.view | exact hs.rv hv | exact hs.rv hv2 | exact hs.rv hv3 | exact hs.rv hv4 | exact hs.view hkv hko | assumption); (· omega); (· omega))
        have hj1 : ((j : Int) - 1).toNat = j - 1 := by omega
        rw [hj1]
        refine vb_i (el_ld1 ptc_len (hs.rv hv) hp' rfl) ?_
        repeat first
        | with_reducible refine vb_i (leq64 _ _ _) ?_
        refine isB_c (fun h4 => ?_) (fun h4 => ?_)
        · repeat first
          | with_reducible refine onE_i ?_
          | ((with_reducible refine onE_s ?_ ?_); (· decide))
          try simp only [evB]
          refine fin_ret (rvs_v (rvs_nil _)) ⟨hs.pre fun _ x => x, ?_, hs.pre fun _ x => x⟩
          rw [stop (by unfold okP; omega)]; rfl
        · repeat first
          | ((with_reducible refine vb_i (add64 ?_ ?_) ?_); (· omega); (· omega))
          refine hk (j + 1, p.pos) _ ⟨by show j + 1 ≤ _; omega, next (by unfold okP; omega), .inr ⟨by show 0 < j + 1; omega, by show 160 < p.pos; omega, p, hb, rfl⟩, hs.tail⟩ (by show _ - (j + 1) < _ - j; omega)
    · obtain rfl : j = q.puts.length := by omega
      repeat first
      | ((with_reducible refine isB_cf ?_ ?_); (· omega))
      | with_reducible refine onE_i ?_
      try simp only [evB]
      refine fin_ret (rvs_v (rvs_nil _)) ⟨hs.pre fun _ x => x, ?_, hs.pre fun _ x => x⟩
      unfold goodR; rw [hok, List.drop_length, okF, decide_eq_true h1]; rfl)
  exact ⟨C, h, k⟩
end
end Go.Sh

/- Plans and roots; images block by block. -/
namespace Go.Sh
open Go Go.Abs

def firstE : List (Rc × AVal) → Int
  | [] => 0
  | r :: l => if checkE r.1.1 ≠ 0 then checkE r.1.1 else firstE l
def planR (l : List (Rc × AVal)) : List PutV := if firstE l = 0 then planL l else []
def rootR (l : List (Rc × AVal)) : List UInt8 := match l.getLast? with | some r => r.1.1.root | none => zs 32
theorem planL_step {l : List (Rc × AVal)} {k : Nat} {r : Rc × AVal} (h : l[k]? = some r) : planL (l.take (k + 1)) = setAll (planL (l.take k)) (Rc.puts r) := by
  unfold planL
  rw [allL_step h, setAll_app]
theorem planL_rise (l : List (Rc × AVal)) : Rising (planL l) := rise_all List.Pairwise.nil
theorem planL_len {l : List (Rc × AVal)} (hn : l.length ≤ 10) (hm : ∀ r ∈ l, (Rc.puts r).length ≤ 80) : (planL l).length ≤ 800 := by
  have h1 := setAll_len (allL l) []
  have h2 := allL_len hm
  unfold planL
  simp only [List.length_nil] at h1
  omega
theorem first_cons {l : List (Rc × AVal)} {k : Nat} {r : Rc × AVal} (h : l[k]? = some r) : firstE (l.drop k) = if checkE r.1.1 ≠ 0 then checkE r.1.1 else firstE (l.drop (k + 1)) := by
  obtain ⟨hk, rfl⟩ := List.getElem?_eq_some_iff.1 h
  rw [List.drop_eq_getElem_cons hk]
  rfl
theorem first_all {l : List (Rc × AVal)} (h : firstE l = 0) : ∀ r ∈ l, checkE r.1.1 = 0 := by
  induction l with
  | nil => nofun
  | cons q l ih =>
    unfold firstE at h
    split at h
    · omega
    · rename_i h1
      intro r hr
      rcases List.mem_cons.1 hr with rfl | hr
      · omega
      · exact ih h r hr
theorem rec_conv {B : AHeap} {x : AVal} {l : List (Rc × AVal)} (h : recsAt B x l) {r : Rc × AVal} (hr : r ∈ l) : r.1.1.root.length = 32 ∧ Vw B r.2 2 r.1.1.puts.length (flat ptc r.1.1.puts) := by
  refine ⟨r.1.2, ?_⟩
  have := h.2 r hr
  rw [List.length_map, ← flat_toP] at this
  exact this
theorem vw_sc {B : AHeap} {z : AVal} {es n : Nat} {cs : List AVal} (hz : Vw B z es n cs) : z.sc = true := by
  rcases hz with ⟨_, ⟨rfl, _⟩ | ⟨i, v, off, cp, kd, cs', rfl, _⟩⟩ | ⟨_, _, i, rfl⟩ <;> rfl
theorem recC_cell {r : Rc × AVal} (h : r.2.sc = true) : (recC r).all AVal.isCell = true := by
  have := sc_cell h
  unfold recC rcells
  simp only [List.all_cons, List.all_append, cells_byte, List.all_nil, this]
  rfl
theorem recC_33 (r : Rc × AVal) : (recC r)[33]? = some r.2 := by
  have := r.1.2
  unfold recC rcells
  rw [List.getElem?_cons_succ, List.getElem?_append_right (by simp [this])]; simp [this]
section
variable {B : AHeap}
theorem of_spec32 {x : AVal} {l : List (Rc × AVal)} (hv : recsAt B x l) (hn : l.length ≤ 10) (hm : ∀ r ∈ l, (Rc.puts r).length ≤ 80) :
    ∃ sv C, S_plan_Of [x] B (.tup [sv, .int .i64 (firstE l)]) C ∧ B <+: C ∧ Sep B (fun _ => False) C [.sl sv 2 (planR l).length (flat putC (planR l))] := by
  obtain ⟨r, C, h, ⟨sv, rfl, k1⟩, k⟩ := plan_Of.out (x0 := x) (H := B) (Q := fun r C => (∃ sv, r = .tup [sv, .int .i64 (firstE l)] ∧ Sep B (fun _ => False) C [.sl sv 2 (planR l).length (flat putC (planR l))]) ∧ B <+: C) (by
    unfold plan_Of.w
    have hpl := recC_len
    have hsep : Sep B (fun _ => False) B [] := Sep.start B
    refine vb_len hv.1 ?_
    refine LoopP.ruleG (α := Nat) (fun j => [.int .i64 (j : Int)]) (fun j D => (j ≤ l.length ∧ firstE l = firstE (l.drop j)) ∧ Sep B (fun _ => False) D []) (fun j => l.length - j) 0 (by simp) ⟨⟨Nat.zero_le _, by simp⟩, hsep⟩ ?_
    clear hsep
    rintro j D Kn ⟨⟨hj, hu⟩, hs⟩ hk
    have hvD := hv.pre (hs.pre fun _ x => x)
    have hv1 := hvD.1
    unfold plan_Of.L2 plan_Of.L2.b
    try simp only [evB]
    refine vb_i (lss64 _ _ _) ?_
    refine isB_c (fun h1 => ?_) (fun h1 => ?_)
    · have hb := List.getElem?_eq_getElem (l := l) (i := j) (by omega)
      have hmem := List.getElem_mem (l := l) (n := j) (by omega)
      generalize l[j] = q at hb hmem
      rw [first_cons hb] at hu
      refine vb_addrN hv1 (by omega) ?_
      refine vb_i (el_ldN recC_len hv1 hb) ?_
      refine s_alloc hs fun t C2 _ hs => ?_
      refine s_storeA hs rfl (recC_len q) rfl (recC_cell (vw_sc (hvD.2 q hmem))) fun C3 hs => ?_
      refine vb_ldA hs.g0 (recC_len q) ?_
      have hq := rec_conv hv hmem
      have hp := hs.pre fun _ x => x
      obtain ⟨C4, hc, hp4⟩ := check_specW (B := C3) (x := q.2) (q := q.1.1) ⟨hq.1, hq.2.pre hp⟩ (by have := hm q hmem; rw [List.length_map] at this; omega)
      refine cb_i _ _ hc ?_
      have hs := hs.quiet hp4
      repeat first
      | with_reducible refine vb_i (neq64 _ _ _) ?_
      refine isB_c (fun h2 => ?_) (fun h2 => ?_)
      · rw [if_pos h2] at hu
        repeat first
        | with_reducible refine onE_i ?_
        | ((with_reducible refine onE_s ?_ ?_); (· decide))
        try simp only [evB]
        have hp := hs.pre fun _ x => x
        have e : planR l = [] := if_neg (by rw [hu]; exact h2)
        rw [e, hu]
        exact fin_ret (rvs_v (rvs_v (rvs_nil _))) ⟨hp, ⟨.nils, rfl, (s_nils hs 2).drop (R1 := [_])⟩, hp⟩
      · rw [if_neg h2] at hu
        repeat first
        | ((with_reducible refine vb_i (add64 ?_ ?_) ?_); (· omega); (· omega))
        exact hk (j + 1) _ ⟨⟨by omega, hu⟩, hs.drop (R1 := [])⟩ (by omega)
    · obtain rfl : j = l.length := by omega
      clear hk
      rw [List.drop_length] at hu
      have hu : firstE l = 0 := hu
      repeat first
      | with_reducible refine onE_i ?_
      | ((with_reducible apply vb_len); (· first | exact hs.o0.view | exact hs.o1.view | exact hs.o2.view | exact hs.o3.view | exact hs.o4.view | exact hs.o5.view | exact hs.o6.view | exact hs.rv hv | exact hs.rv hv2 | exact hs.rv hv3 | exact hs.rv hv4 | exact hs.view hkv hko | assumption))
      refine LoopP.ruleG (α := AVal × Nat) (fun q => [q.1, .int .i64 (q.2 : Int)]) (fun q D => q.2 ≤ l.length ∧ Sep B (fun _ => False) D [.sl q.1 2 (planL (l.take q.2)).length (flat putC (planL (l.take q.2)))]) (fun q => l.length - q.2) (.nils, 0) (by simp) ⟨Nat.zero_le _, s_nils hs 2⟩ ?_
      clear hs hvD hv1
      rintro ⟨sv, j⟩ E Kn ⟨hj, hs⟩ hk
      simp only at hj hs hk
      have hvD := hv.pre (hs.pre fun _ x => x)
      have hv1 := hvD.1
      unfold plan_Of.L10 plan_Of.L10.b
      try simp only [evB]
      refine vb_i (lss64 _ _ _) ?_
      refine isB_c (fun h1 => ?_) (fun h1 => ?_)
      · have hb := List.getElem?_eq_getElem (l := l) (i := j) (by omega)
        have hmem := List.getElem_mem (l := l) (n := j) (by omega)
        generalize l[j] = q at hb hmem
        have hst := planL_step hb
        have hle := planL_len (l := l.take j) (by rw [List.length_take]; omega) (fun r hr => hm r (List.mem_of_mem_take hr))
        have hri := planL_rise (l.take j)
        generalize planL (l.take j) = z at *
        refine vb_addrN hv1 (by omega) ?_
        refine vb_i (el_ldN recC_len hv1 hb) ?_
        refine s_alloc hs fun t C2 _ hs => ?_
        refine s_storeA hs rfl (recC_len q) rfl (recC_cell (vw_sc (hvD.2 q hmem))) fun C3 hs => ?_
        repeat first
        | with_reducible refine vb_i (e_fieldAddr _ _) ?_
        refine vb_ld hs.g0 (recC_33 q) ?_
        have hp := hs.pre fun _ x => x
        obtain ⟨sv', C4, hc, hp4, hk4⟩ := behind_spec (B := C3) (view_vw hs.o1.view) ((hv.2 q hmem).pre hp) (by omega) (by have := hm q hmem; omega)
        refine cb_i _ _ hc ?_
        have hs := Sep.call01 hs (hk4.own_of fun _ h => h.elim)
        rw [setAll_self hri] at hs
        repeat first
        | ((with_reducible refine vb_i (add64 ?_ ?_) ?_); (· omega); (· omega))
        refine hk (sv', j + 1) _ ⟨by simp only; omega, ?_⟩ (by simp only; omega)
        simp only
        rw [hst]
        exact hs.drop (R1 := [_])
      · obtain rfl : j = l.length := by omega
        repeat first
        | with_reducible refine onE_i ?_
        try simp only [evB]
        rw [List.take_length] at hs
        have hp := hs.pre fun _ x => x
        have e : planR l = planL l := if_pos hu
        rw [e, hu]
        exact fin_ret (rvs_v (rvs_v (rvs_nil _))) ⟨hp, ⟨sv, rfl, hs⟩, hp⟩)
  exact ⟨sv, C, h, k, k1⟩
theorem root_spec {x : AVal} {l : List (Rc × AVal)} (hv : recsAt B x l) (hn : l.length ≤ 9223372036854775807) :
    ∃ C, S_plan_Root [x] B (.tup [.agg ((rootR l).map ofByte), .int .i64 (if l.length = 0 then 7 else 0)]) C ∧ B <+: C := by
  obtain ⟨r, C, h, rfl, k⟩ := plan_Root.out (x0 := x) (H := B) (Q := fun r C => r = .tup [.agg ((rootR l).map ofByte), .int .i64 (if l.length = 0 then 7 else 0)] ∧ B <+: C) (by
    unfold plan_Root.w
    have hs : Sep B (fun _ => False) B [] := Sep.start B
    refine s_alloc hs fun t C2 _ hs => ?_
    have hv1 := (hv.pre (hs.pre fun _ x => x)).1
    refine vb_len hv1 ?_
    refine vb_i (eql64 _ _ _) ?_
    refine isB_c (fun h1 => ?_) (fun h1 => ?_)
    · obtain rfl : l = [] := List.eq_nil_of_length_eq_zero (by omega)
      refine vb_bld (cs := List.replicate 32 (.int .u8 0)) rfl ?_
      refine s_storeA hs rfl rfl rfl rfl fun C3 hs => ?_
      have hp := hs.pre fun _ x => x
      refine fin_ret (rvs_c (e_loadAll hs.g0 rfl) (rvs_v (rvs_nil _))) ⟨hp, ?_, hp⟩
      have e : (rootR []).map ofByte = List.replicate 32 (.int .u8 0) := by simp [rootR, zs, ofByte]
      rw [e]; rfl
    · have hlt : l.length - 1 < l.length := by omega
      have hb := List.getElem?_eq_getElem hlt
      have hlast : l.getLast? = some l[l.length - 1] := by rw [List.getLast?_eq_getElem?]; exact hb
      generalize l[l.length - 1] = q at hb hlast
      have hr : rootR l = q.1.1.root := by unfold rootR; rw [hlast]
      have hq := q.1.2
      refine vb_len hv1 ?_
      repeat first
      | ((with_reducible refine vb_i (sub64 ?_ ?_) ?_); (· omega); (· omega))
      | with_reducible refine vb_i (e_fieldAddr _ _) ?_
      | ((with_reducible apply vb_addr); (· first | exact hs.o0.view | exact hs.o1.view | exact hs.o2.view | exact hs.o3.view | exact hs.o4.view | exact hs.o5.view | exact hs.o6.view | exact hs.rv hv | exact hs.rv hv2 | exact hs.rv hv3 | exact hs.rv hv4 | exact hs.view hkv hko | assumption); (· omega); (· omega))
      rw [show ((l.length : Int) - 1).toNat = l.length - 1 by omega]
      have e : ((recC q).drop 1).take 32 = q.1.1.root.map ofByte := by
        unfold recC rcells
        rw [List.drop_succ_cons, List.drop_zero, List.take_left' (by simp [hq])]
      have hld := el_ldP (o := 1) (m := 32) recC_len hv1 hb (by decide)
      rw [e] at hld
      refine vb_i hld ?_
      refine s_storeA hs rfl (by rw [List.length_map]; exact hq) rfl (cells_byte _) fun C3 hs => ?_
      have hp := hs.pre fun _ x => x
      refine fin_ret (rvs_c (e_loadAll hs.g0 (by rw [List.length_map]; exact hq)) (rvs_v (rvs_nil _))) ⟨hp, ?_, hp⟩
      rw [hr, if_neg (by omega)]; rfl)
  exact ⟨C, h, k⟩
end
end Go.Sh

/- Plain laws: what a list of blocks tells; images block by block. -/
namespace Go.Sh
open Go Go.Abs

/-- What is set last at a place. -/
def lastL : List PutV → Int → Option (List UInt8)
  | [], _ => none
  | p :: l, a => match lastL l a with
    | some v => some v
    | none => if p.1 = a then some p.2 else none
theorem last_cons (p : PutV) (l : List PutV) (a : Int) : lastL (p :: l) a = match lastL l a with | some v => some v | none => if p.1 = a then some p.2 else none := rfl
theorem rise_mem {l : List PutV} (h : Rising l) (a : Int) (v : List UInt8) : getL l a = some v ↔ (a, v) ∈ l := by
  constructor
  · intro hg
    unfold getL at hg
    cases hf : l.find? (fun p => decide (p.1 = a)) with
    | none => rw [hf] at hg; cases hg
    | some p =>
      rw [hf] at hg
      cases hg
      have h1 := List.mem_of_find?_eq_some hf
      have h2 := List.find?_some hf
      have h2 : p.1 = a := by simpa using h2
      subst h2
      exact h1
  · intro hm
    exact getL_some h.apart hm
theorem getL_set {l : List PutV} (h : Rising l) (p : PutV) (a : Int) : getL (setL l p) a = if p.1 = a then some p.2 else getL l a := by
  have hr := rise_set h p
  have hm : ∀ q, q ∈ setL l p ↔ q = p ∨ (q ∈ l ∧ q.1 ≠ p.1) := by
    intro q
    rw [(set_perm l p).mem_iff, List.mem_cons]
    unfold dropL
    rw [List.mem_filter]
    simp
  by_cases e : p.1 = a
  · rw [if_pos e, rise_mem hr, hm]
    left
    rw [← e]
  · rw [if_neg e]
    apply Option.ext
    intro v
    rw [rise_mem hr, rise_mem h, hm]
    constructor
    · rintro (h1 | ⟨h1, _⟩)
      · exact absurd (by rw [← h1]) e
      · exact h1
    · intro h1
      exact .inr ⟨h1, fun h2 => e h2.symm⟩
theorem getL_all : ∀ (l : List PutV) {acc : List PutV}, Rising acc → ∀ a, getL (setAll acc l) a = match lastL l a with | some v => some v | none => getL acc a
  | [], _, _, _ => rfl
  | p :: l, acc, h, a => by
    show getL (setAll (setL acc p) l) a = _
    rw [getL_all l (rise_set h p) a, getL_set h]
    rw [last_cons]
    cases lastL l a with
    | some v => rfl
    | none =>
      by_cases e : p.1 = a
      · simp [e]
      · simp [e]
theorem getL_new (l : List PutV) (a : Int) : getL (setAll [] l) a = lastL l a := by
  rw [getL_all l List.Pairwise.nil a]
  cases lastL l a <;> rfl
theorem last_rise {l : List PutV} (h : Rising l) (a : Int) : lastL l a = getL l a := by
  rw [← getL_new, setAll_self h]
theorem rise_ext {l k : List PutV} (hl : Rising l) (hk : Rising k) (h : ∀ a, getL l a = getL k a) : l = k := by
  have nd : ∀ {l : List PutV}, Rising l → l.Nodup := fun {l} h => List.Pairwise.imp (S := fun a b : PutV => a ≠ b) (fun {a b} (h : rising a b) e => by subst e; unfold rising at h; omega) h
  have p : l.Perm k := (List.perm_ext_iff_of_nodup (nd hl) (nd hk)).2 fun ⟨a, v⟩ => by rw [← rise_mem hl, ← rise_mem hk, h]
  exact perm_rising p (List.Pairwise.imp (fun {a b : PutV} (h : rising a b) => Int.le_of_lt h) hl) hk
theorem setAll_norm {acc : List PutV} (h : Rising acc) (l : List PutV) : setAll acc (setAll [] l) = setAll acc l := by
  refine rise_ext (rise_all h) (rise_all h) fun a => ?_
  rw [getL_all _ h, getL_all _ h, last_rise (rise_all List.Pairwise.nil), getL_new]
theorem blk_get (s : List UInt8) (k i : Nat) : (blk s k)[i]? = if i < 64 then s[64 * k + i]? else none := by
  unfold blk
  rw [List.getElem?_drop]
  by_cases h : i < 64
  · rw [if_pos h, List.getElem?_take_of_lt (by omega)]
  · rw [if_neg h, List.getElem?_eq_none (by rw [List.length_take]; omega)]
theorem img_ext {s t : List UInt8} (hs : s.length = 18432) (ht : t.length = 18432) (h : ∀ k, k < 288 → blk s k = blk t k) : s = t := by
  apply List.ext_getElem?
  intro i
  by_cases hi : i < 18432
  · have e := congrArg (fun b : List UInt8 => b[i % 64]?) (h (i / 64) (by omega))
    simp only [blk_get] at e
    rw [if_pos (by omega), if_pos (by omega), show 64 * (i / 64) + i % 64 = i by omega] at e
    exact e
  · rw [List.getElem?_eq_none (by omega), List.getElem?_eq_none (by omega)]
theorem blk_lay {s : List UInt8} {p : PutV} (hs : s.length = 18432) (hp : 0 ≤ p.1 ∧ p.1 < 288 ∧ p.2.length = 64) {k : Nat} (hk : k < 288) : blk (layL s p) k = if p.1 = (k : Int) then p.2 else blk s k := by
  obtain ⟨h0, h1, h2⟩ := hp
  apply List.ext_getElem?
  intro i
  have hl : ∀ j, (layL s p)[j]? = if j < 64 * p.1.toNat then s[j]? else if j < 64 * p.1.toNat + 64 then p.2[j - 64 * p.1.toNat]? else s[j]? := by
    intro j
    unfold layL
    have e1 : (s.take (64 * p.1.toNat)).length = 64 * p.1.toNat := by rw [List.length_take]; omega
    by_cases hj : j < 64 * p.1.toNat
    · rw [if_pos hj, List.append_assoc, List.getElem?_append_left (by omega), List.getElem?_take_of_lt hj]
    · rw [if_neg hj]
      by_cases hj2 : j < 64 * p.1.toNat + 64
      · rw [if_pos hj2, List.append_assoc, List.getElem?_append_right (by omega), e1, List.getElem?_append_left (by omega)]
      · rw [if_neg hj2, List.getElem?_append_right (by rw [List.length_append]; omega), List.length_append, e1, h2, List.getElem?_drop]
        congr 1; omega
  rw [blk_get, hl]
  by_cases e : p.1 = (k : Int)
  · rw [if_pos e]
    have e' : p.1.toNat = k := by omega
    rw [e']
    by_cases hi : i < 64
    · rw [if_pos hi, if_neg (by omega), if_pos (by omega), Nat.add_sub_cancel_left]
    · rw [if_neg hi, List.getElem?_eq_none (by omega)]
  · rw [if_neg e, blk_get]
    by_cases hi : i < 64
    · rw [if_pos hi, if_pos hi]
      by_cases h3 : 64 * k + i < 64 * p.1.toNat
      · rw [if_pos h3]
      · rw [if_neg h3, if_neg (by omega)]
    · rw [if_neg hi, if_neg hi]
theorem blk_apply : ∀ {l : List PutV} {s : List UInt8}, s.length = 18432 → (∀ p ∈ l, 0 ≤ p.1 ∧ p.1 < 288 ∧ p.2.length = 64) → ∀ {k : Nat}, k < 288 → blk (applyL s l) k = (lastL l k).getD (blk s k)
  | [], _, _, _, _, _ => rfl
  | p :: l, s, hs, hl, k, hk => by
    have hp := hl p List.mem_cons_self
    show blk (applyL (layL s p) l) k = _
    rw [blk_apply (lay1_len hs hp) (fun q hq => hl q (List.mem_cons_of_mem _ hq)) hk, blk_lay hs hp hk]
    rw [last_cons]
    cases lastL l k with
    | some v => rfl
    | none =>
      by_cases e : p.1 = (k : Int)
      · simp [e]
      · simp [e]
theorem setAll_mem {l acc : List PutV} {q : PutV} (h : q ∈ setAll acc l) : q ∈ acc ∨ q ∈ l := by
  induction l generalizing acc with
  | nil => exact .inl h
  | cons p l ih =>
    rcases ih (acc := setL acc p) h with h1 | h1
    · rw [(set_perm acc p).mem_iff, List.mem_cons] at h1
      rcases h1 with rfl | h1
      · exact .inr List.mem_cons_self
      · exact .inl (List.mem_filter.1 h1).1
    · exact .inr (List.mem_cons_of_mem _ h1)
theorem right_of_all {l : List PutV} (h : ∀ p ∈ l, 0 ≤ p.1 ∧ p.1 < 288 ∧ p.2.length = 64) : rightL l = 0 := by
  induction l with
  | nil => rfl
  | cons p l ih =>
    have := h p List.mem_cons_self
    unfold rightL
    rw [if_neg (by omega), if_neg (by omega)]
    exact ih fun q hq => h q (List.mem_cons_of_mem _ hq)
theorem last_mem {l : List PutV} {a : Int} {v : List UInt8} (h : lastL l a = some v) : (a, v) ∈ l := by
  induction l with
  | nil => cases h
  | cons p l ih =>
    rw [last_cons] at h
    cases hl : lastL l a with
    | some w => rw [hl] at h; cases h; exact List.mem_cons_of_mem _ (ih hl)
    | none =>
      rw [hl] at h
      simp only at h
      split at h
      · rename_i e
        cases h; subst e
        exact List.mem_cons_self
      · cases h
/-- A plan comes to what its blocks do, one behind the other. -/
theorem apply_plan {s : List UInt8} {l : List PutV} (hs : s.length = 18432) (hl : ∀ p ∈ l, 0 ≤ p.1 ∧ p.1 < 288 ∧ p.2.length = 64) : applyL s (setAll [] l) = applyL s l := by
  have hl' : ∀ p ∈ setAll [] l, 0 ≤ p.1 ∧ p.1 < 288 ∧ p.2.length = 64 := fun p hp => by
    rcases setAll_mem hp with h | h
    · cases h
    · exact hl p h
  refine img_ext (apply_len hs hl') (apply_len hs hl) fun k hk => ?_
  rw [blk_apply hs hl' hk, blk_apply hs hl hk, last_rise (rise_all List.Pairwise.nil), getL_new]
/-- .. where some of its blocks are there already, too. -/
theorem apply_part {s : List UInt8} {p q : List PutV} (hs : s.length = 18432) (hr : Rising p) (hl : ∀ x ∈ p, 0 ≤ x.1 ∧ x.1 < 288 ∧ x.2.length = 64) (hq : ∀ x ∈ q, x ∈ p) : applyL (applyL s q) p = applyL s p := by
  have hlq : ∀ x ∈ q, 0 ≤ x.1 ∧ x.1 < 288 ∧ x.2.length = 64 := fun x hx => hl x (hq x hx)
  have hsq := apply_len hs hlq
  refine img_ext (apply_len hsq hl) (apply_len hs hl) fun k hk => ?_
  rw [blk_apply hsq hl hk, blk_apply hs hl hk, blk_apply hs hlq hk]
  cases h : lastL p k with
  | some v => rfl
  | none =>
    cases h2 : lastL q k with
    | none => rfl
    | some v =>
      have hm := hq _ (last_mem h2)
      rw [last_rise hr] at h
      rw [← rise_mem hr] at hm
      rw [h] at hm; cases hm
theorem miss_none {s : List UInt8} {p : List PutV} (hs : s.length = 18432) (hr : Rising p) (hl : ∀ x ∈ p, 0 ≤ x.1 ∧ x.1 < 288 ∧ x.2.length = 64) : missL (applyL s p) p = [] := by
  unfold missL
  rw [List.map_eq_nil_iff, List.filter_eq_nil_iff]
  intro x hx
  obtain ⟨h0, h1, _⟩ := hl x hx
  have hm : lastL p x.1 = some x.2 := by rw [last_rise hr]; exact (rise_mem hr _ _).2 hx
  rw [blk_apply hs hl (by omega), show ((x.1.toNat : Nat) : Int) = x.1 by omega, hm]
  simp
end Go.Sh

/- Plans: the laws. -/
namespace Go.Sh
open Go Go.Abs

theorem row_view {β : Type} {f : β → List AVal} {es : Nat} (hf : ∀ b, (f b).length = es) {B : AHeap} {i : Nat} {l : List β} (h : B[i]? = some (.cells 0 .exact (flat f l))) : View B (.slice ⟨i, 0, 0⟩ l.length (.ex l.length)) es l.length (flat f l) :=
  ⟨flat_len hf l, .inr ⟨i, 0, 0, _, .exact, _, rfl, h, fun _ => by rw [flat_len hf]; omega, by rw [List.drop_zero, List.take_of_length_le (by rw [flat_len hf]; exact Nat.le_refl _)], Nat.le_refl _⟩⟩
section
variable {B : AHeap}
set_option maxRecDepth 4000 in
theorem awake32 : ∃ C, S_cellaretlaw32_awake [] B (.bool true) C ∧ B <+: C := by
  obtain ⟨r, C, h, rfl, k⟩ := cellaretlaw32_awake.out (H := B) (Q := fun r C => r = .bool true ∧ B <+: C) (by
    unfold cellaretlaw32_awake.w
    have hpl := putC_len
    have hs : Sep B (fun _ => False) B [] := Sep.start B
    have ha : (full [97] 64).length = 64 := full_len (by decide)
    have hb : (full [98] 64).length = 64 := full_len (by decide)
    refine cb_i (.str (full [97] 64)) _ ⟨[97], 64, rfl, by decide, rfl, rfl⟩ ?_
    refine cb_i (.str (full [98] 64)) _ ⟨[98], 64, rfl, by decide, rfl, rfl⟩ ?_
    generalize full [97] 64 = a at *
    generalize full [98] 64 = b at *
    refine vb_bld (cs := putC (161, a)) rfl ?_
    refine s_row hs (cs := flat putC [(161, a)]) (by rfl) ?_
    intro i1 C _ hs
    refine vb_bld (cs := recC (⟨⟨0, zs 32, [⟨161, a⟩]⟩, zs_len 32⟩, .slice ⟨i1, 0, 0⟩ 1 (.ex 1))) (by rfl) ?_
    refine vb_bld (cs := putC (161, b)) rfl ?_
    refine vb_bld (cs := putC (170, a)) rfl ?_
    refine s_row hs (cs := flat putC [(161, b), (170, a)]) (by rfl) ?_
    intro i2 C _ hs
    refine vb_bld (cs := recC (⟨⟨0, zs 32, [⟨161, b⟩, ⟨170, a⟩]⟩, zs_len 32⟩, .slice ⟨i2, 0, 0⟩ 2 (.ex 2))) (by rfl) ?_
    obtain ⟨l, hl⟩ : ∃ l : List (Rc × AVal), l = [(⟨⟨0, zs 32, [⟨161, a⟩]⟩, zs_len 32⟩, .slice ⟨i1, 0, 0⟩ 1 (.ex 1)), (⟨⟨0, zs 32, [⟨161, b⟩, ⟨170, a⟩]⟩, zs_len 32⟩, .slice ⟨i2, 0, 0⟩ 2 (.ex 2))] := ⟨_, rfl⟩
    refine s_row hs (cs := flat recC l) (by subst hl; rfl) ?_
    intro o C _ hs
    have hn : l.length = 2 := by rw [hl]; rfl
    have hx : View C (.slice ⟨o, 0, 0⟩ 2 (.ex 2)) 34 l.length (flat recC l) := by
      have := row_view recC_len hs.g0
      rw [hn] at this ⊢
      exact this
    have hrec : recsAt C (.slice ⟨o, 0, 0⟩ 2 (.ex 2)) l := by
      refine ⟨hx, fun r hr => ?_⟩
      rw [hl] at hr
      simp only [List.mem_cons, List.not_mem_nil, or_false] at hr
      rcases hr with rfl | rfl
      · exact view_vw (row_view (l := [((161 : Int), a)]) putC_len hs.g2)
      · exact view_vw (row_view (l := [((161 : Int), b), ((170 : Int), a)]) putC_len hs.g1)
    have hf : firstE l = 0 := by
      rw [hl]
      simp [firstE, checkE, goodR, okF, okP, okSeq, ha, hb]
    have hpl' : planR l = [(161, b), (170, a)] := by
      unfold planR
      rw [if_pos hf, hl]
      rfl
    have hm : ∀ r ∈ l, (Rc.puts r).length ≤ 80 := by
      intro r hr
      rw [hl] at hr
      simp only [List.mem_cons, List.not_mem_nil, or_false] at hr
      rcases hr with rfl | rfl <;> simp [Rc.puts]
    obtain ⟨sv, D, hc, hp, hk⟩ := of_spec32 hrec (by omega) hm
    refine cb_i _ _ hc ?_
    have hs := Sep.call01 hs (hk.own_of fun _ h => h.elim)
    rw [hpl'] at hs
    rw [hf]
    clear hc hp hk hx hrec
    repeat first
    | with_reducible refine vb_i e_ext0 ?_
    | with_reducible refine vb_i e_ext1 ?_
    obtain ⟨D2, hc, hp⟩ := img_spec (B := D) (s := []) (odd := false) (by decide)
    refine cb_i _ _ hc ?_
    have hs := hs.quiet hp
    have hil := img_len []
    have hall : ∀ p ∈ [((161 : Int), b), ((170 : Int), a)], 0 ≤ p.1 ∧ p.1 < 288 ∧ p.2.length = 64 := by
      intro p hp
      simp only [List.mem_cons, List.not_mem_nil, or_false] at hp
      rcases hp with rfl | rfl
      · exact ⟨by simp, by simp, hb⟩
      · exact ⟨by simp, by simp, ha⟩
    have hb161 := blk_apply hil hall (k := 161) (by decide)
    have e161 : (lastL [((161 : Int), b), ((170 : Int), a)] ((161 : Nat) : Int)).getD (blk (imgL [] false) 161) = b := rfl
    rw [e161] at hb161
    generalize imgL [] false = im at *
    have hr : rightE im [(161, b), (170, a)] = 0 := by
      unfold rightE
      rw [if_neg (by omega)]
      exact right_of_all hall
    obtain ⟨D3, hc, hp⟩ := apply_spec (B := D2) (s := im) hs.o0.view (by simp) (by omega)
    refine cb_i _ _ hc ?_
    have hs := hs.quiet hp
    have hal := apply_len hil hall
    rw [hr, show applyR im [(161, b), (170, a)] = applyL im [(161, b), (170, a)] from if_pos hr]
    generalize applyL im [(161, b), (170, a)] = z at *
    repeat first
    | ((with_reducible refine isB_ct ?_ ?_); (· omega))
    | with_reducible refine vb_i e_ext0 ?_
    | with_reducible refine vb_i e_ext1 ?_
    | with_reducible refine vb_i (eql64 _ _ _) ?_
    | ((with_reducible apply vb_bld); (· first | rfl | (simp only [evF, evS]; rfl)))
    refine s_row hs (cs := flat putC [(161, b), (170, a)]) (by rfl) ?_
    intro i3 D4 _ hs
    obtain ⟨D5, hc, hp⟩ := same_spec hs.o1.view (row_view (l := [((161 : Int), b), ((170 : Int), a)]) putC_len hs.g0) (by simp)
    refine cb_i _ _ hc ?_
    have hs := hs.quiet hp
    rw [decide_eq_true rfl]
    repeat first
    | with_reducible refine isB_T ?_
    refine vb_i (e_sliceStr (by decide) (by decide) (by omega)) ?_
    have e : (List.take (10368 : Int).toNat z).drop (10304 : Int).toNat = b := hb161
    rw [e]
    repeat first
    | with_reducible refine vb_i (eqls _ _) ?_
    have hp := hs.pre fun _ x => x
    exact fin_ret (rvs_v (rvs_nil _)) ⟨hp, by rw [decide_eq_true rfl]; rfl, hp⟩)
  exact ⟨C, h, k⟩
theorem law_PlanApplies {x : AVal} {s : List UInt8} {odd : Bool} {l : List PutV} (hv : View B x 2 l.length (flat putC l)) (hn : l.length ≤ 9223372036854775807) (hl : s.length ≤ 1048576) :
    ∃ C, S_cellaretlaw32_PlanApplies [.str s, .bool odd, x] B (.bool true) C := by
  obtain ⟨r, C, h, rfl⟩ := cellaretlaw32_PlanApplies.out (x0 := .str s) (x1 := .bool odd) (x2 := x) (H := B) (Q := fun r C => r = .bool true) (by
    unfold cellaretlaw32_PlanApplies.w
    have hpl := putC_len
    have hs : Sep B (fun _ => False) B [] := Sep.start B
    obtain ⟨b, C, hc, hp, hb⟩ := light_spec32 (view_vw hv) hn
    refine cb_i _ _ hc ?_
    have hs := hs.quiet hp
    cases b with
    | false =>
      refine vb_i (v := .bool true) rfl ?_
      refine isB_Tr rfl ?_
      obtain ⟨D, hc, hp⟩ := awake32 (B := C)
      refine cb_i _ _ hc ?_
      exact fin_ret (rvs_v (rvs_nil _)) rfl
    | true =>
    obtain ⟨hl80, hl200⟩ := hb rfl
    refine vb_i (v := .bool false) rfl ?_
    refine isB_Fa rfl ?_
    clear hc hp hb
    obtain ⟨D, hc, hp⟩ := img_spec (B := C) (s := s) (odd := odd) (by omega)
    refine cb_i _ _ hc ?_
    have hs := hs.quiet hp
    have hil : (imgL s odd).length ≤ 1048576 := by
      have := img_len s
      unfold imgL at this ⊢
      cases odd
      · simp only [Bool.false_eq_true, if_false] at this ⊢; omega
      · simp only [Bool.false_eq_true, if_false, if_true, List.length_drop] at this ⊢; omega
    generalize imgL s odd = im at *
    have hv' := hs.view hv (fun _ _ h => h)
    obtain ⟨D2, hc, hp⟩ := apply_spec (B := D) (s := im) hv' (by omega) (by omega)
    refine cb_i _ _ hc ?_
    have hs := hs.quiet hp
    repeat first
    | with_reducible refine vb_i e_ext0 ?_
    | with_reducible refine vb_i e_ext1 ?_
    have hv' := hs.view hv (fun _ _ h => h)
    obtain ⟨sv, D3, hc, hp, hk3⟩ := miss_spec (B := D2) (s := im) hv' (by omega) (by omega)
    refine cb_i _ _ hc ?_
    have hs := Sep.call01 hs (hk3.own_of fun _ h => h.elim)
    repeat first
    | with_reducible refine vb_i e_ext0 ?_
    | with_reducible refine vb_i e_ext1 ?_
    have hv' := hs.view hv (fun _ _ h => h)
    obtain ⟨D4, hc, hp⟩ := ref_right_spec (B := D3) (s := im) hv' (by omega) (by omega)
    refine cb_i _ _ hc ?_
    have hs := hs.quiet hp
    clear hc hp hk3 hv'
    repeat first
    | with_reducible refine vb_i (neq64 _ _ _) ?_
    refine isB_c (fun h1 => ?_) (fun h1 => ?_)
    · have e1 : applyR im l = [] := if_neg h1
      have e2 : missR im l = [] := if_neg h1
      rw [e1]
      rw [e2] at hs
      obtain ⟨D5, hc, hp⟩ := awake32 (B := D4)
      refine cb_i _ _ hc ?_
      have hs := hs.quiet hp
      repeat first
      | with_reducible refine isB_T ?_
      | ((with_reducible refine isB_ct ?_ ?_); (· omega))
      | ((with_reducible refine isB_ct ?_ ?_); (· with_reducible rfl))
      | with_reducible refine vb_i (eql64 _ _ _) ?_
      | with_reducible refine vb_i (eqls _ _) ?_
      | ((with_reducible refine isB_Tr ?_ ?_); (· rfl))
      | ((with_reducible apply vb_len); (· first | exact hs.o0.view | exact hs.o1.view | exact hs.o2.view | exact hs.o3.view | exact hs.o4.view | exact hs.o5.view | exact hs.o6.view | exact hs.rv hv | exact hs.rv hv2 | exact hs.rv hv3 | exact hs.rv hv4 | exact hs.view hkv hko | assumption))
      exact fin_ret (rvs_v (rvs_nil _)) (by rw [decide_eq_true rfl]; rfl)
    have h1 : rightE im l = 0 := by omega
    obtain ⟨hi, hr⟩ := rightE_zero h1
    have hall := right_all hr
    have e1 : applyR im l = applyL im l := if_pos h1
    have e2 : missR im l = missL im l := if_pos h1
    rw [e1, h1]
    rw [e2] at hs
    refine LoopP.ruleG (α := AVal × Nat) (fun q => [q.1, .int .i64 (q.2 : Int)]) (fun q D => q.2 ≤ l.length ∧ Sep B (fun _ => False) D [.sl q.1 1 (missL im (l.take q.2)).length (ints (missL im (l.take q.2))), .sl sv 1 (missL im l).length (ints (missL im l))]) (fun q => l.length - q.2) (.nils, 0) (by simp) ⟨Nat.zero_le _, s_nils hs 1⟩ ?_
    clear hs
    rintro ⟨wv, j⟩ E Kn ⟨hj, hs⟩ hk
    simp only at hj hs hk
    unfold cellaretlaw32_PlanApplies.L11 cellaretlaw32_PlanApplies.L11.b
    try simp only [evB]
    have hv' := hs.view hv (fun _ _ h => h)
    refine vb_len hv' ?_
    repeat first
    | with_reducible refine vb_i (lss64 _ _ _) ?_
    refine isB_c (fun h2 => ?_) (fun h2 => ?_)
    · have hb := List.getElem?_eq_getElem (l := l) (i := j) (by omega)
      have hmem := List.getElem_mem (l := l) (n := j) (by omega)
      generalize l[j] = p at hb hmem
      have hst := miss_step hb im
      obtain ⟨hp0, hp1, hp2⟩ := hall p hmem
      have hle := miss_len im (l.take j)
      rw [List.length_take] at hle
      repeat first
      | ((with_reducible refine vb_i (add64 ?_ ?_) ?_); (· omega); (· omega))
      | ((with_reducible refine vb_i (mul64 ?_ ?_) ?_); (· omega); (· omega))
      | with_reducible refine vb_i (e_fieldAddr _ _) ?_
      | ((with_reducible apply vb_addrN); (· first | exact hs.o0.view | exact hs.o1.view | exact hs.o2.view | exact hs.o3.view | exact hs.o4.view | exact hs.o5.view | exact hs.o6.view | exact hs.rv hv | exact hs.rv hv2 | exact hs.rv hv3 | exact hs.rv hv4 | exact hs.view hkv hko | assumption); (· omega))
      | ((with_reducible apply vb_el1); (· first | exact hs.o0.view | exact hs.o1.view | exact hs.o2.view | exact hs.o3.view | exact hs.o4.view | exact hs.o5.view | exact hs.o6.view | exact hs.rv hv | exact hs.rv hv2 | exact hs.rv hv3 | exact hs.rv hv4 | exact hs.view hkv hko | assumption); (· first | exact bcell_len | exact pcell_len | exact one_len | assumption); (· first | exact hb | exact hb2 | assumption); (· rfl))
      have e : (64 * p.1 + 64 : Int) = 64 * (p.1 + 1) := by omega
      rw [e]
      refine vb_i (blk_slice hp0 hp1 hi) ?_
      repeat first
      | with_reducible refine vb_i (neqs _ _) ?_
      | with_reducible refine vb_i (e_fieldAddr _ _) ?_
      | ((with_reducible apply vb_addrN); (· first | exact hs.o0.view | exact hs.o1.view | exact hs.o2.view | exact hs.o3.view | exact hs.o4.view | exact hs.o5.view | exact hs.o6.view | exact hs.rv hv | exact hs.rv hv2 | exact hs.rv hv3 | exact hs.rv hv4 | exact hs.view hkv hko | assumption); (· omega))
      | ((with_reducible apply vb_el1); (· first | exact hs.o0.view | exact hs.o1.view | exact hs.o2.view | exact hs.o3.view | exact hs.o4.view | exact hs.o5.view | exact hs.o6.view | exact hs.rv hv | exact hs.rv hv2 | exact hs.rv hv3 | exact hs.rv hv4 | exact hs.view hkv hko | assumption); (· first | exact bcell_len | exact pcell_len | exact one_len | assumption); (· first | exact hb | exact hb2 | assumption); (· rfl))
      refine isB_c (fun h3 => ?_) (fun h3 => ?_)
      · rw [if_pos h3] at hst
        repeat first
        | with_reducible refine vb_i (e_fieldAddr _ _) ?_
        | ((with_reducible apply vb_addrN); (· first | exact hs.o0.view | exact hs.o1.view | exact hs.o2.view | exact hs.o3.view | exact hs.o4.view | exact hs.o5.view | exact hs.o6.view | exact hs.rv hv | exact hs.rv hv2 | exact hs.rv hv3 | exact hs.rv hv4 | exact hs.view hkv hko | assumption); (· omega))
        | ((with_reducible apply vb_el1); (· first | exact hs.o0.view | exact hs.o1.view | exact hs.o2.view | exact hs.o3.view | exact hs.o4.view | exact hs.o5.view | exact hs.o6.view | exact hs.rv hv | exact hs.rv hv2 | exact hs.rv hv3 | exact hs.rv hv4 | exact hs.view hkv hko | assumption); (· first | exact bcell_len | exact pcell_len | exact one_len | assumption); (· first | exact hb | exact hb2 | assumption); (· rfl))
        refine s_push (m := 1) (xs := [.int .i64 p.1]) hs (by simp only [evF, evS]; rfl) (by decide) rfl rfl (by unfold room; omega) (by unfold room; omega) ?_
        intro sv' D2 hs
        repeat first
        | ((with_reducible refine vb_i (add64 ?_ ?_) ?_); (· omega); (· omega))
        refine hk (sv', j + 1) _ ⟨by simp only; omega, ?_⟩ (by simp only; omega)
        simp only
        rw [hst, List.length_append, show ints (missL im (l.take j) ++ [p.1]) = ints (missL im (l.take j)) ++ [.int .i64 p.1] by simp [ints]]
        exact hs
      · rw [if_neg h3, List.append_nil] at hst
        repeat first
        | ((with_reducible refine vb_i (add64 ?_ ?_) ?_); (· omega); (· omega))
        refine hk (wv, j + 1) _ ⟨by simp only; omega, ?_⟩ (by simp only; omega)
        simp only
        rw [hst]
        exact hs
    · obtain rfl : j = l.length := by omega
      clear hk
      repeat first
      | with_reducible refine onE_i ?_
      try simp only [evB]
      rw [List.take_length] at hs
      obtain ⟨D5, hc, hp⟩ := awake32 (B := E)
      refine cb_i _ _ hc ?_
      have hs := hs.quiet hp
      repeat first
      | with_reducible refine isB_T ?_
      | ((with_reducible refine isB_ct ?_ ?_); (· omega))
      | with_reducible refine vb_i (eql64 _ _ _) ?_
      have hv' := hs.view hv (fun _ _ h => h)
      obtain ⟨D6, hc, hp⟩ := ref_apply_spec (B := D5) (s := im) hv' (by omega) hi hall
      refine cb_i _ _ hc ?_
      have hs := hs.quiet hp
      repeat first
      | ((with_reducible refine isB_ct ?_ ?_); (· with_reducible rfl))
      | with_reducible refine vb_i (eqls _ _) ?_
      have hle := miss_len im l
      refine cb_i (.bool (decide (missL im l = missL im l))) _ ⟨_, _, missL im l, missL im l, rfl, hs.o1.view, hs.o0.view, by omega, rfl, rfl⟩ ?_
      exact fin_ret (rvs_v (rvs_nil _)) (by rw [decide_eq_true rfl]; rfl))
  exact ⟨C, h⟩
end
end Go.Sh

/- Plans: the laws over records. -/
namespace Go.Sh
open Go Go.Abs

theorem check_right {q : Rcd} (h : checkE q = 0) : ∀ p ∈ q.puts, 160 < p.pos ∧ p.pos < 288 ∧ p.b.length = 64 := by
  unfold checkE at h
  split at h
  · omega
  · split at h
    · rename_i h2
      exact (good_inv h2).2
    · omega
theorem all_right {l : List (Rc × AVal)} (h : firstE l = 0) : ∀ p ∈ allL l, 0 ≤ p.1 ∧ p.1 < 288 ∧ p.2.length = 64 := by
  intro p hp
  unfold allL at hp
  obtain ⟨ps, hps, hp⟩ := List.mem_flatten.1 hp
  obtain ⟨r, hr, rfl⟩ := List.mem_map.1 hps
  obtain ⟨t, ht, rfl⟩ := List.mem_map.1 hp
  have := check_right (first_all h r hr) t ht
  unfold toP
  simp only
  omega
theorem plan_right_all {l : List (Rc × AVal)} (h : firstE l = 0) : ∀ p ∈ planL l, 0 ≤ p.1 ∧ p.1 < 288 ∧ p.2.length = 64 := by
  intro p hp
  rcases setAll_mem hp with h1 | h1
  · cases h1
  · exact all_right h p h1
theorem first_app {l k : List (Rc × AVal)} (h : firstE (l ++ k) = 0) : firstE l = 0 ∧ firstE k = 0 := by
  induction l with
  | nil => exact ⟨rfl, h⟩
  | cons r l ih =>
    have hc : ∀ k : List (Rc × AVal), firstE (r :: k) = if checkE r.1.1 ≠ 0 then checkE r.1.1 else firstE k := fun _ => rfl
    rw [List.cons_append, hc] at h
    rw [hc]
    split at h
    · omega
    · rename_i h1
      rw [if_neg h1]
      exact ih h
section
variable {B : AHeap}
theorem recs_len {l : List (Rc × AVal)} (h : ∀ r ∈ l, (Rc.puts r).length < 80 ∧ ∀ p ∈ Rc.puts r, p.2.length ≤ 200) : ∀ r ∈ l, (Rc.puts r).length ≤ 80 := fun r hr => Nat.le_of_lt (h r hr).1
set_option maxHeartbeats 400000 in
theorem law_PlanOf {x : AVal} {l : List (Rc × AVal)} (hv : recsAt B x l) (hn : l.length ≤ 9223372036854775807) (hm : ∀ r ∈ l, (Rc.puts r).length ≤ 9223372036854775807) : ∃ C, S_cellaretlaw32_PlanOf [x] B (.bool true) C := by
  obtain ⟨r, C, h, rfl⟩ := cellaretlaw32_PlanOf.out (x0 := x) (H := B) (Q := fun r C => r = .bool true) (by
    unfold cellaretlaw32_PlanOf.w
    have hpl := recC_len
    have hs : Sep B (fun _ => False) B [] := Sep.start B
    obtain ⟨b, C, hc, hp, hb⟩ := few_spec hv hn hm
    refine cb_i _ _ hc ?_
    have hs := hs.quiet hp
    cases b with
    | false =>
      refine vb_i (v := .bool true) rfl ?_
      refine isB_Tr rfl ?_
      obtain ⟨D, hc, hp⟩ := awake32 (B := C)
      refine cb_i _ _ hc ?_
      exact fin_ret (rvs_v (rvs_nil _)) rfl
    | true =>
    obtain ⟨hl10, hl80⟩ := hb rfl
    have hm80 := recs_len hl80
    refine vb_i (v := .bool false) rfl ?_
    refine isB_Fa rfl ?_
    clear hc hp hb
    obtain ⟨sv, D, hc, hp, hk⟩ := of_spec32 (hv.pre (hs.pre fun _ x => x)) hl10 hm80
    refine cb_i _ _ hc ?_
    have hs := Sep.call01 hs (hk.own_of fun _ h => h.elim)
    repeat first
    | with_reducible refine vb_i e_ext0 ?_
    | with_reducible refine vb_i e_ext1 ?_
    obtain ⟨D2, hc, hp⟩ := root_spec (hv.pre (hs.pre fun _ x => x)) hn
    refine cb_i _ _ hc ?_
    have hs := hs.quiet hp
    clear hc hp hk
    repeat first
    | with_reducible refine vb_i e_ext0 ?_
    | with_reducible refine vb_i e_ext1 ?_
    | ((with_reducible refine s_alloc hs ?_); intro _ _ _ hs)
    have hroot : (rootR l).length = 32 := by
      unfold rootR
      cases hlast : l.getLast? with
      | none => exact zs_len 32
      | some q => exact q.1.2
    refine s_storeA hs rfl (by rw [List.length_map]; exact hroot) rfl (cells_byte _) fun D3 hs => ?_
    have hv1 := (hv.pre (hs.pre fun _ x => x)).1
    refine JoinP.mk (fun e vs E => D3 = E ∧ e = .normal) ?_ ?_
    · refine vb_len hv1 ?_
      refine vb_i (eql64 _ _ _) ?_
      refine isB_c (fun h1 => ?_) (fun h1 => ?_)
      · obtain rfl : l = [] := List.eq_nil_of_length_eq_zero (by omega)
        refine vb_ldA hs.g0 (by rw [List.length_map]; exact hroot) ?_
        refine vb_bld (cs := (zs 32).map ofByte) (by rfl) ?_
        refine vb_i (e_neBytes hroot (zs_len 32)) ?_
        refine isB_cf (fun h => h rfl) ?_
        repeat first
        | ((with_reducible refine isB_cf ?_ ?_); (· omega))
        | with_reducible refine vb_i (gtr64 _ _ _) ?_
        | with_reducible refine vb_i (neq64 _ _ _) ?_
        | ((with_reducible apply vb_len); (· first | exact hs.o0.view | exact hs.o1.view | exact hs.o2.view | exact hs.o3.view | exact hs.o4.view | exact hs.o5.view | exact hs.o6.view | exact hs.rv hv | exact hs.rv hv2 | exact hs.rv hv3 | exact hs.rv hv4 | exact hs.view hkv hko | assumption))
        exact ⟨rfl, rfl⟩
      · refine vb_len hv1 ?_
        have hlt : l.length - 1 < l.length := by omega
        have hb := List.getElem?_eq_getElem hlt
        have hlast : l.getLast? = some l[l.length - 1] := by rw [List.getLast?_eq_getElem?]; exact hb
        generalize l[l.length - 1] = q at hb hlast
        have hr : rootR l = q.1.1.root := by unfold rootR; rw [hlast]
        have hq := q.1.2
        refine vb_i (gtr64 _ _ _) ?_
        refine isB_ct (by omega) ?_
        refine vb_ldA hs.g0 (by rw [List.length_map]; exact hroot) ?_
        refine vb_len hv1 ?_
        refine vb_i (sub64 (by omega) (by omega)) ?_
        refine vb_addr hv1 (by omega) (by omega) ?_
        refine vb_i (e_fieldAddr _ _) ?_
        rw [show ((l.length : Int) - 1).toNat = l.length - 1 by omega]
        have e : ((recC q).drop 1).take 32 = q.1.1.root.map ofByte := by
          unfold recC rcells
          rw [List.drop_succ_cons, List.drop_zero, List.take_left' (by simp [hq])]
        have hld := el_ldP (o := 1) (m := 32) recC_len hv1 hb (by decide)
        rw [e] at hld
        refine vb_i hld ?_
        refine vb_i (e_neBytes hroot hq) ?_
        refine isB_cf (fun h => h hr) ?_
        rw [if_neg (by omega)]
        repeat first
        | ((with_reducible refine isB_cf ?_ ?_); (· omega))
        | with_reducible refine vb_i (neq64 _ _ _) ?_
        exact ⟨rfl, rfl⟩
    rintro _ _ _ ⟨rfl, rfl⟩
    rw [onE_same]
    refine LoopP.ruleG (α := Nat) (fun j => [.int .i64 (j : Int)]) (fun j E => (j ≤ l.length ∧ firstE l = firstE (l.drop j)) ∧ Sep B (fun _ => False) E [.sl sv 2 (planR l).length (flat putC (planR l))]) (fun j => l.length - j) 0 (by simp) ⟨⟨Nat.zero_le _, by simp⟩, hs.tail⟩ ?_
    clear hs hv1
    rintro j E Kn ⟨⟨hj, hu⟩, hs⟩ hk
    have hvE := hv.pre (hs.pre fun _ x => x)
    have hv1 := hvE.1
    unfold cellaretlaw32_PlanOf.L8 cellaretlaw32_PlanOf.L8.b
    try simp only [evB]
    refine vb_len hv1 ?_
    refine vb_i (lss64 _ _ _) ?_
    refine isB_c (fun h1 => ?_) (fun h1 => ?_)
    · have hb := List.getElem?_eq_getElem (l := l) (i := j) (by omega)
      have hmem := List.getElem_mem (l := l) (n := j) (by omega)
      generalize l[j] = q at hb hmem
      rw [first_cons hb] at hu
      have hq := rec_conv hvE hmem
      have hqm : q.1.1.puts.length ≤ 9223372036854775807 := by have := hm q hmem; rw [List.length_map] at this; exact this
      refine JoinP.mk (fun e vs D => e = .normal ∧ vs = [.int .i64 (checkE q.1.1)] ∧ Sep B (fun _ => False) D [.sl sv 2 (planR l).length (flat putC (planR l))]) ?_ ?_
      · refine vb_addrN hv1 (by omega) ?_
        refine vb_i (e_fieldAddr _ _) ?_
        refine vb_i (el_ld1 (o := 33) recC_len hv1 hb (recC_33 q)) ?_
        refine vb_lenW hq.2 ?_
        refine vb_i (gtr64 _ _ _) ?_
        refine isB_c (fun h2 => ?_) (fun h2 => ?_)
        · have e : checkE q.1.1 = 4 := if_pos (by omega)
          rw [e]
          exact ⟨rfl, rfl, hs⟩
        refine vb_addrN hv1 (by omega) ?_
        refine vb_i (el_ldN recC_len hv1 hb) ?_
        obtain ⟨D4, hc, hp4⟩ := right_specW (B := E) (x := q.2) (q := q.1.1) hq hqm
        refine cb_i _ _ hc ?_
        have hs := hs.quiet hp4
        have e : checkE q.1.1 = if goodR q.1.1 = true then 0 else 2 := if_neg (by omega)
        rw [e]
        cases goodR q.1.1 with
        | false =>
          refine vb_i (v := .bool true) rfl ?_
          refine isB_Tr rfl ?_
          exact ⟨rfl, rfl, hs⟩
        | true =>
          refine vb_i (v := .bool false) rfl ?_
          refine isB_Fa rfl ?_
          exact ⟨rfl, rfl, hs⟩
      clear hs hvE hv1 hq
      rintro _ _ D ⟨rfl, rfl, hs⟩
      rw [onE_same]
      try simp only [evB]
      refine vb_i (neq64 _ _ _) ?_
      refine isB_c (fun h2 => ?_) (fun h2 => ?_)
      · rw [if_pos h2] at hu
        have e : planR l = [] := if_neg (by rw [hu]; exact h2)
        rw [e] at hs
        obtain ⟨D5, hc, hp⟩ := awake32 (B := D)
        refine cb_i _ _ hc ?_
        have hs := hs.quiet hp
        refine isB_Tr rfl ?_
        refine vb_len hs.o0.view ?_
        refine vb_i (eql64 _ _ _) ?_
        refine isB_ct rfl ?_
        refine vb_i (eql64 _ _ _) ?_
        repeat first
        | with_reducible refine onE_i ?_
        | ((with_reducible refine onE_s ?_ ?_); (· decide))
        try simp only [evB]
        exact fin_ret (rvs_v (rvs_nil _)) (by rw [decide_eq_true hu]; rfl)
      · rw [if_neg h2] at hu
        repeat first
        | ((with_reducible refine vb_i (add64 ?_ ?_) ?_); (· omega); (· omega))
        exact hk (j + 1) _ ⟨⟨by omega, hu⟩, hs⟩ (by omega)
    · obtain rfl : j = l.length := by omega
      clear hk
      rw [List.drop_length] at hu
      have hu : firstE l = 0 := hu
      have e : planR l = planL l := if_pos hu
      rw [e] at hs
      have hle := planL_len hl10 hm80
      have hal := allL_len hm80
      rw [hu]
      repeat first
      | with_reducible refine onE_i ?_
      obtain ⟨D5, hc, hp⟩ := awake32 (B := E)
      refine cb_i _ _ hc ?_
      have hs := hs.quiet hp
      repeat first
      | with_reducible refine isB_T ?_
      | ((with_reducible refine isB_ct ?_ ?_); (· omega))
      | with_reducible refine vb_i (eql64 _ _ _) ?_
      obtain ⟨av, D6, hc, hp, hk6⟩ := ref_all_spec (hv.pre (hs.pre fun _ x => x)) hl10 hm80
      refine cb_i _ _ hc ?_
      have hs := Sep.call01 hs (hk6.own_of fun _ h => h.elim)
      obtain ⟨ov, D7, hc, hp, hk7⟩ := ref_of_spec (B := D6) hs.o0.view (by omega)
      refine cb_i _ _ hc ?_
      have hs := Sep.call01 hs (hk7.own_of fun _ h => h.elim)
      obtain ⟨D8, hc, hp⟩ := same_spec (l := planL l) (k := planL l) hs.o2.view hs.o0.view (by omega)
      refine cb_i _ _ hc ?_
      exact fin_ret (rvs_v (rvs_nil _)) (by rw [decide_eq_true rfl]; rfl))
  exact ⟨C, h⟩
set_option maxHeartbeats 400000 in
theorem law_PlanAlike {x z : AVal} {s cs : List UInt8} {l : List (Rc × AVal)} (hv : recsAt B x l) (hn : l.length ≤ 9223372036854775807) (hm : ∀ r ∈ l, (Rc.puts r).length ≤ 9223372036854775807) (hz : View B z 1 cs.length (cs.map ofByte)) (hcs : cs.length ≤ 9223372036854775807)
    (hsl : s.length ≤ 1048576) : ∃ C, S_cellaretlaw32_PlanAlike [.str s, x, z] B (.bool true) C := by
  obtain ⟨r, C, h, rfl⟩ := cellaretlaw32_PlanAlike.out (x0 := .str s) (x1 := x) (x2 := z) (H := B) (Q := fun r C => r = .bool true) (by
    unfold cellaretlaw32_PlanAlike.w
    have hpl := putC_len
    have hs : Sep B (fun _ => False) B [] := Sep.start B
    obtain ⟨b, C, hc, hp, hb⟩ := few_spec hv hn hm
    refine cb_i _ _ hc ?_
    have hs := hs.quiet hp
    cases b with
    | false =>
      refine vb_i (v := .bool true) rfl ?_
      refine isB_Tr rfl ?_
      obtain ⟨D, hc, hp⟩ := awake32 (B := C)
      refine cb_i _ _ hc ?_
      exact fin_ret (rvs_v (rvs_nil _)) rfl
    | true =>
    obtain ⟨hl10, hl80⟩ := hb rfl
    have hm80 := recs_len hl80
    refine vb_i (v := .bool false) rfl ?_
    refine isB_Fa rfl ?_
    clear hc hp hb
    obtain ⟨sv, D, hc, hp, hk⟩ := of_spec32 (hv.pre (hs.pre fun _ x => x)) hl10 hm80
    refine cb_i _ _ hc ?_
    have hs := Sep.call01 hs (hk.own_of fun _ h => h.elim)
    clear hc hp hk
    repeat first
    | with_reducible refine vb_i e_ext0 ?_
    | with_reducible refine vb_i e_ext1 ?_
    | with_reducible refine vb_i (neq64 _ _ _) ?_
    refine isB_c (fun h1 => ?_) (fun h1 => ?_)
    · obtain ⟨D, hc, hp⟩ := awake32 (B := D)
      refine cb_i _ _ hc ?_
      exact fin_ret (rvs_v (rvs_nil _)) rfl
    have h1 : firstE l = 0 := by omega
    have e : planR l = planL l := if_pos h1
    rw [e] at hs
    have hle := planL_len hl10 hm80
    have hal := allL_len hm80
    have hpr := plan_right_all h1
    have har := all_right h1
    have hri := planL_rise l
    have hap : ∀ {t : List UInt8}, t.length = 18432 → applyL t (planL l) = applyL t (allL l) := fun ht => apply_plan ht har
    have hrE : ∀ {t : List UInt8} {q : List PutV}, t.length = 18432 → (∀ p ∈ q, 0 ≤ p.1 ∧ p.1 < 288 ∧ p.2.length = 64) → rightE t q = 0 := fun ht hq => by unfold rightE; rw [if_neg (by omega)]; exact right_of_all hq
    have hap2 : ∀ {t : List UInt8} {q : List PutV}, t.length = 18432 → (∀ p ∈ q, 0 ≤ p.1 ∧ p.1 < 288 ∧ p.2.length = 64) → applyR t q = applyL t q := fun ht hq => if_pos (hrE ht hq)
    obtain ⟨D2, hc, hp⟩ := img_spec (B := D) (s := s) (odd := false) (by omega)
    refine cb_i _ _ hc ?_
    have hs := hs.quiet hp
    have hil := img_len s
    generalize imgL s false = im at *
    obtain ⟨D3, hc, hp⟩ := apply_spec (B := D2) (s := im) hs.o0.view (by omega) (by omega)
    refine cb_i _ _ hc ?_
    have hs := hs.quiet hp
    rw [hrE hil hpr, hap2 hil hpr]
    clear hc hp
    repeat first
    | with_reducible refine vb_i e_ext0 ?_
    | with_reducible refine vb_i e_ext1 ?_
    obtain ⟨av, D4, hc4, hp4, hk4⟩ := ref_all_spec (hv.pre (hs.pre fun _ x => x)) hl10 hm80
    have hs := Sep.call01 hs (hk4.own_of fun _ h => h.elim)
    obtain ⟨D5, hc5, hp5⟩ := ref_apply_spec (B := D4) (s := im) hs.o0.view (by omega) hil har
    have hs := hs.quiet hp5
    refine JoinP.mk (fun e vs E => D5 = E ∧ e = .normal) ?_ ?_
    · repeat first
      | ((with_reducible refine isB_cf ?_ ?_); (· omega))
      | with_reducible refine vb_i (neq64 _ _ _) ?_
      refine cb_i _ _ hc4 ?_
      refine cb_i _ _ hc5 ?_
      repeat first
      | with_reducible refine vb_i (neqs _ _) ?_
      refine isB_cf (fun h => h (hap hil)) ?_
      exact ⟨rfl, rfl⟩
    rintro _ _ _ ⟨rfl, rfl⟩
    rw [onE_same]
    clear hc4 hp4 hk4 hc5 hp5
    have hs := hs.tail
    have hyl := apply_len hil hpr
    obtain ⟨D6, hc, hp⟩ := apply_spec (B := D5) (s := applyL im (planL l)) hs.o0.view (by omega) (by omega)
    refine cb_i _ _ hc ?_
    have hs := hs.quiet hp
    rw [hrE hyl hpr, hap2 hyl hpr, apply_part (q := planL l) hil hri hpr (fun x hx => hx)]
    clear hc hp
    repeat first
    | with_reducible refine vb_i e_ext0 ?_
    | with_reducible refine vb_i e_ext1 ?_
    obtain ⟨mv, D7, hc, hp, hk⟩ := miss_spec (B := D6) (s := applyL im (planL l)) hs.o0.view (by omega) (by omega)
    refine cb_i _ _ hc ?_
    have hs := Sep.call01 hs (hk.own_of fun _ h => h.elim)
    have em : missR (applyL im (planL l)) (planL l) = [] := by unfold missR; rw [if_pos (hrE hyl hpr)]; exact miss_none hil hri hpr
    rw [hrE hyl hpr]
    rw [em] at hs
    clear hc hp hk
    repeat first
    | with_reducible refine vb_i e_ext0 ?_
    | with_reducible refine vb_i e_ext1 ?_
    refine LoopP.ruleG (α := AVal × Nat × List PutV) (fun q => [q.1, .int .i64 (q.2.1 : Int)]) (fun q D => (q.2.1 ≤ 20 ∧ q.2.2.length = q.2.1 ∧ ∀ p ∈ q.2.2, p ∈ planL l) ∧ Sep B (fun _ => False) D [.sl q.1 2 q.2.2.length (flat putC q.2.2), .sl mv 1 0 [], .sl sv 2 (planL l).length (flat putC (planL l))]) (fun q => 20 - q.2.1) (.nils, 0, []) (by simp)
      ⟨⟨Nat.zero_le _, rfl, fun _ h => by cases h⟩, s_nils hs 2⟩ ?_
    clear hs
    rintro ⟨pv, j, q⟩ E Kn ⟨⟨hj, hql, hqp⟩, hs⟩ hk
    simp only at hj hql hqp hs hk
    unfold cellaretlaw32_PlanAlike.L14 cellaretlaw32_PlanAlike.L14.b
    try simp only [evB]
    have hzE := hs.view hz (fun _ _ h => h)
    refine JoinP.mk (fun e vs D => E = D ∧ ((e = .normal ∧ j < cs.length ∧ j < 20 ∧ 0 < (planL l).length) ∨ (e = .exit 0))) ?_ ?_
    · refine vb_len hzE ?_
      refine vb_i (lss64 _ _ _) ?_
      refine isB_c (fun h4 => ?_) (fun h4 => ?_)
      · refine vb_i (lss64 _ _ _) ?_
        refine isB_c (fun h5 => ?_) (fun h5 => ?_)
        · refine vb_len hs.o2.view ?_
          refine vb_i (gtr64 _ _ _) ?_
          refine isB_c (fun h6 => ?_) (fun h6 => ?_)
          · exact ⟨rfl, .inl ⟨rfl, by omega, by omega, by omega⟩⟩
          · exact ⟨rfl, .inr rfl⟩
        · exact ⟨rfl, .inr rfl⟩
      · exact ⟨rfl, .inr rfl⟩
    rintro _ _ _ ⟨rfl, ⟨rfl, h4, h5, h6⟩ | rfl⟩
    · rw [onE_ne, onE_same]
      have hb := List.getElem?_eq_getElem h4
      generalize cs[j] = by0 at hb
      refine vb_addrN hzE h4 ?_
      refine vb_el0 hzE (x := ofByte by0) (by rw [List.getElem?_map, hb]; rfl) ?_
      refine vb_i (int_of_byte by0) ?_
      refine vb_len hs.o2.view ?_
      refine vb_i (rem64 (by omega) (by omega)) ?_
      have hmod : (by0.toNat : Int) % ((planL l).length : Int) = ((by0.toNat % (planL l).length : Nat) : Int) := by omega
      rw [hmod]
      have hlt : by0.toNat % (planL l).length < (planL l).length := Nat.mod_lt _ h6
      have hb2 := List.getElem?_eq_getElem hlt
      have hmem := List.getElem_mem hlt
      generalize by0.toNat % (planL l).length = t at *
      generalize (planL l)[t] = p at hb2 hmem
      refine vb_addrN hs.o2.view hlt ?_
      refine vb_i (el_ldN putC_len hs.o2.view hb2) ?_
      refine s_push (m := 1) (xs := putC p) hs (by simp only [evF, evS]; rfl) (by decide) rfl (putC_cell p) (by unfold room; omega) (by unfold room; omega) ?_
      intro pv' E2 hs
      repeat first
      | ((with_reducible refine vb_i (add64 ?_ ?_) ?_); (· omega); (· omega))
      refine hk (pv', j + 1, q ++ [p]) _ ⟨⟨by simp only; omega, by simp only [List.length_append, List.length_singleton]; omega, fun y hy => ?_⟩, ?_⟩ (by simp only; omega)
      · rcases List.mem_append.1 hy with hy | hy
        · exact hqp y hy
        · rw [List.mem_singleton] at hy; subst hy; exact hmem
      · simp only
        rw [flat_app, flat_one, List.length_append]
        exact hs
    · clear hk
      repeat first
      | with_reducible refine onE_i ?_
      try simp only [evB]
      have hqr : ∀ p ∈ q, 0 ≤ p.1 ∧ p.1 < 288 ∧ p.2.length = 64 := fun p hp => hpr p (hqp p hp)
      have hul := apply_len hil hqr
      obtain ⟨D8, hc, hp⟩ := apply_spec (B := E) (s := im) hs.o0.view (by omega) (by omega)
      refine cb_i _ _ hc ?_
      have hs := hs.quiet hp
      rw [hrE hil hqr, hap2 hil hqr]
      clear hc hp
      repeat first
      | with_reducible refine vb_i e_ext0 ?_
      | with_reducible refine vb_i e_ext1 ?_
      obtain ⟨D9, hc, hp⟩ := apply_spec (B := D8) (s := applyL im q) hs.o2.view (by omega) (by omega)
      refine cb_i _ _ hc ?_
      have hs := hs.quiet hp
      rw [hrE hul hpr, hap2 hul hpr, apply_part hil hri hpr hqp]
      clear hc hp
      repeat first
      | with_reducible refine vb_i e_ext0 ?_
      | with_reducible refine vb_i e_ext1 ?_
      obtain ⟨Da, hc, hp⟩ := awake32 (B := D9)
      refine cb_i _ _ hc ?_
      have hs := hs.quiet hp
      refine isB_Tr rfl ?_
      refine vb_i (eql64 _ _ _) ?_
      refine isB_ct rfl ?_
      refine vb_i (eqls _ _) ?_
      refine isB_ct rfl ?_
      refine vb_i (eql64 _ _ _) ?_
      refine isB_ct rfl ?_
      refine vb_len hs.o1.view ?_
      refine vb_i (eql64 _ _ _) ?_
      refine isB_ct rfl ?_
      refine vb_i (eql64 _ _ _) ?_
      refine isB_ct rfl ?_
      refine vb_i (eqls _ _) ?_
      exact fin_ret (rvs_v (rvs_nil _)) (by rw [decide_eq_true rfl]; rfl))
  exact ⟨C, h⟩
end
end Go.Sh

/- Plans: in parts. -/
namespace Go.Sh
open Go Go.Abs

theorem allL_app (l k : List (Rc × AVal)) : allL (l ++ k) = allL l ++ allL k := by simp [allL]
section
variable {B : AHeap}
set_option maxHeartbeats 400000 in
theorem law_PlanParts {x y z : AVal} {c : UInt8} {l : List (Rc × AVal)} {a b : List PutV} (hv : recsAt B x l) (hn : l.length ≤ 9223372036854775807) (hm : ∀ r ∈ l, (Rc.puts r).length ≤ 9223372036854775807)
    (hy : View B y 2 a.length (flat putC a)) (hz : View B z 2 b.length (flat putC b)) (hla : a.length ≤ 9223372036854775807) (hlb : b.length ≤ 9223372036854775807) : ∃ C, S_cellaretlaw32_PlanParts [.agg [x, ofByte c, y, z]] B (.bool true) C := by
  obtain ⟨r, C, h, rfl⟩ := cellaretlaw32_PlanParts.out (x0 := .agg [x, ofByte c, y, z]) (H := B) (Q := fun r C => r = .bool true) (by
    unfold cellaretlaw32_PlanParts.w
    have hpl := putC_len
    have hs : Sep B (fun _ => False) B [] := Sep.start B
    refine s_box hs rfl fun i C _ hs => ?_
    simp only [AVal.cells] at hs
    refine vb_i (e_fieldAddr _ _) ?_
    refine vb_ld (x := x) hs.g0 rfl ?_
    refine vb_i (e_fieldAddr _ _) ?_
    refine vb_ld (x := ofByte c) hs.g0 rfl ?_
    refine vb_i (e_fieldAddr _ _) ?_
    refine vb_ld (x := y) hs.g0 rfl ?_
    refine vb_i (e_fieldAddr _ _) ?_
    refine vb_ld (x := z) hs.g0 rfl ?_
    have hs := hs.tail
    refine JoinP.mk (fun e vs D => Sep B (fun _ => False) D [] ∧ ((e = .ret ∧ vs = [.bool true]) ∨ (e = .normal ∧ l.length ≤ 10 ∧ (∀ r ∈ l, (Rc.puts r).length ≤ 80) ∧ a.length < 80 ∧ b.length < 80))) ?_ ?_
    · obtain ⟨t, C1, hc, hp, hb⟩ := few_spec (hv.pre (hs.pre fun _ x => x)) hn hm
      refine cb_i _ _ hc ?_
      have hs := hs.quiet hp
      cases t with
      | false =>
        refine vb_i (v := .bool true) rfl ?_
        refine isB_Tr rfl ?_
        obtain ⟨D, hc, hp⟩ := awake32 (B := C1)
        refine cb_i _ _ hc ?_
        exact ⟨hs.quiet hp, .inl ⟨rfl, rfl⟩⟩
      | true =>
      obtain ⟨hl10, hl80⟩ := hb rfl
      refine vb_i (v := .bool false) rfl ?_
      refine isB_Fa rfl ?_
      obtain ⟨t, C2, hc, hp, hb⟩ := light_spec32 (view_vw (hs.view hy (fun _ _ h => h))) hla
      refine cb_i _ _ hc ?_
      have hs := hs.quiet hp
      cases t with
      | false =>
        refine vb_i (v := .bool true) rfl ?_
        refine isB_Tr rfl ?_
        obtain ⟨D, hc, hp⟩ := awake32 (B := C2)
        refine cb_i _ _ hc ?_
        exact ⟨hs.quiet hp, .inl ⟨rfl, rfl⟩⟩
      | true =>
      refine vb_i (v := .bool false) rfl ?_
      refine isB_Fa rfl ?_
      obtain ⟨t, C3, hc, hp, hb2⟩ := light_spec32 (view_vw (hs.view hz (fun _ _ h => h))) hlb
      refine cb_i _ _ hc ?_
      have hs := hs.quiet hp
      cases t with
      | false =>
        refine vb_i (v := .bool true) rfl ?_
        refine isB_Tr rfl ?_
        obtain ⟨D, hc, hp⟩ := awake32 (B := C3)
        refine cb_i _ _ hc ?_
        exact ⟨hs.quiet hp, .inl ⟨rfl, rfl⟩⟩
      | true =>
      refine vb_i (v := .bool false) rfl ?_
      refine isB_Fa rfl ?_
      exact ⟨hs, .inr ⟨rfl, hl10, recs_len hl80, (hb rfl).1, (hb2 rfl).1⟩⟩
    clear hs
    rintro _ _ D ⟨hs, ⟨rfl, rfl⟩ | ⟨rfl, hl10, hm80, ha80, hb80⟩⟩
    · repeat first
      | with_reducible refine onE_i ?_
      | ((with_reducible refine onE_s ?_ ?_); (· decide))
      try simp only [evB]
      exact fin_ret (rvs_v (rvs_nil _)) rfl
    rw [onE_same]
    refine s_row hs (by rfl) ?_
    intro i D _ hs
    have hs := Sep.as (b := .sl (.slice ⟨i, 0, 0⟩ 0 (.ex 0)) 2 0 []) hs rfl fun ho => ⟨rfl, .inr (.inl ⟨i, 0, rfl, ho⟩)⟩
    refine s_appv hs (by decide) (hs.view hy (fun _ _ h => h)) (flat_cell putC_cell _) (by unfold room; omega) (by unfold room; omega) ?_
    intro s1 D1 hs
    refine s_appv hs (by decide) (hs.view hz (fun _ _ h => h)) (flat_cell putC_cell _) (by unfold room; omega) (by unfold room; omega) ?_
    intro s2 D2 hs
    have e3 : (a ++ b).length = 0 + a.length + b.length := by simp
    have e4 : flat putC (a ++ b) = [] ++ flat putC a ++ flat putC b := by simp [flat]
    rw [← e3, ← e4] at hs
    obtain ⟨ov, D3, hc, hp, hk⟩ := ref_of_spec (B := D2) hs.o0.view (by rw [e3]; omega)
    refine cb_i _ _ hc ?_
    have hs := Sep.call01 hs (hk.own_of fun _ h => h.elim)
    obtain ⟨bv, D4, hc, hp, hk⟩ := behind_spec (B := D3) (view_vw (hs.view hy (fun _ _ h => h))) (view_vw (hs.view hz (fun _ _ h => h))) (by omega) (by omega)
    refine cb_i _ _ hc ?_
    have hs := Sep.call01 hs (hk.own_of fun _ h => h.elim)
    rw [← setAll_app] at hs
    have hab := setAll_len (a ++ b) []
    rw [e3] at hab
    simp only [List.length_nil] at hab
    obtain ⟨D5, hc, hp⟩ := same_spec hs.o0.view hs.o1.view (by omega)
    refine cb_i _ _ hc ?_
    have hs := (hs.quiet hp).drop (R1 := [])
    rw [decide_eq_true rfl]
    refine vb_i (v := .bool false) rfl ?_
    refine isB_Fa rfl ?_
    clear hc hp hk
    obtain ⟨sv, D6, hc, hp, hk⟩ := of_spec32 (hv.pre (hs.pre fun _ x => x)) hl10 hm80
    refine cb_i _ _ hc ?_
    have hs := Sep.call01 hs (hk.own_of fun _ h => h.elim)
    clear hc hp hk
    repeat first
    | with_reducible refine vb_i e_ext0 ?_
    | with_reducible refine vb_i e_ext1 ?_
    | with_reducible refine vb_i (neq64 _ _ _) ?_
    refine isB_c (fun h1 => ?_) (fun h1 => ?_)
    · obtain ⟨D, hc, hp⟩ := awake32 (B := D6)
      refine cb_i _ _ hc ?_
      exact fin_ret (rvs_v (rvs_nil _)) rfl
    have h1 : firstE l = 0 := by omega
    have e : planR l = planL l := if_pos h1
    rw [e] at hs
    have hv1 := (hv.pre (hs.pre fun _ x => x)).1
    refine vb_i (int_of_byte c) ?_
    refine vb_len hv1 ?_
    refine vb_i (add64 (by omega) (by omega)) ?_
    refine vb_i (rem64 (by omega) (by omega)) ?_
    have hmod : (c.toNat : Int) % ((l.length : Int) + 1) = ((c.toNat % (l.length + 1) : Nat) : Int) := (Int.natCast_emod c.toNat (l.length + 1)).symm
    rw [hmod]
    have hlt : c.toNat % (l.length + 1) < l.length + 1 := Nat.mod_lt _ (by omega)
    generalize c.toNat % (l.length + 1) = k at *
    have hk : k ≤ l.length := by omega
    obtain ⟨f1, f2⟩ := first_app (l := l.take k) (k := l.drop k) (by rw [List.take_append_drop]; exact h1)
    have hfin : planL l = setAll (planL (l.take k)) (planL (l.drop k)) := by
      unfold planL
      rw [setAll_norm (rise_all List.Pairwise.nil), ← setAll_app, ← allL_app, List.take_append_drop]
    obtain ⟨w1, g1, g2, _⟩ := slice_view (l := none) (h := some (.int .i64 (k : Int))) hv1 (lo := 0) (hi := k) (by simp [bnd]) (by simp [bnd]) (by omega) hk
    refine vb_i g1 ?_
    have et : (List.drop (0 * 34) (flat recC l)).take ((k - 0) * 34) = flat recC (l.take k) := by rw [Nat.zero_mul, List.drop_zero, Nat.sub_zero, flat_takeN recC_len _ hk]
    rw [et] at g2
    have hr1 : recsAt D6 w1 (l.take k) := ⟨by rw [List.length_take, Nat.min_eq_left hk]; exact g2, fun r hr => (hv.pre (hs.pre fun _ x => x)).2 r (List.mem_of_mem_take hr)⟩
    have hn1 : (l.take k).length ≤ 10 := by rw [List.length_take]; omega
    obtain ⟨sv1, D7, hc, hp, hk7⟩ := of_spec32 hr1 hn1 (fun r hr => hm80 r (List.mem_of_mem_take hr))
    refine cb_i _ _ hc ?_
    have hs := Sep.call01 hs (hk7.own_of fun _ h => h.elim)
    have e : planR (l.take k) = planL (l.take k) := if_pos f1
    rw [e] at hs
    rw [f1]
    clear hc hp hk7 hr1 g1 g2 et
    repeat first
    | with_reducible refine vb_i e_ext0 ?_
    | with_reducible refine vb_i e_ext1 ?_
    have hv1 := (hv.pre (hs.pre fun _ x => x)).1
    obtain ⟨w2, g1, g2, _⟩ := slice_view (l := some (.int .i64 (k : Int))) (h := none) hv1 (lo := k) (hi := l.length) (by simp [bnd]) (by simp [bnd]) hk (Nat.le_refl _)
    refine vb_i g1 ?_
    have et : (List.drop (k * 34) (flat recC l)).take ((l.length - k) * 34) = flat recC (l.drop k) := by rw [flat_dropN recC_len _ hk, List.take_of_length_le (by rw [flat_len recC_len, List.length_drop]; exact Nat.le_refl _)]
    rw [et] at g2
    have hr2 : recsAt D7 w2 (l.drop k) := ⟨by rw [List.length_drop]; exact g2, fun r hr => (hv.pre (hs.pre fun _ x => x)).2 r (List.mem_of_mem_drop hr)⟩
    have hn2 : (l.drop k).length ≤ 10 := by rw [List.length_drop]; omega
    obtain ⟨sv2, D8, hc, hp, hk8⟩ := of_spec32 hr2 hn2 (fun r hr => hm80 r (List.mem_of_mem_drop hr))
    refine cb_i _ _ hc ?_
    have hs := Sep.call01 hs (hk8.own_of fun _ h => h.elim)
    have e : planR (l.drop k) = planL (l.drop k) := if_pos f2
    rw [e] at hs
    rw [f2]
    clear hc hp hk8 hr2 g1 g2 et
    repeat first
    | with_reducible refine vb_i e_ext0 ?_
    | with_reducible refine vb_i e_ext1 ?_
    obtain ⟨D9, hc, hp⟩ := awake32 (B := D8)
    refine cb_i _ _ hc ?_
    have hs := hs.quiet hp
    clear hc hp
    refine isB_Tr rfl ?_
    refine vb_i (eql64 _ _ _) ?_
    refine isB_ct rfl ?_
    refine vb_i (eql64 _ _ _) ?_
    refine isB_ct rfl ?_
    have q1 := planL_len hn1 (fun r hr => hm80 r (List.mem_of_mem_take hr))
    have q2 := planL_len hn2 (fun r hr => hm80 r (List.mem_of_mem_drop hr))
    have q3 := planL_len hl10 hm80
    obtain ⟨ov, Da, hc, hp, hka⟩ := behind_spec (B := D9) (view_vw hs.o1.view) (view_vw hs.o0.view) (by omega) (by omega)
    refine cb_i _ _ hc ?_
    have hs := Sep.call01 hs (hka.own_of fun _ h => h.elim)
    rw [setAll_self (planL_rise _), ← hfin] at hs
    obtain ⟨Db, hc, hp⟩ := same_spec hs.o0.view hs.o3.view (by omega)
    refine cb_i _ _ hc ?_
    exact fin_ret (rvs_v (rvs_nil _)) (by rw [decide_eq_true rfl]; rfl))
  exact ⟨C, h⟩
end
end Go.Sh

/- Arguments: rows of blocks and of records. -/
namespace Go.Sh
open Go Go.Abs
section
variable {H : Type} {P : Program} {B : AHeap} {top : Bool}
theorem arg_vw {β : Type} {t e : TypeId} {a : AVal} {d : DataW H} (f : β → List AVal) (hf : ∀ b, (f b).length = P.cellsOf e) (ht : P.underlying t = some (.slice e)) (h : Arg P B top t [a] d)
    (each : ∀ cs (d : DataW H), Arg P B false e cs d → ∃ b, cs = f b) : ∃ l : List β, Vw B a (P.cellsOf e) l.length (flat f l) ∧ l.length ≤ maxLen := by
  rcases Arg.slice_inv ht h with ⟨h1, h2⟩ | ⟨_, i, h1, _⟩ | ⟨i, off, len, cap, cs', elems, spare, h1, rfl, hb, hc, hm, he, hs, hl, ha⟩
  · cases h1
    exact ⟨[], .inl ⟨by simp [flat], .inl ⟨rfl, rfl⟩⟩, Nat.zero_le _⟩
  · cases h1
    exact ⟨[], .inr ⟨rfl, rfl, i, rfl⟩, Nat.zero_le _⟩
  · cases h1
    have h' : Arg P B true t [.slice ⟨i, 1, off⟩ len (.ex cap)] (.slice elems spare) := .slice ht hb hc hm he hs hl ha
    obtain ⟨l, hv, hl, _⟩ := h'.viewR f (fun _ _ => True) hf ht (fun cs d hd => by obtain ⟨b, hb⟩ := each cs d hd; exact ⟨b, hb, trivial⟩)
    exact ⟨l, .inl hv, hl⟩
theorem puts_vw {t e : TypeId} {a : AVal} {d : DataW H} (ht : P.underlying t = some (.slice e)) (hk : flatK P 9 e = some [.int .i64, .str]) (hc : P.cellsOf e = 2) (h : Arg P B top t [a] d) :
    ∃ l : List PutV, Vw B a 2 l.length (flat putC l) ∧ l.length ≤ 9223372036854775807 := by
  obtain ⟨l, hv, hl⟩ := arg_vw putC (fun b => by rw [putC_len, hc]) ht h (fun cs d hd => by
    obtain ⟨_, _, rfl, ⟨n, rfl, _⟩, _, _, rfl, ⟨s, rfl, _⟩, rfl⟩ := Arg.fit 9 e _ hk cs d hd
    exact ⟨(n, s), rfl⟩)
  rw [hc] at hv
  exact ⟨l, hv, Nat.le_trans hl (by decide)⟩
theorem vw_view {a : AVal} {es n : Nat} {cs : List AVal} (h : Vw B a es n cs) (hn : ∀ i, a ≠ .slice ⟨i, 0, 0⟩ 0 (.ex 0)) : View B a es n cs := by
  rcases h with h | ⟨_, _, i, e⟩
  · exact h
  · exact absurd e (hn i)
theorem arg_top {t e : TypeId} {a : AVal} {d : DataW H} (ht : P.underlying t = some (.slice e)) (h : Arg P B true t [a] d) : ∀ i, a ≠ .slice ⟨i, 0, 0⟩ 0 (.ex 0) := by
  intro i e
  rcases Arg.slice_inv ht h with ⟨h1, _⟩ | ⟨h1, _⟩ | ⟨_, _, _, _, _, _, _, h1, _⟩
  · subst e; cases h1
  · cases h1
  · subst e; cases h1
theorem puts_view {t e : TypeId} {a : AVal} {d : DataW H} (ht : P.underlying t = some (.slice e)) (hk : flatK P 9 e = some [.int .i64, .str]) (hc : P.cellsOf e = 2) (h : Arg P B true t [a] d) :
    ∃ l : List PutV, View B a 2 l.length (flat putC l) ∧ l.length ≤ 9223372036854775807 := by
  obtain ⟨l, hv, hl⟩ := puts_vw ht hk hc h
  exact ⟨l, vw_view hv (arg_top ht h), hl⟩
theorem toP_back (l : List PutV) : (l.map fun p => (⟨p.1, p.2⟩ : Pt)).map toP = l := by
  rw [List.map_map]
  exact (List.map_congr_left fun p _ => rfl).trans (List.map_id l)
theorem recs_of {t e p q : TypeId} {x : AVal} {d : DataW H} (ht : P.underlying t = some (.slice e)) (hc : P.cellsOf e = 34) (hk : flatK P 9 e = some (.int .i64 :: (List.replicate 32 (.int .u8) ++ [.sl p])))
    (hp : P.underlying p = some (.slice q)) (hq : flatK P 9 q = some [.int .i64, .str]) (hqc : P.cellsOf q = 2) (h : Arg P B true t [x] d) :
    ∃ l : List (Rc × AVal), recsAt B x l ∧ l.length ≤ 9223372036854775807 ∧ ∀ r ∈ l, (Rc.puts r).length ≤ 9223372036854775807 := by
  obtain ⟨l, hv, hl, hR⟩ := h.viewR recC (fun r _ => Vw B r.2 2 (Rc.puts r).length (flat putC (Rc.puts r)) ∧ (Rc.puts r).length ≤ 9223372036854775807) (fun r => by rw [recC_len, hc]) ht (fun cs d hd => by
    obtain ⟨_, cs1, rfl, ⟨seq, rfl, _⟩, hf⟩ := Arg.fit 9 e _ hk cs d hd
    obtain ⟨root, cs2, hr, rfl, hf2⟩ := hf.bytes
    obtain ⟨pv, _, rfl, ⟨dp, hpv⟩, rfl⟩ := hf2
    obtain ⟨ps, hps, hpl⟩ := puts_vw hp hq hqc hpv
    refine ⟨(⟨⟨seq, root, ps.map fun p => ⟨p.1, p.2⟩⟩, hr⟩, pv), rfl, ?_⟩
    unfold Rc.puts
    simp only
    rw [toP_back]
    exact ⟨hps, hpl⟩)
  rw [hc] at hv
  have hm : ∀ r ∈ l, Vw B r.2 2 (Rc.puts r).length (flat putC (Rc.puts r)) ∧ (Rc.puts r).length ≤ 9223372036854775807 := by
    intro r hr
    rcases hR with rfl | ⟨elems, spare, _, hR⟩
    · cases hr
    · obtain ⟨k, hk, e⟩ := List.getElem_of_mem hr
      obtain ⟨_, _, h⟩ := hR k r (by rw [← e]; exact List.getElem?_eq_getElem hk)
      exact h
  exact ⟨l, ⟨hv, fun r hr => (hm r hr).1⟩, Nat.le_trans hl (by decide), fun r hr => (hm r hr).2⟩
theorem bytes_view {t e : TypeId} {a : AVal} {d : DataW H} (ht : P.underlying t = some (.slice e)) (hk : flatK P 9 e = some [.int .u8]) (hc : P.cellsOf e = 1) (h : Arg P B true t [a] d) :
    ∃ l : List UInt8, View B a 1 l.length (l.map ofByte) ∧ l.length ≤ 9223372036854775807 := by
  obtain ⟨l, hv, hl, _⟩ := h.viewR (fun b : UInt8 => [ofByte b]) (fun _ _ => True) (fun _ => by rw [hc]; rfl) ht (fun cs d hd => by
    obtain ⟨_, _, rfl, ⟨n, rfl, h1, h2⟩, rfl⟩ := Arg.fit 9 e _ hk cs d hd
    obtain ⟨b, hb⟩ := byte_of h1 h2
    exact ⟨b, by rw [hb], trivial⟩)
  rw [hc, flatten_one ofByte l] at hv
  exact ⟨l, hv, Nat.le_trans hl (by decide)⟩
end
end Go.Sh
