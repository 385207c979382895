/- One text of these: Dev0, DevW1, DevP1, DevP2, DevP3, DevP4, DevW2, DevP5, DevP6. -/
import Derived.Test.YtmmjdmfodeickaaAbsF
import Derived.Test.YtmmjdmfodeickaaRon

/- Devices: what a device has. -/
namespace Go.Sh
open Go Go.Abs

structure Bk where
  now : List UInt8
  safe : List UInt8
  is : Bool
def bcell (b : Bk) : List AVal := [.str b.now, .str b.safe, .bool b.is]
theorem bcell_len (b : Bk) : (bcell b).length = 3 := rfl
theorem bcell_cell (b : Bk) : (bcell b).all AVal.isCell = true := rfl
/-- A device: where it lies, its slice, its blocks. -/
def Part.dev (p : Nat) (sv : AVal) (l : List Bk) : Part := (Part.obj p (.cells 0 .exact [sv])).and (Part.sl sv 3 l.length (flat bcell l))
def mayE (n : Nat) (i : Int) (s : List UInt8) : Int := if i < 0 ∨ n ≤ i then 3 else if s.length ≠ 64 then 6 else 0
def bk0 : Bk := ⟨zs 64, zs 64, false⟩
def bkAt (l : List Bk) (i : Int) : Bk := l.getD i.toNat bk0
/-- Written. -/
def Bk.write (s : List UInt8) (b : Bk) : Bk := ⟨s, b.safe, true⟩
def Bk.flush (b : Bk) : Bk := ⟨b.now, b.now, false⟩
def Bk.put (s : List UInt8) : Bk := ⟨s, s, false⟩
/-- Behind a crash. -/
def keptS (keep : List Bool) (torn : Int) (n : Nat) (i : Nat) (b : Bk) : List UInt8 :=
  if b.is = false ∨ (keep.getD (i % 64) false = true) then b.now else if torn = i then b.now.take n ++ b.safe.drop n else b.safe
def clampN (n : Int) : Nat := (min (max n 0) 64).toNat
def crashL (keep : List Bool) (torn n : Int) (l : List Bk) : List Bk := l.mapIdx fun i b => Bk.put (keptS keep torn (clampN n) i b)
def unsafeL (l : List Bk) : List Nat := (List.range l.length).filter fun i => (l.getD i bk0).is
def imageS (l : List Bk) : List UInt8 := (l.map Bk.now).flatten
end Go.Sh

/- What Go functions come to over abstract values, printed by a program (wx.py); of each function its own text is what is told of it. -/
namespace Go.Sh
open Go Go.Abs

def dev_New.L6.b (x0 : AVal) (v10 : AVal) (v14 : AVal) (x17_6 : AVal) (H15 : AHeap) (Kn16 : List AVal → AHeap → Prop) (Ke17 : AExit → List AVal → AHeap → Prop) : Prop :=
  vb (aBin .lss x17_6 x0) fun v18 =>
  isB v18 fun b19 => cond b19
    (vb (aNilCheck v10) fun v20 =>
    vb (aFieldAddr 0 v20) fun v21 =>
    vb (aLoad H15 false 1 v21) fun v22 =>
    vb (aBuild [.str [], .str [], .bool false] (fun k => ([(0, 1), (1, 1), (2, 1)] : List (Nat × Nat))[k]?) [(0, v14), (1, v14)]) fun v23 =>
    hb (aBuildSlice H15 3 [.str [], .str [], .bool false] 1 [(0, v23)]) fun v24 H25 =>
    hb (aAppendS H25 3 40 v22 v24) fun v26 H27 =>
    vb (aNilCheck v10) fun v28 =>
    vb (aFieldAddr 0 v28) fun v29 =>
    sb (aStore H27 1 v29 v26) fun H30 =>
    vb (aBin .add x17_6 (.int .i64 1)) fun v31 =>
    Kn16 [v31] H30)
    (Ke17 (.exit 0) [] H15)

def dev_New.L6 (x0 : AVal) (v10 : AVal) (v14 : AVal) : Body := fun vs H Kn Ke => dev_New.L6.b x0 v10 v14 (vs.getD 0 .undef) H Kn Ke

def dev_New.w (x0 : AVal) (H : AHeap) (K : AVal → AHeap → Prop) : Prop :=
  JoinP (fun Kj1 => vb (aBin .lss x0 (.int .i64 1)) fun v2 =>
    isB v2 fun b3 => cond b3
      (Kj1 .ret [.nilp, .int .i64 2] H)
      (vb (aBin .gtr x0 (.int .i64 512)) fun v4 =>
        isB v4 fun b5 => cond b5
          (Kj1 .ret [.nilp, .int .i64 2] H)
          (Kj1 .normal [.nilp, .int .i64 0] H)))
  (fun e6 vs7 H8 =>
    onE e6 .normal
      (vb (aBuild [.nils] (fun k => ([(0, 1)] : List (Nat × Nat))[k]?) []) fun v9 =>
      hb (aBox H8 v9) fun v10 H11 =>
      hb (aMakeSlice H11 1 [.int .u8 0] (.int .i64 64) (.int .i64 64)) fun v12 H13 =>
      vb (aBytes2Str H13 v12) fun v14 =>
      LoopP (dev_New.L6 x0 v10 v14) [.int .i64 0] H13 fun e32 vs33 H34 =>
        onE e32 (.exit 0)
          (fin .ret [.v (v10), .v (.int .i64 0)] H34 K)
        (False))
    (onE e6 .ret
      (fin .ret [.v (vs7.getD 0 .undef), .v (vs7.getD 1 .undef)] H8 K)
    (False)))

def S_dev_New : Abs.Spec := fun args H r H' => ∃ x0 : AVal, args = [x0] ∧ (dev_New.w x0 H fun r1 H1 => r1 = r ∧ H1 = H') ∧ H <+: H'
theorem dev_New.ok (args : List AVal) (H : AHeap) (r : AVal) (H' : AHeap) (h : S_dev_New args H r H') : ∃ x0 : AVal, args = [x0] ∧ dev_New.w x0 H fun r1 H1 => r1 = r ∧ H1 = H' := by
  obtain ⟨x0, h1, h2, _⟩ := h
  exact ⟨x0, h1, h2⟩
theorem dev_New.quiet {args : List AVal} {H : AHeap} {r : AVal} {H' : AHeap} (h : S_dev_New args H r H') : H <+: H' := by
  obtain ⟨_, _, _, h⟩ := h
  exact h
set_option maxRecDepth 100000 in
theorem dev_New.ex (x0 : AVal) (H : AHeap) : Ex fun K : AVal × AHeap → Prop => dev_New.w x0 H fun r H => K (r, H) := by
  unfold dev_New.w
  repeat with_reducible first
    | exact Ex.pt _
    | exact Ex.fin
    | exact Ex.no
    | refine Ex.vb fun _ => ?_
    | refine Ex.hb fun _ _ => ?_
    | refine Ex.sb fun _ => ?_
    | refine Ex.cb fun _ _ => ?_
    | refine Ex.isB fun _ => ?_
    | refine Ex.cond ?_ ?_
    | refine Ex.onE ?_ ?_
    | refine Ex.join ?_ fun _ _ _ => ?_
    | refine Ex.loop (fun _ _ => ?_) fun _ _ _ => ?_
    | (unfold dev_New.L6; unfold dev_New.L6.b)

theorem dev_New.out {x0 : AVal} {H : AHeap} {Q : AVal → AHeap → Prop} (h : dev_New.w x0 H fun r H' => H <+: H' ∧ Q r H') : ∃ r H', S_dev_New [x0] H r H' ∧ Q r H' := by
  obtain ⟨r, H', h1, h2⟩ := (dev_New.ex x0 H).out h
  exact ⟨r, H', ⟨_, rfl, h1, h2.1⟩, h2.2⟩

def dev_Of.L7.b (v16 : AVal) (x0 : AVal) (v9 : AVal) (x27_7 : AVal) (H17 : AHeap) (Kn18 : List AVal → AHeap → Prop) (Ke19 : AExit → List AVal → AHeap → Prop) : Prop :=
  vb (aBin .lss x27_7 v16) fun v20 =>
  isB v20 fun b21 => cond b21
    (vb (aBin .mul (.int .i64 64) x27_7) fun v22 =>
    vb (aBin .add x27_7 (.int .i64 1)) fun v23 =>
    vb (aBin .mul (.int .i64 64) v23) fun v24 =>
    vb (aSliceStr x0 (some v22) (some v24)) fun v25 =>
    vb (aNilCheck v9) fun v26 =>
    vb (aFieldAddr 0 v26) fun v27 =>
    vb (aLoad H17 false 1 v27) fun v28 =>
    vb (aBuild [.str [], .str [], .bool false] (fun k => ([(0, 1), (1, 1), (2, 1)] : List (Nat × Nat))[k]?) [(0, v25), (1, v25)]) fun v29 =>
    vb (aIndexAddr 3 v28 x27_7) fun v30 =>
    sb (aStore H17 3 v30 v29) fun H31 =>
    vb (aBin .add x27_7 (.int .i64 1)) fun v32 =>
    Kn18 [v32] H31)
    (Ke19 (.exit 0) [] H17)

def dev_Of.L7 (v16 : AVal) (x0 : AVal) (v9 : AVal) : Body := fun vs H Kn Ke => dev_Of.L7.b v16 x0 v9 (vs.getD 0 .undef) H Kn Ke

def dev_Of.w (x0 : AVal) (H : AHeap) (K : AVal → AHeap → Prop) : Prop :=
  vb (lenSt x0) fun v1 =>
  vb (aBin .rem v1 (.int .i64 64)) fun v2 =>
  vb (aBin .neq v2 (.int .i64 0)) fun v3 =>
  isB v3 fun b4 => cond b4
    (fin .ret [.v (.nilp), .v (.int .i64 6)] H K)
    (vb (lenSt x0) fun v5 =>
    vb (aBin .quo v5 (.int .i64 64)) fun v6 =>
    cb (S_dev_New [v6] H) fun v7 H8 =>
    vb (aExtract v7 0) fun v9 =>
    vb (aExtract v7 1) fun v10 =>
    vb (aBin .neq v10 (.int .i64 0)) fun v11 =>
    isB v11 fun b12 => cond b12
      (fin .ret [.v (.nilp), .v (v10)] H8 K)
      (vb (aNilCheck v9) fun v13 =>
      vb (aFieldAddr 0 v13) fun v14 =>
      vb (aLoad H8 false 1 v14) fun v15 =>
      vb (lenSl v15) fun v16 =>
      LoopP (dev_Of.L7 v16 x0 v9) [.int .i64 0] H8 fun e33 vs34 H35 =>
        onE e33 (.exit 0)
          (fin .ret [.v (v9), .v (.int .i64 0)] H35 K)
        (False)))

def S_dev_Of : Abs.Spec := fun args H r H' => ∃ x0 : AVal, args = [x0] ∧ (dev_Of.w x0 H fun r1 H1 => r1 = r ∧ H1 = H') ∧ H <+: H'
theorem dev_Of.ok (args : List AVal) (H : AHeap) (r : AVal) (H' : AHeap) (h : S_dev_Of args H r H') : ∃ x0 : AVal, args = [x0] ∧ dev_Of.w x0 H fun r1 H1 => r1 = r ∧ H1 = H' := by
  obtain ⟨x0, h1, h2, _⟩ := h
  exact ⟨x0, h1, h2⟩
theorem dev_Of.quiet {args : List AVal} {H : AHeap} {r : AVal} {H' : AHeap} (h : S_dev_Of args H r H') : H <+: H' := by
  obtain ⟨_, _, _, h⟩ := h
  exact h
set_option maxRecDepth 100000 in
theorem dev_Of.ex (x0 : AVal) (H : AHeap) : Ex fun K : AVal × AHeap → Prop => dev_Of.w x0 H fun r H => K (r, H) := by
  unfold dev_Of.w
  repeat with_reducible first
    | exact Ex.pt _
    | exact Ex.fin
    | exact Ex.no
    | refine Ex.vb fun _ => ?_
    | refine Ex.hb fun _ _ => ?_
    | refine Ex.sb fun _ => ?_
    | refine Ex.cb fun _ _ => ?_
    | refine Ex.isB fun _ => ?_
    | refine Ex.cond ?_ ?_
    | refine Ex.onE ?_ ?_
    | refine Ex.join ?_ fun _ _ _ => ?_
    | refine Ex.loop (fun _ _ => ?_) fun _ _ _ => ?_
    | (unfold dev_Of.L7; unfold dev_Of.L7.b)

theorem dev_Of.out {x0 : AVal} {H : AHeap} {Q : AVal → AHeap → Prop} (h : dev_Of.w x0 H fun r H' => H <+: H' ∧ Q r H') : ∃ r H', S_dev_Of [x0] H r H' ∧ Q r H' := by
  obtain ⟨r, H', h1, h2⟩ := (dev_Of.ex x0 H).out h
  exact ⟨r, H', ⟨_, rfl, h1, h2.1⟩, h2.2⟩

def dev_Dev_may.w (x0 : AVal) (x1 : AVal) (x2 : AVal) (H : AHeap) (K : AVal → AHeap → Prop) : Prop :=
  vb (aEql false .ptr H x0 .nilp) fun v1 =>
  isB v1 fun b2 => cond b2
    (fin .ret [.v (.int .i64 1)] H K)
    (vb (aBin .lss x1 (.int .i64 0)) fun v3 =>
    isB v3 fun b4 => cond b4
      (fin .ret [.v (.int .i64 3)] H K)
      (vb (aNilCheck x0) fun v5 =>
          vb (aFieldAddr 0 v5) fun v6 =>
            vb (aLoad H false 1 v6) fun v7 =>
              vb (lenSl v7) fun v8 =>
                vb (aBin .geq x1 v8) fun v9 =>
                  isB v9 fun b10 => cond b10
                    (fin .ret [.v (.int .i64 3)] H K)
                    (vb (lenSt x2) fun v11 =>
                    vb (aBin .neq v11 (.int .i64 64)) fun v12 =>
                    isB v12 fun b13 => cond b13
                      (fin .ret [.v (.int .i64 6)] H K)
                      (fin .ret [.v (.int .i64 0)] H K))))

def S_dev_Dev_may : Abs.Spec := fun args H r H' => ∃ x0 x1 x2 : AVal, args = [x0, x1, x2] ∧ (dev_Dev_may.w x0 x1 x2 H fun r1 H1 => r1 = r ∧ H1 = H') ∧ H <+: H'
theorem dev_Dev_may.ok (args : List AVal) (H : AHeap) (r : AVal) (H' : AHeap) (h : S_dev_Dev_may args H r H') : ∃ x0 x1 x2 : AVal, args = [x0, x1, x2] ∧ dev_Dev_may.w x0 x1 x2 H fun r1 H1 => r1 = r ∧ H1 = H' := by
  obtain ⟨x0, x1, x2, h1, h2, _⟩ := h
  exact ⟨x0, x1, x2, h1, h2⟩
theorem dev_Dev_may.quiet {args : List AVal} {H : AHeap} {r : AVal} {H' : AHeap} (h : S_dev_Dev_may args H r H') : H <+: H' := by
  obtain ⟨_, _, _, _, _, h⟩ := h
  exact h
set_option maxRecDepth 100000 in
theorem dev_Dev_may.ex (x0 x1 x2 : AVal) (H : AHeap) : Ex fun K : AVal × AHeap → Prop => dev_Dev_may.w x0 x1 x2 H fun r H => K (r, H) := by
  unfold dev_Dev_may.w
  repeat with_reducible first
    | exact Ex.pt _
    | exact Ex.fin
    | exact Ex.no
    | refine Ex.vb fun _ => ?_
    | refine Ex.hb fun _ _ => ?_
    | refine Ex.sb fun _ => ?_
    | refine Ex.cb fun _ _ => ?_
    | refine Ex.isB fun _ => ?_
    | refine Ex.cond ?_ ?_
    | refine Ex.onE ?_ ?_
    | refine Ex.join ?_ fun _ _ _ => ?_
    | refine Ex.loop (fun _ _ => ?_) fun _ _ _ => ?_

theorem dev_Dev_may.out {x0 x1 x2 : AVal} {H : AHeap} {Q : AVal → AHeap → Prop} (h : dev_Dev_may.w x0 x1 x2 H fun r H' => H <+: H' ∧ Q r H') : ∃ r H', S_dev_Dev_may [x0, x1, x2] H r H' ∧ Q r H' := by
  obtain ⟨r, H', h1, h2⟩ := (dev_Dev_may.ex x0 x1 x2 H).out h
  exact ⟨r, H', ⟨_, _, _, rfl, h1, h2.1⟩, h2.2⟩

def dev_Dev_Read.w (x0 : AVal) (x1 : AVal) (H : AHeap) (K : AVal → AHeap → Prop) : Prop :=
  vb (aEql false .ptr H x0 .nilp) fun v1 =>
  isB v1 fun b2 => cond b2
    (fin .ret [.v (.str []), .v (.int .i64 1)] H K)
    (vb (aBin .lss x1 (.int .i64 0)) fun v3 =>
    isB v3 fun b4 => cond b4
      (fin .ret [.v (.str []), .v (.int .i64 3)] H K)
      (vb (aNilCheck x0) fun v5 =>
          vb (aFieldAddr 0 v5) fun v6 =>
            vb (aLoad H false 1 v6) fun v7 =>
              vb (lenSl v7) fun v8 =>
                vb (aBin .geq x1 v8) fun v9 =>
                  isB v9 fun b10 => cond b10
                    (fin .ret [.v (.str []), .v (.int .i64 3)] H K)
                    (vb (aNilCheck x0) fun v11 =>
                    vb (aFieldAddr 0 v11) fun v12 =>
                    vb (aLoad H false 1 v12) fun v13 =>
                    vb (aIndexAddr 3 v13 x1) fun v14 =>
                    vb (aFieldAddr 0 v14) fun v15 =>
                    vb (aLoad H false 1 v15) fun v16 =>
                    fin .ret [.v (v16), .v (.int .i64 0)] H K)))

def S_dev_Dev_Read : Abs.Spec := fun args H r H' => ∃ x0 x1 : AVal, args = [x0, x1] ∧ (dev_Dev_Read.w x0 x1 H fun r1 H1 => r1 = r ∧ H1 = H') ∧ H <+: H'
theorem dev_Dev_Read.ok (args : List AVal) (H : AHeap) (r : AVal) (H' : AHeap) (h : S_dev_Dev_Read args H r H') : ∃ x0 x1 : AVal, args = [x0, x1] ∧ dev_Dev_Read.w x0 x1 H fun r1 H1 => r1 = r ∧ H1 = H' := by
  obtain ⟨x0, x1, h1, h2, _⟩ := h
  exact ⟨x0, x1, h1, h2⟩
theorem dev_Dev_Read.quiet {args : List AVal} {H : AHeap} {r : AVal} {H' : AHeap} (h : S_dev_Dev_Read args H r H') : H <+: H' := by
  obtain ⟨_, _, _, _, h⟩ := h
  exact h
set_option maxRecDepth 100000 in
theorem dev_Dev_Read.ex (x0 x1 : AVal) (H : AHeap) : Ex fun K : AVal × AHeap → Prop => dev_Dev_Read.w x0 x1 H fun r H => K (r, H) := by
  unfold dev_Dev_Read.w
  repeat with_reducible first
    | exact Ex.pt _
    | exact Ex.fin
    | exact Ex.no
    | refine Ex.vb fun _ => ?_
    | refine Ex.hb fun _ _ => ?_
    | refine Ex.sb fun _ => ?_
    | refine Ex.cb fun _ _ => ?_
    | refine Ex.isB fun _ => ?_
    | refine Ex.cond ?_ ?_
    | refine Ex.onE ?_ ?_
    | refine Ex.join ?_ fun _ _ _ => ?_
    | refine Ex.loop (fun _ _ => ?_) fun _ _ _ => ?_

theorem dev_Dev_Read.out {x0 x1 : AVal} {H : AHeap} {Q : AVal → AHeap → Prop} (h : dev_Dev_Read.w x0 x1 H fun r H' => H <+: H' ∧ Q r H') : ∃ r H', S_dev_Dev_Read [x0, x1] H r H' ∧ Q r H' := by
  obtain ⟨r, H', h1, h2⟩ := (dev_Dev_Read.ex x0 x1 H).out h
  exact ⟨r, H', ⟨_, _, rfl, h1, h2.1⟩, h2.2⟩

def dev_Dev_Write.w (x0 : AVal) (x1 : AVal) (x2 : AVal) (H : AHeap) (K : AVal → AHeap → Prop) : Prop :=
  cb (S_dev_Dev_may [x0, x1, x2] H) fun v1 H2 =>
  vb (aBin .neq v1 (.int .i64 0)) fun v3 =>
  isB v3 fun b4 => cond b4
    (fin .ret [.v (v1)] H2 K)
    (vb (aNilCheck x0) fun v5 =>
    vb (aFieldAddr 0 v5) fun v6 =>
    vb (aLoad H2 false 1 v6) fun v7 =>
    vb (aNilCheck x0) fun v8 =>
    vb (aFieldAddr 0 v8) fun v9 =>
    vb (aLoad H2 false 1 v9) fun v10 =>
    vb (aIndexAddr 3 v7 x1) fun v11 =>
    vb (aFieldAddr 0 v11) fun v12 =>
    sb (aStore H2 1 v12 x2) fun H13 =>
    vb (aIndexAddr 3 v10 x1) fun v14 =>
    vb (aFieldAddr 2 v14) fun v15 =>
    sb (aStore H13 1 v15 (.bool true)) fun H16 =>
    fin .ret [.v (.int .i64 0)] H16 K)

def S_dev_Dev_Write : Abs.Spec := fun args H r H' => ∃ x0 x1 x2 : AVal, args = [x0, x1, x2] ∧ (dev_Dev_Write.w x0 x1 x2 H fun r1 H1 => r1 = r ∧ H1 = H')
theorem dev_Dev_Write.ok (args : List AVal) (H : AHeap) (r : AVal) (H' : AHeap) (h : S_dev_Dev_Write args H r H') : ∃ x0 x1 x2 : AVal, args = [x0, x1, x2] ∧ dev_Dev_Write.w x0 x1 x2 H fun r1 H1 => r1 = r ∧ H1 = H' := by
  obtain ⟨x0, x1, x2, h1, h2⟩ := h
  exact ⟨x0, x1, x2, h1, h2⟩
set_option maxRecDepth 100000 in
theorem dev_Dev_Write.ex (x0 x1 x2 : AVal) (H : AHeap) : Ex fun K : AVal × AHeap → Prop => dev_Dev_Write.w x0 x1 x2 H fun r H => K (r, H) := by
  unfold dev_Dev_Write.w
  repeat with_reducible first
    | exact Ex.pt _
    | exact Ex.fin
    | exact Ex.no
    | refine Ex.vb fun _ => ?_
    | refine Ex.hb fun _ _ => ?_
    | refine Ex.sb fun _ => ?_
    | refine Ex.cb fun _ _ => ?_
    | refine Ex.isB fun _ => ?_
    | refine Ex.cond ?_ ?_
    | refine Ex.onE ?_ ?_
    | refine Ex.join ?_ fun _ _ _ => ?_
    | refine Ex.loop (fun _ _ => ?_) fun _ _ _ => ?_

theorem dev_Dev_Write.out {x0 x1 x2 : AVal} {H : AHeap} {Q : AVal → AHeap → Prop} (h : dev_Dev_Write.w x0 x1 x2 H fun r H' => Q r H') : ∃ r H', S_dev_Dev_Write [x0, x1, x2] H r H' ∧ Q r H' := by
  obtain ⟨r, H', h1, h2⟩ := (dev_Dev_Write.ex x0 x1 x2 H).out h
  exact ⟨r, H', ⟨_, _, _, rfl, h1⟩, h2⟩

def dev_Dev_Flush.L4.b (v6 : AVal) (x0 : AVal) (x12_4 : AVal) (H7 : AHeap) (Kn8 : List AVal → AHeap → Prop) (Ke9 : AExit → List AVal → AHeap → Prop) : Prop :=
  vb (aBin .lss x12_4 v6) fun v10 =>
  isB v10 fun b11 => cond b11
    (vb (aNilCheck x0) fun v12 =>
    vb (aFieldAddr 0 v12) fun v13 =>
    vb (aLoad H7 false 1 v13) fun v14 =>
    vb (aIndexAddr 3 v14 x12_4) fun v15 =>
    vb (aNilCheck v15) fun v16 =>
    vb (aFieldAddr 0 v16) fun v17 =>
    vb (aLoad H7 false 1 v17) fun v18 =>
    vb (aNilCheck v15) fun v19 =>
    vb (aFieldAddr 1 v19) fun v20 =>
    sb (aStore H7 1 v20 v18) fun H21 =>
    vb (aNilCheck v15) fun v22 =>
    vb (aFieldAddr 2 v22) fun v23 =>
    sb (aStore H21 1 v23 (.bool false)) fun H24 =>
    vb (aBin .add x12_4 (.int .i64 1)) fun v25 =>
    Kn8 [v25] H24)
    (Ke9 (.exit 0) [] H7)

def dev_Dev_Flush.L4 (v6 : AVal) (x0 : AVal) : Body := fun vs H Kn Ke => dev_Dev_Flush.L4.b v6 x0 (vs.getD 0 .undef) H Kn Ke

def dev_Dev_Flush.w (x0 : AVal) (H : AHeap) (K : AVal → AHeap → Prop) : Prop :=
  vb (aEql false .ptr H x0 .nilp) fun v1 =>
  isB v1 fun b2 => cond b2
    (fin .ret [.v (.int .i64 1)] H K)
    (vb (aNilCheck x0) fun v3 =>
    vb (aFieldAddr 0 v3) fun v4 =>
    vb (aLoad H false 1 v4) fun v5 =>
    vb (lenSl v5) fun v6 =>
    LoopP (dev_Dev_Flush.L4 v6 x0) [.int .i64 0] H fun e26 vs27 H28 =>
      onE e26 (.exit 0)
        (fin .ret [.v (.int .i64 0)] H28 K)
      (False))

def S_dev_Dev_Flush : Abs.Spec := fun args H r H' => ∃ x0 : AVal, args = [x0] ∧ (dev_Dev_Flush.w x0 H fun r1 H1 => r1 = r ∧ H1 = H')
theorem dev_Dev_Flush.ok (args : List AVal) (H : AHeap) (r : AVal) (H' : AHeap) (h : S_dev_Dev_Flush args H r H') : ∃ x0 : AVal, args = [x0] ∧ dev_Dev_Flush.w x0 H fun r1 H1 => r1 = r ∧ H1 = H' := by
  obtain ⟨x0, h1, h2⟩ := h
  exact ⟨x0, h1, h2⟩
set_option maxRecDepth 100000 in
theorem dev_Dev_Flush.ex (x0 : AVal) (H : AHeap) : Ex fun K : AVal × AHeap → Prop => dev_Dev_Flush.w x0 H fun r H => K (r, H) := by
  unfold dev_Dev_Flush.w
  repeat with_reducible first
    | exact Ex.pt _
    | exact Ex.fin
    | exact Ex.no
    | refine Ex.vb fun _ => ?_
    | refine Ex.hb fun _ _ => ?_
    | refine Ex.sb fun _ => ?_
    | refine Ex.cb fun _ _ => ?_
    | refine Ex.isB fun _ => ?_
    | refine Ex.cond ?_ ?_
    | refine Ex.onE ?_ ?_
    | refine Ex.join ?_ fun _ _ _ => ?_
    | refine Ex.loop (fun _ _ => ?_) fun _ _ _ => ?_
    | (unfold dev_Dev_Flush.L4; unfold dev_Dev_Flush.L4.b)

theorem dev_Dev_Flush.out {x0 : AVal} {H : AHeap} {Q : AVal → AHeap → Prop} (h : dev_Dev_Flush.w x0 H fun r H' => Q r H') : ∃ r H', S_dev_Dev_Flush [x0] H r H' ∧ Q r H' := by
  obtain ⟨r, H', h1, h2⟩ := (dev_Dev_Flush.ex x0 H).out h
  exact ⟨r, H', ⟨_, rfl, h1⟩, h2⟩

def dev_Dev_Tamper.w (x0 : AVal) (x1 : AVal) (x2 : AVal) (H : AHeap) (K : AVal → AHeap → Prop) : Prop :=
  cb (S_dev_Dev_may [x0, x1, x2] H) fun v1 H2 =>
  vb (aBin .neq v1 (.int .i64 0)) fun v3 =>
  isB v3 fun b4 => cond b4
    (fin .ret [.v (v1)] H2 K)
    (vb (aNilCheck x0) fun v5 =>
    vb (aFieldAddr 0 v5) fun v6 =>
    vb (aLoad H2 false 1 v6) fun v7 =>
    vb (aNilCheck x0) fun v8 =>
    vb (aFieldAddr 0 v8) fun v9 =>
    vb (aLoad H2 false 1 v9) fun v10 =>
    vb (aIndexAddr 3 v7 x1) fun v11 =>
    vb (aFieldAddr 0 v11) fun v12 =>
    sb (aStore H2 1 v12 x2) fun H13 =>
    vb (aIndexAddr 3 v10 x1) fun v14 =>
    vb (aFieldAddr 1 v14) fun v15 =>
    sb (aStore H13 1 v15 x2) fun H16 =>
    fin .ret [.v (.int .i64 0)] H16 K)

def S_dev_Dev_Tamper : Abs.Spec := fun args H r H' => ∃ x0 x1 x2 : AVal, args = [x0, x1, x2] ∧ (dev_Dev_Tamper.w x0 x1 x2 H fun r1 H1 => r1 = r ∧ H1 = H')
theorem dev_Dev_Tamper.ok (args : List AVal) (H : AHeap) (r : AVal) (H' : AHeap) (h : S_dev_Dev_Tamper args H r H') : ∃ x0 x1 x2 : AVal, args = [x0, x1, x2] ∧ dev_Dev_Tamper.w x0 x1 x2 H fun r1 H1 => r1 = r ∧ H1 = H' := by
  obtain ⟨x0, x1, x2, h1, h2⟩ := h
  exact ⟨x0, x1, x2, h1, h2⟩
set_option maxRecDepth 100000 in
theorem dev_Dev_Tamper.ex (x0 x1 x2 : AVal) (H : AHeap) : Ex fun K : AVal × AHeap → Prop => dev_Dev_Tamper.w x0 x1 x2 H fun r H => K (r, H) := by
  unfold dev_Dev_Tamper.w
  repeat with_reducible first
    | exact Ex.pt _
    | exact Ex.fin
    | exact Ex.no
    | refine Ex.vb fun _ => ?_
    | refine Ex.hb fun _ _ => ?_
    | refine Ex.sb fun _ => ?_
    | refine Ex.cb fun _ _ => ?_
    | refine Ex.isB fun _ => ?_
    | refine Ex.cond ?_ ?_
    | refine Ex.onE ?_ ?_
    | refine Ex.join ?_ fun _ _ _ => ?_
    | refine Ex.loop (fun _ _ => ?_) fun _ _ _ => ?_

theorem dev_Dev_Tamper.out {x0 x1 x2 : AVal} {H : AHeap} {Q : AVal → AHeap → Prop} (h : dev_Dev_Tamper.w x0 x1 x2 H fun r H' => Q r H') : ∃ r H', S_dev_Dev_Tamper [x0, x1, x2] H r H' ∧ Q r H' := by
  obtain ⟨r, H', h1, h2⟩ := (dev_Dev_Tamper.ex x0 x1 x2 H).out h
  exact ⟨r, H', ⟨_, _, _, rfl, h1⟩, h2⟩

def dev_Dev_Crash_1.w (x0 : AVal) (x1 : AVal) (x2 : AVal) (x3 : AVal) (H : AHeap) (K : AVal → AHeap → Prop) : Prop :=
  vb (aLoad H false 1 x1) fun v1 =>
  vb (aNilCheck v1) fun v2 =>
  vb (aFieldAddr 0 v2) fun v3 =>
  vb (aLoad H false 1 v3) fun v4 =>
  vb (aIndexAddr 3 v4 x0) fun v5 =>
  vb (aLoad H true 3 v5) fun v6 =>
  hb (aAlloc H [.str [], .str [], .bool false]) fun v7 H8 =>
  sb (aStore H8 3 v7 v6) fun H9 =>
  vb (aBin .rem x0 (.int .i64 64)) fun v10 =>
  vb (aFieldAddr 2 v7) fun v11 =>
  vb (aLoad H9 false 1 v11) fun v12 =>
  vb (aUn .not v12) fun v13 =>
  isB v13 fun b14 => cond b14
    (vb (aFieldAddr 0 v7) fun v15 =>
                vb (aLoad H9 false 1 v15) fun v16 =>
                fin .ret [.v (v16)] H9 K)
    (vb (aFieldAddr 0 x2) fun v17 =>
      vb (aLoad H9 false 1 v17) fun v18 =>
        vb (lenSl v18) fun v19 =>
          vb (aBin .lss v10 v19) fun v20 =>
            isB v20 fun b21 => cond b21
                (vb (aFieldAddr 0 x2) fun v22 =>
                vb (aLoad H9 false 1 v22) fun v23 =>
                  vb (aIndexAddr 1 v23 v10) fun v24 =>
                      vb (aLoad H9 false 1 v24) fun v25 =>
                        isB v25 fun b26 => cond b26
                            (vb (aFieldAddr 0 v7) fun v27 =>
                            vb (aLoad H9 false 1 v27) fun v28 =>
                            fin .ret [.v (v28)] H9 K)
                            (vb (aFieldAddr 1 x2) fun v29 =>
                            vb (aLoad H9 false 1 v29) fun v30 =>
                            vb (aBin .eql x0 v30) fun v31 =>
                            isB v31 fun b32 => cond b32
                              (vb (aFieldAddr 0 v7) fun v33 =>
                              vb (aLoad H9 false 1 v33) fun v34 =>
                              vb (aLoad H9 false 1 x3) fun v35 =>
                              vb (aSliceStr v34 none (some v35)) fun v36 =>
                              vb (aFieldAddr 1 v7) fun v37 =>
                              vb (aLoad H9 false 1 v37) fun v38 =>
                              vb (aLoad H9 false 1 x3) fun v39 =>
                              vb (aSliceStr v38 (some v39) none) fun v40 =>
                              vb (aBin .add v36 v40) fun v41 =>
                              fin .ret [.v (v41)] H9 K)
                              (vb (aFieldAddr 1 v7) fun v42 =>
                              vb (aLoad H9 false 1 v42) fun v43 =>
                              fin .ret [.v (v43)] H9 K)))
                (vb (aFieldAddr 1 x2) fun v44 =>
                          vb (aLoad H9 false 1 v44) fun v45 =>
                          vb (aBin .eql x0 v45) fun v46 =>
                          isB v46 fun b47 => cond b47
                            (vb (aFieldAddr 0 v7) fun v48 =>
                            vb (aLoad H9 false 1 v48) fun v49 =>
                            vb (aLoad H9 false 1 x3) fun v50 =>
                            vb (aSliceStr v49 none (some v50)) fun v51 =>
                            vb (aFieldAddr 1 v7) fun v52 =>
                            vb (aLoad H9 false 1 v52) fun v53 =>
                            vb (aLoad H9 false 1 x3) fun v54 =>
                            vb (aSliceStr v53 (some v54) none) fun v55 =>
                            vb (aBin .add v51 v55) fun v56 =>
                            fin .ret [.v (v56)] H9 K)
                            (vb (aFieldAddr 1 v7) fun v57 =>
                            vb (aLoad H9 false 1 v57) fun v58 =>
                            fin .ret [.v (v58)] H9 K)))

def S_dev_Dev_Crash_1 : Abs.Spec := fun args H r H' => ∃ x0 x1 x2 x3 : AVal, args = [x0, x1, x2, x3] ∧ (dev_Dev_Crash_1.w x0 x1 x2 x3 H fun r1 H1 => r1 = r ∧ H1 = H') ∧ H <+: H'
theorem dev_Dev_Crash_1.ok (args : List AVal) (H : AHeap) (r : AVal) (H' : AHeap) (h : S_dev_Dev_Crash_1 args H r H') : ∃ x0 x1 x2 x3 : AVal, args = [x0, x1, x2, x3] ∧ dev_Dev_Crash_1.w x0 x1 x2 x3 H fun r1 H1 => r1 = r ∧ H1 = H' := by
  obtain ⟨x0, x1, x2, x3, h1, h2, _⟩ := h
  exact ⟨x0, x1, x2, x3, h1, h2⟩
theorem dev_Dev_Crash_1.quiet {args : List AVal} {H : AHeap} {r : AVal} {H' : AHeap} (h : S_dev_Dev_Crash_1 args H r H') : H <+: H' := by
  obtain ⟨_, _, _, _, _, _, h⟩ := h
  exact h
set_option maxRecDepth 100000 in
theorem dev_Dev_Crash_1.ex (x0 x1 x2 x3 : AVal) (H : AHeap) : Ex fun K : AVal × AHeap → Prop => dev_Dev_Crash_1.w x0 x1 x2 x3 H fun r H => K (r, H) := by
  unfold dev_Dev_Crash_1.w
  repeat with_reducible first
    | exact Ex.pt _
    | exact Ex.fin
    | exact Ex.no
    | refine Ex.vb fun _ => ?_
    | refine Ex.hb fun _ _ => ?_
    | refine Ex.sb fun _ => ?_
    | refine Ex.cb fun _ _ => ?_
    | refine Ex.isB fun _ => ?_
    | refine Ex.cond ?_ ?_
    | refine Ex.onE ?_ ?_
    | refine Ex.join ?_ fun _ _ _ => ?_
    | refine Ex.loop (fun _ _ => ?_) fun _ _ _ => ?_

theorem dev_Dev_Crash_1.out {x0 x1 x2 x3 : AVal} {H : AHeap} {Q : AVal → AHeap → Prop} (h : dev_Dev_Crash_1.w x0 x1 x2 x3 H fun r H' => H <+: H' ∧ Q r H') : ∃ r H', S_dev_Dev_Crash_1 [x0, x1, x2, x3] H r H' ∧ Q r H' := by
  obtain ⟨r, H', h1, h2⟩ := (dev_Dev_Crash_1.ex x0 x1 x2 x3 H).out h
  exact ⟨r, H', ⟨_, _, _, _, rfl, h1, h2.1⟩, h2.2⟩

def dev_Dev_Crash.L6.b (v19 : AVal) (v1 : AVal) (v3 : AVal) (v12 : AVal) (x21_6 : AVal) (H20 : AHeap) (Kn21 : List AVal → AHeap → Prop) (Ke22 : AExit → List AVal → AHeap → Prop) : Prop :=
  vb (aBin .lss x21_6 v19) fun v23 =>
  isB v23 fun b24 => cond b24
    (cb (S_dev_Dev_Crash_1 [x21_6, v1, v3, v12] H20) fun v25 H26 =>
    vb (aLoad H26 false 1 v1) fun v27 =>
    vb (aNilCheck v27) fun v28 =>
    vb (aFieldAddr 0 v28) fun v29 =>
    vb (aLoad H26 false 1 v29) fun v30 =>
    vb (aBuild [.str [], .str [], .bool false] (fun k => ([(0, 1), (1, 1), (2, 1)] : List (Nat × Nat))[k]?) [(0, v25), (1, v25)]) fun v31 =>
    vb (aIndexAddr 3 v30 x21_6) fun v32 =>
    sb (aStore H26 3 v32 v31) fun H33 =>
    vb (aBin .add x21_6 (.int .i64 1)) fun v34 =>
    Kn21 [v34] H33)
    (Ke22 (.exit 0) [] H20)

def dev_Dev_Crash.L6 (v19 : AVal) (v1 : AVal) (v3 : AVal) (v12 : AVal) : Body := fun vs H Kn Ke => dev_Dev_Crash.L6.b v19 v1 v3 v12 (vs.getD 0 .undef) H Kn Ke

def dev_Dev_Crash.w (x0 : AVal) (x1 : AVal) (H : AHeap) (K : AVal → AHeap → Prop) : Prop :=
  hb (aBox H x0) fun v1 H2 =>
  hb (aBox H2 x1) fun v3 H4 =>
  vb (aLoad H4 false 1 v1) fun v5 =>
  vb (aEql false .ptr H4 v5 .nilp) fun v6 =>
  isB v6 fun b7 => cond b7
    (fin .ret [.v (.int .i64 1)] H4 K)
    (vb (aFieldAddr 2 v3) fun v8 =>
    vb (aLoad H4 false 1 v8) fun v9 =>
    vb (aFold aMax2 v9 [.int .i64 0]) fun v10 =>
    vb (aFold aMin2 v10 [.int .i64 64]) fun v11 =>
    hb (aAlloc H4 [.int .i64 0]) fun v12 H13 =>
    sb (aStore H13 1 v12 v11) fun H14 =>
    vb (aLoad H14 false 1 v1) fun v15 =>
    vb (aNilCheck v15) fun v16 =>
    vb (aFieldAddr 0 v16) fun v17 =>
    vb (aLoad H14 false 1 v17) fun v18 =>
    vb (lenSl v18) fun v19 =>
    LoopP (dev_Dev_Crash.L6 v19 v1 v3 v12) [.int .i64 0] H14 fun e35 vs36 H37 =>
      onE e35 (.exit 0)
        (fin .ret [.v (.int .i64 0)] H37 K)
      (False))

def S_dev_Dev_Crash : Abs.Spec := fun args H r H' => ∃ x0 x1 : AVal, args = [x0, x1] ∧ (dev_Dev_Crash.w x0 x1 H fun r1 H1 => r1 = r ∧ H1 = H')
theorem dev_Dev_Crash.ok (args : List AVal) (H : AHeap) (r : AVal) (H' : AHeap) (h : S_dev_Dev_Crash args H r H') : ∃ x0 x1 : AVal, args = [x0, x1] ∧ dev_Dev_Crash.w x0 x1 H fun r1 H1 => r1 = r ∧ H1 = H' := by
  obtain ⟨x0, x1, h1, h2⟩ := h
  exact ⟨x0, x1, h1, h2⟩
set_option maxRecDepth 100000 in
theorem dev_Dev_Crash.ex (x0 x1 : AVal) (H : AHeap) : Ex fun K : AVal × AHeap → Prop => dev_Dev_Crash.w x0 x1 H fun r H => K (r, H) := by
  unfold dev_Dev_Crash.w
  repeat with_reducible first
    | exact Ex.pt _
    | exact Ex.fin
    | exact Ex.no
    | refine Ex.vb fun _ => ?_
    | refine Ex.hb fun _ _ => ?_
    | refine Ex.sb fun _ => ?_
    | refine Ex.cb fun _ _ => ?_
    | refine Ex.isB fun _ => ?_
    | refine Ex.cond ?_ ?_
    | refine Ex.onE ?_ ?_
    | refine Ex.join ?_ fun _ _ _ => ?_
    | refine Ex.loop (fun _ _ => ?_) fun _ _ _ => ?_
    | (unfold dev_Dev_Crash.L6; unfold dev_Dev_Crash.L6.b)

theorem dev_Dev_Crash.out {x0 x1 : AVal} {H : AHeap} {Q : AVal → AHeap → Prop} (h : dev_Dev_Crash.w x0 x1 H fun r H' => Q r H') : ∃ r H', S_dev_Dev_Crash [x0, x1] H r H' ∧ Q r H' := by
  obtain ⟨r, H', h1, h2⟩ := (dev_Dev_Crash.ex x0 x1 H).out h
  exact ⟨r, H', ⟨_, _, rfl, h1⟩, h2⟩

def dev_Dev_Unsafe.L5.b (v6 : AVal) (v5 : AVal) (x3_5 : AVal) (x14_5 : AVal) (H7 : AHeap) (Kn8 : List AVal → AHeap → Prop) (Ke9 : AExit → List AVal → AHeap → Prop) : Prop :=
  vb (aBin .lss x14_5 v6) fun v10 =>
  isB v10 fun b11 => cond b11
    (vb (aIndexAddr 3 v5 x14_5) fun v12 =>
    vb (aLoad H7 true 3 v12) fun v13 =>
    hb (aAlloc H7 [.str [], .str [], .bool false]) fun v14 H15 =>
    sb (aStore H15 3 v14 v13) fun H16 =>
    vb (aFieldAddr 2 v14) fun v17 =>
    vb (aLoad H16 false 1 v17) fun v18 =>
    isB v18 fun b19 => cond b19
      (hb (aBuildSlice H16 1 [.int .i64 0] 1 [(0, x14_5)]) fun v20 H21 =>
      hb (aAppendS H21 1 8 x3_5 v20) fun v22 H23 =>
      vb (aBin .add x14_5 (.int .i64 1)) fun v24 =>
      Kn8 [v22, v24] H23)
      (vb (aBin .add x14_5 (.int .i64 1)) fun v25 =>
      Kn8 [x3_5, v25] H16))
    (Ke9 (.exit 0) [x3_5] H7)

def dev_Dev_Unsafe.L5 (v6 : AVal) (v5 : AVal) : Body := fun vs H Kn Ke => dev_Dev_Unsafe.L5.b v6 v5 (vs.getD 0 .undef) (vs.getD 1 .undef) H Kn Ke

def dev_Dev_Unsafe.w (x0 : AVal) (H : AHeap) (K : AVal → AHeap → Prop) : Prop :=
  vb (aEql false .ptr H x0 .nilp) fun v1 =>
  isB v1 fun b2 => cond b2
    (fin .ret [.v (.nils)] H K)
    (vb (aNilCheck x0) fun v3 =>
    vb (aFieldAddr 0 v3) fun v4 =>
    vb (aLoad H false 1 v4) fun v5 =>
    vb (lenSl v5) fun v6 =>
    LoopP (dev_Dev_Unsafe.L5 v6 v5) [.nils, .int .i64 0] H fun e26 vs27 H28 =>
      onE e26 (.exit 0)
        (fin .ret [.v (vs27.getD 0 .undef)] H28 K)
      (False))

def S_dev_Dev_Unsafe : Abs.Spec := fun args H r H' => ∃ x0 : AVal, args = [x0] ∧ (dev_Dev_Unsafe.w x0 H fun r1 H1 => r1 = r ∧ H1 = H') ∧ H <+: H'
theorem dev_Dev_Unsafe.ok (args : List AVal) (H : AHeap) (r : AVal) (H' : AHeap) (h : S_dev_Dev_Unsafe args H r H') : ∃ x0 : AVal, args = [x0] ∧ dev_Dev_Unsafe.w x0 H fun r1 H1 => r1 = r ∧ H1 = H' := by
  obtain ⟨x0, h1, h2, _⟩ := h
  exact ⟨x0, h1, h2⟩
theorem dev_Dev_Unsafe.quiet {args : List AVal} {H : AHeap} {r : AVal} {H' : AHeap} (h : S_dev_Dev_Unsafe args H r H') : H <+: H' := by
  obtain ⟨_, _, _, h⟩ := h
  exact h
set_option maxRecDepth 100000 in
theorem dev_Dev_Unsafe.ex (x0 : AVal) (H : AHeap) : Ex fun K : AVal × AHeap → Prop => dev_Dev_Unsafe.w x0 H fun r H => K (r, H) := by
  unfold dev_Dev_Unsafe.w
  repeat with_reducible first
    | exact Ex.pt _
    | exact Ex.fin
    | exact Ex.no
    | refine Ex.vb fun _ => ?_
    | refine Ex.hb fun _ _ => ?_
    | refine Ex.sb fun _ => ?_
    | refine Ex.cb fun _ _ => ?_
    | refine Ex.isB fun _ => ?_
    | refine Ex.cond ?_ ?_
    | refine Ex.onE ?_ ?_
    | refine Ex.join ?_ fun _ _ _ => ?_
    | refine Ex.loop (fun _ _ => ?_) fun _ _ _ => ?_
    | (unfold dev_Dev_Unsafe.L5; unfold dev_Dev_Unsafe.L5.b)

theorem dev_Dev_Unsafe.out {x0 : AVal} {H : AHeap} {Q : AVal → AHeap → Prop} (h : dev_Dev_Unsafe.w x0 H fun r H' => H <+: H' ∧ Q r H') : ∃ r H', S_dev_Dev_Unsafe [x0] H r H' ∧ Q r H' := by
  obtain ⟨r, H', h1, h2⟩ := (dev_Dev_Unsafe.ex x0 H).out h
  exact ⟨r, H', ⟨_, rfl, h1, h2.1⟩, h2.2⟩

def dev_Dev_Blocks.w (x0 : AVal) (H : AHeap) (K : AVal → AHeap → Prop) : Prop :=
  vb (aEql false .ptr H x0 .nilp) fun v1 =>
  isB v1 fun b2 => cond b2
    (fin .ret [.v (.int .i64 0)] H K)
    (vb (aNilCheck x0) fun v3 =>
    vb (aFieldAddr 0 v3) fun v4 =>
    vb (aLoad H false 1 v4) fun v5 =>
    vb (lenSl v5) fun v6 =>
    fin .ret [.v (v6)] H K)

def S_dev_Dev_Blocks : Abs.Spec := fun args H r H' => ∃ x0 : AVal, args = [x0] ∧ (dev_Dev_Blocks.w x0 H fun r1 H1 => r1 = r ∧ H1 = H') ∧ H <+: H'
theorem dev_Dev_Blocks.ok (args : List AVal) (H : AHeap) (r : AVal) (H' : AHeap) (h : S_dev_Dev_Blocks args H r H') : ∃ x0 : AVal, args = [x0] ∧ dev_Dev_Blocks.w x0 H fun r1 H1 => r1 = r ∧ H1 = H' := by
  obtain ⟨x0, h1, h2, _⟩ := h
  exact ⟨x0, h1, h2⟩
theorem dev_Dev_Blocks.quiet {args : List AVal} {H : AHeap} {r : AVal} {H' : AHeap} (h : S_dev_Dev_Blocks args H r H') : H <+: H' := by
  obtain ⟨_, _, _, h⟩ := h
  exact h
set_option maxRecDepth 100000 in
theorem dev_Dev_Blocks.ex (x0 : AVal) (H : AHeap) : Ex fun K : AVal × AHeap → Prop => dev_Dev_Blocks.w x0 H fun r H => K (r, H) := by
  unfold dev_Dev_Blocks.w
  repeat with_reducible first
    | exact Ex.pt _
    | exact Ex.fin
    | exact Ex.no
    | refine Ex.vb fun _ => ?_
    | refine Ex.hb fun _ _ => ?_
    | refine Ex.sb fun _ => ?_
    | refine Ex.cb fun _ _ => ?_
    | refine Ex.isB fun _ => ?_
    | refine Ex.cond ?_ ?_
    | refine Ex.onE ?_ ?_
    | refine Ex.join ?_ fun _ _ _ => ?_
    | refine Ex.loop (fun _ _ => ?_) fun _ _ _ => ?_

theorem dev_Dev_Blocks.out {x0 : AVal} {H : AHeap} {Q : AVal → AHeap → Prop} (h : dev_Dev_Blocks.w x0 H fun r H' => H <+: H' ∧ Q r H') : ∃ r H', S_dev_Dev_Blocks [x0] H r H' ∧ Q r H' := by
  obtain ⟨r, H', h1, h2⟩ := (dev_Dev_Blocks.ex x0 H).out h
  exact ⟨r, H', ⟨_, rfl, h1, h2.1⟩, h2.2⟩

def dev_Dev_Image.L5.b (v6 : AVal) (v5 : AVal) (x3_5 : AVal) (x13_5 : AVal) (H7 : AHeap) (Kn8 : List AVal → AHeap → Prop) (Ke9 : AExit → List AVal → AHeap → Prop) : Prop :=
  vb (aBin .lss x13_5 v6) fun v10 =>
  isB v10 fun b11 => cond b11
    (vb (aIndexAddr 3 v5 x13_5) fun v12 =>
    vb (aLoad H7 true 3 v12) fun v13 =>
    hb (aAlloc H7 [.str [], .str [], .bool false]) fun v14 H15 =>
    sb (aStore H15 3 v14 v13) fun H16 =>
    vb (aFieldAddr 0 v14) fun v17 =>
    vb (aLoad H16 false 1 v17) fun v18 =>
    hb (aAppend H16 1 1 x3_5 v18) fun v19 H20 =>
    vb (aBin .add x13_5 (.int .i64 1)) fun v21 =>
    Kn8 [v19, v21] H20)
    (Ke9 (.exit 0) [x3_5] H7)

def dev_Dev_Image.L5 (v6 : AVal) (v5 : AVal) : Body := fun vs H Kn Ke => dev_Dev_Image.L5.b v6 v5 (vs.getD 0 .undef) (vs.getD 1 .undef) H Kn Ke

def dev_Dev_Image.w (x0 : AVal) (H : AHeap) (K : AVal → AHeap → Prop) : Prop :=
  vb (aEql false .ptr H x0 .nilp) fun v1 =>
  isB v1 fun b2 => cond b2
    (fin .ret [.v (.str [])] H K)
    (vb (aNilCheck x0) fun v3 =>
    vb (aFieldAddr 0 v3) fun v4 =>
    vb (aLoad H false 1 v4) fun v5 =>
    vb (lenSl v5) fun v6 =>
    LoopP (dev_Dev_Image.L5 v6 v5) [.nils, .int .i64 0] H fun e22 vs23 H24 =>
      onE e22 (.exit 0)
        (vb (aBytes2Str H24 (vs23.getD 0 .undef)) fun v25 =>
        fin .ret [.v (v25)] H24 K)
      (False))

def S_dev_Dev_Image : Abs.Spec := fun args H r H' => ∃ x0 : AVal, args = [x0] ∧ (dev_Dev_Image.w x0 H fun r1 H1 => r1 = r ∧ H1 = H') ∧ H <+: H'
theorem dev_Dev_Image.ok (args : List AVal) (H : AHeap) (r : AVal) (H' : AHeap) (h : S_dev_Dev_Image args H r H') : ∃ x0 : AVal, args = [x0] ∧ dev_Dev_Image.w x0 H fun r1 H1 => r1 = r ∧ H1 = H' := by
  obtain ⟨x0, h1, h2, _⟩ := h
  exact ⟨x0, h1, h2⟩
theorem dev_Dev_Image.quiet {args : List AVal} {H : AHeap} {r : AVal} {H' : AHeap} (h : S_dev_Dev_Image args H r H') : H <+: H' := by
  obtain ⟨_, _, _, h⟩ := h
  exact h
set_option maxRecDepth 100000 in
theorem dev_Dev_Image.ex (x0 : AVal) (H : AHeap) : Ex fun K : AVal × AHeap → Prop => dev_Dev_Image.w x0 H fun r H => K (r, H) := by
  unfold dev_Dev_Image.w
  repeat with_reducible first
    | exact Ex.pt _
    | exact Ex.fin
    | exact Ex.no
    | refine Ex.vb fun _ => ?_
    | refine Ex.hb fun _ _ => ?_
    | refine Ex.sb fun _ => ?_
    | refine Ex.cb fun _ _ => ?_
    | refine Ex.isB fun _ => ?_
    | refine Ex.cond ?_ ?_
    | refine Ex.onE ?_ ?_
    | refine Ex.join ?_ fun _ _ _ => ?_
    | refine Ex.loop (fun _ _ => ?_) fun _ _ _ => ?_
    | (unfold dev_Dev_Image.L5; unfold dev_Dev_Image.L5.b)

theorem dev_Dev_Image.out {x0 : AVal} {H : AHeap} {Q : AVal → AHeap → Prop} (h : dev_Dev_Image.w x0 H fun r H' => H <+: H' ∧ Q r H') : ∃ r H', S_dev_Dev_Image [x0] H r H' ∧ Q r H' := by
  obtain ⟨r, H', h1, h2⟩ := (dev_Dev_Image.ex x0 H).out h
  exact ⟨r, H', ⟨_, rfl, h1, h2.1⟩, h2.2⟩

def dev_Dev_Copy.w (x0 : AVal) (H : AHeap) (K : AVal → AHeap → Prop) : Prop :=
  vb (aEql false .ptr H x0 .nilp) fun v1 =>
  isB v1 fun b2 => cond b2
    (fin .ret [.v (.nilp)] H K)
    (vb (aNilCheck x0) fun v3 =>
    vb (aFieldAddr 0 v3) fun v4 =>
    vb (aLoad H false 1 v4) fun v5 =>
    hb (aAppendS H 3 40 .nils v5) fun v6 H7 =>
    vb (aBuild [.nils] (fun k => ([(0, 1)] : List (Nat × Nat))[k]?) [(0, v6)]) fun v8 =>
    hb (aBox H7 v8) fun v9 H10 =>
    fin .ret [.v (v9)] H10 K)

def S_dev_Dev_Copy : Abs.Spec := fun args H r H' => ∃ x0 : AVal, args = [x0] ∧ (dev_Dev_Copy.w x0 H fun r1 H1 => r1 = r ∧ H1 = H') ∧ H <+: H'
theorem dev_Dev_Copy.ok (args : List AVal) (H : AHeap) (r : AVal) (H' : AHeap) (h : S_dev_Dev_Copy args H r H') : ∃ x0 : AVal, args = [x0] ∧ dev_Dev_Copy.w x0 H fun r1 H1 => r1 = r ∧ H1 = H' := by
  obtain ⟨x0, h1, h2, _⟩ := h
  exact ⟨x0, h1, h2⟩
theorem dev_Dev_Copy.quiet {args : List AVal} {H : AHeap} {r : AVal} {H' : AHeap} (h : S_dev_Dev_Copy args H r H') : H <+: H' := by
  obtain ⟨_, _, _, h⟩ := h
  exact h
set_option maxRecDepth 100000 in
theorem dev_Dev_Copy.ex (x0 : AVal) (H : AHeap) : Ex fun K : AVal × AHeap → Prop => dev_Dev_Copy.w x0 H fun r H => K (r, H) := by
  unfold dev_Dev_Copy.w
  repeat with_reducible first
    | exact Ex.pt _
    | exact Ex.fin
    | exact Ex.no
    | refine Ex.vb fun _ => ?_
    | refine Ex.hb fun _ _ => ?_
    | refine Ex.sb fun _ => ?_
    | refine Ex.cb fun _ _ => ?_
    | refine Ex.isB fun _ => ?_
    | refine Ex.cond ?_ ?_
    | refine Ex.onE ?_ ?_
    | refine Ex.join ?_ fun _ _ _ => ?_
    | refine Ex.loop (fun _ _ => ?_) fun _ _ _ => ?_

theorem dev_Dev_Copy.out {x0 : AVal} {H : AHeap} {Q : AVal → AHeap → Prop} (h : dev_Dev_Copy.w x0 H fun r H' => H <+: H' ∧ Q r H') : ∃ r H', S_dev_Dev_Copy [x0] H r H' ∧ Q r H' := by
  obtain ⟨r, H', h1, h2⟩ := (dev_Dev_Copy.ex x0 H).out h
  exact ⟨r, H', ⟨_, rfl, h1, h2.1⟩, h2.2⟩

end Go.Sh

/- Devices: the program's functions. -/
namespace Go.Sh
open Go Go.Abs

section
variable {H0 B : AHeap} {own : Nat → Prop} {R : List Part} {p : Nat} {sv : AVal} {l : List Bk}
theorem may_nil (i : AVal) (s : AVal) : ∃ C, S_dev_Dev_may [.nilp, i, s] B (.int .i64 1) C ∧ B <+: C := by
  obtain ⟨r, C, h, rfl, k⟩ := dev_Dev_may.out (x0 := .nilp) (x1 := i) (x2 := s) (H := B) (Q := fun r C => r = .int .i64 1 ∧ B <+: C) (by
    unfold dev_Dev_may.w
    have hs : Sep B (fun _ => False) B [] := Sep.start B
    repeat first
    | with_reducible refine isB_T ?_
    | with_reducible refine vb_i (e_nilNil _) ?_
    exact fin_ret (rvs_v (rvs_nil _)) ⟨List.prefix_refl _, rfl, List.prefix_refl _⟩)
  exact ⟨C, h, k⟩
theorem may_spec (hd : (Part.dev p sv l).ok B) (i : Int) (s : List UInt8) : ∃ C, S_dev_Dev_may [.ptr ⟨p, 0, 0⟩, .int .i64 i, .str s] B (.int .i64 (mayE l.length i s)) C ∧ B <+: C := by
  obtain ⟨r, C, h, rfl, k⟩ := dev_Dev_may.out (x0 := .ptr ⟨p, 0, 0⟩) (x1 := .int .i64 i) (x2 := .str s) (H := B) (Q := fun r C => r = .int .i64 (mayE l.length i s) ∧ B <+: C) (by
    have hs : Sep B (fun _ => False) B [] := Sep.start B
    have hg := hd.1
    have hv := hd.2.1.view
    simp only [Part.obj] at hg
    unfold dev_Dev_may.w
    repeat first
    | with_reducible refine isB_F ?_
    | with_reducible refine vb_i (lss64 _ _ _) ?_
    | with_reducible refine vb_i (e_ptrNil _ _) ?_
    refine isB_c (fun h1 => ?_) (fun h1 => ?_)
    · exact fin_ret (rvs_v (rvs_nil _)) ⟨List.prefix_refl _, by simp only [mayE, tup1]; rw [if_pos (.inl h1)], List.prefix_refl _⟩
    repeat first
    | with_reducible refine vb_i (geq64 _ _ _) ?_
    | with_reducible refine vb_i (e_nilCheck _) ?_
    | with_reducible refine vb_i (e_fieldAddr _ _) ?_
    | ((with_reducible apply vb_ld); (· first | exact hs.g0 | exact hs.g1 | exact hs.g2 | exact hs.g3 | exact hs.g4 | exact hs.g5 | exact hs.g6 | exact hs.rd hg | exact hs.rd hg2 | exact hs.rd hg3 | exact hs.rd hg4 | assumption); (· rfl))
    | ((with_reducible apply vb_len); (· first | exact hs.o0.view | exact hs.o1.view | exact hs.o2.view | exact hs.o3.view | exact hs.o4.view | exact hs.o5.view | exact hs.o6.view | exact hs.rv hv | exact hs.rv hv2 | exact hs.rv hv3 | exact hs.rv hv4 | exact hs.view hkv hko | assumption))
    refine isB_c (fun h2 => ?_) (fun h2 => ?_)
    · exact fin_ret (rvs_v (rvs_nil _)) ⟨List.prefix_refl _, by simp only [mayE, tup1]; rw [if_pos (.inr h2)], List.prefix_refl _⟩
    repeat first
    | with_reducible refine vb_i (neq64 _ _ _) ?_
    | with_reducible refine vb_i (e_lenSt _) ?_
    refine isB_c (fun h3 => ?_) (fun h3 => ?_)
    · exact fin_ret (rvs_v (rvs_nil _)) ⟨List.prefix_refl _, by simp only [mayE, tup1]; rw [if_neg (by omega), if_pos (by omega)], List.prefix_refl _⟩
    · exact fin_ret (rvs_v (rvs_nil _)) ⟨List.prefix_refl _, by simp only [mayE, tup1]; rw [if_neg (by omega), if_neg (by omega)], List.prefix_refl _⟩)
  exact ⟨C, h, k⟩

/-- All blocks are whole. -/
def WB (l : List Bk) : Prop := l.length ≤ 512 ∧ ∀ b ∈ l, b.now.length = 64 ∧ b.safe.length = 64
theorem WB.at_ (h : WB l) {k : Nat} {b : Bk} (hb : l[k]? = some b) : b.now.length = 64 ∧ b.safe.length = 64 := h.2 b (List.mem_of_getElem? hb)
theorem WB.set (h : WB l) {k : Nat} {b : Bk} (h1 : b.now.length = 64) (h2 : b.safe.length = 64) : WB (l.set k b) := by
  refine ⟨by rw [List.length_set]; exact h.1, fun c hc => ?_⟩
  rcases List.mem_or_eq_of_mem_set hc with hc | rfl
  · exact h.2 c hc
  · exact ⟨h1, h2⟩
theorem read_nil (i : AVal) : ∃ C, S_dev_Dev_Read [.nilp, i] B (.tup [.str [], .int .i64 1]) C ∧ B <+: C := by
  obtain ⟨r, C, h, rfl, k⟩ := dev_Dev_Read.out (x0 := .nilp) (x1 := i) (H := B) (Q := fun r C => r = .tup [.str [], .int .i64 1] ∧ B <+: C) (by
    unfold dev_Dev_Read.w
    have hs : Sep B (fun _ => False) B [] := Sep.start B
    repeat first
    | with_reducible refine isB_T ?_
    | with_reducible refine vb_i (e_nilNil _) ?_
    exact fin_ret (rvs_v (rvs_v (rvs_nil _))) ⟨List.prefix_refl _, rfl, List.prefix_refl _⟩)
  exact ⟨C, h, k⟩
def readR (l : List Bk) (i : Int) : AVal := if i < 0 ∨ l.length ≤ i then .tup [.str [], .int .i64 3] else .tup [.str (bkAt l i).now, .int .i64 0]
theorem read_spec (hd : (Part.dev p sv l).ok B) (i : Int) : ∃ C, S_dev_Dev_Read [.ptr ⟨p, 0, 0⟩, .int .i64 i] B (readR l i) C ∧ B <+: C := by
  obtain ⟨r, C, h, rfl, k⟩ := dev_Dev_Read.out (x0 := .ptr ⟨p, 0, 0⟩) (x1 := .int .i64 i) (H := B) (Q := fun r C => r = readR l i ∧ B <+: C) (by
    have hs : Sep B (fun _ => False) B [] := Sep.start B
    have hg := hd.1
    have hv := hd.2.1.view
    simp only [Part.obj] at hg
    unfold dev_Dev_Read.w
    repeat first
    | with_reducible refine isB_F ?_
    | with_reducible refine vb_i (lss64 _ _ _) ?_
    | with_reducible refine vb_i (e_ptrNil _ _) ?_
    refine isB_c (fun h1 => ?_) (fun h1 => ?_)
    · exact fin_ret (rvs_v (rvs_v (rvs_nil _))) ⟨List.prefix_refl _, by simp only [readR, tup1]; rw [if_pos (.inl h1)], List.prefix_refl _⟩
    repeat first
    | with_reducible refine vb_i (geq64 _ _ _) ?_
    | with_reducible refine vb_i (e_nilCheck _) ?_
    | with_reducible refine vb_i (e_fieldAddr _ _) ?_
    | ((with_reducible apply vb_ld); (· first | exact hs.g0 | exact hs.g1 | exact hs.g2 | exact hs.g3 | exact hs.g4 | exact hs.g5 | exact hs.g6 | exact hs.rd hg | exact hs.rd hg2 | exact hs.rd hg3 | exact hs.rd hg4 | assumption); (· rfl))
    | ((with_reducible apply vb_len); (· first | exact hs.o0.view | exact hs.o1.view | exact hs.o2.view | exact hs.o3.view | exact hs.o4.view | exact hs.o5.view | exact hs.o6.view | exact hs.rv hv | exact hs.rv hv2 | exact hs.rv hv3 | exact hs.rv hv4 | exact hs.view hkv hko | assumption))
    refine isB_c (fun h2 => ?_) (fun h2 => ?_)
    · exact fin_ret (rvs_v (rvs_v (rvs_nil _))) ⟨List.prefix_refl _, by simp only [readR, tup1]; rw [if_pos (.inr h2)], List.prefix_refl _⟩
    obtain ⟨j, rfl⟩ : ∃ j : Nat, i = j := ⟨i.toNat, by omega⟩
    have hb : l[j]? = some (bkAt l j) := by
      have hj : j < l.length := by omega
      simp [bkAt, List.getD_eq_getElem?_getD, List.getElem?_eq_getElem hj]
    repeat first
    | with_reducible refine vb_i (e_nilCheck _) ?_
    | with_reducible refine vb_i (e_fieldAddr _ _) ?_
    | ((with_reducible apply vb_ld); (· first | exact hs.g0 | exact hs.g1 | exact hs.g2 | exact hs.g3 | exact hs.g4 | exact hs.g5 | exact hs.g6 | exact hs.rd hg | exact hs.rd hg2 | exact hs.rd hg3 | exact hs.rd hg4 | assumption); (· rfl))
    | ((with_reducible apply vb_addrN); (· first | exact hs.o0.view | exact hs.o1.view | exact hs.o2.view | exact hs.o3.view | exact hs.o4.view | exact hs.o5.view | exact hs.o6.view | exact hs.rv hv | exact hs.rv hv2 | exact hs.rv hv3 | exact hs.rv hv4 | exact hs.view hkv hko | assumption); (· omega))
    | ((with_reducible apply vb_el1); (· first | exact hs.o0.view | exact hs.o1.view | exact hs.o2.view | exact hs.o3.view | exact hs.o4.view | exact hs.o5.view | exact hs.o6.view | exact hs.rv hv | exact hs.rv hv2 | exact hs.rv hv3 | exact hs.rv hv4 | exact hs.view hkv hko | assumption); (· first | exact bcell_len | exact pcell_len | exact one_len | assumption); (· first | exact hb | exact hb2 | assumption); (· rfl))
    exact fin_ret (rvs_v (rvs_v (rvs_nil _))) ⟨List.prefix_refl _, by simp only [readR, tup1]; rw [if_neg (by omega)], List.prefix_refl _⟩)
  exact ⟨C, h, k⟩
theorem write_nil (i s : AVal) : ∃ C, S_dev_Dev_Write [.nilp, i, s] B (.int .i64 1) C ∧ B <+: C := by
  obtain ⟨r, C, h, rfl, k⟩ := dev_Dev_Write.out (x0 := .nilp) (x1 := i) (x2 := s) (H := B) (Q := fun r C => r = .int .i64 1 ∧ B <+: C) (by
    unfold dev_Dev_Write.w
    obtain ⟨C, hc, k⟩ := may_nil (B := B) i s
    refine cb_i _ _ hc ?_
    have hs : Sep B (fun _ => False) C [] := (Sep.start B).quiet k
    repeat first
    | ((with_reducible refine isB_ct ?_ ?_); (· first | omega | rfl | assumption | trivial))
    | with_reducible refine vb_i (neq64 _ _ _) ?_
    exact fin_ret (rvs_v (rvs_nil _)) ⟨rfl, k⟩)
  exact ⟨C, h, k⟩
theorem tamper_nil (i s : AVal) : ∃ C, S_dev_Dev_Tamper [.nilp, i, s] B (.int .i64 1) C ∧ B <+: C := by
  obtain ⟨r, C, h, rfl, k⟩ := dev_Dev_Tamper.out (x0 := .nilp) (x1 := i) (x2 := s) (H := B) (Q := fun r C => r = .int .i64 1 ∧ B <+: C) (by
    unfold dev_Dev_Tamper.w
    obtain ⟨C, hc, k⟩ := may_nil (B := B) i s
    refine cb_i _ _ hc ?_
    have hs : Sep B (fun _ => False) C [] := (Sep.start B).quiet k
    repeat first
    | ((with_reducible refine isB_ct ?_ ?_); (· first | omega | rfl | assumption | trivial))
    | with_reducible refine vb_i (neq64 _ _ _) ?_
    exact fin_ret (rvs_v (rvs_nil _)) ⟨rfl, k⟩)
  exact ⟨C, h, k⟩
theorem write_spec (h0 : Sep H0 own B (Part.dev p sv l :: R)) (i : Int) (s : List UInt8) : ∃ C, S_dev_Dev_Write [.ptr ⟨p, 0, 0⟩, .int .i64 i, .str s] B (.int .i64 (mayE l.length i s)) C ∧
    Sep H0 own C (Part.dev p sv (if mayE l.length i s = 0 then l.set i.toNat ((bkAt l i).write s) else l) :: R) := by
  obtain ⟨r, C, h, rfl, k⟩ := dev_Dev_Write.out (x0 := .ptr ⟨p, 0, 0⟩) (x1 := .int .i64 i) (x2 := .str s) (H := B)
    (Q := fun r C => r = .int .i64 (mayE l.length i s) ∧ Sep H0 own C (Part.dev p sv (if mayE l.length i s = 0 then l.set i.toNat ((bkAt l i).write s) else l) :: R)) (by
    unfold dev_Dev_Write.w
    obtain ⟨C, hc, k⟩ := may_spec h0.head i s
    refine cb_i _ _ hc ?_
    have hs := (h0.quiet k).split
    repeat first
    | with_reducible refine vb_i (neq64 _ _ _) ?_
    refine isB_c (fun h1 => ?_) (fun h1 => ?_)
    · exact fin_ret (rvs_v (rvs_nil _)) ⟨rfl, by rw [if_neg h1]; exact hs.join⟩
    have h1 : mayE l.length i s = 0 := Decidable.not_not.1 h1
    rw [h1, if_pos rfl]
    have h2 : 0 ≤ i ∧ i < l.length := by
      unfold mayE at h1; split at h1
      · omega
      · omega
    obtain ⟨j, rfl⟩ : ∃ j : Nat, i = j := ⟨i.toNat, by omega⟩
    have hj : j < l.length := by omega
    have hb : l[j]? = some (bkAt l j) := by simp [bkAt, List.getD_eq_getElem?_getD, List.getElem?_eq_getElem hj]
    repeat first
    | with_reducible refine vb_i (e_nilCheck _) ?_
    | with_reducible refine vb_i (e_fieldAddr _ _) ?_
    | ((with_reducible apply vb_ld); (· first | exact hs.g0 | exact hs.g1 | exact hs.g2 | exact hs.g3 | exact hs.g4 | exact hs.g5 | exact hs.g6 | exact hs.rd hg | exact hs.rd hg2 | exact hs.rd hg3 | exact hs.rd hg4 | assumption); (· rfl))
    | ((with_reducible apply vb_addrN); (· first | exact hs.o0.view | exact hs.o1.view | exact hs.o2.view | exact hs.o3.view | exact hs.o4.view | exact hs.o5.view | exact hs.o6.view | exact hs.rv hv | exact hs.rv hv2 | exact hs.rv hv3 | exact hs.rv hv4 | exact hs.view hkv hko | assumption); (· omega))
    refine s_el1 hs.f1 bcell_len hb ⟨s, (bkAt l j).safe, (bkAt l j).is⟩ rfl (by decide) rfl fun _ hs => ?_
    have hb2 : (l.set j ⟨s, (bkAt l j).safe, (bkAt l j).is⟩)[j]? = some ⟨s, (bkAt l j).safe, (bkAt l j).is⟩ := List.getElem?_set_self hj
    have hj2 : j < (l.set j ⟨s, (bkAt l j).safe, (bkAt l j).is⟩).length := by rw [List.length_set]; exact hj
    repeat first
    | with_reducible refine vb_i (e_fieldAddr _ _) ?_
    | ((with_reducible apply vb_addrN); (· first | exact hs.o0.view | exact hs.o1.view | exact hs.o2.view | exact hs.o3.view | exact hs.o4.view | exact hs.o5.view | exact hs.o6.view | exact hs.rv hv | exact hs.rv hv2 | exact hs.rv hv3 | exact hs.rv hv4 | exact hs.view hkv hko | assumption); (· omega))
    refine s_el1 hs bcell_len hb2 ((bkAt l j).write s) rfl (by decide) rfl fun _ hs => ?_
    rw [List.set_set] at hs
    refine fin_ret (rvs_v (rvs_nil _)) ⟨rfl, ?_⟩
    rw [Int.toNat_natCast]
    exact hs.f1.join)
  exact ⟨C, h, k⟩
end
end Go.Sh

/- Devices: the program's functions, on. -/
namespace Go.Sh
open Go Go.Abs

section
variable {H0 B : AHeap} {own : Nat → Prop} {R : List Part} {p : Nat} {sv : AVal} {l : List Bk}
theorem at_ {j : Nat} (hj : j < l.length) : l[j]? = some (bkAt l j) := by simp [bkAt, List.getD_eq_getElem?_getD, List.getElem?_eq_getElem hj]
theorem tamper_spec (h0 : Sep H0 own B (Part.dev p sv l :: R)) (i : Int) (s : List UInt8) : ∃ C, S_dev_Dev_Tamper [.ptr ⟨p, 0, 0⟩, .int .i64 i, .str s] B (.int .i64 (mayE l.length i s)) C ∧
    Sep H0 own C (Part.dev p sv (if mayE l.length i s = 0 then l.set i.toNat ⟨s, s, (bkAt l i).is⟩ else l) :: R) := by
  obtain ⟨r, C, h, rfl, k⟩ := dev_Dev_Tamper.out (x0 := .ptr ⟨p, 0, 0⟩) (x1 := .int .i64 i) (x2 := .str s) (H := B)
    (Q := fun r C => r = .int .i64 (mayE l.length i s) ∧ Sep H0 own C (Part.dev p sv (if mayE l.length i s = 0 then l.set i.toNat ⟨s, s, (bkAt l i).is⟩ else l) :: R)) (by
    unfold dev_Dev_Tamper.w
    obtain ⟨C, hc, k⟩ := may_spec h0.head i s
    refine cb_i _ _ hc ?_
    have hs := (h0.quiet k).split
    repeat first
    | with_reducible refine vb_i (neq64 _ _ _) ?_
    refine isB_c (fun h1 => ?_) (fun h1 => ?_)
    · exact fin_ret (rvs_v (rvs_nil _)) ⟨rfl, by rw [if_neg h1]; exact hs.join⟩
    have h1 : mayE l.length i s = 0 := Decidable.not_not.1 h1
    rw [h1, if_pos rfl]
    have h2 : 0 ≤ i ∧ i < l.length := by
      unfold mayE at h1; split at h1
      · omega
      · omega
    obtain ⟨j, rfl⟩ : ∃ j : Nat, i = j := ⟨i.toNat, by omega⟩
    have hj : j < l.length := by omega
    have hb := at_ hj
    repeat first
    | with_reducible refine vb_i (e_nilCheck _) ?_
    | with_reducible refine vb_i (e_fieldAddr _ _) ?_
    | ((with_reducible apply vb_ld); (· first | exact hs.g0 | exact hs.g1 | exact hs.g2 | exact hs.g3 | exact hs.g4 | exact hs.g5 | exact hs.g6 | exact hs.rd hg | exact hs.rd hg2 | exact hs.rd hg3 | exact hs.rd hg4 | assumption); (· rfl))
    | ((with_reducible apply vb_addrN); (· first | exact hs.o0.view | exact hs.o1.view | exact hs.o2.view | exact hs.o3.view | exact hs.o4.view | exact hs.o5.view | exact hs.o6.view | exact hs.rv hv | exact hs.rv hv2 | exact hs.rv hv3 | exact hs.rv hv4 | exact hs.view hkv hko | assumption); (· omega))
    refine s_el1 hs.f1 bcell_len hb ⟨s, (bkAt l j).safe, (bkAt l j).is⟩ rfl (by decide) rfl fun _ hs => ?_
    have hb2 : (l.set j ⟨s, (bkAt l j).safe, (bkAt l j).is⟩)[j]? = some ⟨s, (bkAt l j).safe, (bkAt l j).is⟩ := List.getElem?_set_self hj
    have hj2 : j < (l.set j ⟨s, (bkAt l j).safe, (bkAt l j).is⟩).length := by rw [List.length_set]; exact hj
    repeat first
    | with_reducible refine vb_i (e_fieldAddr _ _) ?_
    | ((with_reducible apply vb_addrN); (· first | exact hs.o0.view | exact hs.o1.view | exact hs.o2.view | exact hs.o3.view | exact hs.o4.view | exact hs.o5.view | exact hs.o6.view | exact hs.rv hv | exact hs.rv hv2 | exact hs.rv hv3 | exact hs.rv hv4 | exact hs.view hkv hko | assumption); (· omega))
    refine s_el1 hs bcell_len hb2 ⟨s, s, (bkAt l j).is⟩ rfl (by decide) rfl fun _ hs => ?_
    rw [List.set_set] at hs
    refine fin_ret (rvs_v (rvs_nil _)) ⟨rfl, ?_⟩
    rw [Int.toNat_natCast]
    exact hs.f1.join)
  exact ⟨C, h, k⟩

/-- The first so many are others now. -/
def upTo {β : Type} (g : Nat → β → β) (l : List β) (n : Nat) : List β := l.mapIdx fun i b => if i < n then g i b else b
theorem upTo_len {β : Type} (g : Nat → β → β) (l : List β) (n : Nat) : (upTo g l n).length = l.length := by simp [upTo]
theorem upTo_zero {β : Type} (g : Nat → β → β) (l : List β) : upTo g l 0 = l := by
  apply List.ext_getElem? ; intro i; simp [upTo, List.getElem?_mapIdx]
theorem upTo_all {β : Type} (g : Nat → β → β) (l : List β) : upTo g l l.length = l.mapIdx g := by
  apply List.ext_getElem?; intro i; simp only [upTo, List.getElem?_mapIdx]
  cases h : l[i]? with
  | none => rfl
  | some b => simp [lt_some h]
theorem upTo_at {β : Type} (g : Nat → β → β) {l : List β} {n : Nat} {b : β} (h : l[n]? = some b) : (upTo g l n)[n]? = some b := by
  simp [upTo, List.getElem?_mapIdx, h]
theorem upTo_step {β : Type} (g : Nat → β → β) {l : List β} {n : Nat} {b : β} (h : l[n]? = some b) : (upTo g l n).set n (g n b) = upTo g l (n + 1) := by
  apply List.ext_getElem?; intro i
  by_cases hi : i = n
  · subst hi
    rw [List.getElem?_set_self (by rw [upTo_len]; exact lt_some h)]
    simp [upTo, List.getElem?_mapIdx, h]
  · rw [List.getElem?_set_ne (by omega)]
    simp only [upTo, List.getElem?_mapIdx]
    cases l[i]? with
    | none => rfl
    | some c =>
      by_cases h1 : i < n
      · rw [Option.map_some, Option.map_some, if_pos h1, if_pos (by omega)]
      · rw [Option.map_some, Option.map_some, if_neg h1, if_neg (by omega)]

theorem flush_nil : ∃ C, S_dev_Dev_Flush [.nilp] B (.int .i64 1) C ∧ B <+: C := by
  obtain ⟨r, C, h, rfl, k⟩ := dev_Dev_Flush.out (x0 := .nilp) (H := B) (Q := fun r C => r = .int .i64 1 ∧ B <+: C) (by
    unfold dev_Dev_Flush.w
    have hs : Sep B (fun _ => False) B [] := Sep.start B
    repeat first
    | with_reducible refine isB_T ?_
    | with_reducible refine vb_i (e_nilNil _) ?_
    exact fin_ret (rvs_v (rvs_nil _)) ⟨rfl, List.prefix_refl _⟩)
  exact ⟨C, h, k⟩
theorem flush_spec (h0 : Sep H0 own B (Part.dev p sv l :: R)) (hl : l.length ≤ 512) : ∃ C, S_dev_Dev_Flush [.ptr ⟨p, 0, 0⟩] B (.int .i64 0) C ∧ Sep H0 own C (Part.dev p sv (l.map Bk.flush) :: R) := by
  obtain ⟨r, C, h, rfl, k⟩ := dev_Dev_Flush.out (x0 := .ptr ⟨p, 0, 0⟩) (H := B) (Q := fun r C => r = .int .i64 0 ∧ Sep H0 own C (Part.dev p sv (l.map Bk.flush) :: R)) (by
    unfold dev_Dev_Flush.w
    have hs := h0.split
    repeat first
    | with_reducible refine isB_F ?_
    | with_reducible refine vb_i (e_ptrNil _ _) ?_
    | with_reducible refine vb_i (e_nilCheck _) ?_
    | with_reducible refine vb_i (e_fieldAddr _ _) ?_
    | ((with_reducible apply vb_ld); (· first | exact hs.g0 | exact hs.g1 | exact hs.g2 | exact hs.g3 | exact hs.g4 | exact hs.g5 | exact hs.g6 | exact hs.rd hg | exact hs.rd hg2 | exact hs.rd hg3 | exact hs.rd hg4 | assumption); (· rfl))
    | ((with_reducible apply vb_len); (· first | exact hs.o0.view | exact hs.o1.view | exact hs.o2.view | exact hs.o3.view | exact hs.o4.view | exact hs.o5.view | exact hs.o6.view | exact hs.rv hv | exact hs.rv hv2 | exact hs.rv hv3 | exact hs.rv hv4 | exact hs.view hkv hko | assumption))
    refine LoopP.ruleG (α := Nat) (fun i => [.int .i64 i]) (fun i C => i ≤ l.length ∧ Sep H0 own C (.obj p (.cells 0 .exact [sv]) :: .sl sv 3 (upTo (fun _ => Bk.flush) l i).length (flat bcell (upTo (fun _ => Bk.flush) l i)) :: R)) (fun i => l.length - i) 0 rfl
      ⟨Nat.zero_le _, by rw [upTo_zero]; exact hs⟩ ?_
    clear hs
    rintro i C Kn ⟨hi, hs⟩ hk
    unfold dev_Dev_Flush.L4 dev_Dev_Flush.L4.b
    try simp only [evB]
    by_cases hin : i < l.length
    · have hb0 := at_ hin
      have hb := upTo_at (fun _ => Bk.flush) hb0
      have hj : i < (upTo (fun _ => Bk.flush) l i).length := by rw [upTo_len]; exact hin
      generalize bkAt l i = b at *
      repeat first
      | ((with_reducible refine isB_ct ?_ ?_); (· omega))
      | with_reducible refine vb_i (lss64 _ _ _) ?_
      | with_reducible refine vb_i (e_nilCheck _) ?_
      | with_reducible refine vb_i (e_fieldAddr _ _) ?_
      | ((with_reducible apply vb_ld); (· first | exact hs.g0 | exact hs.g1 | exact hs.g2 | exact hs.g3 | exact hs.g4 | exact hs.g5 | exact hs.g6 | exact hs.rd hg | exact hs.rd hg2 | exact hs.rd hg3 | exact hs.rd hg4 | assumption); (· rfl))
      | ((with_reducible apply vb_addrN); (· first | exact hs.o0.view | exact hs.o1.view | exact hs.o2.view | exact hs.o3.view | exact hs.o4.view | exact hs.o5.view | exact hs.o6.view | exact hs.rv hv | exact hs.rv hv2 | exact hs.rv hv3 | exact hs.rv hv4 | exact hs.view hkv hko | assumption); (· omega))
      | ((with_reducible apply vb_el1); (· first | exact hs.o0.view | exact hs.o1.view | exact hs.o2.view | exact hs.o3.view | exact hs.o4.view | exact hs.o5.view | exact hs.o6.view | exact hs.rv hv | exact hs.rv hv2 | exact hs.rv hv3 | exact hs.rv hv4 | exact hs.view hkv hko | assumption); (· first | exact bcell_len | exact pcell_len | exact one_len | assumption); (· first | exact hb | exact hb2 | assumption); (· rfl))
      refine s_el1 hs.f1 bcell_len hb ⟨b.now, b.now, b.is⟩ rfl (by decide) rfl fun _ hs => ?_
      have hb2 : ((upTo (fun _ => Bk.flush) l i).set i ⟨b.now, b.now, b.is⟩)[i]? = some ⟨b.now, b.now, b.is⟩ := List.getElem?_set_self hj
      repeat first
      | with_reducible refine vb_i (e_nilCheck _) ?_
      | with_reducible refine vb_i (e_fieldAddr _ _) ?_
      refine s_el1 hs bcell_len hb2 b.flush rfl (by decide) rfl fun _ hs => ?_
      rw [List.set_set, upTo_step (fun _ => Bk.flush) hb0] at hs
      repeat first
      | ((with_reducible refine vb_i (add64 ?_ ?_) ?_); (· omega); (· omega))
      exact hk (i + 1) _ ⟨by omega, hs.f1⟩ (by omega)
    · obtain rfl : i = l.length := by omega
      repeat first
      | ((with_reducible refine isB_cf ?_ ?_); (· omega))
      | with_reducible refine onE_i ?_
      | with_reducible refine vb_i (lss64 _ _ _) ?_
      try simp only [evB]
      refine fin_ret (rvs_v (rvs_nil _)) ⟨rfl, ?_⟩
      rw [upTo_all, show (l.mapIdx fun _ b => b.flush) = l.map Bk.flush by apply List.ext_getElem?; intro i; simp [List.getElem?_mapIdx]] at hs
      exact hs.join)
  exact ⟨C, h, k⟩

/-- What is kept; an empty row may have no block. -/
def Lw (B : AHeap) (kv : AVal) (keep : List Bool) : Prop := View B kv 1 keep.length (keep.map AVal.bool) ∨ (keep = [] ∧ ∃ (r : Ref) (c : Cap), kv = .slice r 0 c)
theorem lw_len {B : AHeap} {kv : AVal} {keep : List Bool} (h : Lw B kv keep) : lenSl kv = some (.int .i64 keep.length) := by
  rcases h with h | ⟨rfl, r, c, rfl⟩
  · exact lenSl_view h
  · rfl
theorem Lw.at {B : AHeap} {kv : AVal} {keep : List Bool} (h : Lw B kv keep) (k : 0 < keep.length) : View B kv 1 keep.length (keep.map AVal.bool) := by
  rcases h with h | ⟨rfl, _⟩
  · exact h
  · exact absurd k (by decide)
theorem Lw.sep {H0 B : AHeap} {own : Nat → Prop} {R : List Part} {kv : AVal} {keep : List Bool} (h : Lw H0 kv keep) (hs : Sep H0 own B R) (ho : ∀ i, slId kv = some i → ¬ own i) : Lw B kv keep := h.imp (fun h => hs.view h ho) id
theorem Lw.sc {B : AHeap} {kv : AVal} {keep : List Bool} (h : Lw B kv keep) : kv.sc = true := by
  rcases h with h | ⟨rfl, r, c, rfl⟩
  · exact View.sc h
  · rfl
theorem lw_nil (H : AHeap) : Lw H .nils [] := .inl ⟨rfl, .inl ⟨rfl, rfl⟩⟩
/-- What a crash looks at. -/
structure LossAt (B : AHeap) (a1 a2 a3 p : Nat) (sv kv : AVal) (l : List Bk) (keep : List Bool) (torn by_ : Int) (n : Nat) : Prop where
  g1 : B[a1]? = some (.cells 0 .exact [.ptr ⟨p, 0, 0⟩])
  g2 : B[a2]? = some (.cells 0 .exact [kv, .int .i64 torn, .int .i64 by_])
  g3 : B[a3]? = some (.cells 0 .exact [.int .i64 n])
  g4 : B[p]? = some (.cells 0 .exact [sv])
  v1 : View B sv 3 l.length (flat bcell l)
  v2 : Lw B kv keep
theorem kept_now {keep : List Bool} {torn : Int} {n i : Nat} {b : Bk} (h : b.is = false ∨ keep.getD (i % 64) false = true) : keptS keep torn n i b = b.now := if_pos h
theorem kept_torn {keep : List Bool} {torn : Int} {n i : Nat} {b : Bk} (h : b.is = true) (k : keep.getD (i % 64) false = false) (e : torn = i) : keptS keep torn n i b = b.now.take n ++ b.safe.drop n := by
  unfold keptS; rw [if_neg (by rw [h, k]; simp), if_pos e]
theorem kept_safe {keep : List Bool} {torn : Int} {n i : Nat} {b : Bk} (h : b.is = true) (k : keep.getD (i % 64) false = false) (e : torn ≠ i) : keptS keep torn n i b = b.safe := by
  unfold keptS; rw [if_neg (by rw [h, k]; simp), if_neg e]
theorem crash1_spec {a1 a2 a3 : Nat} {kv : AVal} {keep : List Bool} {torn by_ : Int} {n : Nat} (q : LossAt B a1 a2 a3 p sv kv l keep torn by_ n) {i : Nat} (hi : i < l.length) (hn : n ≤ 64) (hw : (bkAt l i).now.length = 64 ∧ (bkAt l i).safe.length = 64) :
    ∃ C, S_dev_Dev_Crash_1 [.int .i64 i, .ptr ⟨a1, 0, 0⟩, .ptr ⟨a2, 0, 0⟩, .ptr ⟨a3, 0, 0⟩] B (.str (keptS keep torn n i (bkAt l i))) C ∧ B <+: C := by
  obtain ⟨r, C, h, rfl, k⟩ := dev_Dev_Crash_1.out (x0 := .int .i64 i) (x1 := .ptr ⟨a1, 0, 0⟩) (x2 := .ptr ⟨a2, 0, 0⟩) (x3 := .ptr ⟨a3, 0, 0⟩) (H := B)
    (Q := fun r C => r = .str (keptS keep torn n i (bkAt l i)) ∧ B <+: C) (by
    unfold dev_Dev_Crash_1.w
    have hs : Sep B (fun _ => False) B [] := Sep.start B
    obtain ⟨hg, hg2, hg3, hg4, hv, hw2⟩ := q
    have hb := at_ hi
    obtain ⟨e1, e2⟩ := hw
    generalize bkAt l i = b at *
    repeat first
    | ((with_reducible refine vb_i (rem64 ?_ ?_) ?_); (· omega); (· omega))
    | with_reducible refine vb_i (e_not _) ?_
    | with_reducible refine vb_i (e_nilCheck _) ?_
    | with_reducible refine vb_i (e_fieldAddr _ _) ?_
    | ((with_reducible apply vb_ld); (· first | exact hs.g0 | exact hs.g1 | exact hs.g2 | exact hs.g3 | exact hs.g4 | exact hs.g5 | exact hs.g6 | exact hs.rd hg | exact hs.rd hg2 | exact hs.rd hg3 | exact hs.rd hg4 | assumption); (· rfl))
    | ((with_reducible apply vb_addrN); (· first | exact hs.o0.view | exact hs.o1.view | exact hs.o2.view | exact hs.o3.view | exact hs.o4.view | exact hs.o5.view | exact hs.o6.view | exact hs.rv hv | exact hs.rv hv2 | exact hs.rv hv3 | exact hs.rv hv4 | exact hs.view hkv hko | assumption); (· omega))
    | ((with_reducible apply vb_elN); (· first | exact hs.o0.view | exact hs.o1.view | exact hs.o2.view | exact hs.o3.view | exact hs.o4.view | exact hs.o5.view | exact hs.o6.view | exact hs.rv hv | exact hs.rv hv2 | exact hs.rv hv3 | exact hs.rv hv4 | exact hs.view hkv hko | assumption); (· first | exact bcell_len | exact pcell_len | exact one_len | assumption); (· first | exact hb | exact hb2 | assumption))
    | ((with_reducible refine s_alloc hs ?_); intro _ _ _ hs)
    | ((with_reducible first | apply s_storeA hs | apply s_storeA hs.f1 | apply s_storeA hs.f2); (· rfl); (· first | rfl | assumption); (· first | rfl | assumption); (· first | rfl | assumption); intro _ hs)
    refine isB_bb (fun hbi => ?_) (fun hbi => ?_)
    · have hbi : b.is = false := by simpa using hbi
      repeat first
      | with_reducible refine vb_i (e_fieldAddr _ _) ?_
      | ((with_reducible apply vb_ld); (· first | exact hs.g0 | exact hs.g1 | exact hs.g2 | exact hs.g3 | exact hs.g4 | exact hs.g5 | exact hs.g6 | exact hs.rd hg | exact hs.rd hg2 | exact hs.rd hg3 | exact hs.rd hg4 | assumption); (· rfl))
      exact fin_ret (rvs_v (rvs_nil _)) ⟨hs.pre fun _ x => x, by rw [kept_now (.inl hbi)]; rfl, hs.pre fun _ x => x⟩
    · have hbi : b.is = true := by simpa using hbi
      repeat first
      | refine vb_i (lw_len hw2) ?_
      | with_reducible refine vb_i (lss64 _ _ _) ?_
      | with_reducible refine vb_i (e_fieldAddr _ _) ?_
      | ((with_reducible apply vb_ld); (· first | exact hs.g0 | exact hs.g1 | exact hs.g2 | exact hs.g3 | exact hs.g4 | exact hs.g5 | exact hs.g6 | exact hs.rd hg | exact hs.rd hg2 | exact hs.rd hg3 | exact hs.rd hg4 | assumption); (· rfl))
      have em : ((i : Int) % 64) = ((i % 64 : Nat) : Int) := by omega
      rw [em]
      by_cases hk : i % 64 < keep.length
      · have hv2 := hw2.at (by omega)
        have hx : (keep.map AVal.bool)[i % 64]? = some (.bool (keep.getD (i % 64) false)) := by
          rw [List.getElem?_map, List.getElem?_eq_getElem hk, Option.map_some, List.getD_eq_getElem?_getD, List.getElem?_eq_getElem hk]; rfl
        generalize he : keep.getD (i % 64) false = kb at *
        repeat first
        | ((with_reducible refine isB_ct ?_ ?_); (· omega))
        | with_reducible refine vb_i (e_fieldAddr _ _) ?_
        | ((with_reducible apply vb_ld); (· first | exact hs.g0 | exact hs.g1 | exact hs.g2 | exact hs.g3 | exact hs.g4 | exact hs.g5 | exact hs.g6 | exact hs.rd hg | exact hs.rd hg2 | exact hs.rd hg3 | exact hs.rd hg4 | assumption); (· rfl))
        | ((with_reducible apply vb_addrN); (· first | exact hs.o0.view | exact hs.o1.view | exact hs.o2.view | exact hs.o3.view | exact hs.o4.view | exact hs.o5.view | exact hs.o6.view | exact hs.rv hv | exact hs.rv hv2 | exact hs.rv hv3 | exact hs.rv hv4 | exact hs.view hkv hko | assumption); (· omega))
        | ((with_reducible apply vb_el0); (· first | exact hs.o0.view | exact hs.o1.view | exact hs.o2.view | exact hs.o3.view | exact hs.o4.view | exact hs.o5.view | exact hs.o6.view | exact hs.rv hv | exact hs.rv hv2 | exact hs.rv hv3 | exact hs.rv hv4 | exact hs.view hkv hko | assumption); (· first | exact hx | exact hx2 | assumption))
        cases kb
        · repeat first
          | with_reducible refine isB_F ?_
          | with_reducible refine vb_i (eql64 _ _ _) ?_
          | with_reducible refine vb_i (e_fieldAddr _ _) ?_
          | ((with_reducible apply vb_ld); (· first | exact hs.g0 | exact hs.g1 | exact hs.g2 | exact hs.g3 | exact hs.g4 | exact hs.g5 | exact hs.g6 | exact hs.rd hg | exact hs.rd hg2 | exact hs.rd hg3 | exact hs.rd hg4 | assumption); (· rfl))
          refine isB_c (fun ht => ?_) (fun ht => ?_)
          · repeat first
            | with_reducible refine vb_i (e_sliceStrTo (Int.natCast_nonneg _) (by omega)) ?_
            | with_reducible refine vb_i (e_sliceStrFrom (Int.natCast_nonneg _) (by omega)) ?_
            | with_reducible refine vb_i (adds (by simp; omega)) ?_
            | with_reducible refine vb_i (e_fieldAddr _ _) ?_
            | ((with_reducible apply vb_ld); (· first | exact hs.g0 | exact hs.g1 | exact hs.g2 | exact hs.g3 | exact hs.g4 | exact hs.g5 | exact hs.g6 | exact hs.rd hg | exact hs.rd hg2 | exact hs.rd hg3 | exact hs.rd hg4 | assumption); (· rfl))
            exact fin_ret (rvs_v (rvs_nil _)) ⟨hs.pre fun _ x => x, by rw [kept_torn hbi he ht.symm]; simp [tup1], hs.pre fun _ x => x⟩
          · repeat first
            | with_reducible refine vb_i (e_fieldAddr _ _) ?_
            | ((with_reducible apply vb_ld); (· first | exact hs.g0 | exact hs.g1 | exact hs.g2 | exact hs.g3 | exact hs.g4 | exact hs.g5 | exact hs.g6 | exact hs.rd hg | exact hs.rd hg2 | exact hs.rd hg3 | exact hs.rd hg4 | assumption); (· rfl))
            exact fin_ret (rvs_v (rvs_nil _)) ⟨hs.pre fun _ x => x, by rw [kept_safe hbi he (Ne.symm ht)]; rfl, hs.pre fun _ x => x⟩
        · repeat first
          | with_reducible refine isB_T ?_
          | with_reducible refine vb_i (e_fieldAddr _ _) ?_
          | ((with_reducible apply vb_ld); (· first | exact hs.g0 | exact hs.g1 | exact hs.g2 | exact hs.g3 | exact hs.g4 | exact hs.g5 | exact hs.g6 | exact hs.rd hg | exact hs.rd hg2 | exact hs.rd hg3 | exact hs.rd hg4 | assumption); (· rfl))
          exact fin_ret (rvs_v (rvs_nil _)) ⟨hs.pre fun _ x => x, by rw [kept_now (.inr he)]; rfl, hs.pre fun _ x => x⟩
      · have he : keep.getD (i % 64) false = false := by rw [List.getD_eq_getElem?_getD, List.getElem?_eq_none (by omega)]; rfl
        repeat first
        | ((with_reducible refine isB_cf ?_ ?_); (· omega))
        | with_reducible refine vb_i (eql64 _ _ _) ?_
        | with_reducible refine vb_i (e_fieldAddr _ _) ?_
        | ((with_reducible apply vb_ld); (· first | exact hs.g0 | exact hs.g1 | exact hs.g2 | exact hs.g3 | exact hs.g4 | exact hs.g5 | exact hs.g6 | exact hs.rd hg | exact hs.rd hg2 | exact hs.rd hg3 | exact hs.rd hg4 | assumption); (· rfl))
        refine isB_c (fun ht => ?_) (fun ht => ?_)
        · repeat first
          | with_reducible refine vb_i (e_sliceStrTo (Int.natCast_nonneg _) (by omega)) ?_
          | with_reducible refine vb_i (e_sliceStrFrom (Int.natCast_nonneg _) (by omega)) ?_
          | with_reducible refine vb_i (adds (by simp; omega)) ?_
          | with_reducible refine vb_i (e_fieldAddr _ _) ?_
          | ((with_reducible apply vb_ld); (· first | exact hs.g0 | exact hs.g1 | exact hs.g2 | exact hs.g3 | exact hs.g4 | exact hs.g5 | exact hs.g6 | exact hs.rd hg | exact hs.rd hg2 | exact hs.rd hg3 | exact hs.rd hg4 | assumption); (· rfl))
          exact fin_ret (rvs_v (rvs_nil _)) ⟨hs.pre fun _ x => x, by rw [kept_torn hbi he ht.symm]; simp [tup1], hs.pre fun _ x => x⟩
        · repeat first
          | with_reducible refine vb_i (e_fieldAddr _ _) ?_
          | ((with_reducible apply vb_ld); (· first | exact hs.g0 | exact hs.g1 | exact hs.g2 | exact hs.g3 | exact hs.g4 | exact hs.g5 | exact hs.g6 | exact hs.rd hg | exact hs.rd hg2 | exact hs.rd hg3 | exact hs.rd hg4 | assumption); (· rfl))
          exact fin_ret (rvs_v (rvs_nil _)) ⟨hs.pre fun _ x => x, by rw [kept_safe hbi he (Ne.symm ht)]; rfl, hs.pre fun _ x => x⟩)
  exact ⟨C, h, k⟩
end
end Go.Sh

/- Devices: the program's functions, on. -/
namespace Go.Sh
open Go Go.Abs

theorem fill_one (n : Nat) (x : AVal) : fillCells n [x] = List.replicate n x := by
  unfold fillCells
  induction n with
  | zero => rfl
  | succ n ih => rw [List.replicate_succ, List.flatten_cons, ih, List.replicate_succ]; rfl
theorem zs_map (n : Nat) : (zs n).map ofByte = List.replicate n (.int .u8 0) := by simp [zs, ofByte]
/-- string(make([]byte, n)) -/
theorem s_zeros {H0 B : AHeap} {own : Nat → Prop} {R : List Part} {n : Nat} {kd kd' : IntKind} {K : AVal → AHeap → Prop} (hs : Sep H0 own B R) (hn : n ≤ 1099511627776) (k : ∀ C, B <+: C → Sep H0 own C R → K (.str (zs n)) C) :
    hb (aMakeSlice B 1 [.int .u8 0] (.int kd n) (.int kd' n)) fun v C => vb (aBytes2Str C v) fun s => K s C := by
  refine s_make hs rfl rfl (by omega) (by omega) fun sv C hp _ hs => ?_
  refine vb_i (bytes_str (n := n) (l := zs n) ?_) (k C hp hs.tail)
  have := hs.o0.view
  rw [fill_one, ← zs_map] at this
  exact this

section
variable {H0 B : AHeap} {own : Nat → Prop} {R : List Part} {p : Nat} {sv : AVal} {l : List Bk}
theorem crash_nil (x : AVal) (hx : x.defd = true) : ∃ C, S_dev_Dev_Crash [.nilp, x] B (.int .i64 1) C ∧ B <+: C := by
  obtain ⟨r, C, h, rfl, k⟩ := dev_Dev_Crash.out (x0 := .nilp) (x1 := x) (H := B) (Q := fun r C => r = .int .i64 1 ∧ B <+: C) (by
    unfold dev_Dev_Crash.w
    have hs : Sep B (fun _ => False) B [] := Sep.start B
    repeat first
    | ((with_reducible apply s_box hs); (· rfl); intro _ _ _ hs; try simp only [AVal.cells] at hs)
    refine s_box hs hx fun _ _ _ hs => ?_
    repeat first
    | with_reducible refine isB_T ?_
    | with_reducible refine vb_i (e_nilNil _) ?_
    | ((with_reducible apply vb_ld); (· first | exact hs.g0 | exact hs.g1 | exact hs.g2 | exact hs.g3 | exact hs.g4 | exact hs.g5 | exact hs.g6 | exact hs.rd hg | exact hs.rd hg2 | exact hs.rd hg3 | exact hs.rd hg4 | assumption); (· rfl))
    exact fin_ret (rvs_v (rvs_nil _)) ⟨rfl, hs.pre fun _ x => x⟩)
  exact ⟨C, h, k⟩
theorem crash_spec {kv : AVal} {keep : List Bool} {torn n : Int} (h0 : Sep H0 own B (Part.dev p sv l :: R)) (hw : WB l) (hkv : Lw H0 kv keep) (hko : ∀ i, slId kv = some i → ¬ own i) :
    ∃ C, S_dev_Dev_Crash [.ptr ⟨p, 0, 0⟩, .agg [kv, .int .i64 torn, .int .i64 n]] B (.int .i64 0) C ∧ Sep H0 own C (Part.dev p sv (crashL keep torn n l) :: R) := by
  obtain ⟨r, C, h, rfl, k⟩ := dev_Dev_Crash.out (x0 := .ptr ⟨p, 0, 0⟩) (x1 := .agg [kv, .int .i64 torn, .int .i64 n]) (H := B) (Q := fun r C => r = .int .i64 0 ∧ Sep H0 own C (Part.dev p sv (crashL keep torn n l) :: R)) (by
    unfold dev_Dev_Crash.w
    have hs := h0.split
    refine s_box hs rfl fun a1 _ _ hs => ?_
    refine s_box hs rfl fun a2 _ _ hs => ?_
    simp only [AVal.cells] at hs
    repeat first
    | with_reducible refine isB_F ?_
    | with_reducible refine vb_i (e_ptrNil _ _) ?_
    | with_reducible refine vb_i (e_fieldAddr _ _) ?_
    | ((with_reducible apply vb_ld); (· first | exact hs.g0 | exact hs.g1 | exact hs.g2 | exact hs.g3 | exact hs.g4 | exact hs.g5 | exact hs.g6 | exact hs.rd hg | exact hs.rd hg2 | exact hs.rd hg3 | exact hs.rd hg4 | assumption); (· rfl))
    refine vb_i (v := .int .i64 (max n 0)) (by simp only [aFold, aMax2]; congr 2; split <;> omega) ?_
    refine vb_i (v := .int .i64 (clampN n)) (by simp only [aFold, aMin2, clampN]; congr 2; split <;> omega) ?_
    refine s_alloc hs fun a3 _ _ hs => ?_
    repeat first
    | with_reducible refine vb_i (e_nilCheck _) ?_
    | with_reducible refine vb_i (e_fieldAddr _ _) ?_
    | ((with_reducible apply vb_ld); (· first | exact hs.g0 | exact hs.g1 | exact hs.g2 | exact hs.g3 | exact hs.g4 | exact hs.g5 | exact hs.g6 | exact hs.rd hg | exact hs.rd hg2 | exact hs.rd hg3 | exact hs.rd hg4 | assumption); (· rfl))
    | ((with_reducible apply vb_len); (· first | exact hs.o0.view | exact hs.o1.view | exact hs.o2.view | exact hs.o3.view | exact hs.o4.view | exact hs.o5.view | exact hs.o6.view | exact hs.rv hv | exact hs.rv hv2 | exact hs.rv hv3 | exact hs.rv hv4 | exact hs.view hkv hko | assumption))
    | ((with_reducible first | apply s_store1 hs | apply s_store1 hs.f1 | apply s_store1 hs.f2 | apply s_store1 hs.f3); (· rfl); (· first | rfl | assumption); (· simp only [List.length_cons, List.length_nil]; omega); intro _ hs; try simp only [List.set_cons_zero, List.set_cons_succ, Nat.add_zero, Nat.zero_add] at hs)
    have hn : clampN n ≤ 64 := by unfold clampN; omega
    have h512 := hw.1
    refine LoopP.ruleG (α := Nat) (fun i => [.int .i64 i]) (fun i C => i ≤ l.length ∧ Sep H0 own C (.obj a3 (.cells 0 .exact [.int .i64 (clampN n)]) :: .obj a2 (.cells 0 .exact [kv, .int .i64 torn, .int .i64 n]) :: .obj a1 (.cells 0 .exact [.ptr ⟨p, 0, 0⟩]) :: .obj p (.cells 0 .exact [sv]) ::
      .sl sv 3 (upTo (fun i b => Bk.put (keptS keep torn (clampN n) i b)) l i).length (flat bcell (upTo (fun i b => Bk.put (keptS keep torn (clampN n) i b)) l i)) :: R)) (fun i => l.length - i) 0 rfl
      ⟨Nat.zero_le _, by rw [upTo_zero]; exact hs⟩ ?_
    clear hs
    rintro i C Kn ⟨hi, hs⟩ hk
    unfold dev_Dev_Crash.L6 dev_Dev_Crash.L6.b
    try simp only [evB]
    by_cases hin : i < l.length
    · have hb0 := at_ hin
      have hb := upTo_at (fun i b => Bk.put (keptS keep torn (clampN n) i b)) hb0
      have hj : i < (upTo (fun i b => Bk.put (keptS keep torn (clampN n) i b)) l i).length := by rw [upTo_len]; exact hin
      repeat first
      | ((with_reducible refine isB_ct ?_ ?_); (· omega))
      | with_reducible refine vb_i (lss64 _ _ _) ?_
      have eb : bkAt (upTo (fun i b => Bk.put (keptS keep torn (clampN n) i b)) l i) i = bkAt l i := by
        have := at_ hj
        rw [hb] at this
        exact (Option.some.inj this).symm
      obtain ⟨D, hc, hp⟩ := crash1_spec (B := C) (torn := torn) (by_ := n) ⟨hs.g2, hs.g1, hs.g0, hs.g3, hs.tail.o3.view, hkv.sep hs hko⟩ hj hn (by rw [eb]; exact hw.at_ hb0)
      rw [eb] at hc
      refine cb_i _ _ hc ?_
      have hs := hs.quiet hp
      repeat first
      | with_reducible refine vb_i (e_nilCheck _) ?_
      | with_reducible refine vb_i (e_fieldAddr _ _) ?_
      | ((with_reducible apply vb_ld); (· first | exact hs.g0 | exact hs.g1 | exact hs.g2 | exact hs.g3 | exact hs.g4 | exact hs.g5 | exact hs.g6 | exact hs.rd hg | exact hs.rd hg2 | exact hs.rd hg3 | exact hs.rd hg4 | assumption); (· rfl))
      | ((with_reducible apply vb_addrN); (· first | exact hs.o0.view | exact hs.o1.view | exact hs.o2.view | exact hs.o3.view | exact hs.o4.view | exact hs.o5.view | exact hs.o6.view | exact hs.rv hv | exact hs.rv hv2 | exact hs.rv hv3 | exact hs.rv hv4 | exact hs.view hkv hko | assumption); (· omega))
      | ((with_reducible apply vb_bld); (· first | rfl | (simp only [evF, evS]; rfl)))
      have hs := hs.f4
      skip
      refine s_elN hs bcell_len hj (Bk.put (keptS keep torn (clampN n) i (bkAt l i))) rfl rfl fun _ hs => ?_
      rw [upTo_step (fun i b => Bk.put (keptS keep torn (clampN n) i b)) hb0] at hs
      repeat first
      | ((with_reducible refine vb_i (add64 ?_ ?_) ?_); (· omega); (· omega))
      exact hk (i + 1) _ ⟨by omega, hs.b4⟩ (by omega)
    · obtain rfl : i = l.length := by omega
      repeat first
      | ((with_reducible refine isB_cf ?_ ?_); (· omega))
      | with_reducible refine onE_i ?_
      | with_reducible refine vb_i (lss64 _ _ _) ?_
      try simp only [evB]
      refine fin_ret (rvs_v (rvs_nil _)) ⟨rfl, ?_⟩
      rw [upTo_all] at hs
      exact hs.tail.tail.tail.join)
  exact ⟨C, h, k⟩

theorem unsafe_nil : ∃ C, S_dev_Dev_Unsafe [.nilp] B .nils C ∧ B <+: C := by
  obtain ⟨r, C, h, rfl, k⟩ := dev_Dev_Unsafe.out (x0 := .nilp) (H := B) (Q := fun r C => r = .nils ∧ B <+: C) (by
    unfold dev_Dev_Unsafe.w
    have hs : Sep B (fun _ => False) B [] := Sep.start B
    repeat first
    | with_reducible refine isB_T ?_
    | with_reducible refine vb_i (e_nilNil _) ?_
    exact fin_ret (rvs_v (rvs_nil _)) ⟨hs.pre fun _ x => x, rfl, hs.pre fun _ x => x⟩)
  exact ⟨C, h, k⟩
theorem unsafe_spec (hd : (Part.dev p sv l).ok B) (hl : l.length ≤ 512) : ∃ r C, S_dev_Dev_Unsafe [.ptr ⟨p, 0, 0⟩] B r C ∧ Sep B (fun _ => False) C [.sl r 1 (unsafeL l).length (nums (unsafeL l))] := by
  obtain ⟨r, C, h, k⟩ := dev_Dev_Unsafe.out (x0 := .ptr ⟨p, 0, 0⟩) (H := B) (Q := fun r C => Sep B (fun _ => False) C [.sl r 1 (unsafeL l).length (nums (unsafeL l))]) (by
    unfold dev_Dev_Unsafe.w
    have hs : Sep B (fun _ => False) B [] := Sep.start B
    have hg := hd.1
    have hv := hd.2.1.view
    simp only [Part.obj] at hg
    repeat first
    | with_reducible refine isB_F ?_
    | with_reducible refine vb_i (e_ptrNil _ _) ?_
    | with_reducible refine vb_i (e_nilCheck _) ?_
    | with_reducible refine vb_i (e_fieldAddr _ _) ?_
    | ((with_reducible apply vb_ld); (· first | exact hs.g0 | exact hs.g1 | exact hs.g2 | exact hs.g3 | exact hs.g4 | exact hs.g5 | exact hs.g6 | exact hs.rd hg | exact hs.rd hg2 | exact hs.rd hg3 | exact hs.rd hg4 | assumption); (· rfl))
    | ((with_reducible apply vb_len); (· first | exact hs.o0.view | exact hs.o1.view | exact hs.o2.view | exact hs.o3.view | exact hs.o4.view | exact hs.o5.view | exact hs.o6.view | exact hs.rv hv | exact hs.rv hv2 | exact hs.rv hv3 | exact hs.rv hv4 | exact hs.view hkv hko | assumption))
    refine LoopP.ruleG (α := AVal × Nat) (fun a => [a.1, .int .i64 a.2]) (fun a C => a.2 ≤ l.length ∧ Sep B (fun _ => False) C [.sl a.1 1 ((List.range a.2).filter fun i => (l.getD i bk0).is).length (nums ((List.range a.2).filter fun i => (l.getD i bk0).is))]) (fun a => l.length - a.2) (.nils, 0) rfl
      ⟨Nat.zero_le _, s_nils hs 1⟩ ?_
    clear hs
    rintro ⟨s, i⟩ C Kn ⟨hi, hs⟩ hk
    simp only at hi hs
    unfold dev_Dev_Unsafe.L5 dev_Dev_Unsafe.L5.b
    try simp only [evB]
    by_cases hin : i < l.length
    · have hb := at_ hin
      have hgd : l.getD i bk0 = bkAt l i := rfl
      have hfl : ((List.range i).filter fun i => (l.getD i bk0).is).length ≤ 512 := Nat.le_trans (List.length_filter_le _ _) (by simp; omega)
      generalize bkAt l i = b at *
      repeat first
      | ((with_reducible refine isB_ct ?_ ?_); (· omega))
      | with_reducible refine vb_i (lss64 _ _ _) ?_
      | with_reducible refine vb_i (e_fieldAddr _ _) ?_
      | ((with_reducible apply vb_ld); (· first | exact hs.g0 | exact hs.g1 | exact hs.g2 | exact hs.g3 | exact hs.g4 | exact hs.g5 | exact hs.g6 | exact hs.rd hg | exact hs.rd hg2 | exact hs.rd hg3 | exact hs.rd hg4 | assumption); (· rfl))
      | ((with_reducible apply vb_addrN); (· first | exact hs.o0.view | exact hs.o1.view | exact hs.o2.view | exact hs.o3.view | exact hs.o4.view | exact hs.o5.view | exact hs.o6.view | exact hs.rv hv | exact hs.rv hv2 | exact hs.rv hv3 | exact hs.rv hv4 | exact hs.view hkv hko | assumption); (· omega))
      | ((with_reducible apply vb_elN); (· first | exact hs.o0.view | exact hs.o1.view | exact hs.o2.view | exact hs.o3.view | exact hs.o4.view | exact hs.o5.view | exact hs.o6.view | exact hs.rv hv | exact hs.rv hv2 | exact hs.rv hv3 | exact hs.rv hv4 | exact hs.view hkv hko | assumption); (· first | exact bcell_len | exact pcell_len | exact one_len | assumption); (· first | exact hb | exact hb2 | assumption))
      | ((with_reducible refine s_alloc hs ?_); intro _ _ _ hs)
      | ((with_reducible first | apply s_storeA hs | apply s_storeA hs.f1 | apply s_storeA hs.f2); (· rfl); (· first | rfl | assumption); (· first | rfl | assumption); (· first | rfl | assumption); intro _ hs)
      refine isB_bb (fun h1 => ?_) (fun h1 => ?_)
      · refine s_push (xs := [.int .i64 i]) hs.tail rfl (by decide) rfl rfl (by unfold room; omega) (by unfold room; omega) fun s' _ hs => ?_
        repeat first
        | ((with_reducible refine vb_i (add64 ?_ ?_) ?_); (· omega); (· omega))
        refine hk (s', i + 1) _ ⟨by simp only; omega, ?_⟩ (by simp only; omega)
        simp only
        rw [List.range_succ, List.filter_append]
        have e1 : [i].filter (fun i => (l.getD i bk0).is) = [i] := by simp only [List.filter_cons, hgd, h1]; rfl
        rw [e1, List.length_append]
        simp only [nums, List.map_append]
        exact hs
      · repeat first
        | ((with_reducible refine vb_i (add64 ?_ ?_) ?_); (· omega); (· omega))
        refine hk (s, i + 1) _ ⟨by simp only; omega, ?_⟩ (by simp only; omega)
        simp only
        rw [List.range_succ, List.filter_append]
        have e1 : [i].filter (fun i => (l.getD i bk0).is) = [] := by simp only [List.filter_cons, hgd, h1]; rfl
        rw [e1, List.append_nil]
        exact hs.tail
    · obtain rfl : i = l.length := by omega
      repeat first
      | ((with_reducible refine isB_cf ?_ ?_); (· omega))
      | with_reducible refine onE_i ?_
      | with_reducible refine vb_i (lss64 _ _ _) ?_
      try simp only [evB]
      exact fin_ret (rvs_v (rvs_nil _)) ⟨hs.pre fun _ x => x, hs⟩)
  exact ⟨r, C, h, k⟩

theorem blocks_nil : ∃ C, S_dev_Dev_Blocks [.nilp] B (.int .i64 0) C ∧ B <+: C := by
  obtain ⟨r, C, h, rfl, k⟩ := dev_Dev_Blocks.out (x0 := .nilp) (H := B) (Q := fun r C => r = .int .i64 0 ∧ B <+: C) (by
    unfold dev_Dev_Blocks.w
    have hs : Sep B (fun _ => False) B [] := Sep.start B
    repeat first
    | with_reducible refine isB_T ?_
    | with_reducible refine vb_i (e_nilNil _) ?_
    exact fin_ret (rvs_v (rvs_nil _)) ⟨hs.pre fun _ x => x, rfl, hs.pre fun _ x => x⟩)
  exact ⟨C, h, k⟩
theorem blocks_spec (hd : (Part.dev p sv l).ok B) : ∃ C, S_dev_Dev_Blocks [.ptr ⟨p, 0, 0⟩] B (.int .i64 l.length) C ∧ B <+: C := by
  obtain ⟨r, C, h, rfl, k⟩ := dev_Dev_Blocks.out (x0 := .ptr ⟨p, 0, 0⟩) (H := B) (Q := fun r C => r = .int .i64 l.length ∧ B <+: C) (by
    unfold dev_Dev_Blocks.w
    have hs : Sep B (fun _ => False) B [] := Sep.start B
    have hg := hd.1
    have hv := hd.2.1.view
    simp only [Part.obj] at hg
    repeat first
    | with_reducible refine isB_F ?_
    | with_reducible refine vb_i (e_ptrNil _ _) ?_
    | with_reducible refine vb_i (e_nilCheck _) ?_
    | with_reducible refine vb_i (e_fieldAddr _ _) ?_
    | ((with_reducible apply vb_ld); (· first | exact hs.g0 | exact hs.g1 | exact hs.g2 | exact hs.g3 | exact hs.g4 | exact hs.g5 | exact hs.g6 | exact hs.rd hg | exact hs.rd hg2 | exact hs.rd hg3 | exact hs.rd hg4 | assumption); (· rfl))
    | ((with_reducible apply vb_len); (· first | exact hs.o0.view | exact hs.o1.view | exact hs.o2.view | exact hs.o3.view | exact hs.o4.view | exact hs.o5.view | exact hs.o6.view | exact hs.rv hv | exact hs.rv hv2 | exact hs.rv hv3 | exact hs.rv hv4 | exact hs.view hkv hko | assumption))
    exact fin_ret (rvs_v (rvs_nil _)) ⟨hs.pre fun _ x => x, rfl, hs.pre fun _ x => x⟩)
  exact ⟨C, h, k⟩

theorem image_nil : ∃ C, S_dev_Dev_Image [.nilp] B (.str []) C ∧ B <+: C := by
  obtain ⟨r, C, h, rfl, k⟩ := dev_Dev_Image.out (x0 := .nilp) (H := B) (Q := fun r C => r = .str [] ∧ B <+: C) (by
    unfold dev_Dev_Image.w
    have hs : Sep B (fun _ => False) B [] := Sep.start B
    repeat first
    | with_reducible refine isB_T ?_
    | with_reducible refine vb_i (e_nilNil _) ?_
    exact fin_ret (rvs_v (rvs_nil _)) ⟨hs.pre fun _ x => x, rfl, hs.pre fun _ x => x⟩)
  exact ⟨C, h, k⟩
theorem image_step {i : Nat} {b : Bk} (h : l[i]? = some b) : imageS (l.take (i + 1)) = imageS (l.take i) ++ b.now := by
  rw [List.take_add_one, h]; simp [imageS]
theorem image_len (hw : WB l) : ∀ i, i ≤ l.length → (imageS (l.take i)).length = i * 64
  | 0, _ => rfl
  | i + 1, h => by
    have hb := at_ (l := l) (j := i) (by omega)
    rw [image_step hb, List.length_append, image_len hw i (by omega), (hw.at_ hb).1]; omega
theorem image_spec (hd : (Part.dev p sv l).ok B) (hw : WB l) : ∃ C, S_dev_Dev_Image [.ptr ⟨p, 0, 0⟩] B (.str (imageS l)) C ∧ B <+: C := by
  obtain ⟨r, C, h, rfl, k⟩ := dev_Dev_Image.out (x0 := .ptr ⟨p, 0, 0⟩) (H := B) (Q := fun r C => r = .str (imageS l) ∧ B <+: C) (by
    unfold dev_Dev_Image.w
    have hs : Sep B (fun _ => False) B [] := Sep.start B
    have hg := hd.1
    have hv := hd.2.1.view
    simp only [Part.obj] at hg
    repeat first
    | with_reducible refine isB_F ?_
    | with_reducible refine vb_i (e_ptrNil _ _) ?_
    | with_reducible refine vb_i (e_nilCheck _) ?_
    | with_reducible refine vb_i (e_fieldAddr _ _) ?_
    | ((with_reducible apply vb_ld); (· first | exact hs.g0 | exact hs.g1 | exact hs.g2 | exact hs.g3 | exact hs.g4 | exact hs.g5 | exact hs.g6 | exact hs.rd hg | exact hs.rd hg2 | exact hs.rd hg3 | exact hs.rd hg4 | assumption); (· rfl))
    | ((with_reducible apply vb_len); (· first | exact hs.o0.view | exact hs.o1.view | exact hs.o2.view | exact hs.o3.view | exact hs.o4.view | exact hs.o5.view | exact hs.o6.view | exact hs.rv hv | exact hs.rv hv2 | exact hs.rv hv3 | exact hs.rv hv4 | exact hs.view hkv hko | assumption))
    refine LoopP.ruleG (α := AVal × Nat) (fun a => [a.1, .int .i64 a.2]) (fun a C => a.2 ≤ l.length ∧ Sep B (fun _ => False) C [.sl a.1 1 (imageS (l.take a.2)).length ((imageS (l.take a.2)).map ofByte)]) (fun a => l.length - a.2) (.nils, 0) rfl
      ⟨Nat.zero_le _, s_nils hs 1⟩ ?_
    clear hs
    rintro ⟨s, i⟩ C Kn ⟨hi, hs⟩ hk
    simp only at hi hs
    unfold dev_Dev_Image.L5 dev_Dev_Image.L5.b
    try simp only [evB]
    by_cases hin : i < l.length
    · have hb := at_ hin
      have hst := image_step hb
      have hln := image_len hw i hi
      have h64 := hw.at_ hb
      have h512 := hw.1
      generalize bkAt l i = b at *
      repeat first
      | ((with_reducible refine isB_ct ?_ ?_); (· omega))
      | with_reducible refine vb_i (lss64 _ _ _) ?_
      | with_reducible refine vb_i (e_fieldAddr _ _) ?_
      | ((with_reducible apply vb_ld); (· first | exact hs.g0 | exact hs.g1 | exact hs.g2 | exact hs.g3 | exact hs.g4 | exact hs.g5 | exact hs.g6 | exact hs.rd hg | exact hs.rd hg2 | exact hs.rd hg3 | exact hs.rd hg4 | assumption); (· rfl))
      | ((with_reducible apply vb_addrN); (· first | exact hs.o0.view | exact hs.o1.view | exact hs.o2.view | exact hs.o3.view | exact hs.o4.view | exact hs.o5.view | exact hs.o6.view | exact hs.rv hv | exact hs.rv hv2 | exact hs.rv hv3 | exact hs.rv hv4 | exact hs.view hkv hko | assumption); (· omega))
      | ((with_reducible apply vb_elN); (· first | exact hs.o0.view | exact hs.o1.view | exact hs.o2.view | exact hs.o3.view | exact hs.o4.view | exact hs.o5.view | exact hs.o6.view | exact hs.rv hv | exact hs.rv hv2 | exact hs.rv hv3 | exact hs.rv hv4 | exact hs.view hkv hko | assumption); (· first | exact bcell_len | exact pcell_len | exact one_len | assumption); (· first | exact hb | exact hb2 | assumption))
      | ((with_reducible refine s_alloc hs ?_); intro _ _ _ hs)
      | ((with_reducible first | apply s_storeA hs | apply s_storeA hs.f1 | apply s_storeA hs.f2); (· rfl); (· first | rfl | assumption); (· first | rfl | assumption); (· first | rfl | assumption); intro _ hs)
      refine s_apps hs.tail (by rw [hln, h64.1]; unfold room; omega) (by rw [hln, h64.1]; unfold room; omega) fun s' _ hs => ?_
      repeat first
      | ((with_reducible refine vb_i (add64 ?_ ?_) ?_); (· omega); (· omega))
      refine hk (s', i + 1) _ ⟨by simp only; omega, ?_⟩ (by simp only; omega)
      simp only
      rw [hst, List.length_append, List.map_append]
      exact hs
    · obtain rfl : i = l.length := by omega
      rw [List.take_length] at hs
      repeat first
      | ((with_reducible refine isB_cf ?_ ?_); (· omega))
      | with_reducible refine onE_i ?_
      | with_reducible refine vb_i (lss64 _ _ _) ?_
      try simp only [evB]
      refine vb_i (bytes_str hs.o0.view) ?_
      exact fin_ret (rvs_v (rvs_nil _)) ⟨hs.pre fun _ x => x, rfl, hs.pre fun _ x => x⟩)
  exact ⟨C, h, k⟩

theorem copy_nil : ∃ C, S_dev_Dev_Copy [.nilp] B .nilp C ∧ B <+: C := by
  obtain ⟨r, C, h, rfl, k⟩ := dev_Dev_Copy.out (x0 := .nilp) (H := B) (Q := fun r C => r = .nilp ∧ B <+: C) (by
    unfold dev_Dev_Copy.w
    have hs : Sep B (fun _ => False) B [] := Sep.start B
    repeat first
    | with_reducible refine isB_T ?_
    | with_reducible refine vb_i (e_nilNil _) ?_
    exact fin_ret (rvs_v (rvs_nil _)) ⟨hs.pre fun _ x => x, rfl, hs.pre fun _ x => x⟩)
  exact ⟨C, h, k⟩
end
end Go.Sh

/- Devices: made, copied. -/
namespace Go.Sh
open Go Go.Abs

section
variable {H0 B : AHeap} {own : Nat → Prop} {R : List Part} {p : Nat} {sv : AVal} {l : List Bk}
theorem copy_spec (hd : (Part.dev p sv l).ok B) (hl : l.length ≤ 512) : ∃ q sv' C, S_dev_Dev_Copy [.ptr ⟨p, 0, 0⟩] B (.ptr ⟨q, 0, 0⟩) C ∧ Sep B (fun _ => False) C [Part.dev q sv' l] := by
  obtain ⟨r, C, h, q, sv', rfl, k⟩ := dev_Dev_Copy.out (x0 := .ptr ⟨p, 0, 0⟩) (H := B) (Q := fun r C => ∃ q sv', r = .ptr ⟨q, 0, 0⟩ ∧ Sep B (fun _ => False) C [Part.dev q sv' l]) (by
    unfold dev_Dev_Copy.w
    have hs : Sep B (fun _ => False) B [] := Sep.start B
    have hg := hd.1
    have hv := hd.2.1.view
    simp only [Part.obj] at hg
    repeat first
    | with_reducible refine isB_F ?_
    | with_reducible refine vb_i (e_ptrNil _ _) ?_
    | with_reducible refine vb_i (e_nilCheck _) ?_
    | with_reducible refine vb_i (e_fieldAddr _ _) ?_
    | ((with_reducible apply vb_ld); (· first | exact hs.g0 | exact hs.g1 | exact hs.g2 | exact hs.g3 | exact hs.g4 | exact hs.g5 | exact hs.g6 | exact hs.rd hg | exact hs.rd hg2 | exact hs.rd hg3 | exact hs.rd hg4 | assumption); (· rfl))
    refine s_appv (s_nils hs 3) (by decide) hv (flat_cell bcell_cell l) (by unfold room; omega) (by unfold room; omega) fun s' _ hs => ?_
    rw [List.nil_append, Nat.zero_add] at hs
    have hsc := hs.o0.sc
    refine vb_i (bld (cs := [s']) (by rw [x_fill]; simp only [List.getElem?_cons_zero]; rw [x_fill1 hsc (by simp), x_fillNil]; rfl)) ?_
    refine s_box hs rfl fun q _ _ hs => ?_
    exact fin_ret (rvs_v (rvs_nil _)) ⟨hs.pre fun _ x => x, q, s', rfl, hs.join⟩)
  exact ⟨q, sv', C, h, k⟩
theorem new_bad {n : Int} (h : n < 1 ∨ 512 < n) : ∃ C, S_dev_New [.int .i64 n] B (.tup [.nilp, .int .i64 2]) C ∧ B <+: C := by
  obtain ⟨r, C, h, rfl, k⟩ := dev_New.out (x0 := .int .i64 n) (H := B) (Q := fun r C => r = .tup [.nilp, .int .i64 2] ∧ B <+: C) (by
    unfold dev_New.w
    have hs : Sep B (fun _ => False) B [] := Sep.start B
    refine JoinP.mk (fun e vs C => e = .ret ∧ vs = [.nilp, .int .i64 2] ∧ B = C) ?_ ?_
    · repeat first
      | with_reducible refine vb_i (lss64 _ _ _) ?_
      refine isB_c (fun h1 => ?_) (fun h1 => ?_)
      · exact ⟨rfl, rfl, rfl⟩
      · repeat first
        | ((with_reducible refine isB_ct ?_ ?_); (· first | omega | rfl | assumption | trivial))
        | with_reducible refine vb_i (gtr64 _ _ _) ?_
        exact ⟨rfl, rfl, rfl⟩
    rintro _ _ _ ⟨rfl, rfl, rfl⟩
    repeat first
    | with_reducible refine onE_i ?_
    | ((with_reducible refine onE_s ?_ ?_); (· decide))
    exact fin_ret (rvs_v (rvs_v (rvs_nil _))) ⟨List.prefix_refl _, rfl, List.prefix_refl _⟩)
  exact ⟨C, h, k⟩
theorem new_spec {n : Nat} (h1 : 1 ≤ n) (h2 : n ≤ 512) : ∃ q sv' C, S_dev_New [.int .i64 n] B (.tup [.ptr ⟨q, 0, 0⟩, .int .i64 0]) C ∧ Sep B (fun _ => False) C [Part.dev q sv' (List.replicate n bk0)] := by
  obtain ⟨r, C, h, q, sv', rfl, k⟩ := dev_New.out (x0 := .int .i64 n) (H := B) (Q := fun r C => ∃ q sv', r = .tup [.ptr ⟨q, 0, 0⟩, .int .i64 0] ∧ Sep B (fun _ => False) C [Part.dev q sv' (List.replicate n bk0)]) (by
    unfold dev_New.w
    have hs : Sep B (fun _ => False) B [] := Sep.start B
    refine JoinP.mk (fun e vs C => e = .normal ∧ B = C) ?_ ?_
    · repeat first
      | ((with_reducible refine isB_cf ?_ ?_); (· first | omega | assumption))
      | with_reducible refine vb_i (lss64 _ _ _) ?_
      | with_reducible refine vb_i (gtr64 _ _ _) ?_
      exact ⟨rfl, rfl⟩
    rintro _ _ _ ⟨rfl, rfl⟩
    repeat first
    | with_reducible refine onE_i ?_
    | ((with_reducible apply s_box hs); (· rfl); intro _ _ _ hs; try simp only [AVal.cells] at hs)
    | ((with_reducible apply vb_bld); (· first | rfl | (simp only [evF, evS]; rfl)))
    rename_i p _ _
    refine s_zeros (n := 64) hs (by decide) fun _ _ hs => ?_
    refine LoopP.ruleG (α := Nat) (fun i => [.int .i64 i]) (fun i C => i ≤ n ∧ ∃ s, Sep B (fun _ => False) C [.obj p (.cells 0 .exact [s]), .sl s 3 (List.replicate i bk0).length (flat bcell (List.replicate i bk0))]) (fun i => n - i) 0 rfl
      ⟨Nat.zero_le _, .nils, (s_nils hs 3).f1⟩ ?_
    clear hs
    rintro i C Kn ⟨hi, s, hs⟩ hk
    unfold dev_New.L6 dev_New.L6.b
    try simp only [evB]
    by_cases hin : i < n
    · repeat first
      | ((with_reducible refine isB_ct ?_ ?_); (· first | omega | rfl | assumption | trivial))
      | with_reducible refine vb_i (lss64 _ _ _) ?_
      | with_reducible refine vb_i (e_nilCheck _) ?_
      | with_reducible refine vb_i (e_fieldAddr _ _) ?_
      | ((with_reducible apply vb_ld); (· first | exact hs.g0 | exact hs.g1 | exact hs.g2 | exact hs.g3 | exact hs.g4 | exact hs.g5 | exact hs.g6 | exact hs.rd hg | exact hs.rd hg2 | exact hs.rd hg3 | exact hs.rd hg4 | assumption); (· rfl))
      | ((with_reducible apply vb_bld); (· first | rfl | (simp only [evF, evS]; rfl)))
      refine s_push (xs := bcell bk0) hs.f1 rfl (by decide) rfl rfl (by rw [List.length_replicate]; unfold room; omega) (by rw [List.length_replicate]; unfold room; omega) fun s' _ hs => ?_
      have hsc := hs.o0.sc
      repeat first
      | ((with_reducible refine vb_i (add64 ?_ ?_) ?_); (· omega); (· omega))
      | with_reducible refine vb_i (e_nilCheck _) ?_
      | with_reducible refine vb_i (e_fieldAddr _ _) ?_
      | ((with_reducible first | apply s_store1 hs | apply s_store1 hs.f1 | apply s_store1 hs.f2 | apply s_store1 hs.f3); (· rfl); (· first | rfl | assumption); (· simp only [List.length_cons, List.length_nil]; omega); intro _ hs; try simp only [List.set_cons_zero, List.set_cons_succ, Nat.add_zero, Nat.zero_add] at hs)
      have e1 : List.replicate (i + 1) bk0 = List.replicate i bk0 ++ [bk0] := List.replicate_succ'
      refine hk (i + 1) _ ⟨by omega, s', ?_⟩ (by omega)
      rw [e1, flat_app, flat_one, List.length_append]
      exact hs
    · obtain rfl : i = n := by omega
      repeat first
      | ((with_reducible refine isB_cf ?_ ?_); (· first | omega | assumption))
      | with_reducible refine onE_i ?_
      | with_reducible refine vb_i (lss64 _ _ _) ?_
      try simp only [evB]
      exact fin_ret (rvs_v (rvs_v (rvs_nil _))) ⟨hs.pre fun _ x => x, p, s, rfl, hs.join⟩)
  exact ⟨q, sv', C, h, k⟩

/-- The blocks of an image. -/
def chunk (s : List UInt8) (i : Nat) : List UInt8 := (s.take (64 * (i + 1))).drop (64 * i)
def ofL (s : List UInt8) : List Bk := (List.range (s.length / 64)).map fun i => Bk.put (chunk s i)
theorem of_bad {s : List UInt8} (hl : s.length ≤ 1099511627776) (h : s.length % 64 ≠ 0 ∨ s.length / 64 < 1 ∨ 512 < s.length / 64) : ∃ C, S_dev_Of [.str s] B (.tup [.nilp, .int .i64 (if s.length % 64 ≠ 0 then 6 else 2)]) C ∧ B <+: C := by
  obtain ⟨r, C, h, rfl, k⟩ := dev_Of.out (x0 := .str s) (H := B) (Q := fun r C => r = .tup [.nilp, .int .i64 (if s.length % 64 ≠ 0 then 6 else 2)] ∧ B <+: C) (by
    unfold dev_Of.w
    have hs : Sep B (fun _ => False) B [] := Sep.start B
    repeat first
    | with_reducible refine vb_i (neq64 _ _ _) ?_
    | ((with_reducible refine vb_i (rem64 ?_ ?_) ?_); (· omega); (· omega))
    | with_reducible refine vb_i (e_lenSt _) ?_
    refine isB_c (fun h1 => ?_) (fun h1 => ?_)
    · exact fin_ret (rvs_v (rvs_v (rvs_nil _))) ⟨List.prefix_refl _, by rw [if_pos (by omega)]; rfl, List.prefix_refl _⟩
    · repeat first
      | ((with_reducible refine vb_i (quo64 ?_ ?_ ?_) ?_); (· omega); (· omega); (· omega))
      | with_reducible refine vb_i (e_lenSt _) ?_
      obtain ⟨C, hc, k⟩ := new_bad (B := B) (n := (s.length : Int) / 64) (by omega)
      refine cb_i _ _ hc ?_
      repeat first
      | ((with_reducible refine isB_ct ?_ ?_); (· first | omega | rfl | assumption | trivial))
      | with_reducible refine vb_i e_ext0 ?_
      | with_reducible refine vb_i e_ext1 ?_
      | with_reducible refine vb_i (neq64 _ _ _) ?_
      exact fin_ret (rvs_v (rvs_v (rvs_nil _))) ⟨k, by rw [if_neg (by omega)]; rfl, k⟩)
  exact ⟨C, h, k⟩
theorem of_spec {s : List UInt8} (h0 : s.length % 64 = 0) (h1 : 1 ≤ s.length / 64) (h2 : s.length / 64 ≤ 512) : ∃ q sv' C, S_dev_Of [.str s] B (.tup [.ptr ⟨q, 0, 0⟩, .int .i64 0]) C ∧ Sep B (fun _ => False) C [Part.dev q sv' (ofL s)] := by
  obtain ⟨r, C, h, q, sv', rfl, k⟩ := dev_Of.out (x0 := .str s) (H := B) (Q := fun r C => ∃ q sv', r = .tup [.ptr ⟨q, 0, 0⟩, .int .i64 0] ∧ Sep B (fun _ => False) C [Part.dev q sv' (ofL s)]) (by
    unfold dev_Of.w
    repeat first
    | ((with_reducible refine isB_cf ?_ ?_); (· first | omega | assumption))
    | with_reducible refine vb_i (neq64 _ _ _) ?_
    | ((with_reducible refine vb_i (quo64 ?_ ?_ ?_) ?_); (· omega); (· omega); (· omega))
    | ((with_reducible refine vb_i (rem64 ?_ ?_) ?_); (· omega); (· omega))
    | with_reducible refine vb_i (e_lenSt _) ?_
    generalize hm : s.length / 64 = m at *
    have em : (s.length : Int) / 64 = (m : Nat) := by omega
    rw [em]
    obtain ⟨q, sv', C, hc, hs⟩ := new_spec (B := B) h1 h2
    refine cb_i _ _ hc ?_
    have hs := hs.split
    repeat first
    | ((with_reducible refine isB_cf ?_ ?_); (· first | omega | assumption))
    | with_reducible refine vb_i e_ext0 ?_
    | with_reducible refine vb_i e_ext1 ?_
    | with_reducible refine vb_i (neq64 _ _ _) ?_
    | with_reducible refine vb_i (e_nilCheck _) ?_
    | with_reducible refine vb_i (e_fieldAddr _ _) ?_
    | ((with_reducible apply vb_ld); (· first | exact hs.g0 | exact hs.g1 | exact hs.g2 | exact hs.g3 | exact hs.g4 | exact hs.g5 | exact hs.g6 | exact hs.rd hg | exact hs.rd hg2 | exact hs.rd hg3 | exact hs.rd hg4 | assumption); (· rfl))
    | ((with_reducible apply vb_len); (· first | exact hs.o0.view | exact hs.o1.view | exact hs.o2.view | exact hs.o3.view | exact hs.o4.view | exact hs.o5.view | exact hs.o6.view | exact hs.rv hv | exact hs.rv hv2 | exact hs.rv hv3 | exact hs.rv hv4 | exact hs.view hkv hko | assumption))
    rw [List.length_replicate]
    refine LoopP.ruleG (α := Nat) (fun i => [.int .i64 i]) (fun i C => i ≤ m ∧ Sep B (fun _ => False) C [.obj q (.cells 0 .exact [sv']), .sl sv' 3 (upTo (fun i _ => Bk.put (chunk s i)) (List.replicate m bk0) i).length (flat bcell (upTo (fun i _ => Bk.put (chunk s i)) (List.replicate m bk0) i))]) (fun i => m - i) 0 rfl
      ⟨Nat.zero_le _, by rw [upTo_zero]; exact hs⟩ ?_
    clear hs
    rintro i C Kn ⟨hi, hs⟩ hk
    unfold dev_Of.L7 dev_Of.L7.b
    try simp only [evB]
    by_cases hin : i < m
    · have hj : i < (upTo (fun i _ => Bk.put (chunk s i)) (List.replicate m bk0) i).length := by rw [upTo_len, List.length_replicate]; exact hin
      repeat first
      | with_reducible refine vb_i (e_sliceStr (by omega) (by omega) (by omega)) ?_
      | ((with_reducible refine isB_ct ?_ ?_); (· first | omega | rfl | assumption | trivial))
      | with_reducible refine vb_i (lss64 _ _ _) ?_
      | ((with_reducible refine vb_i (add64 ?_ ?_) ?_); (· omega); (· omega))
      | ((with_reducible refine vb_i (mul64 ?_ ?_) ?_); (· omega); (· omega))
      | with_reducible refine vb_i (e_nilCheck _) ?_
      | with_reducible refine vb_i (e_fieldAddr _ _) ?_
      | ((with_reducible apply vb_ld); (· first | exact hs.g0 | exact hs.g1 | exact hs.g2 | exact hs.g3 | exact hs.g4 | exact hs.g5 | exact hs.g6 | exact hs.rd hg | exact hs.rd hg2 | exact hs.rd hg3 | exact hs.rd hg4 | assumption); (· rfl))
      | ((with_reducible apply vb_addrN); (· first | exact hs.o0.view | exact hs.o1.view | exact hs.o2.view | exact hs.o3.view | exact hs.o4.view | exact hs.o5.view | exact hs.o6.view | exact hs.rv hv | exact hs.rv hv2 | exact hs.rv hv3 | exact hs.rv hv4 | exact hs.view hkv hko | assumption); (· omega))
      | ((with_reducible apply vb_bld); (· first | rfl | (simp only [evF, evS]; rfl)))
      have e1 : (64 * (i : Int)).toNat = 64 * i := by omega
      have e2 : (64 * ((i : Int) + 1)).toNat = 64 * (i + 1) := by omega
      rw [e1, e2]
      skip
      refine s_elN hs.f1 bcell_len hj (Bk.put (chunk s i)) rfl rfl fun _ hs => ?_
      rw [upTo_step (fun i _ => Bk.put (chunk s i)) (b := bk0) (by rw [List.getElem?_replicate, if_pos hin])] at hs
      repeat first
      | ((with_reducible refine vb_i (add64 ?_ ?_) ?_); (· omega); (· omega))
      exact hk (i + 1) _ ⟨by omega, hs.f1⟩ (by omega)
    · obtain rfl : i = m := by omega
      repeat first
      | ((with_reducible refine isB_cf ?_ ?_); (· first | omega | assumption))
      | with_reducible refine onE_i ?_
      | with_reducible refine vb_i (lss64 _ _ _) ?_
      try simp only [evB]
      refine fin_ret (rvs_v (rvs_v (rvs_nil _))) ⟨hs.pre fun _ x => x, q, sv', rfl, ?_⟩
      have e1 : upTo (fun i _ => Bk.put (chunk s i)) (List.replicate i bk0) i = ofL s := by
        apply List.ext_getElem?
        intro k
        simp only [upTo, ofL, List.getElem?_mapIdx, List.getElem?_map, hm]
        by_cases hk : k < i
        · simp [hk]
        · rw [List.getElem?_eq_none (by simp; omega), List.getElem?_eq_none (by simp; omega)]; rfl
      rw [e1] at hs
      exact hs.join)
  exact ⟨q, sv', C, h, k⟩
theorem ofL_len (s : List UInt8) : (ofL s).length = s.length / 64 := by simp [ofL]
theorem ofL_at {s : List UInt8} {i : Nat} (h : i < s.length / 64) : bkAt (ofL s) i = Bk.put (chunk s i) := by
  unfold bkAt ofL
  rw [Int.toNat_natCast, List.getD_eq_getElem?_getD, List.getElem?_map, List.getElem?_range h]; rfl
theorem chunk_len {s : List UInt8} {i : Nat} (h : i < s.length / 64) : (chunk s i).length = 64 := by
  unfold chunk; rw [List.length_drop, List.length_take]; omega
theorem ofL_WB {s : List UInt8} (h2 : s.length / 64 ≤ 512) : WB (ofL s) := by
  refine ⟨by rw [ofL_len]; exact h2, fun b hb => ?_⟩
  simp only [ofL, List.mem_map, List.mem_range] at hb
  obtain ⟨i, hi, rfl⟩ := hb
  exact ⟨chunk_len hi, chunk_len hi⟩
theorem chunks_all (s : List UInt8) : ∀ n, 64 * n ≤ s.length → ((List.range n).map (chunk s)).flatten = s.take (64 * n)
  | 0, _ => by simp
  | n + 1, h => by
    rw [List.range_succ, List.map_append, List.flatten_append, chunks_all s n (by omega)]
    simp only [List.map_cons, List.map_nil, List.flatten_cons, List.flatten_nil, List.append_nil, chunk]
    have : s.take (64 * n) = (s.take (64 * (n + 1))).take (64 * n) := by rw [List.take_take, Nat.min_eq_left (by omega)]
    rw [this, List.take_append_drop]
theorem ofL_image {s : List UInt8} (h0 : s.length % 64 = 0) : imageS (ofL s) = s := by
  have := chunks_all s (s.length / 64) (by omega)
  rw [show 64 * (s.length / 64) = s.length by omega, List.take_length] at this
  conv => rhs; rw [← this]
  simp only [imageS, ofL, List.map_map]
  rfl
theorem ofL_unsafe (s : List UInt8) : unsafeL (ofL s) = [] := by
  unfold unsafeL
  rw [List.filter_eq_nil_iff]
  intro i hi
  rw [List.mem_range, ofL_len] at hi
  have := ofL_at hi
  unfold bkAt at this
  rw [Int.toNat_natCast] at this
  rw [this]; simp [Bk.put]
theorem rep_WB (n : Nat) (h : n ≤ 512) : WB (List.replicate n bk0) := by
  refine ⟨by rw [List.length_replicate]; exact h, fun b hb => ?_⟩
  obtain rfl := (List.mem_replicate.1 hb).2
  exact ⟨by simp [bk0, zs], by simp [bk0, zs]⟩
theorem flush_WB (h : WB l) : WB (l.map Bk.flush) := by
  refine ⟨by rw [List.length_map]; exact h.1, fun b hb => ?_⟩
  obtain ⟨c, hc, rfl⟩ := List.mem_map.1 hb
  exact ⟨(h.2 c hc).1, (h.2 c hc).1⟩
theorem kept_len {keep : List Bool} {torn : Int} {n i : Nat} {b : Bk} (hn : n ≤ 64) (h : b.now.length = 64 ∧ b.safe.length = 64) : (keptS keep torn n i b).length = 64 := by
  unfold keptS
  split
  · exact h.1
  · split
    · rw [List.length_append, List.length_take, List.length_drop]; omega
    · exact h.2
theorem crash_len (keep : List Bool) (torn n : Int) : (crashL keep torn n l).length = l.length := by simp [crashL]
theorem crash_WB {keep : List Bool} {torn n : Int} (h : WB l) : WB (crashL keep torn n l) := by
  refine ⟨by rw [crash_len]; exact h.1, fun b hb => ?_⟩
  obtain ⟨i, hi⟩ := List.mem_iff_getElem?.1 hb
  simp only [crashL, List.getElem?_mapIdx] at hi
  cases hc : l[i]? with
  | none => rw [hc] at hi; cases hi
  | some c =>
    rw [hc] at hi
    cases hi
    have := kept_len (keep := keep) (torn := torn) (i := i) (n := clampN n) (by unfold clampN; omega) (h.at_ hc)
    exact ⟨this, this⟩
end
end Go.Sh

/- What Go functions come to over abstract values, printed by a program (wx.py); of each function its own text is what is told of it. -/
namespace Go.Sh
open Go Go.Abs

def cellaretlaw10_few.w (x0 : AVal) (H : AHeap) (K : AVal → AHeap → Prop) : Prop :=
  hb (aBox H x0) fun v1 H2 =>
  vb (aFieldAddr 2 v1) fun v3 =>
  vb (aLoad H2 false 1 v3) fun v4 =>
  vb (lenSt v4) fun v5 =>
  vb (aBin .lss v5 (.int .i64 300)) fun v6 =>
  fin .ret [.v (v6)] H2 K

def S_cellaretlaw10_few : Abs.Spec := fun args H r H' => ∃ x0 : AVal, args = [x0] ∧ (cellaretlaw10_few.w x0 H fun r1 H1 => r1 = r ∧ H1 = H') ∧ H <+: H'
theorem cellaretlaw10_few.ok (args : List AVal) (H : AHeap) (r : AVal) (H' : AHeap) (h : S_cellaretlaw10_few args H r H') : ∃ x0 : AVal, args = [x0] ∧ cellaretlaw10_few.w x0 H fun r1 H1 => r1 = r ∧ H1 = H' := by
  obtain ⟨x0, h1, h2, _⟩ := h
  exact ⟨x0, h1, h2⟩
theorem cellaretlaw10_few.quiet {args : List AVal} {H : AHeap} {r : AVal} {H' : AHeap} (h : S_cellaretlaw10_few args H r H') : H <+: H' := by
  obtain ⟨_, _, _, h⟩ := h
  exact h
set_option maxRecDepth 100000 in
theorem cellaretlaw10_few.ex (x0 : AVal) (H : AHeap) : Ex fun K : AVal × AHeap → Prop => cellaretlaw10_few.w x0 H fun r H => K (r, H) := by
  unfold cellaretlaw10_few.w
  repeat with_reducible first
    | exact Ex.pt _
    | exact Ex.fin
    | exact Ex.no
    | refine Ex.vb fun _ => ?_
    | refine Ex.hb fun _ _ => ?_
    | refine Ex.sb fun _ => ?_
    | refine Ex.cb fun _ _ => ?_
    | refine Ex.isB fun _ => ?_
    | refine Ex.cond ?_ ?_
    | refine Ex.onE ?_ ?_
    | refine Ex.join ?_ fun _ _ _ => ?_
    | refine Ex.loop (fun _ _ => ?_) fun _ _ _ => ?_

theorem cellaretlaw10_few.out {x0 : AVal} {H : AHeap} {Q : AVal → AHeap → Prop} (h : cellaretlaw10_few.w x0 H fun r H' => H <+: H' ∧ Q r H') : ∃ r H', S_cellaretlaw10_few [x0] H r H' ∧ Q r H' := by
  obtain ⟨r, H', h1, h2⟩ := (cellaretlaw10_few.ex x0 H).out h
  exact ⟨r, H', ⟨_, rfl, h1, h2.1⟩, h2.2⟩

def cellaretlaw10_text.w (x0 : AVal) (H : AHeap) (K : AVal → AHeap → Prop) : Prop :=
  hb (aBox H x0) fun v1 H2 =>
  JoinP (fun Kj3 => vb (aFieldAddr 3 v1) fun v4 =>
    vb (aLoad H2 false 1 v4) fun v5 =>
    isB v5 fun b6 => cond b6
      (vb (aFieldAddr 2 v1) fun v7 =>
            vb (aLoad H2 false 1 v7) fun v8 =>
            Kj3 .ret [v8] H2)
      (vb (aFieldAddr 2 v1) fun v9 =>
      vb (aLoad H2 false 1 v9) fun v10 =>
        vb (lenSt v10) fun v11 =>
          vb (aBin .gtr v11 (.int .i64 64)) fun v12 =>
            isB v12 fun b13 => cond b13
              (vb (aFieldAddr 2 v1) fun v14 =>
              vb (aLoad H2 false 1 v14) fun v15 =>
              Kj3 .ret [v15] H2)
              (Kj3 .normal [.str []] H2)))
  (fun e16 vs17 H18 =>
    onE e16 .normal
      (vb (aFieldAddr 2 v1) fun v19 =>
      vb (aLoad H18 false 1 v19) fun v20 =>
      cb (S_cellaretref01_Full [v20, .int .i64 64] H18) fun v21 H22 =>
      fin .ret [.v (v21)] H22 K)
    (onE e16 .ret
      (fin .ret [.v (vs17.getD 0 .undef)] H18 K)
    (False)))

def S_cellaretlaw10_text : Abs.Spec := fun args H r H' => ∃ x0 : AVal, args = [x0] ∧ (cellaretlaw10_text.w x0 H fun r1 H1 => r1 = r ∧ H1 = H') ∧ H <+: H'
theorem cellaretlaw10_text.ok (args : List AVal) (H : AHeap) (r : AVal) (H' : AHeap) (h : S_cellaretlaw10_text args H r H') : ∃ x0 : AVal, args = [x0] ∧ cellaretlaw10_text.w x0 H fun r1 H1 => r1 = r ∧ H1 = H' := by
  obtain ⟨x0, h1, h2, _⟩ := h
  exact ⟨x0, h1, h2⟩
theorem cellaretlaw10_text.quiet {args : List AVal} {H : AHeap} {r : AVal} {H' : AHeap} (h : S_cellaretlaw10_text args H r H') : H <+: H' := by
  obtain ⟨_, _, _, h⟩ := h
  exact h
set_option maxRecDepth 100000 in
theorem cellaretlaw10_text.ex (x0 : AVal) (H : AHeap) : Ex fun K : AVal × AHeap → Prop => cellaretlaw10_text.w x0 H fun r H => K (r, H) := by
  unfold cellaretlaw10_text.w
  repeat with_reducible first
    | exact Ex.pt _
    | exact Ex.fin
    | exact Ex.no
    | refine Ex.vb fun _ => ?_
    | refine Ex.hb fun _ _ => ?_
    | refine Ex.sb fun _ => ?_
    | refine Ex.cb fun _ _ => ?_
    | refine Ex.isB fun _ => ?_
    | refine Ex.cond ?_ ?_
    | refine Ex.onE ?_ ?_
    | refine Ex.join ?_ fun _ _ _ => ?_
    | refine Ex.loop (fun _ _ => ?_) fun _ _ _ => ?_

theorem cellaretlaw10_text.out {x0 : AVal} {H : AHeap} {Q : AVal → AHeap → Prop} (h : cellaretlaw10_text.w x0 H fun r H' => H <+: H' ∧ Q r H') : ∃ r H', S_cellaretlaw10_text [x0] H r H' ∧ Q r H' := by
  obtain ⟨r, H', h1, h2⟩ := (cellaretlaw10_text.ex x0 H).out h
  exact ⟨r, H', ⟨_, rfl, h1, h2.1⟩, h2.2⟩

def cellaretlaw10_awake.w (H : AHeap) (K : AVal → AHeap → Prop) : Prop :=
  cb (S_dev_New [.int .i64 3] H) fun v1 H2 =>
  vb (aExtract v1 0) fun v3 =>
  vb (aExtract v1 1) fun v4 =>
  JoinP (fun Kj5 => vb (aBin .neq v4 (.int .i64 0)) fun v6 =>
    isB v6 fun b7 => cond b7
      (Kj5 .ret [.bool false] H2)
      (vb (aEql false .ptr H2 v3 .nilp) fun v8 =>
        isB v8 fun b9 => cond b9
          (Kj5 .ret [.bool false] H2)
          (Kj5 .normal [.bool false] H2)))
  (fun e10 vs11 H12 =>
    onE e10 .normal
      (cb (S_cellaretref01_Full [.str [97], .int .i64 64] H12) fun v13 H14 =>
      cb (S_cellaretref01_Full [.str [98], .int .i64 64] H14) fun v15 H16 =>
      cb (S_dev_Dev_Write [v3, .int .i64 1, v13] H16) fun v17 H18 =>
      cb (S_dev_Dev_Flush [v3] H18) fun v19 H20 =>
      cb (S_dev_Dev_Write [v3, .int .i64 1, v15] H20) fun v21 H22 =>
      cb (S_dev_Dev_Read [v3, .int .i64 1] H22) fun v23 H24 =>
      vb (aExtract v23 0) fun v25 =>
      vb (aExtract v23 1) fun v26 =>
      cb (S_dev_Dev_Unsafe [v3] H24) fun v27 H28 =>
      vb (aBuild [.nils, .int .i64 0, .int .i64 0] (fun k => ([(0, 1), (1, 1), (2, 1)] : List (Nat × Nat))[k]?) []) fun v29 =>
      cb (S_dev_Dev_Crash [v3, v29] H28) fun v30 H31 =>
      cb (S_dev_Dev_Read [v3, .int .i64 1] H31) fun v32 H33 =>
      vb (aExtract v32 0) fun v34 =>
      vb (aExtract v32 1) fun v35 =>
      vb (aBin .eql v25 v15) fun v36 =>
      isB v36 fun b37 => cond b37
        (vb (aBin .eql v34 v13) fun v38 =>
            isB v38 fun b39 => cond b39
              (vb (aBin .eql v26 (.int .i64 0)) fun v40 =>
                isB v40 fun b41 => cond b41
                  (vb (aBin .eql v35 (.int .i64 0)) fun v42 =>
                    isB v42 fun b43 => cond b43
                      (hb (aBuildSlice H33 1 [.int .i64 0] 1 [(0, .int .i64 1)]) fun v44 H45 =>
                        cb (S_cellaretref01_Ints [v27, v44] H45) fun v46 H47 =>
                          isB v46 fun b48 => cond b48
                            (cb (S_dev_Dev_Blocks [v3] H47) fun v49 H50 =>
                              vb (aBin .eql v49 (.int .i64 3)) fun v51 =>
                                fin .ret [.v (v51)] H50 K)
                            (fin .ret [.v (.bool false)] H47 K))
                      (fin .ret [.v (.bool false)] H33 K))
                  (fin .ret [.v (.bool false)] H33 K))
              (fin .ret [.v (.bool false)] H33 K))
        (fin .ret [.v (.bool false)] H33 K))
    (onE e10 .ret
      (fin .ret [.v (vs11.getD 0 .undef)] H12 K)
    (False)))

def S_cellaretlaw10_awake : Abs.Spec := fun args H r H' => args = [] ∧ (cellaretlaw10_awake.w H fun r1 H1 => r1 = r ∧ H1 = H') ∧ H <+: H'
theorem cellaretlaw10_awake.ok (args : List AVal) (H : AHeap) (r : AVal) (H' : AHeap) (h : S_cellaretlaw10_awake args H r H') : args = [] ∧ cellaretlaw10_awake.w H fun r1 H1 => r1 = r ∧ H1 = H' := by
  obtain ⟨h1, h2, _⟩ := h
  exact ⟨h1, h2⟩
theorem cellaretlaw10_awake.quiet {args : List AVal} {H : AHeap} {r : AVal} {H' : AHeap} (h : S_cellaretlaw10_awake args H r H') : H <+: H' := by
  obtain ⟨_, _, h⟩ := h
  exact h
set_option maxRecDepth 100000 in
theorem cellaretlaw10_awake.ex (H : AHeap) : Ex fun K : AVal × AHeap → Prop => cellaretlaw10_awake.w H fun r H => K (r, H) := by
  unfold cellaretlaw10_awake.w
  repeat with_reducible first
    | exact Ex.pt _
    | exact Ex.fin
    | exact Ex.no
    | refine Ex.vb fun _ => ?_
    | refine Ex.hb fun _ _ => ?_
    | refine Ex.sb fun _ => ?_
    | refine Ex.cb fun _ _ => ?_
    | refine Ex.isB fun _ => ?_
    | refine Ex.cond ?_ ?_
    | refine Ex.onE ?_ ?_
    | refine Ex.join ?_ fun _ _ _ => ?_
    | refine Ex.loop (fun _ _ => ?_) fun _ _ _ => ?_

theorem cellaretlaw10_awake.out {H : AHeap} {Q : AVal → AHeap → Prop} (h : cellaretlaw10_awake.w H fun r H' => H <+: H' ∧ Q r H') : ∃ r H', S_cellaretlaw10_awake [] H r H' ∧ Q r H' := by
  obtain ⟨r, H', h1, h2⟩ := (cellaretlaw10_awake.ex H).out h
  exact ⟨r, H', ⟨rfl, h1, h2.1⟩, h2.2⟩

def cellaretlaw10_DevNone.w (x0 : AVal) (H : AHeap) (K : AVal → AHeap → Prop) : Prop :=
  hb (aBox H x0) fun v1 H2 =>
  vb (aLoad H2 true 7 v1) fun v3 =>
  cb (S_cellaretlaw10_few [v3] H2) fun v4 H5 =>
  vb (aUn .not v4) fun v6 =>
  isB v6 fun b7 => cond b7
    (cb (S_cellaretlaw10_awake [] H5) fun v8 H9 =>
    fin .ret [.v (v8)] H9 K)
    (vb (aFieldAddr 1 v1) fun v10 =>
    vb (aLoad H5 false 1 v10) fun v11 =>
    cb (S_dev_Dev_Read [.nilp, v11] H5) fun v12 H13 =>
    vb (aExtract v12 0) fun v14 =>
    vb (aExtract v12 1) fun v15 =>
    cb (S_cellaretlaw10_awake [] H13) fun v16 H17 =>
    isB v16 fun b18 => cond b18
      (vb (aBin .eql v14 (.str [])) fun v19 =>
        isB v19 fun b20 => cond b20
          (vb (aBin .eql v15 (.int .i64 1)) fun v21 =>
            isB v21 fun b22 => cond b22
              (vb (aFieldAddr 1 v1) fun v23 =>
                vb (aLoad H17 false 1 v23) fun v24 =>
                  vb (aLoad H17 true 7 v1) fun v25 =>
                    cb (S_cellaretlaw10_text [v25] H17) fun v26 H27 =>
                      cb (S_dev_Dev_Write [.nilp, v24, v26] H27) fun v28 H29 =>
                        vb (aBin .eql v28 (.int .i64 1)) fun v30 =>
                          isB v30 fun b31 => cond b31
                            (cb (S_dev_Dev_Flush [.nilp] H29) fun v32 H33 =>
                              vb (aBin .eql v32 (.int .i64 1)) fun v34 =>
                                isB v34 fun b35 => cond b35
                                  (vb (aFieldAddr 1 v1) fun v36 =>
                                    vb (aLoad H33 false 1 v36) fun v37 =>
                                      vb (aLoad H33 true 7 v1) fun v38 =>
                                        cb (S_cellaretlaw10_text [v38] H33) fun v39 H40 =>
                                          cb (S_dev_Dev_Tamper [.nilp, v37, v39] H40) fun v41 H42 =>
                                            vb (aBin .eql v41 (.int .i64 1)) fun v43 =>
                                              isB v43 fun b44 => cond b44
                                                (vb (aFieldAddr 4 v1) fun v45 =>
                                                  vb (aLoad H42 true 3 v45) fun v46 =>
                                                    cb (S_dev_Dev_Crash [.nilp, v46] H42) fun v47 H48 =>
                                                      vb (aBin .eql v47 (.int .i64 1)) fun v49 =>
                                                        isB v49 fun b50 => cond b50
                                                          (cb (S_dev_Dev_Unsafe [.nilp] H48) fun v51 H52 =>
                                                            vb (lenSl v51) fun v53 =>
                                                              cb (S_dev_Dev_Blocks [.nilp] H52) fun v54 H55 =>
                                                                  vb (aBin .add v53 v54) fun v56 =>
                                                                    cb (S_dev_Dev_Image [.nilp] H55) fun v57 H58 =>
                                                                        vb (lenSt v57) fun v59 =>
                                                                          vb (aBin .add v56 v59) fun v60 =>
                                                                            vb (aBin .eql v60 (.int .i64 0)) fun v61 =>
                                                                              isB v61 fun b62 => cond b62
                                                                                (cb (S_dev_Dev_Copy [.nilp] H58) fun v63 H64 =>
                                                                                  vb (aEql false .ptr H64 v63 .nilp) fun v65 =>
                                                                                    fin .ret [.v (v65)] H64 K)
                                                                                (fin .ret [.v (.bool false)] H58 K))
                                                          (fin .ret [.v (.bool false)] H48 K))
                                                (fin .ret [.v (.bool false)] H42 K))
                                  (fin .ret [.v (.bool false)] H33 K))
                            (fin .ret [.v (.bool false)] H29 K))
              (fin .ret [.v (.bool false)] H17 K))
          (fin .ret [.v (.bool false)] H17 K))
      (fin .ret [.v (.bool false)] H17 K))

def S_cellaretlaw10_DevNone : Abs.Spec := fun args H r H' => ∃ x0 : AVal, args = [x0] ∧ (cellaretlaw10_DevNone.w x0 H fun r1 H1 => r1 = r ∧ H1 = H')
theorem cellaretlaw10_DevNone.ok (args : List AVal) (H : AHeap) (r : AVal) (H' : AHeap) (h : S_cellaretlaw10_DevNone args H r H') : ∃ x0 : AVal, args = [x0] ∧ cellaretlaw10_DevNone.w x0 H fun r1 H1 => r1 = r ∧ H1 = H' := by
  obtain ⟨x0, h1, h2⟩ := h
  exact ⟨x0, h1, h2⟩
set_option maxRecDepth 100000 in
theorem cellaretlaw10_DevNone.ex (x0 : AVal) (H : AHeap) : Ex fun K : AVal × AHeap → Prop => cellaretlaw10_DevNone.w x0 H fun r H => K (r, H) := by
  unfold cellaretlaw10_DevNone.w
  repeat with_reducible first
    | exact Ex.pt _
    | exact Ex.fin
    | exact Ex.no
    | refine Ex.vb fun _ => ?_
    | refine Ex.hb fun _ _ => ?_
    | refine Ex.sb fun _ => ?_
    | refine Ex.cb fun _ _ => ?_
    | refine Ex.isB fun _ => ?_
    | refine Ex.cond ?_ ?_
    | refine Ex.onE ?_ ?_
    | refine Ex.join ?_ fun _ _ _ => ?_
    | refine Ex.loop (fun _ _ => ?_) fun _ _ _ => ?_

theorem cellaretlaw10_DevNone.out {x0 : AVal} {H : AHeap} {Q : AVal → AHeap → Prop} (h : cellaretlaw10_DevNone.w x0 H fun r H' => Q r H') : ∃ r H', S_cellaretlaw10_DevNone [x0] H r H' ∧ Q r H' := by
  obtain ⟨r, H', h1, h2⟩ := (cellaretlaw10_DevNone.ex x0 H).out h
  exact ⟨r, H', ⟨_, rfl, h1⟩, h2⟩

def cellaretlaw10_DevImages.w (x0 : AVal) (x1 : AVal) (H : AHeap) (K : AVal → AHeap → Prop) : Prop :=
  vb (lenSt x0) fun v1 =>
  vb (aBin .gtr v1 (.int .i64 70000)) fun v2 =>
  isB v2 fun b3 => cond b3
    (cb (S_cellaretlaw10_awake [] H) fun v4 H5 =>
    fin .ret [.v (v4)] H5 K)
    (cb (S_dev_Of [x0] H) fun v6 H7 =>
    vb (aExtract v6 0) fun v8 =>
    vb (aExtract v6 1) fun v9 =>
    vb (lenSt x0) fun v10 =>
    vb (aBin .quo v10 (.int .i64 64)) fun v11 =>
    vb (lenSt x0) fun v12 =>
    vb (aBin .rem v12 (.int .i64 64)) fun v13 =>
    vb (aBin .neq v13 (.int .i64 0)) fun v14 =>
    isB v14 fun b15 => cond b15
      (cb (S_cellaretlaw10_awake [] H7) fun v16 H17 =>
      isB v16 fun b18 => cond b18
        (vb (aEql false .ptr H17 v8 .nilp) fun v19 =>
          isB v19 fun b20 => cond b20
            (vb (aBin .eql v9 (.int .i64 6)) fun v21 =>
              fin .ret [.v (v21)] H17 K)
            (fin .ret [.v (.bool false)] H17 K))
        (fin .ret [.v (.bool false)] H17 K))
      (vb (aBin .lss v11 (.int .i64 1)) fun v22 =>
      isB v22 fun b23 => cond b23
        (cb (S_cellaretlaw10_awake [] H7) fun v24 H25 =>
          isB v24 fun b26 => cond b26
            (vb (aEql false .ptr H25 v8 .nilp) fun v27 =>
              isB v27 fun b28 => cond b28
                (vb (aBin .eql v9 (.int .i64 2)) fun v29 =>
                  fin .ret [.v (v29)] H25 K)
                (fin .ret [.v (.bool false)] H25 K))
            (fin .ret [.v (.bool false)] H25 K))
        (vb (aBin .gtr v11 (.int .i64 512)) fun v30 =>
          isB v30 fun b31 => cond b31
            (cb (S_cellaretlaw10_awake [] H7) fun v32 H33 =>
            isB v32 fun b34 => cond b34
              (vb (aEql false .ptr H33 v8 .nilp) fun v35 =>
                isB v35 fun b36 => cond b36
                  (vb (aBin .eql v9 (.int .i64 2)) fun v37 =>
                    fin .ret [.v (v37)] H33 K)
                  (fin .ret [.v (.bool false)] H33 K))
              (fin .ret [.v (.bool false)] H33 K))
            (cb (S_dev_Dev_Read [v8, x1] H7) fun v38 H39 =>
            vb (aExtract v38 0) fun v40 =>
            vb (aExtract v38 1) fun v41 =>
            JoinP (fun Kj42 => vb (aBin .lss x1 (.int .i64 0)) fun v43 =>
              isB v43 fun b44 => cond b44
                (cb (S_cellaretlaw10_awake [] H39) fun v45 H46 =>
                    isB v45 fun b47 => cond b47
                      (vb (aBin .eql v9 (.int .i64 0)) fun v48 =>
                        isB v48 fun b49 => cond b49
                          (vb (aBin .eql v40 (.str [])) fun v50 =>
                            isB v50 fun b51 => cond b51
                              (vb (aBin .eql v41 (.int .i64 3)) fun v52 =>
                                Kj42 .ret [v52] H46)
                              (Kj42 .ret [.bool false] H46))
                          (Kj42 .ret [.bool false] H46))
                      (Kj42 .ret [.bool false] H46))
                (vb (aBin .geq x1 v11) fun v53 =>
                    isB v53 fun b54 => cond b54
                      (cb (S_cellaretlaw10_awake [] H39) fun v55 H56 =>
                      isB v55 fun b57 => cond b57
                        (vb (aBin .eql v9 (.int .i64 0)) fun v58 =>
                          isB v58 fun b59 => cond b59
                            (vb (aBin .eql v40 (.str [])) fun v60 =>
                              isB v60 fun b61 => cond b61
                                (vb (aBin .eql v41 (.int .i64 3)) fun v62 =>
                                  Kj42 .ret [v62] H56)
                                (Kj42 .ret [.bool false] H56))
                            (Kj42 .ret [.bool false] H56))
                        (Kj42 .ret [.bool false] H56))
                      (Kj42 .normal [.bool false] H39)))
            (fun e63 vs64 H65 =>
              onE e63 .normal
                (cb (S_cellaretlaw10_awake [] H65) fun v66 H67 =>
                isB v66 fun b68 => cond b68
                  (vb (aBin .eql v9 (.int .i64 0)) fun v69 =>
                    isB v69 fun b70 => cond b70
                      (vb (aBin .eql v41 (.int .i64 0)) fun v71 =>
                        isB v71 fun b72 => cond b72
                          (vb (aBin .mul (.int .i64 64) x1) fun v73 =>
                                vb (aBin .mul (.int .i64 64) x1) fun v74 =>
                                    vb (aBin .add v74 (.int .i64 64)) fun v75 =>
                                      vb (aSliceStr x0 (some v73) (some v75)) fun v76 =>
                                        vb (aBin .eql v40 v76) fun v77 =>
                                          isB v77 fun b78 => cond b78
                                            (cb (S_dev_Dev_Image [v8] H67) fun v79 H80 =>
                                              vb (aBin .eql v79 x0) fun v81 =>
                                                  isB v81 fun b82 => cond b82
                                                    (cb (S_dev_Dev_Unsafe [v8] H80) fun v83 H84 =>
                                                      vb (lenSl v83) fun v85 =>
                                                        vb (aBin .eql v85 (.int .i64 0)) fun v86 =>
                                                          fin .ret [.v (v86)] H84 K)
                                                    (fin .ret [.v (.bool false)] H80 K))
                                            (fin .ret [.v (.bool false)] H67 K))
                          (fin .ret [.v (.bool false)] H67 K))
                      (fin .ret [.v (.bool false)] H67 K))
                  (fin .ret [.v (.bool false)] H67 K))
              (onE e63 .ret
                (fin .ret [.v (vs64.getD 0 .undef)] H65 K)
              (False)))))))

def S_cellaretlaw10_DevImages : Abs.Spec := fun args H r H' => ∃ x0 x1 : AVal, args = [x0, x1] ∧ (cellaretlaw10_DevImages.w x0 x1 H fun r1 H1 => r1 = r ∧ H1 = H')
theorem cellaretlaw10_DevImages.ok (args : List AVal) (H : AHeap) (r : AVal) (H' : AHeap) (h : S_cellaretlaw10_DevImages args H r H') : ∃ x0 x1 : AVal, args = [x0, x1] ∧ cellaretlaw10_DevImages.w x0 x1 H fun r1 H1 => r1 = r ∧ H1 = H' := by
  obtain ⟨x0, x1, h1, h2⟩ := h
  exact ⟨x0, x1, h1, h2⟩
set_option maxRecDepth 100000 in
theorem cellaretlaw10_DevImages.ex (x0 x1 : AVal) (H : AHeap) : Ex fun K : AVal × AHeap → Prop => cellaretlaw10_DevImages.w x0 x1 H fun r H => K (r, H) := by
  unfold cellaretlaw10_DevImages.w
  repeat with_reducible first
    | exact Ex.pt _
    | exact Ex.fin
    | exact Ex.no
    | refine Ex.vb fun _ => ?_
    | refine Ex.hb fun _ _ => ?_
    | refine Ex.sb fun _ => ?_
    | refine Ex.cb fun _ _ => ?_
    | refine Ex.isB fun _ => ?_
    | refine Ex.cond ?_ ?_
    | refine Ex.onE ?_ ?_
    | refine Ex.join ?_ fun _ _ _ => ?_
    | refine Ex.loop (fun _ _ => ?_) fun _ _ _ => ?_

theorem cellaretlaw10_DevImages.out {x0 x1 : AVal} {H : AHeap} {Q : AVal → AHeap → Prop} (h : cellaretlaw10_DevImages.w x0 x1 H fun r H' => Q r H') : ∃ r H', S_cellaretlaw10_DevImages [x0, x1] H r H' ∧ Q r H' := by
  obtain ⟨r, H', h1, h2⟩ := (cellaretlaw10_DevImages.ex x0 x1 H).out h
  exact ⟨r, H', ⟨_, _, rfl, h1⟩, h2⟩

end Go.Sh

/- Devices: the laws. -/
namespace Go.Sh
open Go Go.Abs

section
variable {H0 B : AHeap} {own : Nat → Prop} {R : List Part} {p : Nat} {sv : AVal} {l : List Bk}
theorem full64 (s : List UInt8) (h : s.length ≤ 64) : (full s 64).length = 64 := full_len h
theorem Sep.q0 (h : Sep H0 own B R) {C : AHeap} {R2 : List Part} (k : Sep B (fun _ => False) C R2) : Sep H0 own C (R2 ++ R) := h.call0 (k.own_of fun _ x => x.elim)
theorem awake10 : ∃ C, S_cellaretlaw10_awake [] B (.bool true) C ∧ B <+: C := by
  obtain ⟨r, C, h, rfl, k⟩ := cellaretlaw10_awake.out (H := B) (Q := fun r C => r = .bool true ∧ B <+: C) (by
    unfold cellaretlaw10_awake.w
    obtain ⟨q, sv, C, hc, k⟩ := new_spec (B := B) (n := 3) (by decide) (by decide)
    refine cb_i _ _ hc ?_
    have hs : Sep B (fun _ => False) C [Part.dev q sv (List.replicate 3 bk0)] := k
    repeat first
    | with_reducible refine vb_i e_ext0 ?_
    | with_reducible refine vb_i e_ext1 ?_
    refine JoinP.mk (fun e vs D => e = .normal ∧ C = D) ?_ ?_
    · repeat first
      | with_reducible refine isB_F ?_
      | ((with_reducible refine isB_cf ?_ ?_); (· omega))
      | with_reducible refine vb_i (neq64 _ _ _) ?_
      | with_reducible refine vb_i (e_ptrNil _ _) ?_
      exact ⟨rfl, rfl⟩
    rintro _ _ _ ⟨rfl, rfl⟩
    repeat first
    | with_reducible refine onE_i ?_
    refine cb_i (.str (full [97] 64)) _ ⟨[97], 64, rfl, by decide, rfl, rfl⟩ ?_
    refine cb_i (.str (full [98] 64)) _ ⟨[98], 64, rfl, by decide, rfl, rfl⟩ ?_
    have ha := full64 [97] (by decide)
    have hb' := full64 [98] (by decide)
    generalize full [97] 64 = a at *
    generalize full [98] 64 = b at *
    have m1 : ∀ (l : List Bk) (s : List UInt8), l.length = 3 → s.length = 64 → mayE l.length 1 s = 0 := fun l s h1 h2 => by unfold mayE; rw [h1, if_neg (by omega), if_neg (by omega)]
    have hz : (zs 64).length = 64 := zs_len 64
    obtain ⟨C, hc, hs⟩ := write_spec hs 1 a
    rw [m1 _ _ rfl ha, if_pos rfl] at hs
    rw [m1 _ _ rfl ha] at hc
    refine cb_i _ _ hc ?_
    have hs : Sep B (fun _ => False) C [Part.dev q sv [bk0, ⟨a, zs 64, true⟩, bk0]] := hs
    obtain ⟨C, hc, hs⟩ := flush_spec hs (by simp)
    refine cb_i _ _ hc ?_
    have hs : Sep B (fun _ => False) C [Part.dev q sv [bk0, ⟨a, a, false⟩, bk0]] := hs
    obtain ⟨C, hc, hs⟩ := write_spec hs 1 b
    rw [m1 _ _ rfl hb', if_pos rfl] at hs
    rw [m1 _ _ rfl hb'] at hc
    refine cb_i _ _ hc ?_
    have hs : Sep B (fun _ => False) C [Part.dev q sv [bk0, ⟨b, a, true⟩, bk0]] := hs
    obtain ⟨C, hc, hp⟩ := read_spec hs.head 1
    refine cb_i (.tup [.str b, .int .i64 0]) _ hc ?_
    have hs := hs.quiet hp
    repeat first
    | with_reducible refine vb_i e_ext0 ?_
    | with_reducible refine vb_i e_ext1 ?_
    obtain ⟨u, C, hc, k⟩ := unsafe_spec hs.head (by simp)
    refine cb_i _ _ hc ?_
    have hs : Sep B (fun _ => False) C [Part.dev q sv [bk0, ⟨b, a, true⟩, bk0], .sl u 1 [1].length (nums [1])] := (Sep.q0 hs k).f1
    repeat first
    | ((with_reducible apply vb_bld); (· first | rfl | (simp only [evF, evS]; rfl)))
    obtain ⟨C, hc, hs⟩ := crash_spec (kv := .nils) (keep := []) (torn := 0) (n := 0) hs ⟨by simp, fun x hx => by simp at hx; rcases hx with rfl | rfl | rfl <;> simp [bk0, ha, hb', hz]⟩ (lw_nil _) (by simp [slId])
    refine cb_i _ _ hc ?_
    have hs : Sep B (fun _ => False) C [Part.dev q sv [bk0, ⟨a, a, false⟩, bk0], .sl u 1 [1].length (nums [1])] := hs
    obtain ⟨C, hc, hp⟩ := read_spec hs.head 1
    refine cb_i (.tup [.str a, .int .i64 0]) _ hc ?_
    have hs := hs.quiet hp
    repeat first
    | ((with_reducible refine isB_ct ?_ ?_); (· omega))
    | ((with_reducible refine isB_ct ?_ ?_); (· with_reducible rfl))
    | with_reducible refine vb_i e_ext0 ?_
    | with_reducible refine vb_i e_ext1 ?_
    | with_reducible refine vb_i (eql64 _ _ _) ?_
    | with_reducible refine vb_i (eqls _ _) ?_
    refine s_row (cs := [.int .i64 1]) hs rfl fun j C _ hs => ?_
    refine cb_i (.bool true) _ ⟨_, _, [1], [1], rfl, hs.o2.view, ⟨rfl, .inr ⟨j, 0, 0, _, .exact, [.int .i64 1], rfl, hs.g0, fun _ => by decide, rfl, Nat.le_refl _⟩⟩, by decide, rfl, rfl⟩ ?_
    repeat first
    | with_reducible refine isB_T ?_
    have hs := hs.tail
    obtain ⟨C, hc, hp⟩ := blocks_spec hs.head
    refine cb_i (.int .i64 3) _ hc ?_
    have hs := hs.quiet hp
    repeat first
    | with_reducible refine vb_i (eql64 _ _ _) ?_
    exact fin_ret (rvs_v (rvs_nil _)) ⟨hs.pre fun _ x => x, rfl, hs.pre fun _ x => x⟩)
  exact ⟨C, h, k⟩
end
end Go.Sh

/- Devices: the laws. -/
namespace Go.Sh
open Go Go.Abs

section
variable {H0 B : AHeap} {own : Nat → Prop} {R : List Part} {p : Nat} {sv : AVal} {l : List Bk}
theorem few10 {k i : Int} {s : List UInt8} {raw : Bool} {kv : AVal} {torn n : Int} (hkv : kv.sc = true) :
    ∃ C, S_cellaretlaw10_few [.agg [.int .i64 k, .int .i64 i, .str s, .bool raw, kv, .int .i64 torn, .int .i64 n]] B (.bool (decide (s.length < 300))) C ∧ B <+: C := by
  obtain ⟨r, C, h, rfl, k⟩ := cellaretlaw10_few.out (x0 := .agg [.int .i64 k, .int .i64 i, .str s, .bool raw, kv, .int .i64 torn, .int .i64 n]) (H := B) (Q := fun r C => r = .bool (decide (s.length < 300)) ∧ B <+: C) (by
    unfold cellaretlaw10_few.w
    have hs : Sep B (fun _ => False) B [] := Sep.start B
    repeat first
    | with_reducible refine vb_i (lss64 _ _ _) ?_
    | with_reducible refine vb_i (e_lenSt _) ?_
    | with_reducible refine vb_i (e_fieldAddr _ _) ?_
    | ((with_reducible apply vb_ld); (· first | exact hs.g0 | exact hs.g1 | exact hs.g2 | exact hs.g3 | exact hs.g4 | exact hs.g5 | exact hs.g6 | exact hs.rd hg | exact hs.rd hg2 | exact hs.rd hg3 | exact hs.rd hg4 | assumption); (· rfl))
    | ((with_reducible apply s_box hs); (· rfl); intro _ _ _ hs; try simp only [AVal.cells] at hs)
    have e : decide ((s.length : Int) < 300) = decide (s.length < 300) := decide_eq_decide.2 (by omega)
    rw [e]
    have hp := hs.pre fun _ x => x
    exact fin_ret (vs := [.bool (decide (s.length < 300))]) (rvs_v (rvs_nil _)) ⟨hp, by simp only [tup1], hp⟩)
  exact ⟨C, h, k⟩
def text64 (raw : Bool) (s : List UInt8) : List UInt8 := if raw = true ∨ 64 < s.length then s else full s 64
theorem text10 {k i : Int} {s : List UInt8} {raw : Bool} {kv : AVal} {torn n : Int} (hkv : kv.sc = true) :
    ∃ C, S_cellaretlaw10_text [.agg [.int .i64 k, .int .i64 i, .str s, .bool raw, kv, .int .i64 torn, .int .i64 n]] B (.str (text64 raw s)) C ∧ B <+: C := by
  obtain ⟨r, C, h, rfl, k⟩ := cellaretlaw10_text.out (x0 := .agg [.int .i64 k, .int .i64 i, .str s, .bool raw, kv, .int .i64 torn, .int .i64 n]) (H := B) (Q := fun r C => r = .str (text64 raw s) ∧ B <+: C) (by
    unfold cellaretlaw10_text.w
    have hs : Sep B (fun _ => False) B [] := Sep.start B
    repeat first
    | ((with_reducible apply s_box hs); (· rfl); intro _ _ _ hs; try simp only [AVal.cells] at hs)
    rename_i q C _
    refine JoinP.mk (fun e vs D => C = D ∧ ((e = .ret ∧ vs = [.str s] ∧ (raw = true ∨ 64 < s.length)) ∨ (e = .normal ∧ ¬ (raw = true ∨ 64 < s.length)))) ?_ ?_
    · repeat first
      | with_reducible refine vb_i (e_fieldAddr _ _) ?_
      | ((with_reducible apply vb_ld); (· first | exact hs.g0 | exact hs.g1 | exact hs.g2 | exact hs.g3 | exact hs.g4 | exact hs.g5 | exact hs.g6 | exact hs.rd hg | exact hs.rd hg2 | exact hs.rd hg3 | exact hs.rd hg4 | assumption); (· rfl))
      refine isB_bb (fun h1 => ?_) (fun h1 => ?_)
      · repeat first
        | with_reducible refine vb_i (e_fieldAddr _ _) ?_
        | ((with_reducible apply vb_ld); (· first | exact hs.g0 | exact hs.g1 | exact hs.g2 | exact hs.g3 | exact hs.g4 | exact hs.g5 | exact hs.g6 | exact hs.rd hg | exact hs.rd hg2 | exact hs.rd hg3 | exact hs.rd hg4 | assumption); (· rfl))
        exact ⟨rfl, .inl ⟨rfl, rfl, .inl h1⟩⟩
      · repeat first
        | with_reducible refine vb_i (gtr64 _ _ _) ?_
        | with_reducible refine vb_i (e_lenSt _) ?_
        | with_reducible refine vb_i (e_fieldAddr _ _) ?_
        | ((with_reducible apply vb_ld); (· first | exact hs.g0 | exact hs.g1 | exact hs.g2 | exact hs.g3 | exact hs.g4 | exact hs.g5 | exact hs.g6 | exact hs.rd hg | exact hs.rd hg2 | exact hs.rd hg3 | exact hs.rd hg4 | assumption); (· rfl))
        refine isB_c (fun h2 => ?_) (fun h2 => ?_)
        · repeat first
          | with_reducible refine vb_i (e_fieldAddr _ _) ?_
          | ((with_reducible apply vb_ld); (· first | exact hs.g0 | exact hs.g1 | exact hs.g2 | exact hs.g3 | exact hs.g4 | exact hs.g5 | exact hs.g6 | exact hs.rd hg | exact hs.rd hg2 | exact hs.rd hg3 | exact hs.rd hg4 | assumption); (· rfl))
          exact ⟨rfl, .inl ⟨rfl, rfl, .inr (by omega)⟩⟩
        · exact ⟨rfl, .inr ⟨rfl, by rw [h1]; simp; omega⟩⟩
    rintro _ _ _ ⟨rfl, ⟨rfl, rfl, h1⟩ | ⟨rfl, h1⟩⟩
    · repeat first
      | with_reducible refine onE_i ?_
      | ((with_reducible refine onE_s ?_ ?_); (· decide))
      try simp only [evB]
      exact fin_ret (rvs_v (rvs_nil _)) ⟨hs.pre fun _ x => x, by unfold text64; rw [if_pos h1]; rfl, hs.pre fun _ x => x⟩
    · repeat first
      | with_reducible refine onE_i ?_
      | with_reducible refine vb_i (e_fieldAddr _ _) ?_
      | ((with_reducible apply vb_ld); (· first | exact hs.g0 | exact hs.g1 | exact hs.g2 | exact hs.g3 | exact hs.g4 | exact hs.g5 | exact hs.g6 | exact hs.rd hg | exact hs.rd hg2 | exact hs.rd hg3 | exact hs.rd hg4 | assumption); (· rfl))
      refine cb_i (.str (full s 64)) _ ⟨s, 64, rfl, by decide, rfl, rfl⟩ ?_
      exact fin_ret (rvs_v (rvs_nil _)) ⟨hs.pre fun _ x => x, by unfold text64; rw [if_neg h1]; rfl, hs.pre fun _ x => x⟩)
  exact ⟨C, h, k⟩
theorem law_DevNone (k i : Int) (s : List UInt8) (raw : Bool) (kv : AVal) (torn n : Int) (hkv : kv.sc = true) (B : AHeap) :
    ∃ C, S_cellaretlaw10_DevNone [.agg [.int .i64 k, .int .i64 i, .str s, .bool raw, kv, .int .i64 torn, .int .i64 n]] B (.bool true) C := by
  obtain ⟨r, C, h, rfl⟩ := cellaretlaw10_DevNone.out (x0 := .agg [.int .i64 k, .int .i64 i, .str s, .bool raw, kv, .int .i64 torn, .int .i64 n]) (H := B) (Q := fun r C => r = .bool true) (by
    unfold cellaretlaw10_DevNone.w
    have hs : Sep B (fun _ => False) B [] := Sep.start B
    repeat first
    | ((with_reducible apply vb_ldA); (· first | exact hs.g0 | exact hs.g1 | exact hs.g2 | exact hs.g3 | exact hs.g4 | exact hs.g5 | exact hs.g6 | exact hs.rd hg | exact hs.rd hg2 | exact hs.rd hg3 | exact hs.rd hg4 | assumption); (· rfl))
    | ((with_reducible apply s_box hs); (· rfl); intro _ _ _ hs; try simp only [AVal.cells] at hs)
    obtain ⟨C, hc, hp⟩ := few10 (k := k) (i := i) (s := s) (raw := raw) (torn := torn) (n := n) hkv
    refine cb_i _ _ hc ?_
    have hs := hs.quiet hp
    repeat first
    | with_reducible refine vb_i e_notd ?_
    refine isB_c (fun h1 => ?_) (fun h1 => ?_)
    · obtain ⟨C, hc, hp⟩ := awake10
      refine cb_i _ _ hc ?_
      exact fin_ret (rvs_v (rvs_nil _)) rfl
    repeat first
    | with_reducible refine vb_i (e_fieldAddr _ _) ?_
    | ((with_reducible apply vb_ld); (· first | exact hs.g0 | exact hs.g1 | exact hs.g2 | exact hs.g3 | exact hs.g4 | exact hs.g5 | exact hs.g6 | exact hs.rd hg | exact hs.rd hg2 | exact hs.rd hg3 | exact hs.rd hg4 | assumption); (· rfl))
    obtain ⟨C, hc, hp⟩ := read_nil (.int .i64 i)
    refine cb_i _ _ hc ?_
    have hs := hs.quiet hp
    repeat first
    | with_reducible refine vb_i e_ext0 ?_
    | with_reducible refine vb_i e_ext1 ?_
    obtain ⟨C, hc, hp⟩ := awake10
    refine cb_i _ _ hc ?_
    have hs := hs.quiet hp
    repeat first
    | with_reducible refine isB_T ?_
    | ((with_reducible refine isB_ct ?_ ?_); (· first | omega | rfl | assumption | trivial))
    | with_reducible refine vb_i (eql64 _ _ _) ?_
    | with_reducible refine vb_i (eqls _ _) ?_
    | with_reducible refine vb_i (e_fieldAddr _ _) ?_
    | ((with_reducible apply vb_ld); (· first | exact hs.g0 | exact hs.g1 | exact hs.g2 | exact hs.g3 | exact hs.g4 | exact hs.g5 | exact hs.g6 | exact hs.rd hg | exact hs.rd hg2 | exact hs.rd hg3 | exact hs.rd hg4 | assumption); (· rfl))
    | ((with_reducible apply vb_ldA); (· first | exact hs.g0 | exact hs.g1 | exact hs.g2 | exact hs.g3 | exact hs.g4 | exact hs.g5 | exact hs.g6 | exact hs.rd hg | exact hs.rd hg2 | exact hs.rd hg3 | exact hs.rd hg4 | assumption); (· rfl))
    obtain ⟨C, hc, hp⟩ := text10 (k := k) (i := i) (s := s) (raw := raw) (torn := torn) (n := n) hkv
    refine cb_i _ _ hc ?_
    have hs := hs.quiet hp
    obtain ⟨C, hc, hp⟩ := write_nil (.int .i64 i) (.str (text64 raw s))
    refine cb_i _ _ hc ?_
    have hs := hs.quiet hp
    repeat first
    | ((with_reducible refine isB_ct ?_ ?_); (· first | omega | rfl | assumption | trivial))
    | with_reducible refine vb_i (eql64 _ _ _) ?_
    obtain ⟨C, hc, hp⟩ := flush_nil
    refine cb_i _ _ hc ?_
    have hs := hs.quiet hp
    repeat first
    | ((with_reducible refine isB_ct ?_ ?_); (· first | omega | rfl | assumption | trivial))
    | with_reducible refine vb_i (eql64 _ _ _) ?_
    | with_reducible refine vb_i (e_fieldAddr _ _) ?_
    | ((with_reducible apply vb_ld); (· first | exact hs.g0 | exact hs.g1 | exact hs.g2 | exact hs.g3 | exact hs.g4 | exact hs.g5 | exact hs.g6 | exact hs.rd hg | exact hs.rd hg2 | exact hs.rd hg3 | exact hs.rd hg4 | assumption); (· rfl))
    | ((with_reducible apply vb_ldA); (· first | exact hs.g0 | exact hs.g1 | exact hs.g2 | exact hs.g3 | exact hs.g4 | exact hs.g5 | exact hs.g6 | exact hs.rd hg | exact hs.rd hg2 | exact hs.rd hg3 | exact hs.rd hg4 | assumption); (· rfl))
    obtain ⟨C, hc, hp⟩ := text10 (k := k) (i := i) (s := s) (raw := raw) (torn := torn) (n := n) hkv
    refine cb_i _ _ hc ?_
    have hs := hs.quiet hp
    obtain ⟨C, hc, hp⟩ := tamper_nil (.int .i64 i) (.str (text64 raw s))
    refine cb_i _ _ hc ?_
    have hs := hs.quiet hp
    repeat first
    | ((with_reducible refine isB_ct ?_ ?_); (· first | omega | rfl | assumption | trivial))
    | with_reducible refine vb_i (eql64 _ _ _) ?_
    | with_reducible refine vb_i (e_fieldAddr _ _) ?_
    | ((with_reducible apply vb_ldP); (· first | exact hs.g0 | exact hs.g1 | exact hs.g2 | exact hs.g3 | exact hs.g4 | exact hs.g5 | exact hs.g6 | exact hs.rd hg | exact hs.rd hg2 | exact hs.rd hg3 | exact hs.rd hg4 | assumption); (· rfl); (· rfl))
    obtain ⟨C, hc, hp⟩ := crash_nil (.agg [kv, .int .i64 torn, .int .i64 n]) rfl
    refine cb_i _ _ hc ?_
    have hs := hs.quiet hp
    repeat first
    | ((with_reducible refine isB_ct ?_ ?_); (· first | omega | rfl | assumption | trivial))
    | with_reducible refine vb_i (eql64 _ _ _) ?_
    obtain ⟨C, hc, hp⟩ := unsafe_nil
    refine cb_i _ _ hc ?_
    have hs := hs.quiet hp
    repeat first
    | (with_reducible refine vb_i e_lenNil ?_)
    obtain ⟨C, hc, hp⟩ := blocks_nil
    refine cb_i _ _ hc ?_
    have hs := hs.quiet hp
    repeat first
    | ((with_reducible refine vb_i (add64 ?_ ?_) ?_); (· omega); (· omega))
    obtain ⟨C, hc, hp⟩ := image_nil
    refine cb_i _ _ hc ?_
    have hs := hs.quiet hp
    repeat first
    | with_reducible refine vb_i (e_lenSt _) ?_
    obtain ⟨C, hc, hp⟩ := copy_nil
    refine cb_i _ _ hc ?_
    have hs := hs.quiet hp
    repeat first
    | with_reducible refine vb_i (e_nilNil _) ?_
    exact fin_ret (rvs_v (rvs_nil _)) rfl)
  exact ⟨C, h⟩
theorem law_DevImages (s : List UInt8) (i : Int) (hi : -9223372036854775808 ≤ i ∧ i < 9223372036854775808) (hl : s.length ≤ 1099511627776) (B : AHeap) : ∃ C, S_cellaretlaw10_DevImages [.str s, .int .i64 i] B (.bool true) C := by
  obtain ⟨r, C, h, rfl⟩ := cellaretlaw10_DevImages.out (x0 := .str s) (x1 := .int .i64 i) (H := B) (Q := fun r C => r = .bool true) (by
    unfold cellaretlaw10_DevImages.w
    have hs : Sep B (fun _ => False) B [] := Sep.start B
    have hsl : (s.length : Int) / 64 = ((s.length / 64 : Nat) : Int) := by omega
    repeat first
    | with_reducible refine vb_i (gtr64 _ _ _) ?_
    | with_reducible refine vb_i (e_lenSt _) ?_
    refine isB_c (fun h1 => ?_) (fun h1 => ?_)
    · obtain ⟨C, hc, hp⟩ := awake10
      refine cb_i _ _ hc ?_
      exact fin_ret (rvs_v (rvs_nil _)) rfl
    by_cases hbad : s.length % 64 ≠ 0 ∨ s.length / 64 < 1 ∨ 512 < s.length / 64
    · obtain ⟨C, hc, hp⟩ := of_bad (B := B) hl hbad
      refine cb_i _ _ hc ?_
      have hs := hs.quiet hp
      by_cases h64 : s.length % 64 ≠ 0
      · rw [if_pos h64]
        repeat first
        | ((with_reducible refine isB_ct ?_ ?_); (· first | omega | rfl | assumption | trivial))
        | with_reducible refine vb_i e_ext0 ?_
        | with_reducible refine vb_i e_ext1 ?_
        | with_reducible refine vb_i (neq64 _ _ _) ?_
        | ((with_reducible refine vb_i (quo64 ?_ ?_ ?_) ?_); (· omega); (· omega); (· omega))
        | ((with_reducible refine vb_i (rem64 ?_ ?_) ?_); (· omega); (· omega))
        | with_reducible refine vb_i (e_lenSt _) ?_
        obtain ⟨C, hc, hp⟩ := awake10
        refine cb_i _ _ hc ?_
        have hs := hs.quiet hp
        repeat first
        | with_reducible refine isB_T ?_
        | with_reducible refine vb_i (eql64 _ _ _) ?_
        | with_reducible refine vb_i (e_nilNil _) ?_
        exact fin_ret (rvs_v (rvs_nil _)) rfl
      · rw [if_neg h64]
        repeat first
        | ((with_reducible refine isB_cf ?_ ?_); (· first | omega | assumption))
        | with_reducible refine vb_i e_ext0 ?_
        | with_reducible refine vb_i e_ext1 ?_
        | with_reducible refine vb_i (lss64 _ _ _) ?_
        | with_reducible refine vb_i (neq64 _ _ _) ?_
        | ((with_reducible refine vb_i (quo64 ?_ ?_ ?_) ?_); (· omega); (· omega); (· omega))
        | ((with_reducible refine vb_i (rem64 ?_ ?_) ?_); (· omega); (· omega))
        | with_reducible refine vb_i (e_lenSt _) ?_
        refine isB_c (fun h2 => ?_) (fun h2 => ?_)
        · obtain ⟨C, hc, hp⟩ := awake10
          refine cb_i _ _ hc ?_
          have hs := hs.quiet hp
          repeat first
          | with_reducible refine isB_T ?_
          | with_reducible refine vb_i (eql64 _ _ _) ?_
          | with_reducible refine vb_i (e_nilNil _) ?_
          exact fin_ret (rvs_v (rvs_nil _)) rfl
        · repeat first
          | ((with_reducible refine isB_ct ?_ ?_); (· first | omega | rfl | assumption | trivial))
          | with_reducible refine vb_i (gtr64 _ _ _) ?_
          obtain ⟨C, hc, hp⟩ := awake10
          refine cb_i _ _ hc ?_
          have hs := hs.quiet hp
          repeat first
          | with_reducible refine isB_T ?_
          | with_reducible refine vb_i (eql64 _ _ _) ?_
          | with_reducible refine vb_i (e_nilNil _) ?_
          exact fin_ret (rvs_v (rvs_nil _)) rfl
    · obtain ⟨q, sv, C, hc, hs⟩ := of_spec (B := B) (s := s) (by omega) (by omega) (by omega)
      refine cb_i _ _ hc ?_
      repeat first
      | ((with_reducible refine isB_cf ?_ ?_); (· first | omega | assumption))
      | with_reducible refine vb_i e_ext0 ?_
      | with_reducible refine vb_i e_ext1 ?_
      | with_reducible refine vb_i (lss64 _ _ _) ?_
      | with_reducible refine vb_i (gtr64 _ _ _) ?_
      | with_reducible refine vb_i (neq64 _ _ _) ?_
      | ((with_reducible refine vb_i (quo64 ?_ ?_ ?_) ?_); (· omega); (· omega); (· omega))
      | ((with_reducible refine vb_i (rem64 ?_ ?_) ?_); (· omega); (· omega))
      | with_reducible refine vb_i (e_lenSt _) ?_
      obtain ⟨C, hc, hp⟩ := read_spec hs.head i
      refine cb_i _ _ hc ?_
      have hs := hs.quiet hp
      have hle := ofL_len s
      by_cases hb : i < 0 ∨ (ofL s).length ≤ i
      · have e1 : readR (ofL s) i = .tup [.str [], .int .i64 3] := if_pos hb
        rw [e1]
        repeat first
        | with_reducible refine vb_i e_ext0 ?_
        | with_reducible refine vb_i e_ext1 ?_
        refine JoinP.mk (fun e vs D => e = .ret ∧ vs = [.bool true]) ?_ ?_
        · repeat first
          | with_reducible refine vb_i (lss64 _ _ _) ?_
          refine isB_c (fun h3 => ?_) (fun h3 => ?_)
          · obtain ⟨C, hc, hp⟩ := awake10
            refine cb_i _ _ hc ?_
            have hs := hs.quiet hp
            repeat first
            | with_reducible refine isB_T ?_
            | ((with_reducible refine isB_ct ?_ ?_); (· first | omega | rfl | assumption | trivial))
            | with_reducible refine vb_i (eql64 _ _ _) ?_
            | with_reducible refine vb_i (eqls _ _) ?_
            exact ⟨rfl, rfl⟩
          · repeat first
            | ((with_reducible refine isB_ct ?_ ?_); (· first | omega | rfl | assumption | trivial))
            | with_reducible refine vb_i (geq64 _ _ _) ?_
            obtain ⟨C, hc, hp⟩ := awake10
            refine cb_i _ _ hc ?_
            have hs := hs.quiet hp
            repeat first
            | with_reducible refine isB_T ?_
            | ((with_reducible refine isB_ct ?_ ?_); (· first | omega | rfl | assumption | trivial))
            | with_reducible refine vb_i (eql64 _ _ _) ?_
            | with_reducible refine vb_i (eqls _ _) ?_
            exact ⟨rfl, rfl⟩
        rintro _ _ _ ⟨rfl, rfl⟩
        repeat first
        | with_reducible refine onE_i ?_
        | ((with_reducible refine onE_s ?_ ?_); (· decide))
        try simp only [evB]
        exact fin_ret (rvs_v (rvs_nil _)) rfl
      · obtain ⟨j, rfl⟩ : ∃ j : Nat, i = j := ⟨i.toNat, by omega⟩
        have hj : j < s.length / 64 := by omega
        have e1 : readR (ofL s) j = .tup [.str (chunk s j), .int .i64 0] := by
          unfold readR; rw [if_neg hb, ofL_at hj]; rfl
        rw [e1]
        repeat first
        | with_reducible refine vb_i e_ext0 ?_
        | with_reducible refine vb_i e_ext1 ?_
        refine JoinP.mk (fun e vs D => e = .normal ∧ C = D) ?_ ?_
        · repeat first
          | ((with_reducible refine isB_cf ?_ ?_); (· first | omega | assumption))
          | with_reducible refine vb_i (lss64 _ _ _) ?_
          | with_reducible refine vb_i (geq64 _ _ _) ?_
          exact ⟨rfl, rfl⟩
        rintro _ _ _ ⟨rfl, rfl⟩
        repeat first
        | with_reducible refine onE_i ?_
        obtain ⟨C, hc, hp⟩ := awake10
        refine cb_i _ _ hc ?_
        have hs := hs.quiet hp
        repeat first
        | with_reducible refine vb_i (e_sliceStr (by omega) (by omega) (by omega)) ?_
        | with_reducible refine isB_T ?_
        | ((with_reducible refine isB_ct ?_ ?_); (· first | omega | rfl | assumption | trivial))
        | with_reducible refine vb_i (eql64 _ _ _) ?_
        | with_reducible refine vb_i (eqls _ _) ?_
        | ((with_reducible refine vb_i (add64 ?_ ?_) ?_); (· omega); (· omega))
        | ((with_reducible refine vb_i (mul64 ?_ ?_) ?_); (· omega); (· omega))
        skip
        obtain ⟨C, hc, hp⟩ := image_spec hs.head (ofL_WB (by omega))
        rw [ofL_image (by omega)] at hc
        refine cb_i _ _ hc ?_
        have hs := hs.quiet hp
        repeat first
        | ((with_reducible refine isB_ct ?_ ?_); (· first | omega | rfl | assumption | trivial))
        | with_reducible refine vb_i (eqls _ _) ?_
        obtain ⟨u, C, hc, k⟩ := unsafe_spec hs.head (by omega)
        rw [ofL_unsafe] at k
        refine cb_i _ _ hc ?_
        have hs : Sep B (fun _ => False) C [.sl u 1 0 (nums []), Part.dev q sv (ofL s)] := Sep.q0 hs k
        repeat first
        | with_reducible refine vb_i (eql64 _ _ _) ?_
        | ((with_reducible apply vb_len); (· first | exact hs.o0.view | exact hs.o1.view | exact hs.o2.view | exact hs.o3.view | exact hs.o4.view | exact hs.o5.view | exact hs.o6.view | exact hs.rv hv | exact hs.rv hv2 | exact hs.rv hv3 | exact hs.rv hv4 | exact hs.view hkv hko | assumption))
        exact fin_ret (rvs_v (rvs_nil _)) rfl)
  exact ⟨C, h⟩
end
end Go.Sh
