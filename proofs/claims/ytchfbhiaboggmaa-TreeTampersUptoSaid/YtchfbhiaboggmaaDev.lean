/- One text of these: Dev0, DevW1, DevP1, DevP2, DevP3, DevP4, DevW2, DevP5, DevP6. -/
import Derived.Test.YtchfbhiaboggmaaAbsF
import Derived.Test.YtchfbhiaboggmaaRon

/- Devices: what a device has. -/
namespace Go.Sh
open Go Go.Abs

structure Bk where
  now : List UInt8
  safe : List UInt8
  is : Bool
def bcell (b : Bk) : List AVal := [.str b.now, .str b.safe, .bool b.is]
theorem bcell_len (b : Bk) : (bcell b).length = 3 := rfl
/-- A device: where it lies, its slice, its blocks. -/
def Part.dev (p : Nat) (sv : AVal) (l : List Bk) : Part := (Part.obj p (.cells 0 .exact [sv])).and (Part.sl sv 3 l.length (flat bcell l))
def mayE (n : Nat) (i : Int) (s : List UInt8) : Int := if i < 0 ∨ n ≤ i then 3 else if s.length ≠ 64 then 6 else 0
def bk0 : Bk := ⟨zs 64, zs 64, false⟩
def bkAt (l : List Bk) (i : Int) : Bk := l.getD i.toNat bk0
/-- Written. -/
def Bk.write (s : List UInt8) (b : Bk) : Bk := ⟨s, b.safe, true⟩
end Go.Sh

/- What Go functions come to over abstract values, printed by a program (wx.py); of each function its own text is what is told of it. -/
namespace Go.Sh
open Go Go.Abs

def dev_New.L6.b (x0 : AVal) (v10 : AVal) (v14 : AVal) (x17_6 : AVal) (H15 : AHeap) (Kn16 : List AVal → AHeap → Prop) (Ke17 : AExit → List AVal → AHeap → Prop) : Prop :=
 vb (aBin .lss x17_6 x0) fun v18 =>
 isB v18 fun b19 => cond b19
 (vb (aNilCheck v10) fun v20 =>
 vb (aFieldAddr 0 v20) fun v21 =>
 vb (aLoad H15 false 1 v21) fun v22 =>
 vb (aBuild [.str [], .str [], .bool false] (fun k => ([(0, 1), (1, 1), (2, 1)] : List (Nat × Nat))[k]?) [(0, v14), (1, v14)]) fun v23 =>
 hb (aBuildSlice H15 3 [.str [], .str [], .bool false] 1 [(0, v23)]) fun v24 H25 =>
 hb (aAppendS H25 3 40 v22 v24) fun v26 H27 =>
 vb (aNilCheck v10) fun v28 =>
 vb (aFieldAddr 0 v28) fun v29 =>
 sb (aStore H27 1 v29 v26) fun H30 =>
 vb (aBin .add x17_6 (.int .i64 1)) fun v31 =>
 Kn16 [v31] H30)
 (Ke17 (.exit 0) [] H15)

def dev_New.L6 (x0 : AVal) (v10 : AVal) (v14 : AVal) : Body := fun vs H Kn Ke => dev_New.L6.b x0 v10 v14 (vs.getD 0 .undef) H Kn Ke

def dev_New.w (x0 : AVal) (H : AHeap) (K : AVal → AHeap → Prop) : Prop :=
 JoinP (fun Kj1 => vb (aBin .lss x0 (.int .i64 1)) fun v2 =>
 isB v2 fun b3 => cond b3
 (Kj1 .ret [.nilp, .int .i64 2] H)
 (vb (aBin .gtr x0 (.int .i64 512)) fun v4 =>
 isB v4 fun b5 => cond b5
 (Kj1 .ret [.nilp, .int .i64 2] H)
 (Kj1 .normal [.nilp, .int .i64 0] H)))
 (fun e6 vs7 H8 =>
 onE e6 .normal
 (vb (aBuild [.nils] (fun k => ([(0, 1)] : List (Nat × Nat))[k]?) []) fun v9 =>
 hb (aBox H8 v9) fun v10 H11 =>
 hb (aMakeSlice H11 1 [.int .u8 0] (.int .i64 64) (.int .i64 64)) fun v12 H13 =>
 vb (aBytes2Str H13 v12) fun v14 =>
 LoopP (dev_New.L6 x0 v10 v14) [.int .i64 0] H13 fun e32 vs33 H34 =>
 onE e32 (.exit 0)
 (fin .ret [.v (v10), .v (.int .i64 0)] H34 K)
 (False))
 (onE e6 .ret
 (fin .ret [.v (vs7.getD 0 .undef), .v (vs7.getD 1 .undef)] H8 K)
 (False)))

def S_dev_New : Abs.Spec := fun args H r H' => ∃ x0 : AVal, args = [x0] ∧ (dev_New.w x0 H fun r1 H1 => r1 = r ∧ H1 = H') ∧ H <+: H'
theorem dev_New.ok (args : List AVal) (H : AHeap) (r : AVal) (H' : AHeap) (h : S_dev_New args H r H') : ∃ x0 : AVal, args = [x0] ∧ dev_New.w x0 H fun r1 H1 => r1 = r ∧ H1 = H' := by
  obtain ⟨x0, h1, h2, _⟩ := h
  exact ⟨x0, h1, h2⟩
theorem dev_New.quiet {args : List AVal} {H : AHeap} {r : AVal} {H' : AHeap} (h : S_dev_New args H r H') : H <+: H' := by
  obtain ⟨_, _, _, h⟩ := h
  exact h
set_option maxRecDepth 100000 in
theorem dev_New.ex (x0 : AVal) (H : AHeap) : Ex fun K : AVal × AHeap → Prop => dev_New.w x0 H fun r H => K (r, H) := by
  unfold dev_New.w
  repeat with_reducible first
    | exact Ex.pt _
    | exact Ex.fin
    | exact Ex.no
    | refine Ex.vb fun _ => ?_
    | refine Ex.hb fun _ _ => ?_
    | refine Ex.sb fun _ => ?_
    | refine Ex.cb fun _ _ => ?_
    | refine Ex.isB fun _ => ?_
    | refine Ex.cond ?_ ?_
    | refine Ex.onE ?_ ?_
    | refine Ex.join ?_ fun _ _ _ => ?_
    | refine Ex.loop (fun _ _ => ?_) fun _ _ _ => ?_
    | (unfold dev_New.L6; unfold dev_New.L6.b)

theorem dev_New.out {x0 : AVal} {H : AHeap} {Q : AVal → AHeap → Prop} (h : dev_New.w x0 H fun r H' => H <+: H' ∧ Q r H') : ∃ r H', S_dev_New [x0] H r H' ∧ Q r H' := by
  obtain ⟨r, H', h1, h2⟩ := (dev_New.ex x0 H).out h
  exact ⟨r, H', ⟨_, rfl, h1, h2.1⟩, h2.2⟩

def dev_Dev_may.w (x0 : AVal) (x1 : AVal) (x2 : AVal) (H : AHeap) (K : AVal → AHeap → Prop) : Prop :=
 vb (aEql false .ptr H x0 .nilp) fun v1 =>
 isB v1 fun b2 => cond b2
 (fin .ret [.v (.int .i64 1)] H K)
 (vb (aBin .lss x1 (.int .i64 0)) fun v3 =>
 isB v3 fun b4 => cond b4
 (fin .ret [.v (.int .i64 3)] H K)
 (vb (aNilCheck x0) fun v5 =>
 vb (aFieldAddr 0 v5) fun v6 =>
 vb (aLoad H false 1 v6) fun v7 =>
 vb (lenSl v7) fun v8 =>
 vb (aBin .geq x1 v8) fun v9 =>
 isB v9 fun b10 => cond b10
 (fin .ret [.v (.int .i64 3)] H K)
 (vb (lenSt x2) fun v11 =>
 vb (aBin .neq v11 (.int .i64 64)) fun v12 =>
 isB v12 fun b13 => cond b13
 (fin .ret [.v (.int .i64 6)] H K)
 (fin .ret [.v (.int .i64 0)] H K))))

def S_dev_Dev_may : Abs.Spec := fun args H r H' => ∃ x0 x1 x2 : AVal, args = [x0, x1, x2] ∧ (dev_Dev_may.w x0 x1 x2 H fun r1 H1 => r1 = r ∧ H1 = H') ∧ H <+: H'
theorem dev_Dev_may.ok (args : List AVal) (H : AHeap) (r : AVal) (H' : AHeap) (h : S_dev_Dev_may args H r H') : ∃ x0 x1 x2 : AVal, args = [x0, x1, x2] ∧ dev_Dev_may.w x0 x1 x2 H fun r1 H1 => r1 = r ∧ H1 = H' := by
  obtain ⟨x0, x1, x2, h1, h2, _⟩ := h
  exact ⟨x0, x1, x2, h1, h2⟩
theorem dev_Dev_may.quiet {args : List AVal} {H : AHeap} {r : AVal} {H' : AHeap} (h : S_dev_Dev_may args H r H') : H <+: H' := by
  obtain ⟨_, _, _, _, _, h⟩ := h
  exact h
set_option maxRecDepth 100000 in
theorem dev_Dev_may.ex (x0 x1 x2 : AVal) (H : AHeap) : Ex fun K : AVal × AHeap → Prop => dev_Dev_may.w x0 x1 x2 H fun r H => K (r, H) := by
  unfold dev_Dev_may.w
  repeat with_reducible first
    | exact Ex.pt _
    | exact Ex.fin
    | exact Ex.no
    | refine Ex.vb fun _ => ?_
    | refine Ex.hb fun _ _ => ?_
    | refine Ex.sb fun _ => ?_
    | refine Ex.cb fun _ _ => ?_
    | refine Ex.isB fun _ => ?_
    | refine Ex.cond ?_ ?_
    | refine Ex.onE ?_ ?_
    | refine Ex.join ?_ fun _ _ _ => ?_
    | refine Ex.loop (fun _ _ => ?_) fun _ _ _ => ?_

theorem dev_Dev_may.out {x0 x1 x2 : AVal} {H : AHeap} {Q : AVal → AHeap → Prop} (h : dev_Dev_may.w x0 x1 x2 H fun r H' => H <+: H' ∧ Q r H') : ∃ r H', S_dev_Dev_may [x0, x1, x2] H r H' ∧ Q r H' := by
  obtain ⟨r, H', h1, h2⟩ := (dev_Dev_may.ex x0 x1 x2 H).out h
  exact ⟨r, H', ⟨_, _, _, rfl, h1, h2.1⟩, h2.2⟩

def dev_Dev_Read.w (x0 : AVal) (x1 : AVal) (H : AHeap) (K : AVal → AHeap → Prop) : Prop :=
 vb (aEql false .ptr H x0 .nilp) fun v1 =>
 isB v1 fun b2 => cond b2
 (fin .ret [.v (.str []), .v (.int .i64 1)] H K)
 (vb (aBin .lss x1 (.int .i64 0)) fun v3 =>
 isB v3 fun b4 => cond b4
 (fin .ret [.v (.str []), .v (.int .i64 3)] H K)
 (vb (aNilCheck x0) fun v5 =>
 vb (aFieldAddr 0 v5) fun v6 =>
 vb (aLoad H false 1 v6) fun v7 =>
 vb (lenSl v7) fun v8 =>
 vb (aBin .geq x1 v8) fun v9 =>
 isB v9 fun b10 => cond b10
 (fin .ret [.v (.str []), .v (.int .i64 3)] H K)
 (vb (aNilCheck x0) fun v11 =>
 vb (aFieldAddr 0 v11) fun v12 =>
 vb (aLoad H false 1 v12) fun v13 =>
 vb (aIndexAddr 3 v13 x1) fun v14 =>
 vb (aFieldAddr 0 v14) fun v15 =>
 vb (aLoad H false 1 v15) fun v16 =>
 fin .ret [.v (v16), .v (.int .i64 0)] H K)))

def S_dev_Dev_Read : Abs.Spec := fun args H r H' => ∃ x0 x1 : AVal, args = [x0, x1] ∧ (dev_Dev_Read.w x0 x1 H fun r1 H1 => r1 = r ∧ H1 = H') ∧ H <+: H'
theorem dev_Dev_Read.ok (args : List AVal) (H : AHeap) (r : AVal) (H' : AHeap) (h : S_dev_Dev_Read args H r H') : ∃ x0 x1 : AVal, args = [x0, x1] ∧ dev_Dev_Read.w x0 x1 H fun r1 H1 => r1 = r ∧ H1 = H' := by
  obtain ⟨x0, x1, h1, h2, _⟩ := h
  exact ⟨x0, x1, h1, h2⟩
theorem dev_Dev_Read.quiet {args : List AVal} {H : AHeap} {r : AVal} {H' : AHeap} (h : S_dev_Dev_Read args H r H') : H <+: H' := by
  obtain ⟨_, _, _, _, h⟩ := h
  exact h
set_option maxRecDepth 100000 in
theorem dev_Dev_Read.ex (x0 x1 : AVal) (H : AHeap) : Ex fun K : AVal × AHeap → Prop => dev_Dev_Read.w x0 x1 H fun r H => K (r, H) := by
  unfold dev_Dev_Read.w
  repeat with_reducible first
    | exact Ex.pt _
    | exact Ex.fin
    | exact Ex.no
    | refine Ex.vb fun _ => ?_
    | refine Ex.hb fun _ _ => ?_
    | refine Ex.sb fun _ => ?_
    | refine Ex.cb fun _ _ => ?_
    | refine Ex.isB fun _ => ?_
    | refine Ex.cond ?_ ?_
    | refine Ex.onE ?_ ?_
    | refine Ex.join ?_ fun _ _ _ => ?_
    | refine Ex.loop (fun _ _ => ?_) fun _ _ _ => ?_

theorem dev_Dev_Read.out {x0 x1 : AVal} {H : AHeap} {Q : AVal → AHeap → Prop} (h : dev_Dev_Read.w x0 x1 H fun r H' => H <+: H' ∧ Q r H') : ∃ r H', S_dev_Dev_Read [x0, x1] H r H' ∧ Q r H' := by
  obtain ⟨r, H', h1, h2⟩ := (dev_Dev_Read.ex x0 x1 H).out h
  exact ⟨r, H', ⟨_, _, rfl, h1, h2.1⟩, h2.2⟩

def dev_Dev_Write.w (x0 : AVal) (x1 : AVal) (x2 : AVal) (H : AHeap) (K : AVal → AHeap → Prop) : Prop :=
 cb (S_dev_Dev_may [x0, x1, x2] H) fun v1 H2 =>
 vb (aBin .neq v1 (.int .i64 0)) fun v3 =>
 isB v3 fun b4 => cond b4
 (fin .ret [.v (v1)] H2 K)
 (vb (aNilCheck x0) fun v5 =>
 vb (aFieldAddr 0 v5) fun v6 =>
 vb (aLoad H2 false 1 v6) fun v7 =>
 vb (aNilCheck x0) fun v8 =>
 vb (aFieldAddr 0 v8) fun v9 =>
 vb (aLoad H2 false 1 v9) fun v10 =>
 vb (aIndexAddr 3 v7 x1) fun v11 =>
 vb (aFieldAddr 0 v11) fun v12 =>
 sb (aStore H2 1 v12 x2) fun H13 =>
 vb (aIndexAddr 3 v10 x1) fun v14 =>
 vb (aFieldAddr 2 v14) fun v15 =>
 sb (aStore H13 1 v15 (.bool true)) fun H16 =>
 fin .ret [.v (.int .i64 0)] H16 K)

def S_dev_Dev_Write : Abs.Spec := fun args H r H' => ∃ x0 x1 x2 : AVal, args = [x0, x1, x2] ∧ (dev_Dev_Write.w x0 x1 x2 H fun r1 H1 => r1 = r ∧ H1 = H')
theorem dev_Dev_Write.ok (args : List AVal) (H : AHeap) (r : AVal) (H' : AHeap) (h : S_dev_Dev_Write args H r H') : ∃ x0 x1 x2 : AVal, args = [x0, x1, x2] ∧ dev_Dev_Write.w x0 x1 x2 H fun r1 H1 => r1 = r ∧ H1 = H' := by
  obtain ⟨x0, x1, x2, h1, h2⟩ := h
  exact ⟨x0, x1, x2, h1, h2⟩
set_option maxRecDepth 100000 in
theorem dev_Dev_Write.ex (x0 x1 x2 : AVal) (H : AHeap) : Ex fun K : AVal × AHeap → Prop => dev_Dev_Write.w x0 x1 x2 H fun r H => K (r, H) := by
  unfold dev_Dev_Write.w
  repeat with_reducible first
    | exact Ex.pt _
    | exact Ex.fin
    | exact Ex.no
    | refine Ex.vb fun _ => ?_
    | refine Ex.hb fun _ _ => ?_
    | refine Ex.sb fun _ => ?_
    | refine Ex.cb fun _ _ => ?_
    | refine Ex.isB fun _ => ?_
    | refine Ex.cond ?_ ?_
    | refine Ex.onE ?_ ?_
    | refine Ex.join ?_ fun _ _ _ => ?_
    | refine Ex.loop (fun _ _ => ?_) fun _ _ _ => ?_

theorem dev_Dev_Write.out {x0 x1 x2 : AVal} {H : AHeap} {Q : AVal → AHeap → Prop} (h : dev_Dev_Write.w x0 x1 x2 H fun r H' => Q r H') : ∃ r H', S_dev_Dev_Write [x0, x1, x2] H r H' ∧ Q r H' := by
  obtain ⟨r, H', h1, h2⟩ := (dev_Dev_Write.ex x0 x1 x2 H).out h
  exact ⟨r, H', ⟨_, _, _, rfl, h1⟩, h2⟩

def dev_Dev_Flush.L4.b (v6 : AVal) (x0 : AVal) (x12_4 : AVal) (H7 : AHeap) (Kn8 : List AVal → AHeap → Prop) (Ke9 : AExit → List AVal → AHeap → Prop) : Prop :=
 vb (aBin .lss x12_4 v6) fun v10 =>
 isB v10 fun b11 => cond b11
 (vb (aNilCheck x0) fun v12 =>
 vb (aFieldAddr 0 v12) fun v13 =>
 vb (aLoad H7 false 1 v13) fun v14 =>
 vb (aIndexAddr 3 v14 x12_4) fun v15 =>
 vb (aNilCheck v15) fun v16 =>
 vb (aFieldAddr 0 v16) fun v17 =>
 vb (aLoad H7 false 1 v17) fun v18 =>
 vb (aNilCheck v15) fun v19 =>
 vb (aFieldAddr 1 v19) fun v20 =>
 sb (aStore H7 1 v20 v18) fun H21 =>
 vb (aNilCheck v15) fun v22 =>
 vb (aFieldAddr 2 v22) fun v23 =>
 sb (aStore H21 1 v23 (.bool false)) fun H24 =>
 vb (aBin .add x12_4 (.int .i64 1)) fun v25 =>
 Kn8 [v25] H24)
 (Ke9 (.exit 0) [] H7)

def dev_Dev_Flush.L4 (v6 : AVal) (x0 : AVal) : Body := fun vs H Kn Ke => dev_Dev_Flush.L4.b v6 x0 (vs.getD 0 .undef) H Kn Ke

def dev_Dev_Flush.w (x0 : AVal) (H : AHeap) (K : AVal → AHeap → Prop) : Prop :=
 vb (aEql false .ptr H x0 .nilp) fun v1 =>
 isB v1 fun b2 => cond b2
 (fin .ret [.v (.int .i64 1)] H K)
 (vb (aNilCheck x0) fun v3 =>
 vb (aFieldAddr 0 v3) fun v4 =>
 vb (aLoad H false 1 v4) fun v5 =>
 vb (lenSl v5) fun v6 =>
 LoopP (dev_Dev_Flush.L4 v6 x0) [.int .i64 0] H fun e26 vs27 H28 =>
 onE e26 (.exit 0)
 (fin .ret [.v (.int .i64 0)] H28 K)
 (False))

def S_dev_Dev_Flush : Abs.Spec := fun args H r H' => ∃ x0 : AVal, args = [x0] ∧ (dev_Dev_Flush.w x0 H fun r1 H1 => r1 = r ∧ H1 = H')
def dev_Dev_Tamper.w (x0 : AVal) (x1 : AVal) (x2 : AVal) (H : AHeap) (K : AVal → AHeap → Prop) : Prop :=
 cb (S_dev_Dev_may [x0, x1, x2] H) fun v1 H2 =>
 vb (aBin .neq v1 (.int .i64 0)) fun v3 =>
 isB v3 fun b4 => cond b4
 (fin .ret [.v (v1)] H2 K)
 (vb (aNilCheck x0) fun v5 =>
 vb (aFieldAddr 0 v5) fun v6 =>
 vb (aLoad H2 false 1 v6) fun v7 =>
 vb (aNilCheck x0) fun v8 =>
 vb (aFieldAddr 0 v8) fun v9 =>
 vb (aLoad H2 false 1 v9) fun v10 =>
 vb (aIndexAddr 3 v7 x1) fun v11 =>
 vb (aFieldAddr 0 v11) fun v12 =>
 sb (aStore H2 1 v12 x2) fun H13 =>
 vb (aIndexAddr 3 v10 x1) fun v14 =>
 vb (aFieldAddr 1 v14) fun v15 =>
 sb (aStore H13 1 v15 x2) fun H16 =>
 fin .ret [.v (.int .i64 0)] H16 K)

def S_dev_Dev_Tamper : Abs.Spec := fun args H r H' => ∃ x0 x1 x2 : AVal, args = [x0, x1, x2] ∧ (dev_Dev_Tamper.w x0 x1 x2 H fun r1 H1 => r1 = r ∧ H1 = H')
theorem dev_Dev_Tamper.ok (args : List AVal) (H : AHeap) (r : AVal) (H' : AHeap) (h : S_dev_Dev_Tamper args H r H') : ∃ x0 x1 x2 : AVal, args = [x0, x1, x2] ∧ dev_Dev_Tamper.w x0 x1 x2 H fun r1 H1 => r1 = r ∧ H1 = H' := by
  obtain ⟨x0, x1, x2, h1, h2⟩ := h
  exact ⟨x0, x1, x2, h1, h2⟩
set_option maxRecDepth 100000 in
theorem dev_Dev_Tamper.ex (x0 x1 x2 : AVal) (H : AHeap) : Ex fun K : AVal × AHeap → Prop => dev_Dev_Tamper.w x0 x1 x2 H fun r H => K (r, H) := by
  unfold dev_Dev_Tamper.w
  repeat with_reducible first
    | exact Ex.pt _
    | exact Ex.fin
    | exact Ex.no
    | refine Ex.vb fun _ => ?_
    | refine Ex.hb fun _ _ => ?_
    | refine Ex.sb fun _ => ?_
    | refine Ex.cb fun _ _ => ?_
    | refine Ex.isB fun _ => ?_
    | refine Ex.cond ?_ ?_
    | refine Ex.onE ?_ ?_
    | refine Ex.join ?_ fun _ _ _ => ?_
    | refine Ex.loop (fun _ _ => ?_) fun _ _ _ => ?_

theorem dev_Dev_Tamper.out {x0 x1 x2 : AVal} {H : AHeap} {Q : AVal → AHeap → Prop} (h : dev_Dev_Tamper.w x0 x1 x2 H fun r H' => Q r H') : ∃ r H', S_dev_Dev_Tamper [x0, x1, x2] H r H' ∧ Q r H' := by
  obtain ⟨r, H', h1, h2⟩ := (dev_Dev_Tamper.ex x0 x1 x2 H).out h
  exact ⟨r, H', ⟨_, _, _, rfl, h1⟩, h2⟩

end Go.Sh

/- Devices: the program's functions. -/
namespace Go.Sh
open Go Go.Abs

section
variable {H0 B : AHeap} {own : Nat → Prop} {R : List Part} {p : Nat} {sv : AVal} {l : List Bk}
theorem may_spec (hd : (Part.dev p sv l).ok B) (i : Int) (s : List UInt8) : ∃ C, S_dev_Dev_may [.ptr ⟨p, 0, 0⟩, .int .i64 i, .str s] B (.int .i64 (mayE l.length i s)) C ∧ B <+: C := by
  obtain ⟨r, C, h, rfl, k⟩ := dev_Dev_may.out (x0 := .ptr ⟨p, 0, 0⟩) (x1 := .int .i64 i) (x2 := .str s) (H := B) (Q := fun r C => r = .int .i64 (mayE l.length i s) ∧ B <+: C) (by
    have hs : Sep B (fun _ => False) B [] := Sep.start B
    have hg := hd.1
    have hv := hd.2.1.view
    simp only [Part.obj] at hg
    unfold dev_Dev_may.w
    repeat first
    | with_reducible refine isB_F ?_
    | with_reducible refine vb_i (lss64 _ _ _) ?_
    | with_reducible refine vb_i (e_ptrNil _ _) ?_
    refine isB_c (fun h1 => ?_) (fun h1 => ?_)
    · exact fin_ret (rvs_v (rvs_nil _)) ⟨List.prefix_refl _, by simp only [mayE, tup1]; rw [if_pos (.inl h1)], List.prefix_refl _⟩
    repeat first
    | with_reducible refine vb_i (geq64 _ _ _) ?_
    | with_reducible refine vb_i (e_nilCheck _) ?_
    | with_reducible refine vb_i (e_fieldAddr _ _) ?_
    | ((with_reducible apply vb_ld); (· first | exact hs.g0 | exact hs.g1 | exact hs.g2 | exact hs.g3 | exact hs.g4 | exact hs.g5 | exact hs.g6 | exact hs.rd hg | exact hs.rd hg2 | exact hs.rd hg3 | exact hs.rd hg4 | assumption); (· rfl))
    | ((with_reducible apply vb_len); (· first | exact hs.o0.view | exact hs.o1.view | exact hs.o2.view | exact hs.o3.view | exact hs.o4.view | exact hs.o5.view | exact hs.o6.view | exact hs.rv hv | exact hs.rv hv2 | exact hs.rv hv3 | exact hs.rv hv4 | exact hs.view hkv hko | assumption))
    refine isB_c (fun h2 => ?_) (fun h2 => ?_)
    · exact fin_ret (rvs_v (rvs_nil _)) ⟨List.prefix_refl _, by simp only [mayE, tup1]; rw [if_pos (.inr h2)], List.prefix_refl _⟩
    repeat first
    | with_reducible refine vb_i (neq64 _ _ _) ?_
    | with_reducible refine vb_i (e_lenSt _) ?_
    refine isB_c (fun h3 => ?_) (fun h3 => ?_)
    · exact fin_ret (rvs_v (rvs_nil _)) ⟨List.prefix_refl _, by simp only [mayE, tup1]; rw [if_neg (by omega), if_pos (by omega)], List.prefix_refl _⟩
    · exact fin_ret (rvs_v (rvs_nil _)) ⟨List.prefix_refl _, by simp only [mayE, tup1]; rw [if_neg (by omega), if_neg (by omega)], List.prefix_refl _⟩)
  exact ⟨C, h, k⟩

/-- All blocks are whole. -/
def WB (l : List Bk) : Prop := l.length ≤ 512 ∧ ∀ b ∈ l, b.now.length = 64 ∧ b.safe.length = 64
theorem WB.at_ (h : WB l) {k : Nat} {b : Bk} (hb : l[k]? = some b) : b.now.length = 64 ∧ b.safe.length = 64 := h.2 b (List.mem_of_getElem? hb)
theorem WB.set (h : WB l) {k : Nat} {b : Bk} (h1 : b.now.length = 64) (h2 : b.safe.length = 64) : WB (l.set k b) := by
  refine ⟨by rw [List.length_set]; exact h.1, fun c hc => ?_⟩
  rcases List.mem_or_eq_of_mem_set hc with hc | rfl
  · exact h.2 c hc
  · exact ⟨h1, h2⟩
def readR (l : List Bk) (i : Int) : AVal := if i < 0 ∨ l.length ≤ i then .tup [.str [], .int .i64 3] else .tup [.str (bkAt l i).now, .int .i64 0]
theorem read_spec (hd : (Part.dev p sv l).ok B) (i : Int) : ∃ C, S_dev_Dev_Read [.ptr ⟨p, 0, 0⟩, .int .i64 i] B (readR l i) C ∧ B <+: C := by
  obtain ⟨r, C, h, rfl, k⟩ := dev_Dev_Read.out (x0 := .ptr ⟨p, 0, 0⟩) (x1 := .int .i64 i) (H := B) (Q := fun r C => r = readR l i ∧ B <+: C) (by
    have hs : Sep B (fun _ => False) B [] := Sep.start B
    have hg := hd.1
    have hv := hd.2.1.view
    simp only [Part.obj] at hg
    unfold dev_Dev_Read.w
    repeat first
    | with_reducible refine isB_F ?_
    | with_reducible refine vb_i (lss64 _ _ _) ?_
    | with_reducible refine vb_i (e_ptrNil _ _) ?_
    refine isB_c (fun h1 => ?_) (fun h1 => ?_)
    · exact fin_ret (rvs_v (rvs_v (rvs_nil _))) ⟨List.prefix_refl _, by simp only [readR, tup1]; rw [if_pos (.inl h1)], List.prefix_refl _⟩
    repeat first
    | with_reducible refine vb_i (geq64 _ _ _) ?_
    | with_reducible refine vb_i (e_nilCheck _) ?_
    | with_reducible refine vb_i (e_fieldAddr _ _) ?_
    | ((with_reducible apply vb_ld); (· first | exact hs.g0 | exact hs.g1 | exact hs.g2 | exact hs.g3 | exact hs.g4 | exact hs.g5 | exact hs.g6 | exact hs.rd hg | exact hs.rd hg2 | exact hs.rd hg3 | exact hs.rd hg4 | assumption); (· rfl))
    | ((with_reducible apply vb_len); (· first | exact hs.o0.view | exact hs.o1.view | exact hs.o2.view | exact hs.o3.view | exact hs.o4.view | exact hs.o5.view | exact hs.o6.view | exact hs.rv hv | exact hs.rv hv2 | exact hs.rv hv3 | exact hs.rv hv4 | exact hs.view hkv hko | assumption))
    refine isB_c (fun h2 => ?_) (fun h2 => ?_)
    · exact fin_ret (rvs_v (rvs_v (rvs_nil _))) ⟨List.prefix_refl _, by simp only [readR, tup1]; rw [if_pos (.inr h2)], List.prefix_refl _⟩
    obtain ⟨j, rfl⟩ : ∃ j : Nat, i = j := ⟨i.toNat, by omega⟩
    have hb : l[j]? = some (bkAt l j) := by
      have hj : j < l.length := by omega
      simp [bkAt, List.getD_eq_getElem?_getD, List.getElem?_eq_getElem hj]
    repeat first
    | with_reducible refine vb_i (e_nilCheck _) ?_
    | with_reducible refine vb_i (e_fieldAddr _ _) ?_
    | ((with_reducible apply vb_ld); (· first | exact hs.g0 | exact hs.g1 | exact hs.g2 | exact hs.g3 | exact hs.g4 | exact hs.g5 | exact hs.g6 | exact hs.rd hg | exact hs.rd hg2 | exact hs.rd hg3 | exact hs.rd hg4 | assumption); (· rfl))
    | ((with_reducible apply vb_addrN); (· first | exact hs.o0.view | exact hs.o1.view | exact hs.o2.view | exact hs.o3.view | exact hs.o4.view | exact hs.o5.view | exact hs.o6.view | exact hs.rv hv | exact hs.rv hv2 | exact hs.rv hv3 | exact hs.rv hv4 | exact hs.view hkv hko | assumption); (· omega))
    | ((with_reducible apply vb_el1); (· first | exact hs.o0.view | exact hs.o1.view | exact hs.o2.view | exact hs.o3.view | exact hs.o4.view | exact hs.o5.view | exact hs.o6.view | exact hs.rv hv | exact hs.rv hv2 | exact hs.rv hv3 | exact hs.rv hv4 | exact hs.view hkv hko | assumption); (· first | exact bcell_len | exact pcell_len | exact one_len | assumption); (· first | exact hb | exact hb2 | assumption); (· rfl))
    exact fin_ret (rvs_v (rvs_v (rvs_nil _))) ⟨List.prefix_refl _, by simp only [readR, tup1]; rw [if_neg (by omega)], List.prefix_refl _⟩)
  exact ⟨C, h, k⟩
theorem write_spec (h0 : Sep H0 own B (Part.dev p sv l :: R)) (i : Int) (s : List UInt8) : ∃ C, S_dev_Dev_Write [.ptr ⟨p, 0, 0⟩, .int .i64 i, .str s] B (.int .i64 (mayE l.length i s)) C ∧
    Sep H0 own C (Part.dev p sv (if mayE l.length i s = 0 then l.set i.toNat ((bkAt l i).write s) else l) :: R) := by
  obtain ⟨r, C, h, rfl, k⟩ := dev_Dev_Write.out (x0 := .ptr ⟨p, 0, 0⟩) (x1 := .int .i64 i) (x2 := .str s) (H := B)
    (Q := fun r C => r = .int .i64 (mayE l.length i s) ∧ Sep H0 own C (Part.dev p sv (if mayE l.length i s = 0 then l.set i.toNat ((bkAt l i).write s) else l) :: R)) (by
    unfold dev_Dev_Write.w
    obtain ⟨C, hc, k⟩ := may_spec h0.head i s
    refine cb_i _ _ hc ?_
    have hs := (h0.quiet k).split
    repeat first
    | with_reducible refine vb_i (neq64 _ _ _) ?_
    refine isB_c (fun h1 => ?_) (fun h1 => ?_)
    · exact fin_ret (rvs_v (rvs_nil _)) ⟨rfl, by rw [if_neg h1]; exact hs.join⟩
    have h1 : mayE l.length i s = 0 := Decidable.not_not.1 h1
    rw [h1, if_pos rfl]
    have h2 : 0 ≤ i ∧ i < l.length := by
      unfold mayE at h1; split at h1
      · omega
      · omega
    obtain ⟨j, rfl⟩ : ∃ j : Nat, i = j := ⟨i.toNat, by omega⟩
    have hj : j < l.length := by omega
    have hb : l[j]? = some (bkAt l j) := by simp [bkAt, List.getD_eq_getElem?_getD, List.getElem?_eq_getElem hj]
    repeat first
    | with_reducible refine vb_i (e_nilCheck _) ?_
    | with_reducible refine vb_i (e_fieldAddr _ _) ?_
    | ((with_reducible apply vb_ld); (· first | exact hs.g0 | exact hs.g1 | exact hs.g2 | exact hs.g3 | exact hs.g4 | exact hs.g5 | exact hs.g6 | exact hs.rd hg | exact hs.rd hg2 | exact hs.rd hg3 | exact hs.rd hg4 | assumption); (· rfl))
    | ((with_reducible apply vb_addrN); (· first | exact hs.o0.view | exact hs.o1.view | exact hs.o2.view | exact hs.o3.view | exact hs.o4.view | exact hs.o5.view | exact hs.o6.view | exact hs.rv hv | exact hs.rv hv2 | exact hs.rv hv3 | exact hs.rv hv4 | exact hs.view hkv hko | assumption); (· omega))
    refine s_el1 hs.f1 bcell_len hb ⟨s, (bkAt l j).safe, (bkAt l j).is⟩ rfl (by decide) rfl fun _ hs => ?_
    have hb2 : (l.set j ⟨s, (bkAt l j).safe, (bkAt l j).is⟩)[j]? = some ⟨s, (bkAt l j).safe, (bkAt l j).is⟩ := List.getElem?_set_self hj
    have hj2 : j < (l.set j ⟨s, (bkAt l j).safe, (bkAt l j).is⟩).length := by rw [List.length_set]; exact hj
    repeat first
    | with_reducible refine vb_i (e_fieldAddr _ _) ?_
    | ((with_reducible apply vb_addrN); (· first | exact hs.o0.view | exact hs.o1.view | exact hs.o2.view | exact hs.o3.view | exact hs.o4.view | exact hs.o5.view | exact hs.o6.view | exact hs.rv hv | exact hs.rv hv2 | exact hs.rv hv3 | exact hs.rv hv4 | exact hs.view hkv hko | assumption); (· omega))
    refine s_el1 hs bcell_len hb2 ((bkAt l j).write s) rfl (by decide) rfl fun _ hs => ?_
    rw [List.set_set] at hs
    refine fin_ret (rvs_v (rvs_nil _)) ⟨rfl, ?_⟩
    rw [Int.toNat_natCast]
    exact hs.f1.join)
  exact ⟨C, h, k⟩
end
end Go.Sh

/- Devices: the program's functions, on. -/
namespace Go.Sh
open Go Go.Abs

section
variable {H0 B : AHeap} {own : Nat → Prop} {R : List Part} {p : Nat} {sv : AVal} {l : List Bk}
theorem at_ {j : Nat} (hj : j < l.length) : l[j]? = some (bkAt l j) := by simp [bkAt, List.getD_eq_getElem?_getD, List.getElem?_eq_getElem hj]
theorem tamper_spec (h0 : Sep H0 own B (Part.dev p sv l :: R)) (i : Int) (s : List UInt8) : ∃ C, S_dev_Dev_Tamper [.ptr ⟨p, 0, 0⟩, .int .i64 i, .str s] B (.int .i64 (mayE l.length i s)) C ∧
    Sep H0 own C (Part.dev p sv (if mayE l.length i s = 0 then l.set i.toNat ⟨s, s, (bkAt l i).is⟩ else l) :: R) := by
  obtain ⟨r, C, h, rfl, k⟩ := dev_Dev_Tamper.out (x0 := .ptr ⟨p, 0, 0⟩) (x1 := .int .i64 i) (x2 := .str s) (H := B)
    (Q := fun r C => r = .int .i64 (mayE l.length i s) ∧ Sep H0 own C (Part.dev p sv (if mayE l.length i s = 0 then l.set i.toNat ⟨s, s, (bkAt l i).is⟩ else l) :: R)) (by
    unfold dev_Dev_Tamper.w
    obtain ⟨C, hc, k⟩ := may_spec h0.head i s
    refine cb_i _ _ hc ?_
    have hs := (h0.quiet k).split
    repeat first
    | with_reducible refine vb_i (neq64 _ _ _) ?_
    refine isB_c (fun h1 => ?_) (fun h1 => ?_)
    · exact fin_ret (rvs_v (rvs_nil _)) ⟨rfl, by rw [if_neg h1]; exact hs.join⟩
    have h1 : mayE l.length i s = 0 := Decidable.not_not.1 h1
    rw [h1, if_pos rfl]
    have h2 : 0 ≤ i ∧ i < l.length := by
      unfold mayE at h1; split at h1
      · omega
      · omega
    obtain ⟨j, rfl⟩ : ∃ j : Nat, i = j := ⟨i.toNat, by omega⟩
    have hj : j < l.length := by omega
    have hb := at_ hj
    repeat first
    | with_reducible refine vb_i (e_nilCheck _) ?_
    | with_reducible refine vb_i (e_fieldAddr _ _) ?_
    | ((with_reducible apply vb_ld); (· first | exact hs.g0 | exact hs.g1 | exact hs.g2 | exact hs.g3 | exact hs.g4 | exact hs.g5 | exact hs.g6 | exact hs.rd hg | exact hs.rd hg2 | exact hs.rd hg3 | exact hs.rd hg4 | assumption); (· rfl))
    | ((with_reducible apply vb_addrN); (· first | exact hs.o0.view | exact hs.o1.view | exact hs.o2.view | exact hs.o3.view | exact hs.o4.view | exact hs.o5.view | exact hs.o6.view | exact hs.rv hv | exact hs.rv hv2 | exact hs.rv hv3 | exact hs.rv hv4 | exact hs.view hkv hko | assumption); (· omega))
    refine s_el1 hs.f1 bcell_len hb ⟨s, (bkAt l j).safe, (bkAt l j).is⟩ rfl (by decide) rfl fun _ hs => ?_
    have hb2 : (l.set j ⟨s, (bkAt l j).safe, (bkAt l j).is⟩)[j]? = some ⟨s, (bkAt l j).safe, (bkAt l j).is⟩ := List.getElem?_set_self hj
    have hj2 : j < (l.set j ⟨s, (bkAt l j).safe, (bkAt l j).is⟩).length := by rw [List.length_set]; exact hj
    repeat first
    | with_reducible refine vb_i (e_fieldAddr _ _) ?_
    | ((with_reducible apply vb_addrN); (· first | exact hs.o0.view | exact hs.o1.view | exact hs.o2.view | exact hs.o3.view | exact hs.o4.view | exact hs.o5.view | exact hs.o6.view | exact hs.rv hv | exact hs.rv hv2 | exact hs.rv hv3 | exact hs.rv hv4 | exact hs.view hkv hko | assumption); (· omega))
    refine s_el1 hs bcell_len hb2 ⟨s, s, (bkAt l j).is⟩ rfl (by decide) rfl fun _ hs => ?_
    rw [List.set_set] at hs
    refine fin_ret (rvs_v (rvs_nil _)) ⟨rfl, ?_⟩
    rw [Int.toNat_natCast]
    exact hs.f1.join)
  exact ⟨C, h, k⟩

end
end Go.Sh

/- Devices: the program's functions, on. -/
namespace Go.Sh
open Go Go.Abs

theorem fill_one (n : Nat) (x : AVal) : fillCells n [x] = List.replicate n x := by
  unfold fillCells
  induction n with
  | zero => rfl
  | succ n ih => rw [List.replicate_succ, List.flatten_cons, ih, List.replicate_succ]; rfl
theorem zs_map (n : Nat) : (zs n).map ofByte = List.replicate n (.int .u8 0) := by simp [zs, ofByte]
/-- string(make([]byte, n)) -/
theorem s_zeros {H0 B : AHeap} {own : Nat → Prop} {R : List Part} {n : Nat} {kd kd' : IntKind} {K : AVal → AHeap → Prop} (hs : Sep H0 own B R) (hn : n ≤ 1099511627776) (k : ∀ C, B <+: C → Sep H0 own C R → K (.str (zs n)) C) :
    hb (aMakeSlice B 1 [.int .u8 0] (.int kd n) (.int kd' n)) fun v C => vb (aBytes2Str C v) fun s => K s C := by
  refine s_make hs rfl rfl (by omega) (by omega) fun sv C hp _ hs => ?_
  refine vb_i (bytes_str (n := n) (l := zs n) ?_) (k C hp hs.tail)
  have := hs.o0.view
  rw [fill_one, ← zs_map] at this
  exact this

section
variable {H0 B : AHeap} {own : Nat → Prop} {R : List Part} {p : Nat} {sv : AVal} {l : List Bk}
end
end Go.Sh

/- Devices: made, copied. -/
namespace Go.Sh
open Go Go.Abs

section
variable {H0 B : AHeap} {own : Nat → Prop} {R : List Part} {p : Nat} {sv : AVal} {l : List Bk}
theorem new_spec {n : Nat} (h1 : 1 ≤ n) (h2 : n ≤ 512) : ∃ q sv' C, S_dev_New [.int .i64 n] B (.tup [.ptr ⟨q, 0, 0⟩, .int .i64 0]) C ∧ Sep B (fun _ => False) C [Part.dev q sv' (List.replicate n bk0)] := by
  obtain ⟨r, C, h, q, sv', rfl, k⟩ := dev_New.out (x0 := .int .i64 n) (H := B) (Q := fun r C => ∃ q sv', r = .tup [.ptr ⟨q, 0, 0⟩, .int .i64 0] ∧ Sep B (fun _ => False) C [Part.dev q sv' (List.replicate n bk0)]) (by
    unfold dev_New.w
    have hs : Sep B (fun _ => False) B [] := Sep.start B
    refine JoinP.mk (fun e vs C => e = .normal ∧ B = C) ?_ ?_
    · repeat first
      | ((with_reducible refine isB_cf ?_ ?_); (· first | omega | assumption))
      | with_reducible refine vb_i (lss64 _ _ _) ?_
      | with_reducible refine vb_i (gtr64 _ _ _) ?_
      exact ⟨rfl, rfl⟩
    rintro _ _ _ ⟨rfl, rfl⟩
    repeat first
    | with_reducible refine onE_i ?_
    | ((with_reducible apply s_box hs); (· rfl); intro _ _ _ hs; try simp only [AVal.cells] at hs)
    | ((with_reducible apply vb_bld); (· first | rfl | (simp only [evF, evS]; rfl)))
    rename_i p _ _
    refine s_zeros (n := 64) hs (by decide) fun _ _ hs => ?_
    refine LoopP.ruleG (α := Nat) (fun i => [.int .i64 i]) (fun i C => i ≤ n ∧ ∃ s, Sep B (fun _ => False) C [.obj p (.cells 0 .exact [s]), .sl s 3 (List.replicate i bk0).length (flat bcell (List.replicate i bk0))]) (fun i => n - i) 0 rfl
      ⟨Nat.zero_le _, .nils, (s_nils hs 3).f1⟩ ?_
    clear hs
    rintro i C Kn ⟨hi, s, hs⟩ hk
    unfold dev_New.L6 dev_New.L6.b
    try simp only [evB]
    by_cases hin : i < n
    · repeat first
      | ((with_reducible refine isB_ct ?_ ?_); (· first | omega | rfl | assumption | trivial))
      | with_reducible refine vb_i (lss64 _ _ _) ?_
      | with_reducible refine vb_i (e_nilCheck _) ?_
      | with_reducible refine vb_i (e_fieldAddr _ _) ?_
      | ((with_reducible apply vb_ld); (· first | exact hs.g0 | exact hs.g1 | exact hs.g2 | exact hs.g3 | exact hs.g4 | exact hs.g5 | exact hs.g6 | exact hs.rd hg | exact hs.rd hg2 | exact hs.rd hg3 | exact hs.rd hg4 | assumption); (· rfl))
      | ((with_reducible apply vb_bld); (· first | rfl | (simp only [evF, evS]; rfl)))
      refine s_push (xs := bcell bk0) hs.f1 rfl (by decide) rfl rfl (by rw [List.length_replicate]; unfold room; omega) (by rw [List.length_replicate]; unfold room; omega) fun s' _ hs => ?_
      have hsc := hs.o0.sc
      repeat first
      | ((with_reducible refine vb_i (add64 ?_ ?_) ?_); (· omega); (· omega))
      | with_reducible refine vb_i (e_nilCheck _) ?_
      | with_reducible refine vb_i (e_fieldAddr _ _) ?_
      | ((with_reducible first | apply s_store1 hs | apply s_store1 hs.f1 | apply s_store1 hs.f2 | apply s_store1 hs.f3); (· rfl); (· first | rfl | assumption); (· simp only [List.length_cons, List.length_nil]; omega); intro _ hs; try simp only [List.set_cons_zero, List.set_cons_succ, Nat.add_zero, Nat.zero_add] at hs)
      have e1 : List.replicate (i + 1) bk0 = List.replicate i bk0 ++ [bk0] := List.replicate_succ'
      refine hk (i + 1) _ ⟨by omega, s', ?_⟩ (by omega)
      rw [e1, flat_app, flat_one, List.length_append]
      exact hs
    · obtain rfl : i = n := by omega
      repeat first
      | ((with_reducible refine isB_cf ?_ ?_); (· first | omega | assumption))
      | with_reducible refine onE_i ?_
      | with_reducible refine vb_i (lss64 _ _ _) ?_
      try simp only [evB]
      exact fin_ret (rvs_v (rvs_v (rvs_nil _))) ⟨hs.pre fun _ x => x, p, s, rfl, hs.join⟩)
  exact ⟨q, sv', C, h, k⟩

theorem rep_WB (n : Nat) (h : n ≤ 512) : WB (List.replicate n bk0) := by
  refine ⟨by rw [List.length_replicate]; exact h, fun b hb => ?_⟩
  obtain rfl := (List.mem_replicate.1 hb).2
  exact ⟨by simp [bk0, zs], by simp [bk0, zs]⟩
end
end Go.Sh

/- What Go functions come to over abstract values, printed by a program (wx.py); of each function its own text is what is told of it. -/
namespace Go.Sh
open Go Go.Abs

end Go.Sh

/- Devices: the laws. -/
namespace Go.Sh
open Go Go.Abs

section
variable {H0 B : AHeap} {own : Nat → Prop} {R : List Part} {p : Nat} {sv : AVal} {l : List Bk}
theorem Sep.q0 (h : Sep H0 own B R) {C : AHeap} {R2 : List Part} (k : Sep B (fun _ => False) C R2) : Sep H0 own C (R2 ++ R) := h.call0 (k.own_of fun _ x => x.elim)
end
end Go.Sh

/- Devices: the laws. -/
namespace Go.Sh
open Go Go.Abs

section
variable {H0 B : AHeap} {own : Nat → Prop} {R : List Part} {p : Nat} {sv : AVal} {l : List Bk}
end
end Go.Sh
