/- One text of these: Pair0, PairW1, PairP1, PairP2, PairQ. -/
import Derived.Test.YtfmnhklpjjokbaaNode

/- Pairs of unlike texts of one sum. -/
namespace Go.Sh
open Go Go.Abs

abbrev D32 := { l : List UInt8 // l.length = 32 }
def d0 : D32 := ⟨List.replicate 32 0, rfl⟩
def dcell (d : D32) : List AVal := d.1.map ofByte
def dcells (dd : List D32) : List AVal := (dd.map dcell).flatten
theorem dcell_len (d : D32) : (dcell d).length = 32 := by simp [dcell, d.2]
def strs (l : List (List UInt8)) : List AVal := l.map .str

def like (l : List (List UInt8)) (dd : List D32) (i k : Nat) : Bool := decide ((dd.getD i d0).1 = (dd.getD k d0).1) && decide (l.getD i [] ≠ l.getD k [])
def ahead (l : List (List UInt8)) (dd : List D32) (k : Nat) : Option Nat := (List.range k).find? fun i => like l dd i k
def pairs (l : List (List UInt8)) (dd : List D32) : Nat → Option (Nat × Nat)
  | 0 => none
  | n + 1 => match pairs l dd n with
    | some p => some p
    | none => (ahead l dd n).map fun i => (i, n)
def pairR (l : List (List UInt8)) (dd : List D32) : List AVal :=
  match pairs l dd (min l.length dd.length) with
  | some (i, k) => [.int .i64 i, .int .i64 k, .bool true]
  | none => [.int .i64 0, .int .i64 0, .bool false]

structure PArgs (H : AHeap) (x y : AVal) (l : List (List UInt8)) (dd : List D32) : Prop where
  vl : View H x 1 l.length (strs l)
  vd : View H y 32 dd.length (dcells dd)
  hl : l.length ≤ 9223372036854775807
  hd : dd.length ≤ 9223372036854775807

def S_oracle_Pair : Abs.Spec := fun args H r H' => ∃ x y l dd, args = [x, y] ∧ PArgs H x y l dd ∧ r = .tup (pairR l dd) ∧ H' = H
def S_cellaretref06_Pair : Abs.Spec := fun args H r H' => ∃ x y l dd, args = [x, y] ∧ PArgs H x y l dd ∧ r = .tup (pairR l dd) ∧ H' = H
def S_oracle_Pair_1 : Abs.Spec := fun args H r H' => ∃ (k j q : Nat) (x y : AVal) (l : List (List UInt8)) (dd : List D32), args = [.int .i64 k, .ptr ⟨j, 0, 0⟩, .ptr ⟨q, 0, 0⟩] ∧ H[j]? = some (.cells 0 .exact [y]) ∧ H[q]? = some (.cells 0 .exact [x]) ∧ PArgs H x y l dd ∧ k < l.length ∧ k < dd.length ∧ H' = H ∧
  r = match ahead l dd k with | some i => .int .i64 i | none => .int .i64 (-1)
def S_cellaretlaw06_awake : Abs.Spec := fun args H r H' => args = [] ∧ r = .bool true ∧ H' = H
def S_cellaretlaw06_OraclePairs : Abs.Spec := fun args H r H' => ∃ x y l dd, args = [x, y] ∧ PArgs H x y l dd ∧ r = .bool true ∧ H' = H
def sumD (s : List UInt8) : D32 := ⟨sum s, sum_len s⟩
def sums (T : List (List UInt8)) : List D32 := T.map sumD
def collideR (T : List (List UInt8)) : List AVal :=
  match pairs T (sums T) (min T.length (sums T).length) with
  | some (i, k) => [.str (T.getD i []), .str (T.getD k []), .bool true]
  | none => [.str [], .str [], .bool false]
def S_oracle_Oracle_Collide : Abs.Spec := fun args H r H' => ∃ o, args = [o] ∧ H' = H ∧
  ((o = .nilp ∧ r = .tup [.str [], .str [], .bool false]) ∨ ∃ i v m mv lv T, o = .ptr ⟨i, v, 0⟩ ∧ ORep H i v m mv lv T ∧ T.length ≤ 1073741824 ∧ r = .tup (collideR T))
/-- This one is told of none alone. -/
def S_oracle_Oracle_Forget : Abs.Spec := fun args H r H' => ∃ s, args = [.nilp, .str s] ∧ r = .int .i64 1 ∧ H' = H
def S_cellaretlaw06_OracleNone : Abs.Spec := fun args H r H' => ∃ (s : List UInt8) (i : Int), args = [.str s, .int .i64 i] ∧ r = .bool true ∧ H' = H

/-- Functions that are never come to here. -/
def S_slices_IndexFunc_oracle_input_oracle_input : Abs.Spec := fun _ _ _ _ => False
def S_slices_Delete_oracle_input_oracle_input : Abs.Spec := fun _ _ _ _ => False
theorem PArgs.pre {H K : AHeap} {x y : AVal} {l : List (List UInt8)} {dd : List D32} (h : PArgs H x y l dd) (p : H <+: K) : PArgs K x y l dd := ⟨h.vl.pre p, h.vd.pre p, h.hl, h.hd⟩
theorem view_defd {B : AHeap} {x : AVal} {es n : Nat} {cs : List AVal} (h : View B x es n cs) : x.defd = true ∧ x.cells = [x] := by
  rcases h.2 with ⟨rfl, _⟩ | ⟨i, v, off, c, kd, cs', rfl, _⟩ <;> exact ⟨rfl, rfl⟩

theorem strs_at {B B' : AHeap} {x : AVal} {l : List (List UInt8)} (h : View B x 1 l.length (strs l)) {k : Nat} (hk : k < l.length) (p : B <+: B') : ∃ q, aIndexAddr 1 x (.int .i64 k) = some q ∧ aLoad B' false 1 q = some (.str (l.getD k [])) := by
  obtain ⟨q, h1, h2⟩ := h.at1 (k := (k : Int)) (kd := .i64) (by omega) (by omega) p
  rw [Int.toNat_natCast] at h2
  exact ⟨q, h1, by rw [h2]; exact congrArg some (getD_str' hk)⟩
theorem digs_at {B B' : AHeap} {y : AVal} {dd : List D32} (h : View B y 32 dd.length (dcells dd)) {k : Nat} (hk : k < dd.length) (p : B <+: B') : ∃ q, aIndexAddr 32 y (.int .i64 k) = some q ∧ aLoad B' true 32 q = some (.agg ((dd.getD k d0).1.map ofByte)) := by
  obtain ⟨q, h1, h2⟩ := h.atN (k := (k : Int)) (kd := .i64) (by omega) (by omega) p
  rw [Int.toNat_natCast] at h2
  refine ⟨q, h1, ?_⟩
  rw [h2]
  have hg : dd[k]? = some (dd.getD k d0) := by simp [List.getD_eq_getElem?_getD, List.getElem?_eq_getElem hk]
  have := flat_drop (o := 0) (n := 32) dcell_len hg (by decide)
  simp only [Nat.add_zero, List.drop_zero] at this
  refine congrArg (fun z => some (AVal.agg z)) (this.trans ?_)
  rw [List.take_of_length_le (by rw [dcell_len]; exact Nat.le_refl _)]; rfl
end Go.Sh

/- What Go functions come to over abstract values, printed by a program (wtext.py). -/
namespace Go.Sh
open Go Go.Abs

def oracle_Pair_1.L2.b (x0 : AVal) (x1 : AVal) (x2 : AVal) (x7_2 : AVal) (H1 : AHeap) (Kn2 : List AVal → AHeap → Prop) (Ke3 : AExit → List AVal → AHeap → Prop) : Prop :=
  vb (aBin .lss x7_2 x0) fun v4 =>
  isB v4 fun b5 => cond b5
    (vb (aLoad H1 false 1 x1) fun v6 =>
    vb (aIndexAddr 32 v6 x7_2) fun v7 =>
    vb (aLoad H1 true 32 v7) fun v8 =>
    vb (aLoad H1 false 1 x1) fun v9 =>
    vb (aIndexAddr 32 v9 x0) fun v10 =>
    vb (aLoad H1 true 32 v10) fun v11 =>
    vb (aEql false (.agg (List.replicate 32 .int)) H1 v8 v11) fun v12 =>
    isB v12 fun b13 => cond b13
      (vb (aLoad H1 false 1 x2) fun v14 =>
      vb (aIndexAddr 1 v14 x7_2) fun v15 =>
          vb (aLoad H1 false 1 v15) fun v16 =>
            vb (aLoad H1 false 1 x2) fun v17 =>
              vb (aIndexAddr 1 v17 x0) fun v18 =>
                  vb (aLoad H1 false 1 v18) fun v19 =>
                    vb (aBin .neq v16 v19) fun v20 =>
                      isB v20 fun b21 => cond b21
                        (Ke3 .ret [x7_2] H1)
                        (vb (aBin .add x7_2 (.int .i64 1)) fun v22 =>
                        Kn2 [v22] H1))
      (vb (aBin .add x7_2 (.int .i64 1)) fun v23 =>
                      Kn2 [v23] H1))
    (Ke3 (.exit 0) [.undef] H1)

def oracle_Pair_1.L2 (x0 : AVal) (x1 : AVal) (x2 : AVal) : Body := fun vs H Kn Ke => oracle_Pair_1.L2.b x0 x1 x2 (vs.getD 0 .undef) H Kn Ke

def oracle_Pair_1.w (x0 : AVal) (x1 : AVal) (x2 : AVal) (H : AHeap) (K : AVal → AHeap → Prop) : Prop :=
  LoopP (oracle_Pair_1.L2 x0 x1 x2) [.int .i64 0] H fun e24 vs25 H26 =>
    onE e24 (.exit 0)
      (fin .ret [.v (.int .i64 (-1))] H26 K)
    (onE e24 .ret
      (fin .ret [.v (vs25.getD 0 .undef)] H26 K)
    (False))

def oracle_Pair.L4.b (v9 : AVal) (v3 : AVal) (v1 : AVal) (x18_4 : AVal) (H10 : AHeap) (Kn11 : List AVal → AHeap → Prop) (Ke12 : AExit → List AVal → AHeap → Prop) : Prop :=
  vb (aBin .lss x18_4 v9) fun v13 =>
  isB v13 fun b14 => cond b14
    (cb (S_oracle_Pair_1 [x18_4, v3, v1] H10) fun v15 H16 =>
    vb (aBin .geq v15 (.int .i64 0)) fun v17 =>
    isB v17 fun b18 => cond b18
      (Ke12 .ret [v15, x18_4, .bool true] H16)
      (vb (aBin .add x18_4 (.int .i64 1)) fun v19 =>
      Kn11 [v19] H16))
    (Ke12 (.exit 0) [.undef, .undef, .undef] H10)

def oracle_Pair.L4 (v9 : AVal) (v3 : AVal) (v1 : AVal) : Body := fun vs H Kn Ke => oracle_Pair.L4.b v9 v3 v1 (vs.getD 0 .undef) H Kn Ke

def oracle_Pair.w (x0 : AVal) (x1 : AVal) (H : AHeap) (K : AVal → AHeap → Prop) : Prop :=
  hb (aBox H x0) fun v1 H2 =>
  hb (aBox H2 x1) fun v3 H4 =>
  vb (aLoad H4 false 1 v1) fun v5 =>
  vb (lenSl v5) fun v6 =>
  vb (aLoad H4 false 1 v3) fun v7 =>
  vb (lenSl v7) fun v8 =>
  vb (aFold aMin2 v6 [v8]) fun v9 =>
  LoopP (oracle_Pair.L4 v9 v3 v1) [.int .i64 0] H4 fun e20 vs21 H22 =>
    onE e20 (.exit 0)
      (fin .ret [.v (.int .i64 0), .v (.int .i64 0), .v (.bool false)] H22 K)
    (onE e20 .ret
      (fin .ret [.v (vs21.getD 0 .undef), .v (vs21.getD 1 .undef), .v (vs21.getD 2 .undef)] H22 K)
    (False))

def cellaretref06_Pair.L5.b (x7_2 : AVal) (x0 : AVal) (x1 : AVal) (x8_5 : AVal) (H14 : AHeap) (Kn15 : List AVal → AHeap → Prop) (Ke16 : AExit → List AVal → AHeap → Prop) : Prop :=
  vb (aBin .lss x8_5 x7_2) fun v17 =>
  isB v17 fun b18 => cond b18
    (vb (aIndexAddr 1 x0 x8_5) fun v19 =>
    vb (aLoad H14 false 1 v19) fun v20 =>
    vb (aIndexAddr 1 x0 x7_2) fun v21 =>
    vb (aLoad H14 false 1 v21) fun v22 =>
    vb (aBin .neq v20 v22) fun v23 =>
    isB v23 fun b24 => cond b24
      (vb (aIndexAddr 32 x1 x8_5) fun v25 =>
          vb (aLoad H14 true 32 v25) fun v26 =>
            vb (aIndexAddr 32 x1 x7_2) fun v27 =>
                  vb (aLoad H14 true 32 v27) fun v28 =>
                    vb (aEql false (.agg (List.replicate 32 .int)) H14 v26 v28) fun v29 =>
                      isB v29 fun b30 => cond b30
                        (Ke16 .ret [x8_5, x7_2, .bool true] H14)
                        (vb (aBin .add x8_5 (.int .i64 1)) fun v31 =>
                        Kn15 [v31] H14))
      (vb (aBin .add x8_5 (.int .i64 1)) fun v32 =>
                      Kn15 [v32] H14))
    (Ke16 (.exit 2) [.undef, .undef, .undef] H14)

def cellaretref06_Pair.L5 (x7_2 : AVal) (x0 : AVal) (x1 : AVal) : Body := fun vs H Kn Ke => cellaretref06_Pair.L5.b x7_2 x0 x1 (vs.getD 0 .undef) H Kn Ke

def cellaretref06_Pair.L2.b (x0 : AVal) (x1 : AVal) (x7_2 : AVal) (H1 : AHeap) (Kn2 : List AVal → AHeap → Prop) (Ke3 : AExit → List AVal → AHeap → Prop) : Prop :=
  JoinP (fun Kj4 => vb (lenSl x0) fun v5 =>
    vb (aBin .lss x7_2 v5) fun v6 =>
    isB v6 fun b7 => cond b7
      (vb (lenSl x1) fun v8 =>
          vb (aBin .lss x7_2 v8) fun v9 =>
            isB v9 fun b10 => cond b10
              (Kj4 .normal [] H1)
              (Kj4 (.exit 0) [] H1))
      (Kj4 (.exit 0) [] H1))
  (fun e11 vs12 H13 =>
    onE e11 (.exit 0)
      (Ke3 (.exit 0) [.undef, .undef, .undef] H13)
    (onE e11 .normal
      (LoopP (cellaretref06_Pair.L5 x7_2 x0 x1) [.int .i64 0] H13 fun e33 vs34 H35 =>
        onE e33 (.exit 2)
          (vb (aBin .add x7_2 (.int .i64 1)) fun v36 =>
          Kn2 [v36] H35)
        (onE e33 .ret
          (Ke3 .ret [vs34.getD 0 .undef, vs34.getD 1 .undef, vs34.getD 2 .undef] H35)
        (False)))
    (False)))

def cellaretref06_Pair.L2 (x0 : AVal) (x1 : AVal) : Body := fun vs H Kn Ke => cellaretref06_Pair.L2.b x0 x1 (vs.getD 0 .undef) H Kn Ke

def cellaretref06_Pair.w (x0 : AVal) (x1 : AVal) (H : AHeap) (K : AVal → AHeap → Prop) : Prop :=
  LoopP (cellaretref06_Pair.L2 x0 x1) [.int .i64 0] H fun e37 vs38 H39 =>
    onE e37 (.exit 0)
      (fin .ret [.v (.int .i64 0), .v (.int .i64 0), .v (.bool false)] H39 K)
    (onE e37 .ret
      (fin .ret [.v (vs38.getD 0 .undef), .v (vs38.getD 1 .undef), .v (vs38.getD 2 .undef)] H39 K)
    (False))

def oracle_Oracle_Forget.w (x0 : AVal) (x1 : AVal) (H : AHeap) (K : AVal → AHeap → Prop) : Prop :=
  hb (aBox H x1) fun v1 H2 =>
  vb (aEql false .ptr H2 x0 .nilp) fun v3 =>
  isB v3 fun b4 => cond b4
    (fin .ret [.v (.int .i64 1)] H2 K)
    (vb (aNilCheck x0) fun v5 =>
    vb (aFieldAddr 0 v5) fun v6 =>
    vb (aLoad H2 false 1 v6) fun v7 =>
    cb (S_slices_IndexFunc_oracle_input_oracle_input [v7, .func (.func 90) [] [v1]] H2) fun v8 H9 =>
    vb (aBin .lss v8 (.int .i64 0)) fun v10 =>
    isB v10 fun b11 => cond b11
      (fin .ret [.v (.int .i64 7)] H9 K)
      (vb (aNilCheck x0) fun v12 =>
      vb (aFieldAddr 1 v12) fun v13 =>
      vb (aLoad H9 false 1 v13) fun v14 =>
      vb (aLoad H9 false 1 v1) fun v15 =>
      hb (aDelete H9 .str v14 v15) fun v16 H17 =>
      vb (aNilCheck x0) fun v18 =>
      vb (aFieldAddr 0 v18) fun v19 =>
      vb (aLoad H17 false 1 v19) fun v20 =>
      vb (aBin .add v8 (.int .i64 1)) fun v21 =>
      cb (S_slices_Delete_oracle_input_oracle_input [v20, v8, v21] H17) fun v22 H23 =>
      vb (aNilCheck x0) fun v24 =>
      vb (aFieldAddr 0 v24) fun v25 =>
      sb (aStore H23 1 v25 v22) fun H26 =>
      fin .ret [.v (.int .i64 0)] H26 K))

def cellaretlaw06_awake.w (H : AHeap) (K : AVal → AHeap → Prop) : Prop :=
  cb (S_oracle_New [] H) fun v1 H2 =>
  JoinP (fun Kj3 => vb (aEql false .ptr H2 v1 .nilp) fun v4 =>
    isB v4 fun b5 => cond b5
      (Kj3 .ret [.bool false] H2)
      (cb (S_oracle_Oracle_Sum [v1, .str [97, 98, 99]] H2) fun v6 H7 =>
        cb (S_sha_Sum [.str [97, 98, 99]] H7) fun v8 H9 =>
          vb (aEql true (.agg (List.replicate 32 .int)) H9 v6 v8) fun v10 =>
            isB v10 fun b11 => cond b11
              (Kj3 .ret [.bool false] H9)
              (cb (S_oracle_Oracle_Len [v1] H9) fun v12 H13 =>
                vb (aBin .neq v12 (.int .i64 1)) fun v14 =>
                  isB v14 fun b15 => cond b15
                    (Kj3 .ret [.bool false] H13)
                    (Kj3 .normal [.bool false] H13))))
  (fun e16 vs17 H18 =>
    onE e16 .normal
      (hb (aBuildSlice H18 1 [.str []] 2 [(0, .str [97]), (1, .str [98])]) fun v19 H20 =>
      vb (aBuild (List.replicate 32 (.int .u8 0)) (fun k => some (k * 1, 1)) []) fun v21 =>
      vb (aBuild (List.replicate 32 (.int .u8 0)) (fun k => some (k * 1, 1)) []) fun v22 =>
      hb (aBuildSlice H20 32 (List.replicate 32 (.int .u8 0)) 2 [(0, v21), (1, v22)]) fun v23 H24 =>
      cb (S_oracle_Pair [v19, v23] H24) fun v25 H26 =>
      vb (aExtract v25 0) fun v27 =>
      vb (aExtract v25 1) fun v28 =>
      vb (aExtract v25 2) fun v29 =>
      cb (S_oracle_Oracle_Input [v1, .int .i64 0] H26) fun v30 H31 =>
      vb (aExtract v30 0) fun v32 =>
      vb (aExtract v30 1) fun v33 =>
      vb (aExtract v30 2) fun v34 =>
      hb (aAlloc H31 (List.replicate 32 (.int .u8 0))) fun v35 H36 =>
      sb (aStore H36 32 v35 v33) fun H37 =>
      vb (aBin .eql v27 (.int .i64 0)) fun v38 =>
      isB v38 fun b39 => cond b39
        (vb (aBin .eql v28 (.int .i64 1)) fun v40 =>
          isB v40 fun b41 => cond b41
            (isB v29 fun b42 => cond b42
              (vb (aBin .eql v32 (.str [97, 98, 99])) fun v43 =>
                isB v43 fun b44 => cond b44
                  (vb (aLoad H37 true 32 v35) fun v45 =>
                  cb (S_sha_Sum [.str [97, 98, 99]] H37) fun v46 H47 =>
                    vb (aEql false (.agg (List.replicate 32 .int)) H47 v45 v46) fun v48 =>
                      isB v48 fun b49 => cond b49
                        (vb (aBin .eql v34 (.int .i64 0)) fun v50 =>
                          fin .ret [.v (v50)] H47 K)
                        (fin .ret [.v (.bool false)] H47 K))
                  (fin .ret [.v (.bool false)] H37 K))
              (fin .ret [.v (.bool false)] H37 K))
            (fin .ret [.v (.bool false)] H37 K))
        (fin .ret [.v (.bool false)] H37 K))
    (onE e16 .ret
      (fin .ret [.v (vs17.getD 0 .undef)] H18 K)
    (False)))

def cellaretlaw06_OraclePairs.w (x0 : AVal) (x1 : AVal) (H : AHeap) (K : AVal → AHeap → Prop) : Prop :=
  JoinP (fun Kj1 => vb (lenSl x0) fun v2 =>
    vb (aBin .gtr v2 (.int .i64 60)) fun v3 =>
    isB v3 fun b4 => cond b4
      (vb (aSlice H 1 x0 none (some (.int .i64 60)) none) fun v5 =>
      Kj1 .normal [v5] H)
      (Kj1 .normal [x0] H))
  (fun e6 vs7 H8 =>
    onE e6 .normal
      (cb (S_oracle_Pair [vs7.getD 0 .undef, x1] H8) fun v9 H10 =>
      vb (aExtract v9 0) fun v11 =>
      vb (aExtract v9 1) fun v12 =>
      vb (aExtract v9 2) fun v13 =>
      cb (S_cellaretref06_Pair [vs7.getD 0 .undef, x1] H10) fun v14 H15 =>
      vb (aExtract v14 0) fun v16 =>
      vb (aExtract v14 1) fun v17 =>
      vb (aExtract v14 2) fun v18 =>
      cb (S_cellaretlaw06_awake [] H15) fun v19 H20 =>
      isB v19 fun b21 => cond b21
        (vb (aBin .eql v11 v16) fun v22 =>
            isB v22 fun b23 => cond b23
              (vb (aBin .eql v12 v17) fun v24 =>
                  isB v24 fun b25 => cond b25
                    (vb (aEql false .bool H20 v13 v18) fun v26 =>
                        fin .ret [.v (v26)] H20 K)
                    (fin .ret [.v (.bool false)] H20 K))
              (fin .ret [.v (.bool false)] H20 K))
        (fin .ret [.v (.bool false)] H20 K))
    (False))

def cellaretlaw06_OracleNone.w (x0 : AVal) (x1 : AVal) (H : AHeap) (K : AVal → AHeap → Prop) : Prop :=
  vb (lenSt x0) fun v1 =>
  vb (aBin .gtr v1 (.int .i64 1000)) fun v2 =>
  isB v2 fun b3 => cond b3
    (cb (S_cellaretlaw06_awake [] H) fun v4 H5 =>
    fin .ret [.v (v4)] H5 K)
    (cb (S_oracle_Oracle_Input [.nilp, x1] H) fun v6 H7 =>
    vb (aExtract v6 0) fun v8 =>
    vb (aExtract v6 1) fun v9 =>
    vb (aExtract v6 2) fun v10 =>
    hb (aAlloc H7 (List.replicate 32 (.int .u8 0))) fun v11 H12 =>
    sb (aStore H12 32 v11 v9) fun H13 =>
    cb (S_oracle_Oracle_Collide [.nilp] H13) fun v14 H15 =>
    vb (aExtract v14 0) fun v16 =>
    vb (aExtract v14 1) fun v17 =>
    vb (aExtract v14 2) fun v18 =>
    cb (S_cellaretlaw06_awake [] H15) fun v19 H20 =>
    isB v19 fun b21 => cond b21
      (cb (S_oracle_Oracle_Sum [.nilp, x0] H20) fun v22 H23 =>
          cb (S_sha_Sum [x0] H23) fun v24 H25 =>
              vb (aEql false (.agg (List.replicate 32 .int)) H25 v22 v24) fun v26 =>
                isB v26 fun b27 => cond b27
                  (cb (S_oracle_Oracle_Len [.nilp] H25) fun v28 H29 =>
                    vb (aBin .eql v28 (.int .i64 0)) fun v30 =>
                      isB v30 fun b31 => cond b31
                        (vb (aBin .add v8 v16) fun v32 =>
                            vb (aBin .add v32 v17) fun v33 =>
                                vb (aBin .eql v33 (.str [])) fun v34 =>
                                  isB v34 fun b35 => cond b35
                                    (vb (aLoad H29 true 32 v11) fun v36 =>
                                    vb (aBuild (List.replicate 32 (.int .u8 0)) (fun k => some (k * 1, 1)) []) fun v37 =>
                                      vb (aEql false (.agg (List.replicate 32 .int)) H29 v36 v37) fun v38 =>
                                        isB v38 fun b39 => cond b39
                                          (vb (aBin .eql v10 (.int .i64 1)) fun v40 =>
                                            isB v40 fun b41 => cond b41
                                              (vb (aUn .not v18) fun v42 =>
                                                isB v42 fun b43 => cond b43
                                                  (cb (S_oracle_Oracle_Forget [.nilp, x0] H29) fun v44 H45 =>
                                                      vb (aBin .eql v44 (.int .i64 1)) fun v46 =>
                                                        fin .ret [.v (v46)] H45 K)
                                                  (fin .ret [.v (.bool false)] H29 K))
                                              (fin .ret [.v (.bool false)] H29 K))
                                          (fin .ret [.v (.bool false)] H29 K))
                                    (fin .ret [.v (.bool false)] H29 K))
                        (fin .ret [.v (.bool false)] H29 K))
                  (fin .ret [.v (.bool false)] H25 K))
      (fin .ret [.v (.bool false)] H20 K))

end Go.Sh

/- Pairs: the functions come to what is told. -/
namespace Go.Sh
open Go Go.Abs

theorem ahead_some {l : List (List UInt8)} {dd : List D32} {i k : Nat} (hi : i < k) (h : like l dd i k = true) (hn : ∀ j, j < i → like l dd j k = false) : ahead l dd k = some i :=
  find_range (p := fun i => like l dd i k) h k hi hn
theorem ahead_none {l : List (List UInt8)} {dd : List D32} {k : Nat} (hn : ∀ j, j < k → like l dd j k = false) : ahead l dd k = none :=
  find_none fun j hj => hn j (List.mem_range.1 hj)
theorem pairs_none {l : List (List UInt8)} {dd : List D32} : ∀ {n : Nat}, (∀ k, k < n → ahead l dd k = none) → pairs l dd n = none
  | 0, _ => rfl
  | n + 1, h => by
    simp only [pairs]
    rw [pairs_none fun k hk => h k (by omega), h n (by omega)]; rfl
theorem pairs_some {l : List (List UInt8)} {dd : List D32} {i k : Nat} (h : ahead l dd k = some i) (hn : ∀ j, j < k → ahead l dd j = none) : ∀ {n : Nat}, k < n → pairs l dd n = some (i, k)
  | 0, hk => by omega
  | n + 1, hk => by
    simp only [pairs]
    by_cases e : k = n
    · subst e
      rw [pairs_none hn, h]; rfl
    · rw [pairs_some h hn (n := n) (by omega)]

theorem oracle_Pair_1.ok (args : List AVal) (H : AHeap) (r : AVal) (H' : AHeap) (h : S_oracle_Pair_1 args H r H') : ∃ x0 x1 x2, args = [x0, x1, x2] ∧ oracle_Pair_1.w x0 x1 x2 H fun r1 H1 => Weak H r1 H1 r H' := by
  obtain ⟨k, j, q, x, y, l, dd, rfl, hj, hq, hp, hkl, hkd, rfl, rfl⟩ := h
  refine ⟨_, _, _, rfl, ?_⟩
  unfold oracle_Pair_1.w
  have hl := hp.hl
  refine LoopP.ruleG (α := Nat) (fun i => [.int .i64 i]) (fun i B => B = H' ∧ i ≤ k ∧ ∀ j, j < i → like l dd j k = false) (fun i => k - i) 0 rfl ⟨rfl, Nat.zero_le _, fun j hj => by omega⟩ ?_
  rintro i B Kn ⟨rfl, hi, hno⟩ hn
  unfold oracle_Pair_1.L2 oracle_Pair_1.L2.b
  simp only [evB]
  have l1 : aLoad B false 1 (.ptr ⟨j, 0, 0⟩) = some y := e_load1 hj (by simp)
  have l2 : aLoad B false 1 (.ptr ⟨q, 0, 0⟩) = some x := e_load1 hq (by simp)
  by_cases hik : i < k
  · obtain ⟨a1, a2, a3⟩ := digs_at hp.vd (k := i) (by omega) (List.prefix_refl _)
    obtain ⟨b1, b2, b3⟩ := digs_at hp.vd (k := k) hkd (List.prefix_refl _)
    obtain ⟨c1, c2, c3⟩ := strs_at hp.vl (k := i) (by omega) (List.prefix_refl _)
    obtain ⟨e1, e2, e3⟩ := strs_at hp.vl (k := k) hkl (List.prefix_refl _)
    have go : like l dd i k = false → Kn [.int .i64 ((i : Int) + 1)] B := fun hf => hn (i + 1) _ ⟨rfl, by omega, fun j hj => by
      by_cases e : j = i
      · subst e; exact hf
      · exact hno j (by omega)⟩ (by omega)
    repeat with_reducible first
    | (refine isB_ct ?_ ?_; (· first | omega | rfl | assumption | trivial))
    | refine vb_i (lss64 _ _ _) ?_
    refine vb_i l1 (vb_i a2 (vb_i a3 (vb_i l1 (vb_i b2 (vb_i b3 ?_)))))
    refine vb_i (e_eqBytes (dd.getD i d0).2 (dd.getD k d0).2) ?_
    refine isB_c (fun h1 => ?_) (fun h1 => ?_)
    · refine vb_i l2 (vb_i c2 (vb_i c3 (vb_i l2 (vb_i e2 (vb_i e3 ?_)))))
      refine vb_i (neqs _ _) ?_
      refine isB_c (fun h2 => ?_) (fun h2 => ?_)
      · repeat with_reducible first
        | refine onE_i ?_
        | (refine onE_s ?_ ?_; (· decide))
        have hlk : like l dd i k = true := by simp only [like]; rw [decide_eq_true h1, decide_eq_true h2]; rfl
        rw [ahead_some hik hlk hno]
        exact fin_ret (vs := [.int .i64 i]) (rvs_v (rvs_nil _)) (Weak.plain rfl (List.prefix_refl _))
      · repeat with_reducible (refine vb_i (add64 ?_ ?_) ?_; (· omega); (· omega))
        exact go (by simp only [like]; rw [decide_eq_false h2, Bool.and_false])
    · repeat with_reducible (refine vb_i (add64 ?_ ?_) ?_; (· omega); (· omega))
      exact go (by simp only [like]; rw [decide_eq_false h1, Bool.false_and])
  · have : i = k := by omega
    subst this
    repeat with_reducible first
    | (refine isB_cf ?_ ?_; (· first | omega | assumption))
    | refine onE_i ?_
    | refine vb_i (lss64 _ _ _) ?_
    rw [ahead_none hno]
    exact fin_ret (vs := [.int .i64 (-1)]) (rvs_v (rvs_nil _)) (Weak.plain rfl (List.prefix_refl _))

theorem pair_ren {l : List (List UInt8)} {dd : List D32} : ∀ (ρ σ : Nat → Nat) (n : Nat), Ren ρ σ n (.tup (pairR l dd)) (.tup (pairR l dd)) := by
  refine tup_plain ?_
  unfold pairR
  split <;> exact plain_cons rfl (plain_cons rfl (plain_cons rfl plain_nil))

theorem fold_min {a b : Nat} : aFold aMin2 (.int .i64 a) [.int .i64 b] = some (.int .i64 (min a b : Nat)) := by
  simp only [aFold, aMin2]
  congr 2
  by_cases h : (b : Int) < a
  · rw [if_pos h]; omega
  · rw [if_neg h]; omega

theorem oracle_Pair.ok (args : List AVal) (H : AHeap) (r : AVal) (H' : AHeap) (h : S_oracle_Pair args H r H') : ∃ x0 x1, args = [x0, x1] ∧ oracle_Pair.w x0 x1 H fun r1 H1 => Weak H r1 H1 r H' := by
  obtain ⟨x, y, l, dd, rfl, hp, rfl, rfl⟩ := h
  refine ⟨_, _, rfl, ?_⟩
  unfold oracle_Pair.w
  have hl := hp.hl
  have hd := hp.hd
  have dx := view_defd hp.vl
  have dy := view_defd hp.vd
  refine hb_i (e_box dx.1) ?_
  refine hb_i (e_box dy.1) ?_
  rw [dx.2, dy.2]
  have hp4 := hp.pre ((pre_app H' [AObj.cells 0 .exact [x]]).trans (pre_app _ [AObj.cells 0 .exact [y]]))
  have hx : ((H' ++ [AObj.cells 0 .exact [x]]) ++ [AObj.cells 0 .exact [y]])[H'.length]? = some (.cells 0 .exact [x]) := by rw [List.append_assoc, app_get0]; rfl
  have hy : ((H' ++ [AObj.cells 0 .exact [x]]) ++ [AObj.cells 0 .exact [y]])[(H' ++ [AObj.cells 0 .exact [x]]).length]? = some (.cells 0 .exact [y]) := by rw [app_get0]; rfl
  have pB : H' <+: (H' ++ [AObj.cells 0 .exact [x]]) ++ [AObj.cells 0 .exact [y]] := (pre_app _ _).trans (pre_app _ _)
  generalize (H' ++ [AObj.cells 0 .exact [x]]) ++ [AObj.cells 0 .exact [y]] = B at *
  refine vb_i (e_load1 hx (by simp)) ?_
  refine vb_i (lenSl_view hp4.vl) ?_
  refine vb_i (e_load1 hy (by simp)) ?_
  refine vb_i (lenSl_view hp4.vd) ?_
  refine vb_i fold_min ?_
  refine LoopP.ruleG (α := Nat) (fun k => [.int .i64 k]) (fun k C => C = B ∧ k ≤ min l.length dd.length ∧ ∀ j, j < k → ahead l dd j = none) (fun k => min l.length dd.length - k) 0 rfl ⟨rfl, Nat.zero_le _, fun j hj => by omega⟩ ?_
  rintro k C Kn ⟨rfl, hk, hno⟩ hn
  unfold oracle_Pair.L4 oracle_Pair.L4.b
  simp only [evB]
  by_cases hkn : k < min l.length dd.length
  · have hA : ∀ i, ahead l dd k = some i → i < k := fun i hi => List.mem_range.1 (List.mem_of_find?_eq_some hi)
    repeat with_reducible first
    | (refine isB_ct ?_ ?_; (· first | omega | rfl | assumption | trivial))
    | refine vb_i (lss64 _ _ _) ?_
    refine cb_i _ _ ⟨k, _, _, x, y, l, dd, rfl, hy, hx, hp4, by omega, by omega, rfl, rfl⟩ ?_
    cases ha : ahead l dd k with
    | some i =>
      have := hA i ha
      repeat with_reducible first
      | (refine isB_ct ?_ ?_; (· first | omega | rfl | assumption | trivial))
      | refine onE_i ?_
      | (refine onE_s ?_ ?_; (· decide))
      | refine vb_i (geq64 _ _ _) ?_
      try simp only [evB]
      refine fin_ret (vs := [.int .i64 i, .int .i64 k, .bool true]) (rvs_v (rvs_v (rvs_v (rvs_nil _)))) ?_
      have e : pairR l dd = [.int .i64 i, .int .i64 k, .bool true] := by
        unfold pairR
        rw [pairs_some ha hno hkn]
      rw [e]
      exact Weak.any (tup_plain (plain_cons rfl (plain_cons rfl (plain_cons rfl plain_nil)))) pB
    | none =>
      repeat with_reducible first
      | (refine isB_cf ?_ ?_; (· first | omega | assumption))
      | refine vb_i (geq64 _ _ _) ?_
      | (refine vb_i (add64 ?_ ?_) ?_; (· omega); (· omega))
      exact hn (k + 1) _ ⟨rfl, by omega, fun j hj => by
        by_cases e : j = k
        · subst e; exact ha
        · exact hno j (by omega)⟩ (by omega)
  · have : k = min l.length dd.length := by omega
    repeat with_reducible first
    | (refine isB_cf ?_ ?_; (· first | omega | assumption))
    | refine onE_i ?_
    | refine vb_i (lss64 _ _ _) ?_
    refine fin_ret (vs := [.int .i64 0, .int .i64 0, .bool false]) (rvs_v (rvs_v (rvs_v (rvs_nil _)))) ?_
    have e : pairR l dd = [.int .i64 0, .int .i64 0, .bool false] := by
      unfold pairR
      rw [pairs_none fun j hj => hno j (by omega)]
    rw [e]
    exact Weak.any (tup_plain (plain_cons rfl (plain_cons rfl (plain_cons rfl plain_nil)))) pB

theorem cellaretref06_Pair.ok (args : List AVal) (H : AHeap) (r : AVal) (H' : AHeap) (h : S_cellaretref06_Pair args H r H') : ∃ x0 x1, args = [x0, x1] ∧ cellaretref06_Pair.w x0 x1 H fun r1 H1 => Weak H r1 H1 r H' := by
  obtain ⟨x, y, l, dd, rfl, hp, rfl, rfl⟩ := h
  refine ⟨_, _, rfl, ?_⟩
  unfold cellaretref06_Pair.w
  have hl := hp.hl
  have hd := hp.hd
  have vl := hp.vl
  have vd := hp.vd
  refine LoopP.ruleG (α := Nat) (fun k => [.int .i64 k]) (fun k C => C = H' ∧ k ≤ min l.length dd.length ∧ ∀ j, j < k → ahead l dd j = none) (fun k => min l.length dd.length - k) 0 rfl ⟨rfl, Nat.zero_le _, fun j hj => by omega⟩ ?_
  rintro k B Kn ⟨rfl, hk, hno⟩ hn
  unfold cellaretref06_Pair.L2 cellaretref06_Pair.L2.b
  simp only [evB]
  refine JoinP.mk (fun e vs C => C = B ∧ ((e = .normal ∧ k < min l.length dd.length) ∨ (e = .exit 0 ∧ k = min l.length dd.length))) ?_ ?_
  · repeat with_reducible first
    | refine vb_i (lss64 _ _ _) ?_
    | refine vb_i (lenSl_view (by assumption)) ?_
    refine isB_c (fun h1 => ?_) (fun h1 => ?_)
    · repeat with_reducible first
      | refine vb_i (lss64 _ _ _) ?_
      | refine vb_i (lenSl_view (by assumption)) ?_
      refine isB_c (fun h2 => ?_) (fun h2 => ?_)
      · exact ⟨rfl, .inl ⟨rfl, by omega⟩⟩
      · exact ⟨rfl, .inr ⟨rfl, by omega⟩⟩
    · exact ⟨rfl, .inr ⟨rfl, by omega⟩⟩
  · rintro _ vs C ⟨rfl, ⟨rfl, hkn⟩ | ⟨rfl, hkn⟩⟩
    · repeat with_reducible first
      | refine onE_i ?_
      | (refine onE_s ?_ ?_; (· decide))
      refine LoopP.ruleG (α := Nat) (fun i => [.int .i64 i]) (fun i D => D = C ∧ i ≤ k ∧ ∀ j, j < i → like l dd j k = false) (fun i => k - i) 0 rfl ⟨rfl, Nat.zero_le _, fun j hj => by omega⟩ ?_
      rintro i D Kn2 ⟨rfl, hi, hno2⟩ hn2
      unfold cellaretref06_Pair.L5 cellaretref06_Pair.L5.b
      simp only [evB]
      by_cases hik : i < k
      · obtain ⟨a1, a2, a3⟩ := digs_at vd (k := i) (by omega) (List.prefix_refl _)
        obtain ⟨b1, b2, b3⟩ := digs_at vd (k := k) (by omega) (List.prefix_refl _)
        obtain ⟨c1, c2, c3⟩ := strs_at vl (k := i) (by omega) (List.prefix_refl _)
        obtain ⟨e1, e2, e3⟩ := strs_at vl (k := k) (by omega) (List.prefix_refl _)
        have go : like l dd i k = false → Kn2 [.int .i64 ((i : Int) + 1)] D := fun hf => hn2 (i + 1) _ ⟨rfl, by omega, fun j hj => by
          by_cases e : j = i
          · subst e; exact hf
          · exact hno2 j (by omega)⟩ (by omega)
        repeat with_reducible first
        | (refine isB_ct ?_ ?_; (· first | omega | rfl | assumption | trivial))
        | refine vb_i (lss64 _ _ _) ?_
        refine vb_i c2 (vb_i c3 (vb_i e2 (vb_i e3 ?_)))
        refine vb_i (neqs _ _) ?_
        refine isB_c (fun h2 => ?_) (fun h2 => ?_)
        · refine vb_i a2 (vb_i a3 (vb_i b2 (vb_i b3 ?_)))
          refine vb_i (e_eqBytes (dd.getD i d0).2 (dd.getD k d0).2) ?_
          refine isB_c (fun h1 => ?_) (fun h1 => ?_)
          · have hlk : like l dd i k = true := by simp only [like]; rw [decide_eq_true h1, decide_eq_true h2]; rfl
            have ha := ahead_some hik hlk hno2
            repeat with_reducible first
            | refine onE_i ?_
            | (refine onE_s ?_ ?_; (· decide))
            try simp only [evB]
            refine fin_ret (vs := [.int .i64 i, .int .i64 k, .bool true]) (rvs_v (rvs_v (rvs_v (rvs_nil _)))) ?_
            have e : pairR l dd = [.int .i64 i, .int .i64 k, .bool true] := by
              unfold pairR
              rw [pairs_some ha hno hkn]
            rw [e]
            exact Weak.any (tup_plain (plain_cons rfl (plain_cons rfl (plain_cons rfl plain_nil)))) (List.prefix_refl _)
          · repeat with_reducible (refine vb_i (add64 ?_ ?_) ?_; (· omega); (· omega))
            exact go (by simp only [like]; rw [decide_eq_false h1, Bool.false_and])
        · repeat with_reducible (refine vb_i (add64 ?_ ?_) ?_; (· omega); (· omega))
          exact go (by simp only [like]; rw [decide_eq_false h2, Bool.and_false])
      · have : i = k := by omega
        subst this
        repeat with_reducible first
        | (refine isB_cf ?_ ?_; (· first | omega | assumption))
        | refine onE_i ?_
        | refine vb_i (lss64 _ _ _) ?_
        | (refine vb_i (add64 ?_ ?_) ?_; (· omega); (· omega))
        exact hn (i + 1) _ ⟨rfl, by omega, fun j hj => by
          by_cases e : j = i
          · subst e; exact ahead_none hno2
          · exact hno j (by omega)⟩ (by omega)
    · subst hkn
      repeat with_reducible refine onE_i ?_
      refine fin_ret (vs := [.int .i64 0, .int .i64 0, .bool false]) (rvs_v (rvs_v (rvs_v (rvs_nil _)))) ?_
      have e : pairR l dd = [.int .i64 0, .int .i64 0, .bool false] := by
        unfold pairR
        rw [pairs_none hno]
      rw [e]
      exact Weak.any (tup_plain (plain_cons rfl (plain_cons rfl (plain_cons rfl plain_nil)))) (List.prefix_refl _)
end Go.Sh

/- The laws of pairs and of no oracle. -/
namespace Go.Sh
open Go Go.Abs

theorem oracle_Oracle_Forget.ok (args : List AVal) (H : AHeap) (r : AVal) (H' : AHeap) (h : S_oracle_Oracle_Forget args H r H') : ∃ x0 x1, args = [x0, x1] ∧ oracle_Oracle_Forget.w x0 x1 H fun r1 H1 => Weak H r1 H1 r H' := by
  obtain ⟨s, rfl, rfl, rfl⟩ := h
  refine ⟨_, _, rfl, ?_⟩
  unfold oracle_Oracle_Forget.w
  refine hb_i (e_box rfl) ?_
  repeat with_reducible first
  | refine isB_T ?_
  | refine vb_i (e_nilNil _) ?_
  exact fin_ret (vs := [.int .i64 1]) (rvs_v (rvs_nil _)) (Weak.plain rfl (pre_app _ _))

theorem two_strs (H : AHeap) : aBuildSlice H 1 [.str []] 2 [(0, .str [97]), (1, .str [98])] = some (.slice ⟨H.length, 0, 0⟩ 2 (.ex 2), H ++ [.cells 0 .exact (strs [[97], [98]])]) := rfl
theorem two_digs (H : AHeap) : aBuildSlice H 32 (List.replicate 32 (.int .u8 0)) 2 [(0, zero32), (1, zero32)] = some (.slice ⟨H.length, 0, 0⟩ 2 (.ex 2), H ++ [.cells 0 .exact (dcells [d0, d0])]) := rfl
theorem pair_ab : pairR [[97], [98]] [d0, d0] = [.int .i64 0, .int .i64 1, .bool true] := rfl

theorem cellaretlaw06_awake.ok (args : List AVal) (H : AHeap) (r : AVal) (H' : AHeap) (h : S_cellaretlaw06_awake args H r H') : args = [] ∧ cellaretlaw06_awake.w H fun r1 H1 => Weak H r1 H1 r H' := by
  obtain ⟨rfl, rfl, rfl⟩ := h
  refine ⟨rfl, ?_⟩
  unfold cellaretlaw06_awake.w
  refine cb_i _ _ ⟨rfl, rfl, rfl⟩ ?_
  obtain ⟨C2, mv2, lv2, hO, hI, hl2, _⟩ := (OInv.refl (ORep.new H')).sums (ss := [[97, 98, 99]]) (by simp) (by simp)
  have hn : (newO H').length = H'.length + 2 := by simp [newO]
  have pC : H' <+: C2 := pre_of_get (by omega) fun k hk => by
    rw [hI.keep k (by omega) (by omega) (by omega) (by simp [slId])]
    exact pre_get (pre_app _ _) hk
  have hT : keepTs [] [[97, 98, 99]] = [[97, 98, 99]] := rfl
  have hR := hI.rep
  rw [hT] at hR
  refine JoinP.mk (fun e vs B => B = C2 ∧ e = .normal) ?_ ?_
  · repeat with_reducible first
    | refine isB_F ?_
    | refine vb_i (e_ptrNil _ _) ?_
    refine cb_i _ _ ⟨_, _, rfl, by simp, rfl, hO⟩ ?_
    refine cb_i _ _ ⟨_, rfl, by simp, rfl, rfl⟩ ?_
    with_reducible refine vb_i (e_neBytes (sum_len _) (sum_len _)) ?_
    with_reducible refine isB_cf ?_ ?_
    · exact fun h => h rfl
    refine cb_i _ _ ⟨_, rfl, rfl, .inr ⟨_, _, _, _, _, _, rfl, hR, rfl⟩⟩ ?_
    simp only [List.length_cons, List.length_nil, Nat.zero_add]
    repeat with_reducible first
    | (refine isB_cf ?_ ?_; (· first | omega | assumption))
    | refine vb_i (neq64 _ _ _) ?_
    exact ⟨by trivial, by trivial⟩
  · rintro _ vs B ⟨rfl, rfl⟩
    repeat with_reducible refine onE_i ?_
    refine hb_i (two_strs _) ?_
    with_reducible refine vb_i zero32_build (vb_i zero32_build ?_)
    refine hb_i (two_digs _) ?_
    refine cb_i _ _ ⟨_, _, [[97], [98]], [d0, d0], rfl, ⟨(view_ex (by simp) rfl).pre (pre_app _ _), view_ex (n := 2) (by simp) rfl, by decide, by decide⟩, rfl, rfl⟩ ?_
    rw [pair_ab]
    repeat with_reducible first
    | refine vb_i e_ext0 ?_
    | refine vb_i e_ext1 ?_
    | refine vb_i e_ext2 ?_
    have pB : B <+: (B ++ [AObj.cells 0 Kd.exact (strs [[97], [98]])]) ++ [AObj.cells 0 Kd.exact (dcells [d0, d0])] := (pre_app _ _).trans (pre_app _ _)
    refine cb_i _ _ ⟨_, 0, rfl, rfl, .inr ⟨_, _, _, _, _, _, rfl, hR.pre pB, .inr ⟨[97, 98, 99], by decide, rfl, rfl⟩⟩⟩ ?_
    repeat with_reducible first
    | refine vb_i e_ext0 ?_
    | refine vb_i e_ext1 ?_
    | refine vb_i e_ext2 ?_
    | refine hb_i (e_alloc _ _) ?_
    have hsl := sum_len [97, 98, 99]
    with_reducible refine sb_i (store_new List.length_replicate (by rw [List.length_map]; exact hsl) (cells_byte _)) ?_
    repeat with_reducible first
    | refine isB_T ?_
    | (refine isB_ct ?_ ?_; (· first | omega | rfl | assumption | trivial))
    | refine vb_i (eql64 _ _ _) ?_
    | refine vb_i (eqls _ _) ?_
    with_reducible refine vb_i (load_new (by rw [List.length_map]; exact hsl)) ?_
    refine cb_i _ _ ⟨_, rfl, by simp, rfl, rfl⟩ ?_
    with_reducible refine vb_i (e_eqBytes hsl hsl) ?_
    repeat with_reducible first
    | (refine isB_ct ?_ ?_; (· first | omega | rfl | assumption | trivial))
    | refine vb_i (eql64 _ _ _) ?_
    exact fin_bool rfl ((pC.trans pB).trans (pre_app _ _))

theorem view_nil {B : AHeap} {x : AVal} {es n : Nat} {cs : List AVal} (h : View B x es n cs) : True := trivial

theorem cellaretlaw06_OraclePairs.ok (args : List AVal) (H : AHeap) (r : AVal) (H' : AHeap) (h : S_cellaretlaw06_OraclePairs args H r H') : ∃ x0 x1, args = [x0, x1] ∧ cellaretlaw06_OraclePairs.w x0 x1 H fun r1 H1 => Weak H r1 H1 r H' := by
  obtain ⟨x, y, l, dd, rfl, hp, rfl, rfl⟩ := h
  refine ⟨_, _, rfl, ?_⟩
  unfold cellaretlaw06_OraclePairs.w
  have hl := hp.hl
  have vl := hp.vl
  refine JoinP.mk (fun e vs B => B = H' ∧ e = .normal ∧ ∃ x' l', vs = [x'] ∧ PArgs H' x' y l' dd) ?_ ?_
  · repeat with_reducible first
    | refine vb_i (gtr64 _ _ _) ?_
    | refine vb_i (lenSl_view (by assumption)) ?_
    refine isB_c (fun h1 => ?_) (fun h1 => ?_)
    · obtain ⟨x', e1, e2, _⟩ := slice_view (l := none) (h := some (.int .i64 60)) (lo := 0) (hi := 60) vl rfl (by rw [bnd_int (by decide)]; rfl) (by decide) (by omega)
      refine vb_i e1 ?_
      refine ⟨rfl, rfl, x', l.take 60, rfl, ⟨?_, hp.vd, by rw [List.length_take]; omega, hp.hd⟩⟩
      have hle : (l.take 60).length = 60 := by rw [List.length_take]; omega
      have hs : strs (l.take 60) = (strs l).take 60 := List.map_take
      rw [hle, hs]
      exact e2
    · exact ⟨rfl, rfl, x, l, rfl, hp⟩
  · rintro _ _ B ⟨rfl, rfl, x', l', rfl, hp'⟩
    repeat with_reducible refine onE_i ?_
    simp only [evB]
    refine cb_i _ _ ⟨_, _, _, _, rfl, hp', rfl, rfl⟩ ?_
    have hpr : ∃ (a b : Int) (t : Bool), pairR l' dd = [.int .i64 a, .int .i64 b, .bool t] := by
      unfold pairR; split <;> exact ⟨_, _, _, rfl⟩
    obtain ⟨a, b, t, hpr⟩ := hpr
    rw [hpr]
    repeat with_reducible first
    | refine vb_i e_ext0 ?_
    | refine vb_i e_ext1 ?_
    | refine vb_i e_ext2 ?_
    refine cb_i _ _ ⟨_, _, _, _, rfl, hp', rfl, rfl⟩ ?_
    rw [hpr]
    repeat with_reducible first
    | refine vb_i e_ext0 ?_
    | refine vb_i e_ext1 ?_
    | refine vb_i e_ext2 ?_
    refine cb_i _ _ ⟨rfl, rfl, rfl⟩ ?_
    repeat with_reducible first
    | refine isB_T ?_
    | (refine isB_ct ?_ ?_; (· first | omega | rfl | assumption | trivial))
    | refine vb_i (eql64 _ _ _) ?_
    refine vb_i (v := .bool true) (by cases t <;> rfl) ?_
    exact fin_bool rfl (List.prefix_refl _)

theorem cellaretlaw06_OracleNone.ok (args : List AVal) (H : AHeap) (r : AVal) (H' : AHeap) (h : S_cellaretlaw06_OracleNone args H r H') : ∃ x0 x1, args = [x0, x1] ∧ cellaretlaw06_OracleNone.w x0 x1 H fun r1 H1 => Weak H r1 H1 r H' := by
  obtain ⟨s, i, rfl, rfl, rfl⟩ := h
  refine ⟨_, _, rfl, ?_⟩
  unfold cellaretlaw06_OracleNone.w
  by_cases h1 : 1000 < s.length
  · repeat with_reducible first
    | (refine isB_ct ?_ ?_; (· first | omega | rfl | assumption | trivial))
    | refine vb_i (gtr64 _ _ _) ?_
    | refine vb_i (e_lenSt _) ?_
    refine cb_i _ _ ⟨rfl, rfl, rfl⟩ ?_
    exact fin_bool rfl (List.prefix_refl _)
  · repeat with_reducible first
    | (refine isB_cf ?_ ?_; (· first | omega | assumption))
    | refine vb_i (gtr64 _ _ _) ?_
    | refine vb_i (e_lenSt _) ?_
    refine cb_i _ _ ⟨_, i, rfl, rfl, .inl ⟨rfl, rfl⟩⟩ ?_
    repeat with_reducible first
    | refine vb_i e_ext0 ?_
    | refine vb_i e_ext1 ?_
    | refine vb_i e_ext2 ?_
    | refine hb_i (e_alloc _ _) ?_
    unfold zero32
    with_reducible refine sb_i (store_new List.length_replicate List.length_replicate (cells_rep _ _ _)) ?_
    refine cb_i _ _ ⟨_, rfl, rfl, .inl ⟨rfl, rfl⟩⟩ ?_
    repeat with_reducible first
    | refine vb_i e_ext0 ?_
    | refine vb_i e_ext1 ?_
    | refine vb_i e_ext2 ?_
    refine cb_i _ _ ⟨rfl, rfl, rfl⟩ ?_
    repeat with_reducible refine isB_T ?_
    refine cb_i _ _ ⟨_, s, rfl, by omega, rfl, .inl ⟨rfl, rfl⟩⟩ ?_
    refine cb_i _ _ ⟨s, rfl, by omega, rfl, rfl⟩ ?_
    with_reducible refine vb_i (e_eqBytes (sum_len _) (sum_len _)) ?_
    repeat with_reducible (refine isB_ct ?_ ?_; (· first | omega | rfl | assumption | trivial))
    refine cb_i _ _ ⟨_, rfl, rfl, .inl ⟨rfl, rfl⟩⟩ ?_
    repeat with_reducible first
    | (refine isB_ct ?_ ?_; (· first | omega | rfl | assumption | trivial))
    | refine vb_i (eql64 _ _ _) ?_
    | refine vb_i (eqls _ _) ?_
    | (refine vb_i (adds ?_) ?_; (· first | omega | (simp only [List.length_cons, List.length_nil, List.length_append]; omega)))
    try simp only [List.nil_append]
    skip
    with_reducible refine vb_i (load_new List.length_replicate) ?_
    with_reducible refine vb_i zero32_build ?_
    refine vb_i zero_eq ?_
    repeat with_reducible first
    | refine isB_T ?_
    | (refine isB_ct ?_ ?_; (· first | omega | rfl | assumption | trivial))
    | refine vb_i (eql64 _ _ _) ?_
    | refine vb_i (e_not _) ?_
    refine cb_i _ _ ⟨s, rfl, rfl, rfl⟩ ?_
    repeat with_reducible refine vb_i (eql64 _ _ _) ?_
    exact fin_bool rfl (pre_app _ _)
end Go.Sh

/- Functions that leave what was there as it was. -/
namespace Go.Sh
open Go Go.Abs

theorem oracle_Pair_1.quiet {args : List AVal} {H : AHeap} {r : AVal} {H' : AHeap} (h : S_oracle_Pair_1 args H r H') : H <+: H' := by
  unfold S_oracle_Pair_1 at h; grind [pre_app, pre_of_eq, newO]
theorem oracle_Pair.quiet {args : List AVal} {H : AHeap} {r : AVal} {H' : AHeap} (h : S_oracle_Pair args H r H') : H <+: H' := by
  unfold S_oracle_Pair at h; grind [pre_app, pre_of_eq, newO]
theorem cellaretref06_Pair.quiet {args : List AVal} {H : AHeap} {r : AVal} {H' : AHeap} (h : S_cellaretref06_Pair args H r H') : H <+: H' := by
  unfold S_cellaretref06_Pair at h; grind [pre_app, pre_of_eq, newO]
theorem oracle_Oracle_Collide.quiet {args : List AVal} {H : AHeap} {r : AVal} {H' : AHeap} (h : S_oracle_Oracle_Collide args H r H') : H <+: H' := by
  unfold S_oracle_Oracle_Collide at h; grind [pre_app, pre_of_eq, newO]
theorem oracle_Oracle_Forget.quiet {args : List AVal} {H : AHeap} {r : AVal} {H' : AHeap} (h : S_oracle_Oracle_Forget args H r H') : H <+: H' := by
  unfold S_oracle_Oracle_Forget at h; grind [pre_app, pre_of_eq, newO]
theorem cellaretlaw06_awake.quiet {args : List AVal} {H : AHeap} {r : AVal} {H' : AHeap} (h : S_cellaretlaw06_awake args H r H') : H <+: H' := by
  unfold S_cellaretlaw06_awake at h; grind [pre_app, pre_of_eq, newO]
theorem cellaretlaw06_OraclePairs.quiet {args : List AVal} {H : AHeap} {r : AVal} {H' : AHeap} (h : S_cellaretlaw06_OraclePairs args H r H') : H <+: H' := by
  unfold S_cellaretlaw06_OraclePairs at h; grind [pre_app, pre_of_eq, newO]
theorem cellaretlaw06_OracleNone.quiet {args : List AVal} {H : AHeap} {r : AVal} {H' : AHeap} (h : S_cellaretlaw06_OracleNone args H r H') : H <+: H' := by
  unfold S_cellaretlaw06_OracleNone at h; grind [pre_app, pre_of_eq, newO]
end Go.Sh
