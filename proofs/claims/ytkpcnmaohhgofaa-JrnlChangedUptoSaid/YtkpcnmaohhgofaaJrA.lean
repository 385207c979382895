/- One text of these: Jrn0, JrnW1, JrnP1, JrnP2, JrnP3, JrnP4, JrnP5, JrnP6, JrnP7. -/
import Derived.Test.YtkpcnmaohhgofaaRigA
import Derived.Test.YtkpcnmaohhgofaaChain
import Derived.Test.YtkpcnmaohhgofaaCol
import Derived.Test.YtkpcnmaohhgofaaRecB
import Derived.Test.YtkpcnmaohhgofaaRecC

/- The journal: where it is, what it has; an oracle as a part of the heap; blocks that a rig has. -/
namespace Go.Sh
open Go Go.Abs

/-! ### An oracle -/
def Part.orc (i m : Nat) (lv : AVal) (T : List (List UInt8)) : Part where
  ids := i :: m :: (slId lv).toList
  ok B := ∃ mv, ORep B i 0 m mv lv T
  loc B C h k := by
    obtain ⟨mv, k⟩ := k
    refine ⟨mv, by rw [h i (by simp)]; exact k.cell, by rw [h m (by simp)]; exact k.mp, ?_, k.nd, k.short⟩
    rcases k.lst with k1 | ⟨j, u, rfl, k2, k3⟩
    · exact .inl k1
    · exact .inr ⟨j, u, rfl, by rw [h j (by simp [slId])]; exact k2, k3⟩
  live B k j hj := by
    obtain ⟨mv, k⟩ := k
    simp only [List.mem_cons, Option.mem_toList] at hj
    rcases hj with rfl | rfl | hj
    · exact lt_of_some k.cell
    · exact lt_of_some k.mp
    · rcases k.lst with ⟨rfl, _⟩ | ⟨q, u, rfl, k2, k3⟩
      · cases hj
      · cases hj; exact lt_of_some k2
section
variable {H0 B : AHeap} {own : Nat → Prop} {R : List Part} {i m : Nat} {lv : AVal} {T : List (List UInt8)}
theorem orc_new (h : Sep H0 own B R) : Sep H0 own (newO B) (Part.orc (B.length + 1) B.length .nils [] :: R) :=
  Sep.call (R1 := []) (R2 := [_]) h ⟨by simp [newO], fun j hj _ => by unfold newO; exact List.getElem?_append_left hj, fun r hr => (by simp at hr; subst hr; exact ⟨0, ORep.new B⟩),
    fun r hr j hj => (by simp at hr; subst hr; simp [Part.orc, slId] at hj; exact .inl (by omega)), List.pairwise_singleton _ _⟩
theorem orc_sums (h : Sep H0 own B (Part.orc i m lv T :: R)) {ss : List (List UInt8)} (hl : T.length + ss.length ≤ 1073741824) (hs : ∀ s ∈ ss, s.length ≤ 1099511627776) :
    ∃ C lv', Osums B (.ptr ⟨i, 0, 0⟩) ss C ∧ Sep H0 own C (Part.orc i m lv' (keepTs T ss) :: R) := by
  obtain ⟨mv, hO⟩ := h.head
  obtain ⟨C, mv2, lv2, h1, h2, h3, _⟩ := (OInv.refl hO).sums hl hs
  refine ⟨C, lv2, h1, h.put h3 (fun j hj => ?_) (fun k hk hn => ?_) ⟨mv2, h2.rep⟩⟩
  · simp only [Part.orc, List.mem_cons, Option.mem_toList] at hj ⊢
    rcases hj with rfl | rfl | hj
    · exact .inl (.inl rfl)
    · exact .inl (.inr (.inl rfl))
    · rcases hO.lst with ⟨e, _⟩ | ⟨q, u, e, _⟩
      · rcases h2.new e with e2 | ⟨q, w, e2, hq⟩
        · rw [e2] at hj; cases hj
        · rw [e2] at hj; cases hj; exact .inr hq
      · have e2 := h2.old _ _ _ e
        rw [e2] at hj; cases hj
        rw [e]; exact .inl (.inr (.inr rfl))
  · simp only [Part.orc, List.mem_cons, Option.mem_toList, not_or] at hn
    exact h2.keep k hk hn.1 hn.2.1 hn.2.2
theorem orc_rep (h : Sep H0 own B (Part.orc i m lv T :: R)) : ∃ mv, ORep B i 0 m mv lv T := h.head
/-- A start is told. -/
theorem Start_spec (h : Sep H0 own B (Part.orc i m lv T :: R)) (hT : T.length ≤ 1000000) {s : List UInt8} {d a : Int} (he : startE d a s = 0) :
    ∃ C lv', S_chain_Start [.ptr ⟨i, 0, 0⟩, .str s, .int .i64 d, .int .i64 a] B (.tup [.agg ((sum (startT d a s)).map ofByte), .int .i64 0]) C ∧ Sep H0 own C (Part.orc i m lv' (keepT T (startT d a s)) :: R) := by
  have hs : s.length = 64 := by
    unfold startE at he
    split at he
    · exact absurd he (by decide)
    · split at he
      · exact absurd he (by decide)
      · omega
  obtain ⟨C, lv', h1, h2⟩ := orc_sums h (ss := [startT d a s]) (by simp; omega) (fun t ht => by simp at ht; subst ht; rw [startT_len]; omega)
  exact ⟨C, lv', ⟨_, _, _, _, rfl, .inr ⟨he, rfl, h1⟩⟩, h2⟩
/-- A next one is told. -/
theorem Next_spec (h : Sep H0 own B (Part.orc i m lv T :: R)) (hT : T.length ≤ 1000000) {a : List UInt8} {l : List (List UInt8)} {x : AVal} (ha : a.length = 32) (hv : View B x 1 l.length (strs l)) (hg : good l) :
    ∃ C lv', S_chain_Next [.ptr ⟨i, 0, 0⟩, .agg (a.map ofByte), x] B (.tup [.agg ((sum (nextT a l)).map ofByte), .int .i64 0]) C ∧ Sep H0 own C (Part.orc i m lv' (keepT T (nextT a l)) :: R) := by
  obtain ⟨C, lv', h1, h2⟩ := orc_sums h (ss := [nextT a l]) (by simp; omega) (fun t ht => by simp at ht; subst ht; exact good_short ha hg)
  exact ⟨C, lv', ⟨_, _, _, _, rfl, ha, ⟨.inl hv, by have := hg.2.1; omega, fun s hs => by rw [hg.2.2 s hs]; omega⟩, .inr ⟨hg, rfl, h1⟩⟩, h2⟩
theorem Collide_spec (h : Sep H0 own B (Part.orc i m lv T :: R)) (hT : T.length ≤ 1000000) : S_oracle_Oracle_Collide [.ptr ⟨i, 0, 0⟩] B (.tup (collideR T)) B := by
  obtain ⟨mv, hO⟩ := orc_rep h
  exact ⟨_, rfl, rfl, .inr ⟨_, _, _, _, _, _, rfl, hO, by omega, rfl⟩⟩
end

/-! ### The journal's cells -/
structure JV where
  s : List UInt8
  d : Int
  a : Int
  used : Int
  seq : Int
  root : List UInt8
  anchor : List UInt8
def jcells (r o : AVal) (j : JV) : List AVal := [r, o, .str j.s, .int .i64 j.d, .int .i64 j.a, .int .i64 j.used, .int .i64 j.seq] ++ (j.root.map ofByte ++ j.anchor.map ofByte)
/-- Where a block of an area is. -/
def posJ (a i : Int) : Int := if 0 ≤ a ∧ a ≤ 1 ∧ 0 ≤ i ∧ i < 80 then 1 + 80 * a + i else 0
/-- A device and an area that are there; a place's 32 bytes. -/
structure JOk (j : JV) : Prop where
  d : j.d = 0 ∨ j.d = 1
  a : j.a = 0 ∨ j.a = 1
  u : 0 ≤ j.used ∧ j.used ≤ 80
  q : 0 ≤ j.seq ∧ j.seq ≤ 4294967295
  root : j.root.length = 32
  anchor : j.anchor.length = 32

/-! ### Blocks -/
def nowAt (v : RV) (d i : Int) : List UInt8 := (bkAt (v.dev d) i).now
/-- A rig that does what it is asked, but for its fault. -/
structure Calm (v : RV) (n : Int) : Prop where
  wr : WR v
  down : v.down = false
  later : v.later = 0
  arm : v.arm = 0
  calls : 0 ≤ v.calls ∧ v.calls ≤ n
/-- A record counts. -/
def JV.add (j : JV) (q : Rcd) (l : List (List UInt8)) : JV := { j with anchor := sum (nextT j.anchor l), used := j.used + l.length, seq := q.seq, root := q.root }
end Go.Sh

/- What Go functions come to over abstract values, printed by a program (wx.py); of each function its own text is what is told of it. -/
namespace Go.Sh
open Go Go.Abs

def geom_AreaAt.w (x0 : AVal) (x1 : AVal) (H : AHeap) (K : AVal → AHeap → Prop) : Prop :=
 JoinP (fun Kj1 => vb (aBin .lss x0 (.int .i64 0)) fun v2 =>
 isB v2 fun b3 => cond b3
 (Kj1 .ret [.int .i64 0, .int .i64 3] H)
 (vb (aBin .gtr x0 (.int .i64 1)) fun v4 =>
 isB v4 fun b5 => cond b5
 (Kj1 .ret [.int .i64 0, .int .i64 3] H)
 (vb (aBin .lss x1 (.int .i64 0)) fun v6 =>
 isB v6 fun b7 => cond b7
 (Kj1 .ret [.int .i64 0, .int .i64 3] H)
 (vb (aBin .geq x1 (.int .i64 80)) fun v8 =>
 isB v8 fun b9 => cond b9
 (Kj1 .ret [.int .i64 0, .int .i64 3] H)
 (Kj1 .normal [.int .i64 0, .int .i64 0] H)))))
 (fun e10 vs11 H12 =>
 onE e10 .normal
 (vb (aBin .mul (.int .i64 80) x0) fun v13 =>
 vb (aBin .add (.int .i64 1) v13) fun v14 =>
 vb (aBin .add v14 x1) fun v15 =>
 fin .ret [.v (v15), .v (.int .i64 0)] H12 K)
 (onE e10 .ret
 (fin .ret [.v (vs11.getD 0 .undef), .v (vs11.getD 1 .undef)] H12 K)
 (False)))

def S_geom_AreaAt : Abs.Spec := fun args H r H' => ∃ x0 x1 : AVal, args = [x0, x1] ∧ (geom_AreaAt.w x0 x1 H fun r1 H1 => r1 = r ∧ H1 = H') ∧ H <+: H'
theorem geom_AreaAt.ok (args : List AVal) (H : AHeap) (r : AVal) (H' : AHeap) (h : S_geom_AreaAt args H r H') : ∃ x0 x1 : AVal, args = [x0, x1] ∧ geom_AreaAt.w x0 x1 H fun r1 H1 => r1 = r ∧ H1 = H' := by
  obtain ⟨x0, x1, h1, h2, _⟩ := h
  exact ⟨x0, x1, h1, h2⟩
theorem geom_AreaAt.quiet {args : List AVal} {H : AHeap} {r : AVal} {H' : AHeap} (h : S_geom_AreaAt args H r H') : H <+: H' := by
  obtain ⟨_, _, _, _, h⟩ := h
  exact h
def jrnl_Where_block.w (x0 : AVal) (x1 : AVal) (H : AHeap) (K : AVal → AHeap → Prop) : Prop :=
 hb (aBox H x0) fun v1 H2 =>
 vb (aFieldAddr 2 v1) fun v3 =>
 vb (aLoad H2 false 1 v3) fun v4 =>
 cb (S_geom_AreaAt [v4, x1] H2) fun v5 H6 =>
 vb (aExtract v5 0) fun v7 =>
 vb (aExtract v5 1) fun v8 =>
 fin .ret [.v (v7)] H6 K

def S_jrnl_Where_block : Abs.Spec := fun args H r H' => ∃ x0 x1 : AVal, args = [x0, x1] ∧ (jrnl_Where_block.w x0 x1 H fun r1 H1 => r1 = r ∧ H1 = H') ∧ H <+: H'
theorem jrnl_Where_block.ok (args : List AVal) (H : AHeap) (r : AVal) (H' : AHeap) (h : S_jrnl_Where_block args H r H') : ∃ x0 x1 : AVal, args = [x0, x1] ∧ jrnl_Where_block.w x0 x1 H fun r1 H1 => r1 = r ∧ H1 = H' := by
  obtain ⟨x0, x1, h1, h2, _⟩ := h
  exact ⟨x0, x1, h1, h2⟩
theorem jrnl_Where_block.quiet {args : List AVal} {H : AHeap} {r : AVal} {H' : AHeap} (h : S_jrnl_Where_block args H r H') : H <+: H' := by
  obtain ⟨_, _, _, _, h⟩ := h
  exact h
set_option maxRecDepth 100000 in
theorem jrnl_Where_block.ex (x0 x1 : AVal) (H : AHeap) : Ex fun K : AVal × AHeap → Prop => jrnl_Where_block.w x0 x1 H fun r H => K (r, H) := by
  unfold jrnl_Where_block.w
  repeat with_reducible first
    | exact Ex.pt _
    | exact Ex.fin
    | exact Ex.no
    | refine Ex.vb fun _ => ?_
    | refine Ex.hb fun _ _ => ?_
    | refine Ex.sb fun _ => ?_
    | refine Ex.cb fun _ _ => ?_
    | refine Ex.isB fun _ => ?_
    | refine Ex.cond ?_ ?_
    | refine Ex.onE ?_ ?_
    | refine Ex.join ?_ fun _ _ _ => ?_
    | refine Ex.loop (fun _ _ => ?_) fun _ _ _ => ?_

theorem jrnl_Where_block.out {x0 x1 : AVal} {H : AHeap} {Q : AVal → AHeap → Prop} (h : jrnl_Where_block.w x0 x1 H fun r H' => (H <+: H') ∧ Q r H') : ∃ r H', S_jrnl_Where_block [x0, x1] H r H' ∧ Q r H' := by
  obtain ⟨r, H', h1, h2⟩ := (jrnl_Where_block.ex x0 x1 H).out h
  exact ⟨r, H', ⟨_, _, rfl, h1, h2.1⟩, h2.2⟩

def jrnl_Journal_Anchor.w (x0 : AVal) (H : AHeap) (K : AVal → AHeap → Prop) : Prop :=
 hb (aAlloc H (List.replicate 32 (.int .u8 0))) fun v1 H2 =>
 vb (aEql false .ptr H2 x0 .nilp) fun v3 =>
 isB v3 fun b4 => cond b4
 (vb (aBuild (List.replicate 32 (.int .u8 0)) (fun k => some (k * 1, 1)) []) fun v5 =>
 sb (aStore H2 32 v1 v5) fun H6 =>
 fin .ret [.c true 32 (v1)] H6 K)
 (vb (aNilCheck x0) fun v7 =>
 vb (aFieldAddr 39 v7) fun v8 =>
 vb (aLoad H2 true 32 v8) fun v9 =>
 sb (aStore H2 32 v1 v9) fun H10 =>
 fin .ret [.c true 32 (v1)] H10 K)

def S_jrnl_Journal_Anchor : Abs.Spec := fun args H r H' => ∃ x0 : AVal, args = [x0] ∧ (jrnl_Journal_Anchor.w x0 H fun r1 H1 => r1 = r ∧ H1 = H') ∧ H <+: H'
theorem jrnl_Journal_Anchor.ok (args : List AVal) (H : AHeap) (r : AVal) (H' : AHeap) (h : S_jrnl_Journal_Anchor args H r H') : ∃ x0 : AVal, args = [x0] ∧ jrnl_Journal_Anchor.w x0 H fun r1 H1 => r1 = r ∧ H1 = H' := by
  obtain ⟨x0, h1, h2, _⟩ := h
  exact ⟨x0, h1, h2⟩
theorem jrnl_Journal_Anchor.quiet {args : List AVal} {H : AHeap} {r : AVal} {H' : AHeap} (h : S_jrnl_Journal_Anchor args H r H') : H <+: H' := by
  obtain ⟨_, _, _, h⟩ := h
  exact h
set_option maxRecDepth 100000 in
theorem jrnl_Journal_Anchor.ex (x0 : AVal) (H : AHeap) : Ex fun K : AVal × AHeap → Prop => jrnl_Journal_Anchor.w x0 H fun r H => K (r, H) := by
  unfold jrnl_Journal_Anchor.w
  repeat with_reducible first
    | exact Ex.pt _
    | exact Ex.fin
    | exact Ex.no
    | refine Ex.vb fun _ => ?_
    | refine Ex.hb fun _ _ => ?_
    | refine Ex.sb fun _ => ?_
    | refine Ex.cb fun _ _ => ?_
    | refine Ex.isB fun _ => ?_
    | refine Ex.cond ?_ ?_
    | refine Ex.onE ?_ ?_
    | refine Ex.join ?_ fun _ _ _ => ?_
    | refine Ex.loop (fun _ _ => ?_) fun _ _ _ => ?_

theorem jrnl_Journal_Anchor.out {x0 : AVal} {H : AHeap} {Q : AVal → AHeap → Prop} (h : jrnl_Journal_Anchor.w x0 H fun r H' => (H <+: H') ∧ Q r H') : ∃ r H', S_jrnl_Journal_Anchor [x0] H r H' ∧ Q r H' := by
  obtain ⟨r, H', h1, h2⟩ := (jrnl_Journal_Anchor.ex x0 H).out h
  exact ⟨r, H', ⟨_, rfl, h1, h2.1⟩, h2.2⟩

def jrnl_Journal_Seq.w (x0 : AVal) (H : AHeap) (K : AVal → AHeap → Prop) : Prop :=
 vb (aEql false .ptr H x0 .nilp) fun v1 =>
 isB v1 fun b2 => cond b2
 (fin .ret [.v (.int .i64 0)] H K)
 (vb (aNilCheck x0) fun v3 =>
 vb (aFieldAddr 6 v3) fun v4 =>
 vb (aLoad H false 1 v4) fun v5 =>
 fin .ret [.v (v5)] H K)

def S_jrnl_Journal_Seq : Abs.Spec := fun args H r H' => ∃ x0 : AVal, args = [x0] ∧ (jrnl_Journal_Seq.w x0 H fun r1 H1 => r1 = r ∧ H1 = H') ∧ H <+: H'
theorem jrnl_Journal_Seq.ok (args : List AVal) (H : AHeap) (r : AVal) (H' : AHeap) (h : S_jrnl_Journal_Seq args H r H') : ∃ x0 : AVal, args = [x0] ∧ jrnl_Journal_Seq.w x0 H fun r1 H1 => r1 = r ∧ H1 = H' := by
  obtain ⟨x0, h1, h2, _⟩ := h
  exact ⟨x0, h1, h2⟩
theorem jrnl_Journal_Seq.quiet {args : List AVal} {H : AHeap} {r : AVal} {H' : AHeap} (h : S_jrnl_Journal_Seq args H r H') : H <+: H' := by
  obtain ⟨_, _, _, h⟩ := h
  exact h
def jrnl_Journal_Root.w (x0 : AVal) (H : AHeap) (K : AVal → AHeap → Prop) : Prop :=
 hb (aAlloc H (List.replicate 32 (.int .u8 0))) fun v1 H2 =>
 vb (aEql false .ptr H2 x0 .nilp) fun v3 =>
 isB v3 fun b4 => cond b4
 (vb (aBuild (List.replicate 32 (.int .u8 0)) (fun k => some (k * 1, 1)) []) fun v5 =>
 sb (aStore H2 32 v1 v5) fun H6 =>
 fin .ret [.c true 32 (v1)] H6 K)
 (vb (aNilCheck x0) fun v7 =>
 vb (aFieldAddr 7 v7) fun v8 =>
 vb (aLoad H2 true 32 v8) fun v9 =>
 sb (aStore H2 32 v1 v9) fun H10 =>
 fin .ret [.c true 32 (v1)] H10 K)

def S_jrnl_Journal_Root : Abs.Spec := fun args H r H' => ∃ x0 : AVal, args = [x0] ∧ (jrnl_Journal_Root.w x0 H fun r1 H1 => r1 = r ∧ H1 = H') ∧ H <+: H'
theorem jrnl_Journal_Root.ok (args : List AVal) (H : AHeap) (r : AVal) (H' : AHeap) (h : S_jrnl_Journal_Root args H r H') : ∃ x0 : AVal, args = [x0] ∧ jrnl_Journal_Root.w x0 H fun r1 H1 => r1 = r ∧ H1 = H' := by
  obtain ⟨x0, h1, h2, _⟩ := h
  exact ⟨x0, h1, h2⟩
theorem jrnl_Journal_Root.quiet {args : List AVal} {H : AHeap} {r : AVal} {H' : AHeap} (h : S_jrnl_Journal_Root args H r H') : H <+: H' := by
  obtain ⟨_, _, _, h⟩ := h
  exact h
set_option maxRecDepth 100000 in
theorem jrnl_Journal_Root.ex (x0 : AVal) (H : AHeap) : Ex fun K : AVal × AHeap → Prop => jrnl_Journal_Root.w x0 H fun r H => K (r, H) := by
  unfold jrnl_Journal_Root.w
  repeat with_reducible first
    | exact Ex.pt _
    | exact Ex.fin
    | exact Ex.no
    | refine Ex.vb fun _ => ?_
    | refine Ex.hb fun _ _ => ?_
    | refine Ex.sb fun _ => ?_
    | refine Ex.cb fun _ _ => ?_
    | refine Ex.isB fun _ => ?_
    | refine Ex.cond ?_ ?_
    | refine Ex.onE ?_ ?_
    | refine Ex.join ?_ fun _ _ _ => ?_
    | refine Ex.loop (fun _ _ => ?_) fun _ _ _ => ?_

theorem jrnl_Journal_Root.out {x0 : AVal} {H : AHeap} {Q : AVal → AHeap → Prop} (h : jrnl_Journal_Root.w x0 H fun r H' => (H <+: H') ∧ Q r H') : ∃ r H', S_jrnl_Journal_Root [x0] H r H' ∧ Q r H' := by
  obtain ⟨r, H', h1, h2⟩ := (jrnl_Journal_Root.ex x0 H).out h
  exact ⟨r, H', ⟨_, rfl, h1, h2.1⟩, h2.2⟩

def jrnl_Journal_Used.w (x0 : AVal) (H : AHeap) (K : AVal → AHeap → Prop) : Prop :=
 vb (aEql false .ptr H x0 .nilp) fun v1 =>
 isB v1 fun b2 => cond b2
 (fin .ret [.v (.int .i64 0)] H K)
 (vb (aNilCheck x0) fun v3 =>
 vb (aFieldAddr 5 v3) fun v4 =>
 vb (aLoad H false 1 v4) fun v5 =>
 fin .ret [.v (v5)] H K)

def S_jrnl_Journal_Used : Abs.Spec := fun args H r H' => ∃ x0 : AVal, args = [x0] ∧ (jrnl_Journal_Used.w x0 H fun r1 H1 => r1 = r ∧ H1 = H') ∧ H <+: H'
theorem jrnl_Journal_Used.ok (args : List AVal) (H : AHeap) (r : AVal) (H' : AHeap) (h : S_jrnl_Journal_Used args H r H') : ∃ x0 : AVal, args = [x0] ∧ jrnl_Journal_Used.w x0 H fun r1 H1 => r1 = r ∧ H1 = H' := by
  obtain ⟨x0, h1, h2, _⟩ := h
  exact ⟨x0, h1, h2⟩
theorem jrnl_Journal_Used.quiet {args : List AVal} {H : AHeap} {r : AVal} {H' : AHeap} (h : S_jrnl_Journal_Used args H r H') : H <+: H' := by
  obtain ⟨_, _, _, h⟩ := h
  exact h
def jrnl_Journal_Area.w (x0 : AVal) (H : AHeap) (K : AVal → AHeap → Prop) : Prop :=
 vb (aEql false .ptr H x0 .nilp) fun v1 =>
 isB v1 fun b2 => cond b2
 (fin .ret [.v (.int .i64 0)] H K)
 (vb (aNilCheck x0) fun v3 =>
 vb (aFieldAddr 2 v3) fun v4 =>
 vb (aFieldAddr 2 v4) fun v5 =>
 vb (aLoad H false 1 v5) fun v6 =>
 fin .ret [.v (v6)] H K)

def S_jrnl_Journal_Area : Abs.Spec := fun args H r H' => ∃ x0 : AVal, args = [x0] ∧ (jrnl_Journal_Area.w x0 H fun r1 H1 => r1 = r ∧ H1 = H') ∧ H <+: H'
theorem jrnl_Journal_Area.ok (args : List AVal) (H : AHeap) (r : AVal) (H' : AHeap) (h : S_jrnl_Journal_Area args H r H') : ∃ x0 : AVal, args = [x0] ∧ jrnl_Journal_Area.w x0 H fun r1 H1 => r1 = r ∧ H1 = H' := by
  obtain ⟨x0, h1, h2, _⟩ := h
  exact ⟨x0, h1, h2⟩
theorem jrnl_Journal_Area.quiet {args : List AVal} {H : AHeap} {r : AVal} {H' : AHeap} (h : S_jrnl_Journal_Area args H r H') : H <+: H' := by
  obtain ⟨_, _, _, h⟩ := h
  exact h
def jrnl_Journal_Room.w (x0 : AVal) (x1 : AVal) (H : AHeap) (K : AVal → AHeap → Prop) : Prop :=
 cb (S_record_Length [x1] H) fun v1 H2 =>
 vb (aEql true .ptr H2 x0 .nilp) fun v3 =>
 isB v3 fun b4 => cond b4
 (vb (aBin .gtr v1 (.int .i64 0)) fun v5 =>
 isB v5 fun b6 => cond b6
 (vb (aNilCheck x0) fun v7 =>
 vb (aFieldAddr 5 v7) fun v8 =>
 vb (aLoad H2 false 1 v8) fun v9 =>
 vb (aBin .sub (.int .i64 80) v9) fun v10 =>
 vb (aBin .leq v1 v10) fun v11 =>
 fin .ret [.v (v11)] H2 K)
 (fin .ret [.v (.bool false)] H2 K))
 (fin .ret [.v (.bool false)] H2 K)

def S_jrnl_Journal_Room : Abs.Spec := fun args H r H' => ∃ x0 x1 : AVal, args = [x0, x1] ∧ (jrnl_Journal_Room.w x0 x1 H fun r1 H1 => r1 = r ∧ H1 = H') ∧ H <+: H'
theorem jrnl_Journal_Room.ok (args : List AVal) (H : AHeap) (r : AVal) (H' : AHeap) (h : S_jrnl_Journal_Room args H r H') : ∃ x0 x1 : AVal, args = [x0, x1] ∧ jrnl_Journal_Room.w x0 x1 H fun r1 H1 => r1 = r ∧ H1 = H' := by
  obtain ⟨x0, x1, h1, h2, _⟩ := h
  exact ⟨x0, x1, h1, h2⟩
theorem jrnl_Journal_Room.quiet {args : List AVal} {H : AHeap} {r : AVal} {H' : AHeap} (h : S_jrnl_Journal_Room args H r H') : H <+: H' := by
  obtain ⟨_, _, _, _, h⟩ := h
  exact h
set_option maxRecDepth 100000 in
theorem jrnl_Journal_Room.ex (x0 x1 : AVal) (H : AHeap) : Ex fun K : AVal × AHeap → Prop => jrnl_Journal_Room.w x0 x1 H fun r H => K (r, H) := by
  unfold jrnl_Journal_Room.w
  repeat with_reducible first
    | exact Ex.pt _
    | exact Ex.fin
    | exact Ex.no
    | refine Ex.vb fun _ => ?_
    | refine Ex.hb fun _ _ => ?_
    | refine Ex.sb fun _ => ?_
    | refine Ex.cb fun _ _ => ?_
    | refine Ex.isB fun _ => ?_
    | refine Ex.cond ?_ ?_
    | refine Ex.onE ?_ ?_
    | refine Ex.join ?_ fun _ _ _ => ?_
    | refine Ex.loop (fun _ _ => ?_) fun _ _ _ => ?_

theorem jrnl_Journal_Room.out {x0 x1 : AVal} {H : AHeap} {Q : AVal → AHeap → Prop} (h : jrnl_Journal_Room.w x0 x1 H fun r H' => (H <+: H') ∧ Q r H') : ∃ r H', S_jrnl_Journal_Room [x0, x1] H r H' ∧ Q r H' := by
  obtain ⟨r, H', h1, h2⟩ := (jrnl_Journal_Room.ex x0 x1 H).out h
  exact ⟨r, H', ⟨_, _, rfl, h1, h2.1⟩, h2.2⟩

def jrnl_Journal_write.L3.b (v4 : AVal) (x1 : AVal) (x0 : AVal) (v3 : AVal) (x16_3 : AVal) (H5 : AHeap) (Kn6 : List AVal → AHeap → Prop) (Ke7 : AExit → List AVal → AHeap → Prop) : Prop :=
 vb (aBin .lss x16_3 v4) fun v8 =>
 isB v8 fun b9 => cond b9
 (vb (aIndexAddr 1 x1 x16_3) fun v10 =>
 vb (aLoad H5 false 1 v10) fun v11 =>
 vb (aNilCheck x0) fun v12 =>
 vb (aFieldAddr 2 v12) fun v13 =>
 vb (aFieldAddr 1 v13) fun v14 =>
 vb (aLoad H5 false 1 v14) fun v15 =>
 vb (aNilCheck x0) fun v16 =>
 vb (aFieldAddr 2 v16) fun v17 =>
 vb (aLoad H5 true 3 v17) fun v18 =>
 vb (aNilCheck x0) fun v19 =>
 vb (aFieldAddr 5 v19) fun v20 =>
 vb (aLoad H5 false 1 v20) fun v21 =>
 vb (aBin .add v21 x16_3) fun v22 =>
 cb (S_jrnl_Where_block [v18, v22] H5) fun v23 H24 =>
 cb (S_rig_Rig_Write [v3, v15, v23, v11] H24) fun v25 H26 =>
 vb (aBin .neq v25 (.int .i64 0)) fun v27 =>
 isB v27 fun b28 => cond b28
 (Ke7 .ret [v25] H26)
 (vb (aBin .add x16_3 (.int .i64 1)) fun v29 =>
 Kn6 [v29] H26))
 (Ke7 (.exit 0) [.undef] H5)

def jrnl_Journal_write.L3 (v4 : AVal) (x1 : AVal) (x0 : AVal) (v3 : AVal) : Body := fun vs H Kn Ke => jrnl_Journal_write.L3.b v4 x1 x0 v3 (vs.getD 0 .undef) H Kn Ke

def jrnl_Journal_write.w (x0 : AVal) (x1 : AVal) (H : AHeap) (K : AVal → AHeap → Prop) : Prop :=
 vb (aNilCheck x0) fun v1 =>
 vb (aFieldAddr 0 v1) fun v2 =>
 vb (aLoad H false 1 v2) fun v3 =>
 vb (lenSl x1) fun v4 =>
 LoopP (jrnl_Journal_write.L3 v4 x1 x0 v3) [.int .i64 0] H fun e30 vs31 H32 =>
 onE e30 (.exit 0)
 (fin .ret [.v (.int .i64 0)] H32 K)
 (onE e30 .ret
 (fin .ret [.v (vs31.getD 0 .undef)] H32 K)
 (False))

def S_jrnl_Journal_write : Abs.Spec := fun args H r H' => ∃ x0 x1 : AVal, args = [x0, x1] ∧ (jrnl_Journal_write.w x0 x1 H fun r1 H1 => r1 = r ∧ H1 = H')
theorem jrnl_Journal_write.ok (args : List AVal) (H : AHeap) (r : AVal) (H' : AHeap) (h : S_jrnl_Journal_write args H r H') : ∃ x0 x1 : AVal, args = [x0, x1] ∧ jrnl_Journal_write.w x0 x1 H fun r1 H1 => r1 = r ∧ H1 = H' := by
  obtain ⟨x0, x1, h1, h2⟩ := h
  exact ⟨x0, x1, h1, h2⟩
set_option maxRecDepth 100000 in
theorem jrnl_Journal_write.ex (x0 x1 : AVal) (H : AHeap) : Ex fun K : AVal × AHeap → Prop => jrnl_Journal_write.w x0 x1 H fun r H => K (r, H) := by
  unfold jrnl_Journal_write.w
  repeat with_reducible first
    | exact Ex.pt _
    | exact Ex.fin
    | exact Ex.no
    | refine Ex.vb fun _ => ?_
    | refine Ex.hb fun _ _ => ?_
    | refine Ex.sb fun _ => ?_
    | refine Ex.cb fun _ _ => ?_
    | refine Ex.isB fun _ => ?_
    | refine Ex.cond ?_ ?_
    | refine Ex.onE ?_ ?_
    | refine Ex.join ?_ fun _ _ _ => ?_
    | refine Ex.loop (fun _ _ => ?_) fun _ _ _ => ?_
    | (unfold jrnl_Journal_write.L3; unfold jrnl_Journal_write.L3.b)

theorem jrnl_Journal_write.out {x0 x1 : AVal} {H : AHeap} {Q : AVal → AHeap → Prop} (h : jrnl_Journal_write.w x0 x1 H fun r H' => Q r H') : ∃ r H', S_jrnl_Journal_write [x0, x1] H r H' ∧ Q r H' := by
  obtain ⟨r, H', h1, h2⟩ := (jrnl_Journal_write.ex x0 x1 H).out h
  exact ⟨r, H', ⟨_, _, rfl, h1⟩, h2⟩

def jrnl_Journal_add.w (x0 : AVal) (x1 : AVal) (x2 : AVal) (H : AHeap) (K : AVal → AHeap → Prop) : Prop :=
 hb (aBox H x1) fun v1 H2 =>
 vb (aNilCheck x0) fun v3 =>
 vb (aFieldAddr 1 v3) fun v4 =>
 vb (aLoad H2 false 1 v4) fun v5 =>
 vb (aNilCheck x0) fun v6 =>
 vb (aFieldAddr 39 v6) fun v7 =>
 vb (aLoad H2 true 32 v7) fun v8 =>
 cb (S_chain_Next [v5, v8, x2] H2) fun v9 H10 =>
 vb (aExtract v9 0) fun v11 =>
 vb (aExtract v9 1) fun v12 =>
 vb (aNilCheck x0) fun v13 =>
 vb (aFieldAddr 39 v13) fun v14 =>
 sb (aStore H10 32 v14 v11) fun H15 =>
 vb (aNilCheck x0) fun v16 =>
 vb (aFieldAddr 5 v16) fun v17 =>
 vb (aLoad H15 false 1 v17) fun v18 =>
 vb (lenSl x2) fun v19 =>
 vb (aBin .add v18 v19) fun v20 =>
 vb (aNilCheck x0) fun v21 =>
 vb (aFieldAddr 5 v21) fun v22 =>
 sb (aStore H15 1 v22 v20) fun H23 =>
 (vb (aFieldAddr 0 v1) fun v24 =>
 vb (aLoad H23 false 1 v24) fun v25 =>
 vb (aFieldAddr 1 v1) fun v26 =>
 vb (aLoad H23 true 32 v26) fun v27 =>
 vb (aNilCheck x0) fun v28 =>
 vb (aFieldAddr 6 v28) fun v29 =>
 sb (aStore H23 1 v29 v25) fun H30 =>
 vb (aNilCheck x0) fun v31 =>
 vb (aFieldAddr 7 v31) fun v32 =>
 sb (aStore H30 32 v32 v27) fun H33 =>
 fin .normal [] H33 K) ∧
 (vb (aFieldAddr 0 v1) fun v34 =>
 vb (aLoad H23 false 1 v34) fun v35 =>
 vb (aFieldAddr 1 v1) fun v36 =>
 vb (aNilCheck x0) fun v37 =>
 vb (aFieldAddr 6 v37) fun v38 =>
 sb (aStore H23 1 v38 v35) fun H39 =>
 vb (aLoad H39 true 32 v36) fun v40 =>
 vb (aNilCheck x0) fun v41 =>
 vb (aFieldAddr 7 v41) fun v42 =>
 sb (aStore H39 32 v42 v40) fun H43 =>
 fin .normal [] H43 K)

def S_jrnl_Journal_add : Abs.Spec := fun args H r H' => ∃ x0 x1 x2 : AVal, args = [x0, x1, x2] ∧ (jrnl_Journal_add.w x0 x1 x2 H fun r1 H1 => r1 = r ∧ H1 = H')
theorem jrnl_Journal_add.ok (args : List AVal) (H : AHeap) (r : AVal) (H' : AHeap) (h : S_jrnl_Journal_add args H r H') : ∃ x0 x1 x2 : AVal, args = [x0, x1, x2] ∧ jrnl_Journal_add.w x0 x1 x2 H fun r1 H1 => r1 = r ∧ H1 = H' := by
  obtain ⟨x0, x1, x2, h1, h2⟩ := h
  exact ⟨x0, x1, x2, h1, h2⟩
theorem jrnl_Journal_add.out {x0 x1 x2 : AVal} {H : AHeap} {Q : AVal → AHeap → Prop} (h : ∃ r H', (jrnl_Journal_add.w x0 x1 x2 H fun r1 H1 => r1 = r ∧ H1 = H') ∧ Q r H') : ∃ r H', S_jrnl_Journal_add [x0, x1, x2] H r H' ∧ Q r H' := by
  obtain ⟨r, H', h, k⟩ := h
  exact ⟨r, H', ⟨_, _, _, rfl, h⟩, k⟩

def jrnl_Journal_read_1.w (x0 : AVal) (x1 : AVal) (x2 : AVal) (H : AHeap) (K : AVal → AHeap → Prop) : Prop :=
 vb (aLoad H false 1 x1) fun v1 =>
 vb (aNilCheck v1) fun v2 =>
 vb (aFieldAddr 0 v2) fun v3 =>
 vb (aLoad H false 1 v3) fun v4 =>
 vb (aLoad H false 1 x1) fun v5 =>
 vb (aNilCheck v5) fun v6 =>
 vb (aFieldAddr 2 v6) fun v7 =>
 vb (aFieldAddr 1 v7) fun v8 =>
 vb (aLoad H false 1 v8) fun v9 =>
 vb (aLoad H false 1 x1) fun v10 =>
 vb (aNilCheck v10) fun v11 =>
 vb (aFieldAddr 2 v11) fun v12 =>
 vb (aLoad H true 3 v12) fun v13 =>
 cb (S_jrnl_Where_block [v13, x0] H) fun v14 H15 =>
 cb (S_rig_Rig_Read [v4, v9, v14] H15) fun v16 H17 =>
 vb (aExtract v16 0) fun v18 =>
 vb (aExtract v16 1) fun v19 =>
 vb (aLoad H17 false 1 x2) fun v20 =>
 hb (aBuildSlice H17 1 [.str []] 1 [(0, v18)]) fun v21 H22 =>
 hb (aAppendS H22 1 16 v20 v21) fun v23 H24 =>
 sb (aStore H24 1 x2 v23) fun H25 =>
 fin .ret [.v (v19)] H25 K

def S_jrnl_Journal_read_1 : Abs.Spec := fun args H r H' => ∃ x0 x1 x2 : AVal, args = [x0, x1, x2] ∧ (jrnl_Journal_read_1.w x0 x1 x2 H fun r1 H1 => r1 = r ∧ H1 = H')
theorem jrnl_Journal_read_1.ok (args : List AVal) (H : AHeap) (r : AVal) (H' : AHeap) (h : S_jrnl_Journal_read_1 args H r H') : ∃ x0 x1 x2 : AVal, args = [x0, x1, x2] ∧ jrnl_Journal_read_1.w x0 x1 x2 H fun r1 H1 => r1 = r ∧ H1 = H' := by
  obtain ⟨x0, x1, x2, h1, h2⟩ := h
  exact ⟨x0, x1, x2, h1, h2⟩
set_option maxRecDepth 100000 in
theorem jrnl_Journal_read_1.ex (x0 x1 x2 : AVal) (H : AHeap) : Ex fun K : AVal × AHeap → Prop => jrnl_Journal_read_1.w x0 x1 x2 H fun r H => K (r, H) := by
  unfold jrnl_Journal_read_1.w
  repeat with_reducible first
    | exact Ex.pt _
    | exact Ex.fin
    | exact Ex.no
    | refine Ex.vb fun _ => ?_
    | refine Ex.hb fun _ _ => ?_
    | refine Ex.sb fun _ => ?_
    | refine Ex.cb fun _ _ => ?_
    | refine Ex.isB fun _ => ?_
    | refine Ex.cond ?_ ?_
    | refine Ex.onE ?_ ?_
    | refine Ex.join ?_ fun _ _ _ => ?_
    | refine Ex.loop (fun _ _ => ?_) fun _ _ _ => ?_

theorem jrnl_Journal_read_1.out {x0 x1 x2 : AVal} {H : AHeap} {Q : AVal → AHeap → Prop} (h : jrnl_Journal_read_1.w x0 x1 x2 H fun r H' => Q r H') : ∃ r H', S_jrnl_Journal_read_1 [x0, x1, x2] H r H' ∧ Q r H' := by
  obtain ⟨r, H', h1, h2⟩ := (jrnl_Journal_read_1.ex x0 x1 x2 H).out h
  exact ⟨r, H', ⟨_, _, _, rfl, h1⟩, h2⟩

def jrnl_Journal_read.L4.b (x1 : AVal) (v1 : AVal) (v3 : AVal) (x12_4 : AVal) (H5 : AHeap) (Kn6 : List AVal → AHeap → Prop) (Ke7 : AExit → List AVal → AHeap → Prop) : Prop :=
 vb (aBin .lss x12_4 x1) fun v8 =>
 isB v8 fun b9 => cond b9
 (cb (S_jrnl_Journal_read_1 [x12_4, v1, v3] H5) fun v10 H11 =>
 vb (aBin .neq v10 (.int .i64 0)) fun v12 =>
 isB v12 fun b13 => cond b13
 (Ke7 .ret [.nils, v10] H11)
 (vb (aBin .add x12_4 (.int .i64 1)) fun v14 =>
 Kn6 [v14] H11))
 (Ke7 (.exit 0) [.undef, .undef] H5)

def jrnl_Journal_read.L4 (x1 : AVal) (v1 : AVal) (v3 : AVal) : Body := fun vs H Kn Ke => jrnl_Journal_read.L4.b x1 v1 v3 (vs.getD 0 .undef) H Kn Ke

def jrnl_Journal_read.w (x0 : AVal) (x1 : AVal) (H : AHeap) (K : AVal → AHeap → Prop) : Prop :=
 hb (aBox H x0) fun v1 H2 =>
 hb (aAlloc H2 [.nils]) fun v3 H4 =>
 LoopP (jrnl_Journal_read.L4 x1 v1 v3) [.int .i64 0] H4 fun e15 vs16 H17 =>
 onE e15 (.exit 0)
 (vb (aLoad H17 false 1 v3) fun v18 =>
 fin .ret [.v (v18), .v (.int .i64 0)] H17 K)
 (onE e15 .ret
 (fin .ret [.v (vs16.getD 0 .undef), .v (vs16.getD 1 .undef)] H17 K)
 (False))

def S_jrnl_Journal_read : Abs.Spec := fun args H r H' => ∃ x0 x1 : AVal, args = [x0, x1] ∧ (jrnl_Journal_read.w x0 x1 H fun r1 H1 => r1 = r ∧ H1 = H')
theorem jrnl_Journal_read.ok (args : List AVal) (H : AHeap) (r : AVal) (H' : AHeap) (h : S_jrnl_Journal_read args H r H') : ∃ x0 x1 : AVal, args = [x0, x1] ∧ jrnl_Journal_read.w x0 x1 H fun r1 H1 => r1 = r ∧ H1 = H' := by
  obtain ⟨x0, x1, h1, h2⟩ := h
  exact ⟨x0, x1, h1, h2⟩
set_option maxRecDepth 100000 in
theorem jrnl_Journal_read.ex (x0 x1 : AVal) (H : AHeap) : Ex fun K : AVal × AHeap → Prop => jrnl_Journal_read.w x0 x1 H fun r H => K (r, H) := by
  unfold jrnl_Journal_read.w
  repeat with_reducible first
    | exact Ex.pt _
    | exact Ex.fin
    | exact Ex.no
    | refine Ex.vb fun _ => ?_
    | refine Ex.hb fun _ _ => ?_
    | refine Ex.sb fun _ => ?_
    | refine Ex.cb fun _ _ => ?_
    | refine Ex.isB fun _ => ?_
    | refine Ex.cond ?_ ?_
    | refine Ex.onE ?_ ?_
    | refine Ex.join ?_ fun _ _ _ => ?_
    | refine Ex.loop (fun _ _ => ?_) fun _ _ _ => ?_
    | (unfold jrnl_Journal_read.L4; unfold jrnl_Journal_read.L4.b)

theorem jrnl_Journal_read.out {x0 x1 : AVal} {H : AHeap} {Q : AVal → AHeap → Prop} (h : jrnl_Journal_read.w x0 x1 H fun r H' => Q r H') : ∃ r H', S_jrnl_Journal_read [x0, x1] H r H' ∧ Q r H' := by
  obtain ⟨r, H', h1, h2⟩ := (jrnl_Journal_read.ex x0 x1 H).out h
  exact ⟨r, H', ⟨_, _, rfl, h1⟩, h2⟩

def jrnl_Begin.w (x0 : AVal) (x1 : AVal) (x2 : AVal) (x3 : AVal) (H : AHeap) (K : AVal → AHeap → Prop) : Prop :=
 hb (aBox H x2) fun v1 H2 =>
 hb (aBox H2 x3) fun v3 H4 =>
 vb (aEql false .ptr H4 x0 .nilp) fun v5 =>
 isB v5 fun b6 => cond b6
 (fin .ret [.v (.nilp), .v (.int .i64 1)] H4 K)
 (vb (aFieldAddr 0 v1) fun v7 =>
 vb (aLoad H4 false 1 v7) fun v8 =>
 vb (aFieldAddr 1 v1) fun v9 =>
 vb (aLoad H4 false 1 v9) fun v10 =>
 vb (aFieldAddr 2 v1) fun v11 =>
 vb (aLoad H4 false 1 v11) fun v12 =>
 cb (S_chain_Start [x1, v8, v10, v12] H4) fun v13 H14 =>
 vb (aExtract v13 0) fun v15 =>
 vb (aExtract v13 1) fun v16 =>
 hb (aAlloc H14 (List.replicate 32 (.int .u8 0))) fun v17 H18 =>
 sb (aStore H18 32 v17 v15) fun H19 =>
 vb (aBin .neq v16 (.int .i64 0)) fun v20 =>
 isB v20 fun b21 => cond b21
 (fin .ret [.v (.nilp), .v (v16)] H19 K)
 (vb (aLoad H19 true 34 v3) fun v22 =>
 cb (S_record_Lay [v22] H19) fun v23 H24 =>
 vb (aExtract v23 0) fun v25 =>
 vb (aExtract v23 1) fun v26 =>
 vb (aBin .neq v26 (.int .i64 0)) fun v27 =>
 isB v27 fun b28 => cond b28
 (fin .ret [.v (.nilp), .v (v26)] H24 K)
 (vb (aFieldAddr 33 v3) fun v29 =>
 vb (aLoad H24 false 1 v29) fun v30 =>
 vb (lenSl v30) fun v31 =>
 vb (aBin .gtr v31 (.int .i64 0)) fun v32 =>
 isB v32 fun b33 => cond b33
 (fin .ret [.v (.nilp), .v (.int .i64 2)] H24 K)
 (vb (aLoad H24 true 3 v1) fun v34 =>
 vb (aLoad H24 true 32 v17) fun v35 =>
 vb (aBuild [.nilp, .nilp, .str [], .int .i64 0, .int .i64 0, .int .i64 0, .int .i64 0, .int .u8 0, .int .u8 0, .int .u8 0, .int .u8 0, .int .u8 0, .int .u8 0, .int .u8 0, .int .u8 0, .int .u8 0, .int .u8 0, .int .u8 0, .int .u8 0, .int .u8 0, .int .u8 0, .int .u8 0, .int .u8 0, .int .u8 0, .int .u8 0, .int .u8 0, .int .u8 0, .int .u8 0, .int .u8 0, .int .u8 0, .int .u8 0, .int .u8 0, .int .u8 0, .int .u8 0, .int .u8 0, .int .u8 0, .int .u8 0, .int .u8 0, .int .u8 0, .int .u8 0, .int .u8 0, .int .u8 0, .int .u8 0, .int .u8 0, .int .u8 0, .int .u8 0, .int .u8 0, .int .u8 0, .int .u8 0, .int .u8 0, .int .u8 0, .int .u8 0, .int .u8 0, .int .u8 0, .int .u8 0, .int .u8 0, .int .u8 0, .int .u8 0, .int .u8 0, .int .u8 0, .int .u8 0, .int .u8 0, .int .u8 0, .int .u8 0, .int .u8 0, .int .u8 0, .int .u8 0, .int .u8 0, .int .u8 0, .int .u8 0, .int .u8 0] (fun k => ([(0, 1), (1, 1), (2, 3), (5, 1), (6, 1), (7, 32), (39, 32)] : List (Nat × Nat))[k]?) [(0, x0), (1, x1), (2, v34), (6, v35)]) fun v36 =>
 hb (aBox H24 v36) fun v37 H38 =>
 cb (S_jrnl_Journal_write [v37, v25] H38) fun v39 H40 =>
 vb (aBin .neq v39 (.int .i64 0)) fun v41 =>
 isB v41 fun b42 => cond b42
 (fin .ret [.v (.nilp), .v (v39)] H40 K)
 (vb (aLoad H40 true 34 v3) fun v43 =>
 cb (S_jrnl_Journal_add [v37, v43, v25] H40) fun v44 H45 =>
 fin .ret [.v (v37), .v (.int .i64 0)] H45 K)))))

def S_jrnl_Begin : Abs.Spec := fun args H r H' => ∃ x0 x1 x2 x3 : AVal, args = [x0, x1, x2, x3] ∧ (jrnl_Begin.w x0 x1 x2 x3 H fun r1 H1 => r1 = r ∧ H1 = H')
theorem jrnl_Begin.ok (args : List AVal) (H : AHeap) (r : AVal) (H' : AHeap) (h : S_jrnl_Begin args H r H') : ∃ x0 x1 x2 x3 : AVal, args = [x0, x1, x2, x3] ∧ jrnl_Begin.w x0 x1 x2 x3 H fun r1 H1 => r1 = r ∧ H1 = H' := by
  obtain ⟨x0, x1, x2, x3, h1, h2⟩ := h
  exact ⟨x0, x1, x2, x3, h1, h2⟩
set_option maxRecDepth 100000 in
theorem jrnl_Begin.ex (x0 x1 x2 x3 : AVal) (H : AHeap) : Ex fun K : AVal × AHeap → Prop => jrnl_Begin.w x0 x1 x2 x3 H fun r H => K (r, H) := by
  unfold jrnl_Begin.w
  repeat with_reducible first
    | exact Ex.pt _
    | exact Ex.fin
    | exact Ex.no
    | refine Ex.vb fun _ => ?_
    | refine Ex.hb fun _ _ => ?_
    | refine Ex.sb fun _ => ?_
    | refine Ex.cb fun _ _ => ?_
    | refine Ex.isB fun _ => ?_
    | refine Ex.cond ?_ ?_
    | refine Ex.onE ?_ ?_
    | refine Ex.join ?_ fun _ _ _ => ?_
    | refine Ex.loop (fun _ _ => ?_) fun _ _ _ => ?_

theorem jrnl_Begin.out {x0 x1 x2 x3 : AVal} {H : AHeap} {Q : AVal → AHeap → Prop} (h : jrnl_Begin.w x0 x1 x2 x3 H fun r H' => Q r H') : ∃ r H', S_jrnl_Begin [x0, x1, x2, x3] H r H' ∧ Q r H' := by
  obtain ⟨r, H', h1, h2⟩ := (jrnl_Begin.ex x0 x1 x2 x3 H).out h
  exact ⟨r, H', ⟨_, _, _, _, rfl, h1⟩, h2⟩

def jrnl_Load.L17.b (v56 : AVal) (v42 : AVal) (v7 : AVal) (x13_17 : AVal) (x81_17 : AVal) (H57 : AHeap) (Kn58 : List AVal → AHeap → Prop) (Ke59 : AExit → List AVal → AHeap → Prop) : Prop :=
 vb (aBin .lss x81_17 v56) fun v60 =>
 isB v60 fun b61 => cond b61
 (vb (aIndexAddr 34 v42 x81_17) fun v62 =>
 vb (aLoad H57 true 34 v62) fun v63 =>
 hb (aAlloc H57 [.int .i64 0, .int .u8 0, .int .u8 0, .int .u8 0, .int .u8 0, .int .u8 0, .int .u8 0, .int .u8 0, .int .u8 0, .int .u8 0, .int .u8 0, .int .u8 0, .int .u8 0, .int .u8 0, .int .u8 0, .int .u8 0, .int .u8 0, .int .u8 0, .int .u8 0, .int .u8 0, .int .u8 0, .int .u8 0, .int .u8 0, .int .u8 0, .int .u8 0, .int .u8 0, .int .u8 0, .int .u8 0, .int .u8 0, .int .u8 0, .int .u8 0, .int .u8 0, .int .u8 0, .nils]) fun v64 H65 =>
 sb (aStore H65 34 v64 v63) fun H66 =>
 JoinP (fun Kj67 => vb (aBin .gtr x81_17 (.int .i64 0)) fun v68 =>
 isB v68 fun b69 => cond b69
 (vb (aFieldAddr 0 v64) fun v70 =>
 vb (aLoad H66 false 1 v70) fun v71 =>
 vb (aNilCheck v7) fun v72 =>
 vb (aFieldAddr 6 v72) fun v73 =>
 vb (aLoad H66 false 1 v73) fun v74 =>
 vb (aBin .add v74 (.int .i64 1)) fun v75 =>
 vb (aBin .neq v71 v75) fun v76 =>
 isB v76 fun b77 => cond b77
 (Kj67 (.goto 0) [] H66)
 (Kj67 .normal [] H66))
 (Kj67 .normal [] H66))
 (fun e78 vs79 H80 =>
 onE e78 (.goto 0)
 (Ke59 (.goto 0) [] H80)
 (onE e78 .normal
 (vb (aFieldAddr 33 v64) fun v81 =>
 vb (aLoad H80 false 1 v81) fun v82 =>
 vb (lenSl v82) fun v83 =>
 cb (S_record_Length [v83] H80) fun v84 H85 =>
 vb (aLoad H85 true 34 v64) fun v86 =>
 vb (aSlice H85 1 x13_17 none (some v84) none) fun v87 =>
 cb (S_jrnl_Journal_add [v7, v86, v87] H85) fun v88 H89 =>
 vb (aSlice H89 1 x13_17 (some v84) none none) fun v90 =>
 vb (aBin .add x81_17 (.int .i64 1)) fun v91 =>
 Kn58 [v90, v91] H89)
 (False))))
 (Ke59 (.exit 1) [] H57)

def jrnl_Load.L17 (v56 : AVal) (v42 : AVal) (v7 : AVal) : Body := fun vs H Kn Ke => jrnl_Load.L17.b v56 v42 v7 (vs.getD 0 .undef) (vs.getD 1 .undef) H Kn Ke

def jrnl_Load.w (x0 : AVal) (x1 : AVal) (x2 : AVal) (x3 : AVal) (x4 : AVal) (H : AHeap) (K : AVal → AHeap → Prop) : Prop :=
 hb (aBox H x2) fun v1 H2 =>
 hb (aBox H2 x4) fun v3 H4 =>
 vb (aLoad H4 true 3 v1) fun v5 =>
 vb (aBuild [.nilp, .nilp, .str [], .int .i64 0, .int .i64 0, .int .i64 0, .int .i64 0, .int .u8 0, .int .u8 0, .int .u8 0, .int .u8 0, .int .u8 0, .int .u8 0, .int .u8 0, .int .u8 0, .int .u8 0, .int .u8 0, .int .u8 0, .int .u8 0, .int .u8 0, .int .u8 0, .int .u8 0, .int .u8 0, .int .u8 0, .int .u8 0, .int .u8 0, .int .u8 0, .int .u8 0, .int .u8 0, .int .u8 0, .int .u8 0, .int .u8 0, .int .u8 0, .int .u8 0, .int .u8 0, .int .u8 0, .int .u8 0, .int .u8 0, .int .u8 0, .int .u8 0, .int .u8 0, .int .u8 0, .int .u8 0, .int .u8 0, .int .u8 0, .int .u8 0, .int .u8 0, .int .u8 0, .int .u8 0, .int .u8 0, .int .u8 0, .int .u8 0, .int .u8 0, .int .u8 0, .int .u8 0, .int .u8 0, .int .u8 0, .int .u8 0, .int .u8 0, .int .u8 0, .int .u8 0, .int .u8 0, .int .u8 0, .int .u8 0, .int .u8 0, .int .u8 0, .int .u8 0, .int .u8 0, .int .u8 0, .int .u8 0, .int .u8 0] (fun k => ([(0, 1), (1, 1), (2, 3), (5, 1), (6, 1), (7, 32), (39, 32)] : List (Nat × Nat))[k]?) [(0, x0), (1, x1), (2, v5)]) fun v6 =>
 hb (aBox H4 v6) fun v7 H8 =>
 vb (aFieldAddr 0 v1) fun v9 =>
 vb (aLoad H8 false 1 v9) fun v10 =>
 vb (aFieldAddr 1 v1) fun v11 =>
 vb (aLoad H8 false 1 v11) fun v12 =>
 vb (aFieldAddr 2 v1) fun v13 =>
 vb (aLoad H8 false 1 v13) fun v14 =>
 cb (S_chain_Start [x1, v10, v12, v14] H8) fun v15 H16 =>
 vb (aExtract v15 0) fun v17 =>
 vb (aExtract v15 1) fun v18 =>
 hb (aAlloc H16 (List.replicate 32 (.int .u8 0))) fun v19 H20 =>
 sb (aStore H20 32 v19 v17) fun H21 =>
 vb (aEql false .ptr H21 x0 .nilp) fun v22 =>
 isB v22 fun b23 => cond b23
 (fin .ret [.v (.nilp), .v (.nils), .v (.int .i64 1)] H21 K)
 (vb (aBin .neq v18 (.int .i64 0)) fun v24 =>
 isB v24 fun b25 => cond b25
 (fin .ret [.v (.nilp), .v (.nils), .v (v18)] H21 K)
 (vb (aBin .lss x3 (.int .i64 1)) fun v26 =>
 isB v26 fun b27 => cond b27
 (fin .ret [.v (.nilp), .v (.nils), .v (.int .i64 12)] H21 K)
 (vb (aBin .gtr x3 (.int .i64 80)) fun v28 =>
 isB v28 fun b29 => cond b29
 (fin .ret [.v (.nilp), .v (.nils), .v (.int .i64 12)] H21 K)
 (vb (aLoad H21 true 32 v19) fun v30 =>
 vb (aNilCheck v7) fun v31 =>
 vb (aFieldAddr 39 v31) fun v32 =>
 sb (aStore H21 32 v32 v30) fun H33 =>
 cb (S_jrnl_Journal_read [v7, x3] H33) fun v34 H35 =>
 vb (aExtract v34 0) fun v36 =>
 vb (aExtract v34 1) fun v37 =>
 vb (aBin .neq v37 (.int .i64 0)) fun v38 =>
 isB v38 fun b39 => cond b39
 (fin .ret [.v (.nilp), .v (.nils), .v (v37)] H35 K)
 (cb (S_record_All [v36] H35) fun v40 H41 =>
 vb (aExtract v40 0) fun v42 =>
 vb (aExtract v40 1) fun v43 =>
 JoinP (fun Kj44 => vb (aBin .neq v43 (.int .i64 0)) fun v45 =>
 isB v45 fun b46 => cond b46
 (Kj44 (.goto 0) [] H41)
 (vb (aIndexAddr 34 v42 (.int .i64 0)) fun v47 =>
 vb (aFieldAddr 33 v47) fun v48 =>
 vb (aLoad H41 false 1 v48) fun v49 =>
 vb (lenSl v49) fun v50 =>
 vb (aBin .gtr v50 (.int .i64 0)) fun v51 =>
 isB v51 fun b52 => cond b52
 (Kj44 (.goto 0) [] H41)
 (Kj44 .normal [] H41)))
 (fun e53 vs54 H55 =>
 onE e53 (.goto 0)
 (fin .ret [.v (.nilp), .v (.nils), .v (.int .i64 12)] H55 K)
 (onE e53 .normal
 (vb (lenSl v42) fun v56 =>
 LoopP (jrnl_Load.L17 v56 v42 v7) [v36, .int .i64 0] H55 fun e92 vs93 H94 =>
 onE e92 (.exit 1)
 (vb (aNilCheck v7) fun v95 =>
 vb (aFieldAddr 39 v95) fun v96 =>
 vb (aLoad H94 true 32 v96) fun v97 =>
 vb (aLoad H94 true 32 v3) fun v98 =>
 vb (aEql false (.agg (List.replicate 32 .int)) H94 v97 v98) fun v99 =>
 isB v99 fun b100 => cond b100
 (fin .ret [.v (v7), .v (v42), .v (.int .i64 0)] H94 K)
 (fin .ret [.v (.nilp), .v (.nils), .v (.int .i64 12)] H94 K))
 (onE e92 (.goto 0)
 (fin .ret [.v (.nilp), .v (.nils), .v (.int .i64 12)] H94 K)
 (False)))
 (False))))))))

def S_jrnl_Load : Abs.Spec := fun args H r H' => ∃ x0 x1 x2 x3 x4 : AVal, args = [x0, x1, x2, x3, x4] ∧ (jrnl_Load.w x0 x1 x2 x3 x4 H fun r1 H1 => r1 = r ∧ H1 = H')
theorem jrnl_Load.ok (args : List AVal) (H : AHeap) (r : AVal) (H' : AHeap) (h : S_jrnl_Load args H r H') : ∃ x0 x1 x2 x3 x4 : AVal, args = [x0, x1, x2, x3, x4] ∧ jrnl_Load.w x0 x1 x2 x3 x4 H fun r1 H1 => r1 = r ∧ H1 = H' := by
  obtain ⟨x0, x1, x2, x3, x4, h1, h2⟩ := h
  exact ⟨x0, x1, x2, x3, x4, h1, h2⟩
set_option maxRecDepth 100000 in
theorem jrnl_Load.ex (x0 x1 x2 x3 x4 : AVal) (H : AHeap) : Ex fun K : AVal × AHeap → Prop => jrnl_Load.w x0 x1 x2 x3 x4 H fun r H => K (r, H) := by
  unfold jrnl_Load.w
  repeat with_reducible first
    | exact Ex.pt _
    | exact Ex.fin
    | exact Ex.no
    | refine Ex.vb fun _ => ?_
    | refine Ex.hb fun _ _ => ?_
    | refine Ex.sb fun _ => ?_
    | refine Ex.cb fun _ _ => ?_
    | refine Ex.isB fun _ => ?_
    | refine Ex.cond ?_ ?_
    | refine Ex.onE ?_ ?_
    | refine Ex.join ?_ fun _ _ _ => ?_
    | refine Ex.loop (fun _ _ => ?_) fun _ _ _ => ?_
    | (unfold jrnl_Load.L17; unfold jrnl_Load.L17.b)

theorem jrnl_Load.out {x0 x1 x2 x3 x4 : AVal} {H : AHeap} {Q : AVal → AHeap → Prop} (h : jrnl_Load.w x0 x1 x2 x3 x4 H fun r H' => Q r H') : ∃ r H', S_jrnl_Load [x0, x1, x2, x3, x4] H r H' ∧ Q r H' := by
  obtain ⟨r, H', h1, h2⟩ := (jrnl_Load.ex x0 x1 x2 x3 x4 H).out h
  exact ⟨r, H', ⟨_, _, _, _, _, rfl, h1⟩, h2⟩

def jrnl_Journal_Append.w (x0 : AVal) (x1 : AVal) (H : AHeap) (K : AVal → AHeap → Prop) : Prop :=
 hb (aBox H x1) fun v1 H2 =>
 vb (aEql false .ptr H2 x0 .nilp) fun v3 =>
 isB v3 fun b4 => cond b4
 (fin .ret [.v (.int .i64 1)] H2 K)
 (vb (aLoad H2 true 34 v1) fun v5 =>
 cb (S_record_Lay [v5] H2) fun v6 H7 =>
 vb (aExtract v6 0) fun v8 =>
 vb (aExtract v6 1) fun v9 =>
 vb (aBin .neq v9 (.int .i64 0)) fun v10 =>
 isB v10 fun b11 => cond b11
 (fin .ret [.v (v9)] H7 K)
 (vb (aFieldAddr 0 v1) fun v12 =>
 vb (aLoad H7 false 1 v12) fun v13 =>
 vb (aNilCheck x0) fun v14 =>
 vb (aFieldAddr 6 v14) fun v15 =>
 vb (aLoad H7 false 1 v15) fun v16 =>
 vb (aBin .add v16 (.int .i64 1)) fun v17 =>
 vb (aBin .neq v13 v17) fun v18 =>
 isB v18 fun b19 => cond b19
 (fin .ret [.v (.int .i64 2)] H7 K)
 (vb (aFieldAddr 33 v1) fun v20 =>
 vb (aLoad H7 false 1 v20) fun v21 =>
 vb (lenSl v21) fun v22 =>
 cb (S_jrnl_Journal_Room [x0, v22] H7) fun v23 H24 =>
 vb (aUn .not v23) fun v25 =>
 isB v25 fun b26 => cond b26
 (fin .ret [.v (.int .i64 9)] H24 K)
 (cb (S_jrnl_Journal_write [x0, v8] H24) fun v27 H28 =>
 vb (aBin .neq v27 (.int .i64 0)) fun v29 =>
 isB v29 fun b30 => cond b30
 (fin .ret [.v (v27)] H28 K)
 (vb (aLoad H28 true 34 v1) fun v31 =>
 cb (S_jrnl_Journal_add [x0, v31, v8] H28) fun v32 H33 =>
 fin .ret [.v (.int .i64 0)] H33 K)))))

def S_jrnl_Journal_Append : Abs.Spec := fun args H r H' => ∃ x0 x1 : AVal, args = [x0, x1] ∧ (jrnl_Journal_Append.w x0 x1 H fun r1 H1 => r1 = r ∧ H1 = H')
theorem jrnl_Journal_Append.ok (args : List AVal) (H : AHeap) (r : AVal) (H' : AHeap) (h : S_jrnl_Journal_Append args H r H') : ∃ x0 x1 : AVal, args = [x0, x1] ∧ jrnl_Journal_Append.w x0 x1 H fun r1 H1 => r1 = r ∧ H1 = H' := by
  obtain ⟨x0, x1, h1, h2⟩ := h
  exact ⟨x0, x1, h1, h2⟩
set_option maxRecDepth 100000 in
theorem jrnl_Journal_Append.ex (x0 x1 : AVal) (H : AHeap) : Ex fun K : AVal × AHeap → Prop => jrnl_Journal_Append.w x0 x1 H fun r H => K (r, H) := by
  unfold jrnl_Journal_Append.w
  repeat with_reducible first
    | exact Ex.pt _
    | exact Ex.fin
    | exact Ex.no
    | refine Ex.vb fun _ => ?_
    | refine Ex.hb fun _ _ => ?_
    | refine Ex.sb fun _ => ?_
    | refine Ex.cb fun _ _ => ?_
    | refine Ex.isB fun _ => ?_
    | refine Ex.cond ?_ ?_
    | refine Ex.onE ?_ ?_
    | refine Ex.join ?_ fun _ _ _ => ?_
    | refine Ex.loop (fun _ _ => ?_) fun _ _ _ => ?_

theorem jrnl_Journal_Append.out {x0 x1 : AVal} {H : AHeap} {Q : AVal → AHeap → Prop} (h : jrnl_Journal_Append.w x0 x1 H fun r H' => Q r H') : ∃ r H', S_jrnl_Journal_Append [x0, x1] H r H' ∧ Q r H' := by
  obtain ⟨r, H', h1, h2⟩ := (jrnl_Journal_Append.ex x0 x1 H).out h
  exact ⟨r, H', ⟨_, _, rfl, h1⟩, h2⟩

end Go.Sh

/- The journal: what a calm rig does; small functions; writing. -/
namespace Go.Sh
open Go Go.Abs

section
variable {v : RV} {n : Int}
theorem calm_err (c : Calm v n) : v.err = if v.fault = 1 then 10 else 0 := by
  unfold RV.err
  rw [c.down, c.arm, if_neg (by simp)]
theorem calm_step (c : Calm v n) : v.step = { v with calls := v.calls + 1, fault := cnt v.fault } := by
  have h1 := c.later
  have h2 := c.arm
  have h3 := c.down
  unfold RV.step
  rw [if_neg (by rw [h3]; decide)]
  unfold RV.tick
  rw [strike_no (by omega), h1, h2]
  cases v
  simp only at h1 h2 h3
  subst h1 h2 h3
  rfl
theorem step_calm (c : Calm v n) : Calm v.step (n + 1) := by
  have h := c.wr.step
  rw [calm_step c] at h ⊢
  exact ⟨h, c.down, c.later, c.arm, by show 0 ≤ v.calls + 1 ∧ v.calls + 1 ≤ n + 1; have := c.calls; omega⟩
theorem step_fault (c : Calm v n) : v.step.fault = cnt v.fault := by rw [calm_step c]
theorem step_dev (c : Calm v n) (d : Int) : v.step.dev d = v.dev d := by rw [calm_step c]; rfl
theorem calm_le {k : Int} (c : Calm v n) (h : n ≤ k) : Calm v k := ⟨c.wr, c.down, c.later, c.arm, c.calls.1, Int.le_trans c.calls.2 h⟩
theorem calm_dev (c : Calm v n) (d : Int) {l : List Bk} (h1 : l.length = 288) (h2 : WB l) : Calm (v.setDev d l) n := by
  have h := c.wr.setDev d h1 h2
  unfold RV.setDev at h ⊢
  split at h
  · rename_i hd; rw [if_pos hd]; exact ⟨h, c.down, c.later, c.arm, c.calls⟩
  · rename_i hd; rw [if_neg hd]; exact ⟨h, c.down, c.later, c.arm, c.calls⟩
theorem setDev_dev {d e : Int} {l : List Bk} (hd : d = 0 ∨ d = 1) (he : e = 0 ∨ e = 1) : (v.setDev d l).dev e = if e = d then l else v.dev e := by
  unfold RV.setDev RV.dev
  rcases hd with rfl | rfl <;> rcases he with rfl | rfl <;> rfl
theorem setDev_fault (d : Int) (l : List Bk) : (v.setDev d l).fault = v.fault := by unfold RV.setDev; split <;> rfl
theorem bk_set {l : List Bk} {i j : Int} {b : Bk} (h0 : 0 ≤ i) (h1 : i < l.length) (h2 : 0 ≤ j) : bkAt (l.set i.toNat b) j = if j = i then b else bkAt l j := by
  unfold bkAt
  rw [List.getD_eq_getElem?_getD, List.getD_eq_getElem?_getD]
  by_cases e : j = i
  · rw [if_pos e, e, List.getElem?_set_self (by omega)]; rfl
  · rw [if_neg e, List.getElem?_set_ne (by omega)]
theorem write_calm {d i : Int} {s : List UInt8} (c : Calm v n) (hm : mayG d i = 0) (hl : s.length = 64) :
    Calm (v.write d i s) (n + 1) ∧ (v.write d i s).fault = cnt v.fault ∧ v.writeE d i s = (if v.fault = 1 then 10 else 0) ∧
      (v.fault ≠ 1 → ∀ e j, (e = 0 ∨ e = 1) → 0 ≤ j → nowAt (v.write d i s) e j = if e = d ∧ j = i then s else nowAt v e j) := by
  obtain ⟨hd, hi0, hi1⟩ := mayG_ok hm
  have he := calm_err c
  have hs := step_calm c
  refine ⟨?_, ?_, ?_, fun hf e j hed hj => ?_⟩
  · unfold RV.write
    rw [if_pos ⟨hm, hl⟩]
    split
    · exact calm_dev hs _ (by rw [blkW_len]; exact (hs.wr.dev _).1) (blkW_wb (hs.wr.dev _).2 _ _)
    · exact hs
  · unfold RV.write
    rw [if_pos ⟨hm, hl⟩]
    split
    · rw [setDev_fault, step_fault c]
    · exact step_fault c
  · unfold RV.writeE
    rw [if_pos hm, if_pos hl, he]
  · unfold RV.write nowAt
    rw [if_pos ⟨hm, hl⟩, if_pos (by rw [he, if_neg hf]), setDev_dev hd hed, step_dev c]
    by_cases h1 : e = d
    · subst h1
      rw [if_pos rfl]
      unfold blkW
      have h288 := (c.wr.dev e).1
      rw [if_pos (may_blk h288 hm hl), bk_set hi0 (by rw [h288]; omega) hj]
      by_cases h2 : j = i
      · rw [if_pos h2, if_pos ⟨rfl, h2⟩]; rfl
      · rw [if_neg h2, if_neg (fun h => h2 h.2)]
    · rw [if_neg h1, if_neg (fun h => h1 h.1), step_dev c]
theorem ask_calm {d i : Int} (c : Calm v n) (hm : mayG d i = 0) :
    Calm (v.ask d i) (n + 1) ∧ (v.ask d i).fault = cnt v.fault ∧ v.askE d i = (if v.fault = 1 then 10 else 0) ∧ (∀ e, (v.ask d i).dev e = v.dev e) ∧ v.readS d i = (if v.fault = 1 then [] else nowAt v d i) := by
  have he := calm_err c
  have ha : v.ask d i = v.step := if_pos hm
  have hE : v.askE d i = if v.fault = 1 then 10 else 0 := by unfold RV.askE; rw [if_pos hm, he]
  refine ⟨by rw [ha]; exact step_calm c, by rw [ha]; exact step_fault c, hE, fun e => by rw [ha]; exact step_dev c e, ?_⟩
  unfold RV.readS nowAt
  rw [hE, ha, step_dev c]
  by_cases h : v.fault = 1
  · rw [if_pos h, if_pos h, if_neg (by decide)]
  · rw [if_neg h, if_neg h, if_pos rfl]
theorem tamper_calm {d i : Int} {s : List UInt8} (c : Calm v n) (hm : mayG d i = 0) (hl : s.length = 64) : Calm (v.tamper d i s) n ∧ (v.tamper d i s).fault = v.fault := by
  unfold RV.tamper
  split
  · exact ⟨calm_dev c _ (by rw [blkT_len]; exact (c.wr.dev _).1) (blkT_wb (c.wr.dev _).2 _ _), setDev_fault _ _⟩
  · exact ⟨c, rfl⟩
theorem calm_rig0 : Calm rig0 0 := ⟨WR.rig0, rfl, rfl, rfl, by decide⟩
theorem may_pos {d a i : Int} (hd : d = 0 ∨ d = 1) (ha : a = 0 ∨ a = 1) (h0 : 0 ≤ i) (h1 : i < 80) : mayG d (1 + 80 * a + i) = 0 := by
  unfold mayG
  rw [if_neg (by omega), if_neg (by omega)]
theorem pos_eq {a i : Int} (ha : a = 0 ∨ a = 1) (h0 : 0 ≤ i) (h1 : i < 80) : posJ a i = 1 + 80 * a + i := if_pos (by omega)
end
/-- The blocks that an area begins with. -/
def Has (v : RV) (d a : Int) (bs : List (List UInt8)) : Prop := ∀ k, k < bs.length → nowAt v d (1 + 80 * a + k) = bs.getD k []
def rdL (v : RV) (d a : Int) (k : Nat) : List (List UInt8) := (List.range k).map fun (i : Nat) => nowAt v d (1 + 80 * a + (i : Int))
theorem rdL_len (v : RV) (d a : Int) (k : Nat) : (rdL v d a k).length = k := by simp [rdL]
theorem rdL_has {v : RV} {d a : Int} {bs : List (List UInt8)} (h : Has v d a bs) : rdL v d a bs.length = bs := by
  apply List.ext_getElem (by simp [rdL])
  intro i h1 h2
  simp only [rdL, List.getElem_map, List.getElem_range]
  rw [h i h2, List.getD_eq_getElem?_getD, List.getElem?_eq_getElem h2]; rfl
theorem rdL_step (v : RV) (d a : Int) (k : Nat) : rdL v d a (k + 1) = rdL v d a k ++ [nowAt v d (1 + 80 * a + k)] := by
  unfold rdL; rw [List.range_succ, List.map_append]; rfl
section
variable {H0 B : AHeap} {own : Nat → Prop} {R : List Part} {p : Nat} {rp op : AVal} {j : JV}
theorem area_spec (a i : Int) : S_geom_AreaAt [.int .i64 a, .int .i64 i] B (.tup [.int .i64 (posJ a i), .int .i64 (if 0 ≤ a ∧ a ≤ 1 ∧ 0 ≤ i ∧ i < 80 then 0 else 3)]) B := by
  refine ⟨_, _, rfl, ?_, List.prefix_refl _⟩
  unfold geom_AreaAt.w
  refine JoinP.mk (fun e vs D => B = D ∧ ((e = .ret ∧ vs = [.int .i64 0, .int .i64 3] ∧ ¬ (0 ≤ a ∧ a ≤ 1 ∧ 0 ≤ i ∧ i < 80)) ∨ (e = .normal ∧ (0 ≤ a ∧ a ≤ 1 ∧ 0 ≤ i ∧ i < 80)))) ?_ ?_
  · repeat first
    | with_reducible refine vb_i (lss64 _ _ _) ?_
    refine isB_c (fun h1 => ⟨rfl, .inl ⟨rfl, rfl, by omega⟩⟩) (fun h1 => ?_)
    repeat first
    | with_reducible refine vb_i (gtr64 _ _ _) ?_
    refine isB_c (fun h2 => ⟨rfl, .inl ⟨rfl, rfl, by omega⟩⟩) (fun h2 => ?_)
    repeat first
    | with_reducible refine vb_i (lss64 _ _ _) ?_
    refine isB_c (fun h3 => ⟨rfl, .inl ⟨rfl, rfl, by omega⟩⟩) (fun h3 => ?_)
    repeat first
    | with_reducible refine vb_i (geq64 _ _ _) ?_
    refine isB_c (fun h4 => ⟨rfl, .inl ⟨rfl, rfl, by omega⟩⟩) (fun h4 => ?_)
    exact ⟨rfl, .inr ⟨rfl, by omega⟩⟩
  unfold posJ
  rintro e vs D ⟨rfl, ⟨rfl, rfl, h⟩ | ⟨rfl, h⟩⟩
  · repeat first
    | with_reducible refine onE_i ?_
    | ((with_reducible refine onE_s ?_ ?_); (· decide))
    rw [if_neg h, if_neg h]
    exact fin_ret (rvs_v (rvs_v (rvs_nil _))) ⟨rfl, rfl⟩
  · repeat first
    | with_reducible refine onE_i ?_
    | ((with_reducible refine vb_i (add64 ?_ ?_) ?_); (· omega); (· omega))
    | ((with_reducible refine vb_i (mul64 ?_ ?_) ?_); (· omega); (· omega))
    rw [if_pos h, if_pos h]
    exact fin_ret (rvs_v (rvs_v (rvs_nil _))) ⟨rfl, rfl⟩
theorem block_spec15 (s : List UInt8) (d a i : Int) : ∃ C, S_jrnl_Where_block [.agg [.str s, .int .i64 d, .int .i64 a], .int .i64 i] B (.int .i64 (posJ a i)) C ∧ B <+: C := by
  obtain ⟨r, C, h, rfl, k⟩ := jrnl_Where_block.out (x0 := .agg [.str s, .int .i64 d, .int .i64 a]) (x1 := .int .i64 i) (H := B) (Q := fun r C => r = .int .i64 (posJ a i) ∧ B <+: C) (by
    unfold jrnl_Where_block.w
    have hs : Sep B (fun _ => False) B [] := Sep.start B
    refine s_box hs rfl fun i C1 _ hs => ?_
    simp only [AVal.cells] at hs
    repeat first
    | with_reducible refine vb_i (e_fieldAddr _ _) ?_
    | ((with_reducible apply vb_ld); (· first | exact hs.g0 | exact hs.g1 | exact hs.g2 | exact hs.g3 | exact hs.g4 | exact hs.g5 | exact hs.g6 | exact hs.rd hg | exact hs.rd hg2 | exact hs.rd hg3 | exact hs.rd hg4 | assumption); (· rfl))
    refine cb_i _ _ (area_spec a _) ?_
    repeat first
    | with_reducible refine vb_i e_ext0 ?_
    | with_reducible refine vb_i e_ext1 ?_
    exact fin_ret (rvs_v (rvs_nil _)) ⟨hs.pre fun _ x => x, rfl, hs.pre fun _ x => x⟩)
  exact ⟨C, h, k⟩
theorem used_spec (hg : B[p]? = some (.cells 0 .exact (jcells rp op j))) : S_jrnl_Journal_Used [.ptr ⟨p, 0, 0⟩] B (.int .i64 j.used) B := by
  refine ⟨_, rfl, ?_, List.prefix_refl _⟩
  unfold jrnl_Journal_Used.w
  repeat first
  | with_reducible refine isB_F ?_
  | with_reducible refine vb_i (e_ptrNil _ _) ?_
  | with_reducible refine vb_i (e_nilCheck _) ?_
  | with_reducible refine vb_i (e_fieldAddr _ _) ?_
  | ((with_reducible apply vb_ld); (· first | exact hs.g0 | exact hs.g1 | exact hs.g2 | exact hs.g3 | exact hs.g4 | exact hs.g5 | exact hs.g6 | exact hs.rd hg | exact hs.rd hg2 | exact hs.rd hg3 | exact hs.rd hg4 | assumption); (· rfl))
  exact fin_ret (rvs_v (rvs_nil _)) ⟨rfl, rfl⟩
theorem seq_spec15 (hg : B[p]? = some (.cells 0 .exact (jcells rp op j))) : S_jrnl_Journal_Seq [.ptr ⟨p, 0, 0⟩] B (.int .i64 j.seq) B := by
  refine ⟨_, rfl, ?_, List.prefix_refl _⟩
  unfold jrnl_Journal_Seq.w
  repeat first
  | with_reducible refine isB_F ?_
  | with_reducible refine vb_i (e_ptrNil _ _) ?_
  | with_reducible refine vb_i (e_nilCheck _) ?_
  | with_reducible refine vb_i (e_fieldAddr _ _) ?_
  | ((with_reducible apply vb_ld); (· first | exact hs.g0 | exact hs.g1 | exact hs.g2 | exact hs.g3 | exact hs.g4 | exact hs.g5 | exact hs.g6 | exact hs.rd hg | exact hs.rd hg2 | exact hs.rd hg3 | exact hs.rd hg4 | assumption); (· rfl))
  exact fin_ret (rvs_v (rvs_nil _)) ⟨rfl, rfl⟩
theorem area_of_spec (hg : B[p]? = some (.cells 0 .exact (jcells rp op j))) : S_jrnl_Journal_Area [.ptr ⟨p, 0, 0⟩] B (.int .i64 j.a) B := by
  refine ⟨_, rfl, ?_, List.prefix_refl _⟩
  unfold jrnl_Journal_Area.w
  repeat first
  | with_reducible refine isB_F ?_
  | with_reducible refine vb_i (e_ptrNil _ _) ?_
  | with_reducible refine vb_i (e_nilCheck _) ?_
  | with_reducible refine vb_i (e_fieldAddr _ _) ?_
  | ((with_reducible apply vb_ld); (· first | exact hs.g0 | exact hs.g1 | exact hs.g2 | exact hs.g3 | exact hs.g4 | exact hs.g5 | exact hs.g6 | exact hs.rd hg | exact hs.rd hg2 | exact hs.rd hg3 | exact hs.rd hg4 | assumption); (· rfl))
  exact fin_ret (rvs_v (rvs_nil _)) ⟨rfl, rfl⟩
theorem jcells_len (J : JOk j) : (jcells rp op j).length = 71 := by simp [jcells, J.root, J.anchor]
theorem jc_root (hg : B[p]? = some (.cells 0 .exact (jcells rp op j))) (J : JOk j) {K : AVal → Prop} (k : K (.agg (j.root.map ofByte))) : vb (aLoad B true 32 (.ptr ⟨p, 0, 7⟩)) K :=
  vb_ldP hg (by rw [jcells_len J]; rfl) (by unfold jcells; rw [List.drop_left' (by simp), List.take_left' (by simp [J.root])]) k
theorem jc_anchor (hg : B[p]? = some (.cells 0 .exact (jcells rp op j))) (J : JOk j) {K : AVal → Prop} (k : K (.agg (j.anchor.map ofByte))) : vb (aLoad B true 32 (.ptr ⟨p, 0, 39⟩)) K :=
  vb_ldP hg (by rw [jcells_len J]; rfl) (by unfold jcells; rw [← List.append_assoc, List.drop_left' (by simp [J.root]), List.take_of_length_le (by simp [J.anchor])]) k
theorem jc_at (hg : B[p]? = some (.cells 0 .exact (jcells rp op j))) (J : JOk j) {K : AVal → Prop} (k : K (.agg [.str j.s, .int .i64 j.d, .int .i64 j.a])) : vb (aLoad B true 3 (.ptr ⟨p, 0, 2⟩)) K :=
  vb_ldP hg (by rw [jcells_len J]; rfl) (by unfold jcells; rfl) k
theorem root_spec15 (hg : B[p]? = some (.cells 0 .exact (jcells rp op j))) (J : JOk j) : ∃ C, S_jrnl_Journal_Root [.ptr ⟨p, 0, 0⟩] B (.agg (j.root.map ofByte)) C ∧ B <+: C := by
  obtain ⟨r, C, h, rfl, k⟩ := jrnl_Journal_Root.out (x0 := .ptr ⟨p, 0, 0⟩) (H := B) (Q := fun r C => r = .agg (j.root.map ofByte) ∧ B <+: C) (by
    unfold jrnl_Journal_Root.w
    have hs : Sep B (fun _ => False) B [] := Sep.start B
    refine s_alloc hs fun i C1 pC hs => ?_
    have hg2 := (pre_get pC (lt_of_some hg)).trans hg
    repeat first
    | ((with_reducible apply jc_root); (· exact hg2); (· exact J))
    | with_reducible refine isB_F ?_
    | with_reducible refine vb_i (e_ptrNil _ _) ?_
    | with_reducible refine vb_i (e_nilCheck _) ?_
    | with_reducible refine vb_i (e_fieldAddr _ _) ?_
    refine s_storeA hs rfl (by simp [J.root]) rfl (cells_byte _) fun C2 hs => ?_
    exact fin_ret (rvs_c (e_loadAll hs.g0 (by simp [J.root])) (rvs_nil _)) ⟨hs.pre fun _ x => x, rfl, hs.pre fun _ x => x⟩)
  exact ⟨C, h, k⟩
theorem anchor_spec (hg : B[p]? = some (.cells 0 .exact (jcells rp op j))) (J : JOk j) : ∃ C, S_jrnl_Journal_Anchor [.ptr ⟨p, 0, 0⟩] B (.agg (j.anchor.map ofByte)) C ∧ B <+: C := by
  obtain ⟨r, C, h, rfl, k⟩ := jrnl_Journal_Anchor.out (x0 := .ptr ⟨p, 0, 0⟩) (H := B) (Q := fun r C => r = .agg (j.anchor.map ofByte) ∧ B <+: C) (by
    unfold jrnl_Journal_Anchor.w
    have hs : Sep B (fun _ => False) B [] := Sep.start B
    refine s_alloc hs fun i C1 pC hs => ?_
    have hg2 := (pre_get pC (lt_of_some hg)).trans hg
    repeat first
    | ((with_reducible apply jc_anchor); (· exact hg2); (· exact J))
    | with_reducible refine isB_F ?_
    | with_reducible refine vb_i (e_ptrNil _ _) ?_
    | with_reducible refine vb_i (e_nilCheck _) ?_
    | with_reducible refine vb_i (e_fieldAddr _ _) ?_
    refine s_storeA hs rfl (by simp [J.anchor]) rfl (cells_byte _) fun C2 hs => ?_
    exact fin_ret (rvs_c (e_loadAll hs.g0 (by simp [J.anchor])) (rvs_nil _)) ⟨hs.pre fun _ x => x, rfl, hs.pre fun _ x => x⟩)
  exact ⟨C, h, k⟩
end
end Go.Sh

/- The journal writes a record's blocks, and lets it count. -/
namespace Go.Sh
open Go Go.Abs

section
variable {H0 B : AHeap} {own : Nat → Prop} {R : List Part} {p : Nat} {rp op x : AVal} {j : JV} {L : RL} {v : RV} {n : Int} {l : List (List UInt8)}
theorem has_app {v w : RV} {d a : Int} {bs : List (List UInt8)} {s : List UInt8} (h : Has v d a bs) (ha : a = 0 ∨ a = 1)
    (hw : ∀ q, 0 ≤ q → nowAt w d q = if d = d ∧ q = 1 + 80 * a + bs.length then s else nowAt v d q) : Has w d a (bs ++ [s]) := by
  intro k hk
  rw [List.length_append, List.length_singleton] at hk
  rw [hw _ (by omega)]
  by_cases e : k = bs.length
  · subst e
    rw [if_pos ⟨rfl, rfl⟩]
    simp [List.getD_eq_getElem?_getD]
  · rw [if_neg (by omega), h k (by omega), List.getD_eq_getElem?_getD, List.getD_eq_getElem?_getD, List.getElem?_append_left (by omega)]
theorem jwrite_spec (h : Sep H0 own B (rparts L v (.obj p (.cells 0 .exact (jcells (.ptr ⟨L.p, 0, 0⟩) op j)) :: Part.vw x 1 l.length (strs l) :: R))) (c : Calm v n) (hn : n ≤ 1000000) (J : JOk j)
    (hl : ∀ s ∈ l, s.length = 64) (hu : j.used + l.length ≤ 80) :
    ∃ e C v', S_jrnl_Journal_write [.ptr ⟨p, 0, 0⟩, x] B (.int .i64 e) C ∧ Sep H0 own C (rparts L v' (.obj p (.cells 0 .exact (jcells (.ptr ⟨L.p, 0, 0⟩) op j)) :: Part.vw x 1 l.length (strs l) :: R)) ∧ Calm v' (n + 80) ∧
      (v.fault = 0 → e = 0 ∧ v'.fault = 0 ∧ ∀ bs : List (List UInt8), (bs.length : Int) = j.used → Has v j.d j.a bs → Has v' j.d j.a (bs ++ l)) ∧ (1 ≤ v.fault ∧ v.fault ≤ l.length → e = 10 ∧ v'.fault = 0) := by
  have hJu := J.u
  have hJd := J.d
  have hJa := J.a
  obtain ⟨r, C, h1, e, v', rfl, h2⟩ := jrnl_Journal_write.out (x0 := .ptr ⟨p, 0, 0⟩) (x1 := x) (H := B) (Q := fun r C => ∃ e v', r = .int .i64 e ∧ Sep H0 own C (rparts L v' (.obj p (.cells 0 .exact (jcells (.ptr ⟨L.p, 0, 0⟩) op j)) :: Part.vw x 1 l.length (strs l) :: R)) ∧ Calm v' (n + 80) ∧
      (v.fault = 0 → e = 0 ∧ v'.fault = 0 ∧ ∀ bs : List (List UInt8), (bs.length : Int) = j.used → Has v j.d j.a bs → Has v' j.d j.a (bs ++ l)) ∧ (1 ≤ v.fault ∧ v.fault ≤ l.length → e = 10 ∧ v'.fault = 0)) (by
    unfold jrnl_Journal_write.w
    have hs := h
    have hg : B[p]? = _ := hs.g3
    refine vb_i (e_nilCheck _) ?_
    refine vb_i (e_fieldAddr _ _) ?_
    refine vb_ld hg rfl ?_
    have hv : View B x 1 l.length (strs l) := hs.tail.tail.tail.tail.head
    refine vb_len hv ?_
    refine LoopP.ruleG (α := Nat × RV) (fun a => [.int .i64 (a.1 : Int)])
      (fun a C => (a.1 ≤ l.length ∧ Calm a.2 (n + a.1) ∧ (v.fault = 0 → a.2.fault = 0 ∧ ∀ bs : List (List UInt8), (bs.length : Int) = j.used → Has v j.d j.a bs → Has a.2 j.d j.a (bs ++ l.take a.1)) ∧
        (1 ≤ v.fault ∧ v.fault ≤ l.length → a.2.fault = v.fault - a.1 ∧ (a.1 : Int) < v.fault)) ∧ Sep H0 own C (rparts L a.2 (.obj p (.cells 0 .exact (jcells (.ptr ⟨L.p, 0, 0⟩) op j)) :: Part.vw x 1 l.length (strs l) :: R)))
      (fun a => l.length - a.1) (0, v) (by simp) ⟨⟨Nat.zero_le _, calm_le c (by simp), fun h => ⟨h, fun bs _ hb => by simpa using hb⟩, fun h => ⟨by simp, by simp; omega⟩⟩, hs⟩ ?_
    clear hs hg hv h
    rintro ⟨i, w⟩ C Kn ⟨⟨hi, cw, h0, h1⟩, hs⟩ hk
    simp only at hi cw h0 h1 hs
    unfold jrnl_Journal_write.L3 jrnl_Journal_write.L3.b
    try simp only [evB]
    have hg : C[p]? = _ := hs.g3
    have hv : View C x 1 l.length (strs l) := hs.tail.tail.tail.tail.head
    by_cases hin : i < l.length
    · have hx := strs_atR hin
      have hs64 := hl (l.getD i []) (by rw [List.getD_eq_getElem?_getD, List.getElem?_eq_getElem hin]; exact List.getElem_mem hin)
      have htk : l.take (i + 1) = l.take i ++ [l.getD i []] := by rw [List.take_succ_eq_append_getElem hin, List.getD_eq_getElem?_getD, List.getElem?_eq_getElem hin]; rfl
      generalize l.getD i [] = s at hx hs64 htk
      repeat first
      | ((with_reducible apply vb_ld); (· exact hg); (· rfl))
      | ((with_reducible apply jc_at); (· exact hg); (· exact J))
      | ((with_reducible refine isB_ct ?_ ?_); (· omega))
      | with_reducible refine vb_i (lss64 _ _ _) ?_
      | ((with_reducible refine vb_i (add64 ?_ ?_) ?_); (· omega); (· omega))
      | with_reducible refine vb_i (e_nilCheck _) ?_
      | with_reducible refine vb_i (e_fieldAddr _ _) ?_
      | ((with_reducible apply vb_addrN); (· first | exact hs.o0.view | exact hs.o1.view | exact hs.o2.view | exact hs.o3.view | exact hs.o4.view | exact hs.o5.view | exact hs.o6.view | exact hs.rv hv | exact hs.rv hv2 | exact hs.rv hv3 | exact hs.rv hv4 | exact hs.view hkv hko | assumption); (· omega))
      | ((with_reducible apply vb_el0); (· first | exact hs.o0.view | exact hs.o1.view | exact hs.o2.view | exact hs.o3.view | exact hs.o4.view | exact hs.o5.view | exact hs.o6.view | exact hs.rv hv | exact hs.rv hv2 | exact hs.rv hv3 | exact hs.rv hv4 | exact hs.view hkv hko | assumption); (· first | exact hx | exact hx2 | assumption))
      obtain ⟨D, hc, k⟩ := block_spec15 (B := C) j.s j.d j.a (j.used + i)
      refine cb_i _ _ hc ?_
      replace hs := hs.quiet k
      rw [pos_eq hJa (by omega) (by omega)]
      have hm := may_pos (d := j.d) hJd hJa (i := j.used + i) (by omega) (by omega)
      have cl := cw.calls
      obtain ⟨w1, w2, w3, w4⟩ := write_calm cw hm hs64
      obtain ⟨E, hc, hs⟩ := rig_Write_spec hs cw.wr (by omega) j.d (1 + 80 * j.a + (j.used + i)) s
      refine cb_i _ _ hc ?_
      rw [w3]
      generalize w.write j.d (1 + 80 * j.a + (j.used + i)) s = w' at w1 w2 w4 hs
      refine vb_i (neq64 _ _ _) ?_
      by_cases hf : w.fault = 1
      · rw [if_pos hf]
        refine isB_ct (by decide) ?_
        repeat first
        | with_reducible refine onE_i ?_
        | ((with_reducible refine onE_s ?_ ?_); (· decide))
        try simp only [evB]
        refine fin_ret (rvs_v (rvs_nil _)) ⟨10, w', rfl, hs, calm_le w1 (by omega), fun h => ?_, fun h => ⟨rfl, ?_⟩⟩
        · have := (h0 h).1; omega
        · rw [w2, hf]; rfl
      · rw [if_neg hf]
        refine isB_cf (by decide) ?_
        repeat first
        | ((with_reducible refine vb_i (add64 ?_ ?_) ?_); (· omega); (· omega))
        refine hk (i + 1, w') _ ⟨⟨by show i + 1 ≤ _; omega, calm_le w1 (by show n + i + 1 ≤ n + ((i + 1 : Nat) : Int); omega), fun h => ⟨?_, fun bs hb hh => ?_⟩, fun h => ?_⟩, hs⟩ (by show l.length - (i + 1) < l.length - i; omega)
        · show w'.fault = 0
          rw [w2, (h0 h).1]; rfl
        · show Has w' j.d j.a (bs ++ l.take (i + 1))
          rw [htk, ← List.append_assoc]
          refine has_app ((h0 h).2 bs hb hh) hJa fun q hq => ?_
          rw [w4 hf j.d q hJd hq, List.length_append, List.length_take, Nat.min_eq_left hi]
          congr 2
          rw [Int.natCast_add, hb]
        · obtain ⟨f1, f2⟩ := h1 h
          show w'.fault = v.fault - ((i + 1 : Nat) : Int) ∧ ((i + 1 : Nat) : Int) < v.fault
          rw [w2, f1]
          unfold cnt
          rw [if_neg (by omega)]
          omega
    · obtain rfl : i = l.length := by omega
      repeat first
      | ((with_reducible refine isB_cf ?_ ?_); (· omega))
      | with_reducible refine onE_i ?_
      | with_reducible refine vb_i (lss64 _ _ _) ?_
      try simp only [evB]
      refine fin_ret (rvs_v (rvs_nil _)) ⟨0, w, rfl, hs, calm_le cw (by omega), fun h => ⟨rfl, (h0 h).1, fun bs hb hh => ?_⟩, fun h => ?_⟩
      · have := (h0 h).2 bs hb hh
        rwa [List.take_length] at this
      · have := (h1 h).2; omega)
  exact ⟨e, C, v', h1, h2⟩
end
end Go.Sh

/- A record counts; reading. -/
namespace Go.Sh
open Go Go.Abs

section
variable {H0 B : AHeap} {own : Nat → Prop} {R : List Part} {p : Nat} {rp op x : AVal} {j : JV} {L : RL} {v : RV} {n : Int} {l : List (List UInt8)}
theorem st_one {C : AHeap} {i off : Nat} {cs : List AVal} {y : AVal} (h : C[i]? = some (.cells 0 .exact cs)) (hx : y.sc = true) (hl : off < cs.length) : aStore C 1 (.ptr ⟨i, 0, off⟩) y = some (C.set i (.cells 0 .exact (cs.set off y))) := by
  rw [x_store1 hx, h, x_st1 rfl hl]
theorem st_many {C : AHeap} {i off m : Nat} {cs xs : List AVal} (h : C[i]? = some (.cells 0 .exact cs)) (hx : xs.length = m) (hl : off + m ≤ cs.length) (hc : xs.all AVal.isCell = true) :
    aStore C m (.ptr ⟨i, 0, off⟩) (.agg xs) = some (C.set i (.cells 0 .exact (splice cs off xs))) := by
  rw [x_storeN hx, h, x_stN rfl (by omega) hc]
theorem jset_anchor (hr : j.root.length = 32) (ha : j.anchor.length = 32) {s : List UInt8} (hs : s.length = 32) : splice (jcells rp op j) 39 (s.map ofByte) = jcells rp op { j with anchor := s } := by
  unfold splice jcells
  rw [← List.append_assoc, List.take_left' (by simp [hr]), List.drop_of_length_le (by simp [hr, ha, hs]), List.append_nil, List.append_assoc]
theorem jset_root (hr : j.root.length = 32) {s : List UInt8} (hs : s.length = 32) : splice (jcells rp op j) 7 (s.map ofByte) = jcells rp op { j with root := s } := by
  unfold splice jcells
  rw [List.take_left' (by rfl), List.length_map, hs, ← List.append_assoc, List.drop_left' (by simp [hr]), List.append_assoc]
theorem set_get {C : AHeap} {i : Nat} {o o' : AObj} (h : C[i]? = some o) : (C.set i o')[i]? = some o' := List.getElem?_set_self (lt_of_some h)
theorem jadd_spec {q : Rcd} {px : AVal} {i m : Nat} {lv : AVal} {T : List (List UInt8)} (h : Sep H0 own B (.obj p (.cells 0 .exact (jcells rp (.ptr ⟨i, 0, 0⟩) j)) :: Part.orc i m lv T :: R)) (J : JOk j) (hT : T.length ≤ 1000000)
    (hq : q.root.length = 32) (hp : px.isCell = true) (hg : good l) (hv : View B x 1 l.length (strs l)) (hu : j.used ≤ 1000000) :
    ∃ C lv', S_jrnl_Journal_add [.ptr ⟨p, 0, 0⟩, recV q px, x] B (.tup []) C ∧ Sep H0 own C (.obj p (.cells 0 .exact (jcells rp (.ptr ⟨i, 0, 0⟩) (j.add q l))) :: Part.orc i m lv' (keepT T (nextT j.anchor l)) :: R) := by
  have hJu := J.u
  have hgl := hg.2.1
  have hs := h.new (.cells 0 .exact (rcells q px))
  have g0 : (B ++ [AObj.cells 0 .exact (rcells q px)])[p]? = some (.cells 0 .exact (jcells rp (.ptr ⟨i, 0, 0⟩) j)) := hs.g1
  have hv2 : View (B ++ [AObj.cells 0 .exact (rcells q px)]) x 1 l.length (strs l) := hv.pre (pre_app _ _)
  obtain ⟨C, lv', hN, hs⟩ := Next_spec (a := j.anchor) (l := l) (x := x) hs.f2 hT J.anchor hv2 hg
  have hlN := sum_len (nextT j.anchor l)
  generalize hA : sum (nextT j.anchor l) = A at hN hlN
  have gb : C[B.length]? = some (.cells 0 .exact (rcells q px)) := hs.g1
  have gp : C[p]? = some (.cells 0 .exact (jcells rp (.ptr ⟨i, 0, 0⟩) j)) := hs.g2
  have hne : p ≠ B.length := by
    have := lt_of_some h.g0; omega
  have h1 := hs.f2.set (.cells 0 .exact (jcells rp (.ptr ⟨i, 0, 0⟩) { j with anchor := A }))
  have h2 := h1.set (.cells 0 .exact (jcells rp (.ptr ⟨i, 0, 0⟩) { j with anchor := A, used := j.used + l.length }))
  have h3 := h2.set (.cells 0 .exact (jcells rp (.ptr ⟨i, 0, 0⟩) { j with anchor := A, used := j.used + l.length, seq := q.seq }))
  have h4 := h3.set (.cells 0 .exact (jcells rp (.ptr ⟨i, 0, 0⟩) { j with anchor := A, used := j.used + l.length, seq := q.seq, root := q.root }))
  have J1 : JOk { j with anchor := A } := ⟨J.d, J.a, J.u, J.q, J.root, hlN⟩
  obtain ⟨r, D, k1, rfl, k2⟩ := jrnl_Journal_add.out (x0 := .ptr ⟨p, 0, 0⟩) (x1 := recV q px) (x2 := x) (H := B) (Q := fun r D => r = .tup [] ∧ Sep H0 own D (.obj p (.cells 0 .exact (jcells rp (.ptr ⟨i, 0, 0⟩) (j.add q l))) :: Part.orc i m lv' (keepT T (nextT j.anchor l)) :: R))
    ⟨.tup [], _, by
      unfold jrnl_Journal_add.w
      refine hb_i (e_box rfl) ?_
      simp only [recV, AVal.cells]
      refine vb_i (e_nilCheck _) ?_
      refine vb_i (e_fieldAddr _ _) ?_
      refine vb_ld g0 rfl ?_
      refine vb_i (e_nilCheck _) ?_
      refine vb_i (e_fieldAddr _ _) ?_
      refine jc_anchor g0 J ?_
      refine cb_i _ _ hN ?_
      repeat first
      | with_reducible refine vb_i e_ext0 ?_
      | with_reducible refine vb_i e_ext1 ?_
      | with_reducible refine vb_i (e_nilCheck _) ?_
      | with_reducible refine vb_i (e_fieldAddr _ _) ?_
      refine sb_i (st_many gp (by simp [hlN]) (by rw [jcells_len J]; dsimp only; omega) (cells_byte _)) ?_
      rw [jset_anchor J.root J.anchor hlN]
      refine vb_i (e_nilCheck _) ?_
      refine vb_i (e_fieldAddr _ _) ?_
      refine vb_ld h1.g0 rfl ?_
      refine vb_len hv ?_
      refine vb_i (add64 (by dsimp only; omega) (by dsimp only; omega)) ?_
      refine vb_i (e_nilCheck _) ?_
      refine vb_i (e_fieldAddr _ _) ?_
      refine sb_i (st_one h1.g0 rfl (by rw [jcells_len J1]; dsimp only; omega)) ?_
      refine ⟨?_, ?_⟩
      · refine vb_i (e_fieldAddr _ _) ?_
        refine vb_rec0 (q := q) (x := px) h2.g2 ?_
        refine vb_i (e_fieldAddr _ _) ?_
        refine vb_recR (q := q) (x := px) h2.g2 hq ?_
        refine vb_i (e_nilCheck _) ?_
        refine vb_i (e_fieldAddr _ _) ?_
        refine sb_i (st_one h2.g0 rfl (by simp [jcells])) ?_
        refine vb_i (e_nilCheck _) ?_
        refine vb_i (e_fieldAddr _ _) ?_
        refine sb_i (st_many h3.g0 (by simp [hq]) (by simp [jcells, J.root, hlN]) (cells_byte _)) ?_
        rw [jset_root (by exact J.root) hq]
        exact fin_normal (rvs_nil _) ⟨rfl, rfl⟩
      · refine vb_i (e_fieldAddr _ _) ?_
        refine vb_rec0 (q := q) (x := px) h2.g2 ?_
        refine vb_i (e_fieldAddr _ _) ?_
        refine vb_i (e_nilCheck _) ?_
        refine vb_i (e_fieldAddr _ _) ?_
        refine sb_i (st_one h2.g0 rfl (by simp [jcells])) ?_
        refine vb_recR (q := q) (x := px) h3.g2 hq ?_
        refine vb_i (e_nilCheck _) ?_
        refine vb_i (e_fieldAddr _ _) ?_
        refine sb_i (st_many h3.g0 (by simp [hq]) (by simp [jcells, J.root, hlN]) (cells_byte _)) ?_
        rw [jset_root (by exact J.root) hq]
        exact fin_normal (rvs_nil _) ⟨rfl, rfl⟩, rfl, by
      unfold JV.add
      rw [hA]
      exact h4.f2.tail⟩
  exact ⟨D, lv', k1, k2⟩
/-- One block is read. -/
theorem jread1_spec {b o : Nat} {sv : AVal} {out : List (List UInt8)} {k : Nat}
    (h : Sep H0 own B (rparts L v (.obj o (.cells 0 .exact [sv]) :: .sl sv 1 k (strs out) :: .obj b (.cells 0 .exact [.ptr ⟨p, 0, 0⟩]) :: .obj p (.cells 0 .exact (jcells (.ptr ⟨L.p, 0, 0⟩) op j)) :: R)))
    (c : Calm v n) (hn : n ≤ 2000000) (J : JOk j) (hk : k < 80) :
    ∃ C sv', S_jrnl_Journal_read_1 [.int .i64 k, .ptr ⟨b, 0, 0⟩, .ptr ⟨o, 0, 0⟩] B (.int .i64 (if v.fault = 1 then 10 else 0)) C ∧
      Sep H0 own C (rparts L (v.ask j.d (1 + 80 * j.a + k)) (.obj o (.cells 0 .exact [sv']) :: .sl sv' 1 (k + 1) (strs (out ++ [if v.fault = 1 then [] else nowAt v j.d (1 + 80 * j.a + k)])) :: .obj b (.cells 0 .exact [.ptr ⟨p, 0, 0⟩]) :: .obj p (.cells 0 .exact (jcells (.ptr ⟨L.p, 0, 0⟩) op j)) :: R)) := by
  have hJd := J.d
  have hJa := J.a
  obtain ⟨r, C, h1, rfl, sv', h2⟩ := jrnl_Journal_read_1.out (x0 := .int .i64 k) (x1 := .ptr ⟨b, 0, 0⟩) (x2 := .ptr ⟨o, 0, 0⟩) (H := B) (Q := fun r C => r = .int .i64 (if v.fault = 1 then 10 else 0) ∧ ∃ sv',
      Sep H0 own C (rparts L (v.ask j.d (1 + 80 * j.a + k)) (.obj o (.cells 0 .exact [sv']) :: .sl sv' 1 (k + 1) (strs (out ++ [if v.fault = 1 then [] else nowAt v j.d (1 + 80 * j.a + k)])) :: .obj b (.cells 0 .exact [.ptr ⟨p, 0, 0⟩]) :: .obj p (.cells 0 .exact (jcells (.ptr ⟨L.p, 0, 0⟩) op j)) :: R))) (by
    unfold jrnl_Journal_read_1.w
    have hs := h
    have hg : B[p]? = some (.cells 0 .exact (jcells (.ptr ⟨L.p, 0, 0⟩) op j)) := (rp_out (X := [_, _, _, _]) hs).g3
    have hg2 : B[b]? = some (.cells 0 .exact [.ptr ⟨p, 0, 0⟩]) := (rp_out (X := [_, _, _, _]) hs).g2
    repeat first
    | ((with_reducible apply vb_ld); (· first | exact hg | exact hg2); (· rfl))
    | ((with_reducible apply jc_at); (· exact hg); (· exact J))
    | with_reducible refine vb_i (e_nilCheck _) ?_
    | with_reducible refine vb_i (e_fieldAddr _ _) ?_
    obtain ⟨D, hc, e⟩ := block_spec15 (B := B) j.s j.d j.a k
    refine cb_i _ _ hc ?_
    replace hs := hs.quiet e
    rw [pos_eq hJa (by omega) (by omega)]
    have hm := may_pos (d := j.d) hJd hJa (i := k) (by omega) (by omega)
    have cl := c.calls
    obtain ⟨w1, w2, w3, w4, w5⟩ := ask_calm c hm
    obtain ⟨E, hc, hs⟩ := rig_Read_spec hs c.wr (by omega) j.d (1 + 80 * j.a + k)
    refine cb_i _ _ hc ?_
    rw [w3, w5]
    generalize v.ask j.d (1 + 80 * j.a + k) = v' at hs
    generalize (if v.fault = 1 then [] else nowAt v j.d (1 + 80 * j.a + k)) = s at *
    have hs := rp_out (X := [_, _, _, _]) hs
    repeat first
    | with_reducible refine vb_i e_ext0 ?_
    | with_reducible refine vb_i e_ext1 ?_
    | ((with_reducible apply vb_ld); (· first | exact hs.g0 | exact hs.g1 | exact hs.g2 | exact hs.g3 | exact hs.g4 | exact hs.g5 | exact hs.g6 | exact hs.rd hg | exact hs.rd hg2 | exact hs.rd hg3 | exact hs.rd hg4 | assumption); (· rfl))
    refine s_push (es := 1) (m := 1) (xs := strs [s]) hs.f1 rfl (by decide) rfl rfl (by unfold room; omega) (by unfold room; omega) fun sv' F hs => ?_
    have hsc : sv'.sc = true := Own.sc hs.head
    refine s_store1 hs.f1 rfl hsc (by simp) fun G hs => ?_
    simp only [List.set_cons_zero] at hs
    refine fin_ret (rvs_v (rvs_nil _)) ⟨rfl, sv', ?_⟩
    rw [show strs (out ++ [s]) = strs out ++ strs [s] by simp [strs]]
    exact rp_in (X := [_, _, _, _]) hs)
  exact ⟨C, sv', h1, h2⟩
/-- An area's first blocks are read. -/
theorem jread_spec (h : Sep H0 own B (rparts L v (.obj p (.cells 0 .exact (jcells (.ptr ⟨L.p, 0, 0⟩) op j)) :: R))) (c : Calm v n) (hn : n ≤ 1000000) (J : JOk j) {k : Nat} (h1 : 1 ≤ k) (h80 : k ≤ 80) :
    ∃ r C v', S_jrnl_Journal_read [.ptr ⟨p, 0, 0⟩, .int .i64 k] B r C ∧ Calm v' (n + 80) ∧
      (v.fault = 0 → v'.fault = 0 ∧ (∀ d, v'.dev d = v.dev d) ∧ ∃ x, r = .tup [x, .int .i64 0] ∧ Sep H0 own C (rparts L v' (.obj p (.cells 0 .exact (jcells (.ptr ⟨L.p, 0, 0⟩) op j)) :: .sl x 1 k (strs (rdL v j.d j.a k)) :: R))) ∧
      (v.fault = 1 → v'.fault = 0 ∧ r = .tup [.nils, .int .i64 10] ∧ Sep H0 own C (rparts L v' (.obj p (.cells 0 .exact (jcells (.ptr ⟨L.p, 0, 0⟩) op j)) :: R))) := by
  have hJd := J.d
  have hJa := J.a
  obtain ⟨r, C, h2, v', h3⟩ := jrnl_Journal_read.out (x0 := .ptr ⟨p, 0, 0⟩) (x1 := .int .i64 k) (H := B) (Q := fun r C => ∃ v', Calm v' (n + 80) ∧
      (v.fault = 0 → v'.fault = 0 ∧ (∀ d, v'.dev d = v.dev d) ∧ ∃ x, r = .tup [x, .int .i64 0] ∧ Sep H0 own C (rparts L v' (.obj p (.cells 0 .exact (jcells (.ptr ⟨L.p, 0, 0⟩) op j)) :: .sl x 1 k (strs (rdL v j.d j.a k)) :: R))) ∧
      (v.fault = 1 → v'.fault = 0 ∧ r = .tup [.nils, .int .i64 10] ∧ Sep H0 own C (rparts L v' (.obj p (.cells 0 .exact (jcells (.ptr ⟨L.p, 0, 0⟩) op j)) :: R)))) (by
    unfold jrnl_Journal_read.w
    refine s_boxS h rfl fun b C1 hs => ?_
    refine s_alloc (s_nils hs 1) fun o C2 _ hs => ?_
    have hs := rp_in (X := [_, _, _]) hs
    refine LoopP.ruleG (α := Nat × RV × AVal) (fun a => [.int .i64 (a.1 : Int)])
      (fun a C => (a.1 ≤ k ∧ Calm a.2.1 (n + a.1) ∧ (v.fault = 0 → a.2.1.fault = 0 ∧ ∀ d, a.2.1.dev d = v.dev d) ∧ (v.fault = 1 → a.1 = 0 ∧ a.2.1 = v)) ∧
        ∃ out, (v.fault = 0 → out = rdL v j.d j.a a.1) ∧ Sep H0 own C (rparts L a.2.1 (.obj o (.cells 0 .exact [a.2.2]) :: .sl a.2.2 1 a.1 (strs out) :: .obj b (.cells 0 .exact [.ptr ⟨p, 0, 0⟩]) :: .obj p (.cells 0 .exact (jcells (.ptr ⟨L.p, 0, 0⟩) op j)) :: R)))
      (fun a => k - a.1) (0, v, .nils) (by simp) ⟨⟨Nat.zero_le _, calm_le c (by simp), fun h => ⟨h, fun _ => rfl⟩, fun _ => ⟨rfl, rfl⟩⟩, [], fun _ => rfl, hs⟩ ?_
    clear hs h
    rintro ⟨i, w, sv⟩ C Kn ⟨⟨hi, cw, h0, hf1⟩, out, ho, hs⟩ hk
    simp only at hi cw h0 hf1 ho hs
    unfold jrnl_Journal_read.L4 jrnl_Journal_read.L4.b
    try simp only [evB]
    refine vb_i (lss64 _ _ _) ?_
    by_cases hin : i < k
    · refine isB_ct (by omega) ?_
      obtain ⟨D, sv', hc, hs⟩ := jread1_spec hs cw (by omega) J (by omega)
      refine cb_i _ _ hc ?_
      have hm := may_pos (d := j.d) hJd hJa (i := i) (by omega) (by omega)
      obtain ⟨w1, w2, w3, w4, w5⟩ := ask_calm cw hm
      generalize w.ask j.d (1 + 80 * j.a + i) = w' at w1 w2 w4 hs
      refine vb_i (neq64 _ _ _) ?_
      by_cases hf : w.fault = 1
      · rw [if_pos hf]
        refine isB_ct (by decide) ?_
        repeat first
        | with_reducible refine onE_i ?_
        | ((with_reducible refine onE_s ?_ ?_); (· decide))
        try simp only [evB]
        have hs := rp_out (X := [_, _, _, _]) hs
        have hs := rp_in (X := [_]) hs.tail.tail.tail
        refine fin_ret (rvs_v (rvs_v (rvs_nil _))) ⟨w', calm_le w1 (by omega), fun h => ?_, fun h => ⟨?_, rfl, hs⟩⟩
        · have := (h0 h).1; omega
        · rw [w2, hf]; rfl
      · rw [if_neg hf]
        rw [if_neg hf] at hs
        refine isB_cf (by decide) ?_
        refine vb_i (add64 (by omega) (by omega)) ?_
        refine hk (i + 1, w', sv') _ ⟨⟨by show i + 1 ≤ _; omega, calm_le w1 (by show n + i + 1 ≤ n + ((i + 1 : Nat) : Int); omega), fun h => ⟨?_, fun d => (w4 d).trans ((h0 h).2 d)⟩, fun h => ?_⟩, _, fun h => ?_, hs⟩ (by show k - (i + 1) < k - i; omega)
        · show w'.fault = 0
          rw [w2, (h0 h).1]; rfl
        · exact absurd ((congrArg RV.fault (hf1 h).2).trans h) hf
        · rw [rdL_step, ho h]
          unfold nowAt
          rw [(h0 h).2]
    · obtain rfl : i = k := by omega
      refine isB_cf (by omega) ?_
      repeat first
      | with_reducible refine onE_i ?_
      | ((with_reducible apply vb_ld); (· first | exact hs.g0 | exact hs.g1 | exact hs.g2 | exact hs.g3 | exact hs.g4 | exact hs.g5 | exact hs.g6 | exact hs.rd hg | exact hs.rd hg2 | exact hs.rd hg3 | exact hs.rd hg4 | assumption); (· rfl))
      try simp only [evB]
      have hs := rp_out (X := [_, _, _, _]) hs
      have hs := rp_in (X := [_, _]) hs.tail.f1.tail.f1
      refine fin_ret (rvs_v (rvs_v (rvs_nil _))) ⟨w, calm_le cw (by omega), fun h => ⟨(h0 h).1, (h0 h).2, sv, rfl, by rw [← ho h]; exact hs⟩, fun h => ?_⟩
      have := (hf1 h).1; omega)
  exact ⟨r, C, v', h2, h3⟩
end
end Go.Sh

/- A journal is begun; records are appended. -/
namespace Go.Sh
open Go Go.Abs

theorem lay64 {q : Rcd} (hr : q.root.length = 32) (hg : goodR q = true) : ∀ s ∈ layR q, s.length = 64 := by
  obtain ⟨_, hp⟩ := good_inv hg
  intro s hs
  unfold layR at hs
  rw [List.cons_append, List.mem_cons, List.mem_append] at hs
  rcases hs with rfl | hs | hs
  · exact full_len (by simp [hdR, beB_len, hr])
  · unfold headsR rowsN at hs
    simp only [List.mem_map] at hs
    obtain ⟨c, ⟨k, _, rfl⟩, rfl⟩ := hs
    exact rowB_len (by rw [List.length_take]; omega)
  · simp only [List.mem_map] at hs
    obtain ⟨p, hp', rfl⟩ := hs
    exact (hp p hp').2.2
theorem lay_is_good {q : Rcd} (hr : q.root.length = 32) (hg : goodR q = true) (h64 : q.puts.length ≤ 64) : good (layR q) :=
  ⟨by rw [lay_len]; unfold longN; omega, by rw [lay_len]; unfold longN; omega, lay64 hr hg⟩
theorem Vw.cell {B : AHeap} {x : AVal} {es n : Nat} {cs : List AVal} (h : Vw B x es n cs) : x.isCell = true := by
  rcases h with h | ⟨_, _, i, rfl⟩
  · exact view_cell h
  · rfl
/-- Why a record is not appended. -/
def roomP (j : JV) (n : Int) : Prop := 0 < lengthR n ∧ lengthR n ≤ 80 - j.used
instance (j : JV) (n : Int) : Decidable (roomP j n) := inferInstanceAs (Decidable (_ ∧ _))
def appE (j : JV) (q : Rcd) : Int := if checkE q ≠ 0 then checkE q else if q.seq ≠ j.seq + 1 then 2 else if ¬ roomP j q.puts.length then 9 else 0

section
variable {H0 B : AHeap} {own : Nat → Prop} {R : List Part} {p : Nat} {rp op px : AVal} {j : JV} {L : RL} {v : RV} {n : Int} {q : Rcd} {i m : Nat} {lv : AVal} {T : List (List UInt8)}
theorem room_spec (hg : B[p]? = some (.cells 0 .exact (jcells rp op j))) (J : JOk j) (k : Int) : ∃ C, S_jrnl_Journal_Room [.ptr ⟨p, 0, 0⟩, .int .i64 k] B (.bool (decide (roomP j k))) C ∧ B <+: C := by
  have hJu := J.u
  obtain ⟨r, C, h, rfl, e⟩ := jrnl_Journal_Room.out (x0 := .ptr ⟨p, 0, 0⟩) (x1 := .int .i64 k) (H := B) (Q := fun r C => r = .bool (decide (roomP j k)) ∧ B <+: C) (by
    unfold jrnl_Journal_Room.w
    obtain ⟨C, hc, e⟩ := length_spec (B := B) k
    refine cb_i _ _ hc ?_
    have hg2 := (pre_get e (lt_of_some hg)).trans hg
    repeat first
    | with_reducible refine isB_T ?_
    | with_reducible refine vb_i (gtr64 _ _ _) ?_
    | with_reducible refine vb_i (e_ptrNilN _ _) ?_
    refine isB_c (fun h1 => ?_) (fun h1 => ?_)
    · repeat first
      | ((with_reducible apply vb_ld); (· exact hg2); (· rfl))
      | with_reducible refine vb_i (leq64 _ _ _) ?_
      | ((with_reducible refine vb_i (sub64 ?_ ?_) ?_); (· omega); (· omega))
      | with_reducible refine vb_i (e_nilCheck _) ?_
      | with_reducible refine vb_i (e_fieldAddr _ _) ?_
      refine fin_ret (rvs_v (rvs_nil _)) ⟨e, ?_, e⟩
      unfold roomP
      simp only [tup1]
      congr 1
      simp [h1]
    · refine fin_ret (rvs_v (rvs_nil _)) ⟨e, ?_, e⟩
      rw [decide_eq_false (fun h => h1 h.1)]; rfl)
  exact ⟨C, h, e⟩
theorem append_nil (x : AVal) (hx : x.defd = true) : ∃ C, S_jrnl_Journal_Append [.nilp, x] B (.int .i64 1) C ∧ B <+: C := by
  obtain ⟨r, C, h, rfl, e⟩ := jrnl_Journal_Append.out (x0 := .nilp) (x1 := x) (H := B) (Q := fun r C => r = .int .i64 1 ∧ B <+: C) (by
    unfold jrnl_Journal_Append.w
    have hs : Sep B (fun _ => False) B [] := Sep.start B
    refine s_box hs hx fun i C1 e hs => ?_
    refine vb_i (e_nilNil _) ?_
    repeat first
    | with_reducible refine isB_T ?_
    exact fin_ret (rvs_v (rvs_nil _)) ⟨rfl, e⟩)
  exact ⟨C, h, e⟩
theorem check_good {q : Rcd} (h : checkE q = 0) : q.puts.length ≤ 64 ∧ goodR q = true := check_zero h
theorem JOk.add (J : JOk j) {q : Rcd} {l : List (List UInt8)} (hr : q.root.length = 32) (hq : okSeq q) (hu : j.used + l.length ≤ 80) : JOk (j.add q l) :=
  ⟨J.d, J.a, by have := J.u; unfold JV.add; dsimp only; omega, by unfold okSeq at hq; exact hq, hr, sum_len _⟩
theorem app_room (h : appE j q = 0) : checkE q = 0 ∧ q.seq = j.seq + 1 ∧ roomP j q.puts.length := by
  unfold appE at h
  by_cases h1 : checkE q = 0
  · rw [if_neg (by omega)] at h
    by_cases h2 : q.seq = j.seq + 1
    · rw [if_neg (by omega)] at h
      by_cases h3 : roomP j q.puts.length
      · exact ⟨h1, h2, h3⟩
      · rw [if_pos h3] at h; exact absurd h (by decide)
    · rw [if_pos h2] at h; exact absurd h (by decide)
  · rw [if_pos h1] at h; exact absurd h h1
theorem room_lay {q : Rcd} (h64 : q.puts.length ≤ 64) (h : roomP j q.puts.length) : j.used + (layR q).length ≤ 80 := by
  obtain ⟨_, h⟩ := h
  rw [length_long h64] at h
  rw [lay_len]; omega
theorem append_spec (h : Sep H0 own B (rparts L v (.obj p (.cells 0 .exact (jcells (.ptr ⟨L.p, 0, 0⟩) (.ptr ⟨i, 0, 0⟩) j)) :: Part.orc i m lv T :: R))) (c : Calm v n) (hn : n ≤ 1000000) (J : JOk j) (hT : T.length ≤ 1000000)
    (hq : RecW B q px) (hl : q.puts.length ≤ 9223372036854775807) :
    ∃ e C v' j' lv' T', S_jrnl_Journal_Append [.ptr ⟨p, 0, 0⟩, recV q px] B (.int .i64 e) C ∧
      Sep H0 own C (rparts L v' (.obj p (.cells 0 .exact (jcells (.ptr ⟨L.p, 0, 0⟩) (.ptr ⟨i, 0, 0⟩) j')) :: Part.orc i m lv' T' :: R)) ∧ Calm v' (n + 80) ∧
      (appE j q ≠ 0 → e = appE j q ∧ v' = v ∧ j' = j ∧ T' = T) ∧
      (appE j q = 0 → (v.fault = 0 → e = 0 ∧ v'.fault = 0 ∧ j' = j.add q (layR q) ∧ T' = keepT T (nextT j.anchor (layR q)) ∧ ∀ bs : List (List UInt8), (bs.length : Int) = j.used → Has v j.d j.a bs → Has v' j.d j.a (bs ++ layR q)) ∧
        (1 ≤ v.fault ∧ v.fault ≤ (layR q).length → e = 10 ∧ v'.fault = 0 ∧ j' = j ∧ T' = T)) := by
  have hJq := J.q
  have hJu := J.u
  obtain ⟨r, C, k1, e, v', j', lv', T', rfl, k2⟩ := jrnl_Journal_Append.out (x0 := .ptr ⟨p, 0, 0⟩) (x1 := recV q px) (H := B) (Q := fun r C => ∃ e v' j' lv' T', r = .int .i64 e ∧
      Sep H0 own C (rparts L v' (.obj p (.cells 0 .exact (jcells (.ptr ⟨L.p, 0, 0⟩) (.ptr ⟨i, 0, 0⟩) j')) :: Part.orc i m lv' T' :: R)) ∧ Calm v' (n + 80) ∧
      (appE j q ≠ 0 → e = appE j q ∧ v' = v ∧ j' = j ∧ T' = T) ∧
      (appE j q = 0 → (v.fault = 0 → e = 0 ∧ v'.fault = 0 ∧ j' = j.add q (layR q) ∧ T' = keepT T (nextT j.anchor (layR q)) ∧ ∀ bs : List (List UInt8), (bs.length : Int) = j.used → Has v j.d j.a bs → Has v' j.d j.a (bs ++ layR q)) ∧
        (1 ≤ v.fault ∧ v.fault ≤ (layR q).length → e = 10 ∧ v'.fault = 0 ∧ j' = j ∧ T' = T))) (by
    unfold jrnl_Journal_Append.w
    refine s_box h rfl fun b C1 pC hs => ?_
    simp only [recV, AVal.cells] at hs
    have hq1 : RecW C1 q px := hq.pre pC
    have c80 : Calm v (n + 80) := calm_le c (by omega)
    repeat first
    | ((with_reducible apply vb_recA); (· exact hs.g0); (· exact hq.1); (· rfl))
    | with_reducible refine isB_F ?_
    | with_reducible refine vb_i (e_ptrNil _ _) ?_
    by_cases he : checkE q = 0
    · obtain ⟨h64, hg⟩ := check_good he
      obtain ⟨l, C2, hc, k⟩ := lay_goodW hq1 h64 hg
      refine cb_i _ _ hc ?_
      have pk : C1 <+: C2 := k.pre fun _ x => x
      have hs := Sep.call01 hs (k.own_of fun _ h => h.elim)
      repeat first
      | ((with_reducible refine isB_cf ?_ ?_); (· omega))
      | with_reducible refine vb_i e_ext0 ?_
      | with_reducible refine vb_i e_ext1 ?_
      | with_reducible refine vb_i (neq64 _ _ _) ?_
      | ((with_reducible refine vb_i (add64 ?_ ?_) ?_); (· omega); (· omega))
      | with_reducible refine vb_i (e_nilCheck _) ?_
      | with_reducible refine vb_i (e_fieldAddr _ _) ?_
      | ((with_reducible apply vb_ld); (· first | exact hs.g0 | exact hs.g1 | exact hs.g2 | exact hs.g3 | exact hs.g4 | exact hs.g5 | exact hs.g6 | exact hs.rd hg | exact hs.rd hg2 | exact hs.rd hg3 | exact hs.rd hg4 | assumption); (· rfl))
      have hq2 := hq1.pre pk
      refine isB_c (fun h1 => ?_) (fun h1 => ?_)
      · have ha : appE j q = 2 := by unfold appE; rw [if_neg (by omega), if_pos h1]
        exact fin_ret (rvs_v (rvs_nil _)) ⟨2, v, j, lv, T, rfl, hs.tail.tail, c80, fun _ => ⟨ha.symm, rfl, rfl, rfl⟩, fun h => by rw [ha] at h; exact absurd h (by decide)⟩
      have h1 := Classical.not_not.1 h1
      repeat first
      | ((with_reducible apply vb_rec33); (· exact hs.g1); (· exact hq.1))
      | ((with_reducible apply vb_lenW); (· exact hq2.2))
      | with_reducible refine vb_i (e_fieldAddr _ _) ?_
      obtain ⟨C3, hc, k⟩ := room_spec (k := q.puts.length) (hs.tail.tail.g3 : C2[p]? = some (.cells 0 .exact (jcells (.ptr ⟨L.p, 0, 0⟩) (.ptr ⟨i, 0, 0⟩) j))) J
      refine cb_i _ _ hc ?_
      have hs := hs.quiet k
      by_cases hr : roomP j q.puts.length
      · rw [decide_eq_true hr]
        have ha : appE j q = 0 := by unfold appE; rw [if_neg (by omega), if_neg (by omega), if_neg (by simpa using hr)]
        have hrl := room_lay h64 hr
        have hgood := lay_is_good hq.1 hg h64
        repeat first
        | with_reducible refine vb_i (e_not _) ?_
        | ((with_reducible refine isB_Fa ?_ ?_); (· rfl))
        have hs := hs.as (b := Part.vw l 1 (layR q).length (strs (layR q))) rfl fun h => h.view
        have hs := rp_out (X := [_, _, _]) (rp_in (X := [_, _]) hs)
        have hs := rp_in (X := [_, _, _]) hs.f2
        obtain ⟨e, C4, v', hc, hs, c4, d1, d2⟩ := jwrite_spec hs c hn J hgood.2.2 hrl
        refine cb_i _ _ hc ?_
        have hs := rp_out (X := [_, _, _, _]) hs
        refine vb_i (neq64 _ _ _) ?_
        refine isB_c (fun h2 => ?_) (fun h2 => ?_)
        · have hs := rp_in (X := [_, _]) hs.f1.tail.f1.tail
          exact fin_ret (rvs_v (rvs_nil _)) ⟨e, v', j, lv, T, rfl, hs, c4, fun h => absurd ha h, fun _ => ⟨fun h => absurd (d1 h).1 h2, fun h => ⟨(d2 h).1, (d2 h).2, rfl, rfl⟩⟩⟩
        · have h2 := Classical.not_not.1 h2
          refine vb_recA hs.g2 hq.1 rfl ?_
          have hv : View C4 l 1 (layR q).length (strs (layR q)) := hs.tail.head
          obtain ⟨C5, lv', hc, hs⟩ := jadd_spec (q := q) (px := px) hs.f3.f1 J hT hq.1 hq.2.cell hgood hv (by omega)
          refine cb_i _ _ hc ?_
          have hs := rp_in (X := [_, _]) hs.f2.tail.f2.tail
          exact fin_ret (rvs_v (rvs_nil _)) ⟨0, v', _, lv', _, rfl, hs, c4, fun h => absurd ha h, fun _ => ⟨fun h => ⟨rfl, (d1 h).2.1, rfl, rfl, (d1 h).2.2⟩, fun h => by have := (d2 h).1; omega⟩⟩
      · rw [decide_eq_false hr]
        have ha : appE j q = 9 := by unfold appE; rw [if_neg (by omega), if_neg (by omega), if_pos hr]
        repeat first
        | with_reducible refine vb_i (e_not _) ?_
        | ((with_reducible refine isB_Tr ?_ ?_); (· rfl))
        exact fin_ret (rvs_v (rvs_nil _)) ⟨9, v, j, lv, T, rfl, hs.tail.tail, c80, fun _ => ⟨ha.symm, rfl, rfl, rfl⟩, fun h => by rw [ha] at h; exact absurd h (by decide)⟩
    · obtain ⟨C2, hc, k⟩ := lay_badW hq1 hl he
      refine cb_i _ _ hc ?_
      have hs := hs.quiet k
      repeat first
      | ((with_reducible refine isB_ct ?_ ?_); (· omega))
      | with_reducible refine vb_i e_ext0 ?_
      | with_reducible refine vb_i e_ext1 ?_
      | with_reducible refine vb_i (neq64 _ _ _) ?_
      have ha : appE j q = checkE q := if_pos he
      refine fin_ret (rvs_v (rvs_nil _)) ⟨_, v, j, lv, T, rfl, hs.tail, c80, fun _ => ⟨ha.symm, rfl, rfl, rfl⟩, fun h => absurd (ha.symm.trans h) he⟩)
  exact ⟨e, C, v', j', lv', T', k1, k2⟩
end
end Go.Sh

/- A journal is begun. -/
namespace Go.Sh
open Go Go.Abs

theorem keep_mem {T : List (List UInt8)} {s t : List UInt8} : t ∈ keepT T s ↔ t ∈ T ∨ t = s := by
  unfold keepT
  split
  · rename_i h
    exact ⟨.inl, fun h' => h'.elim id fun e => e ▸ h⟩
  · simp
def j0 (s : List UInt8) (d a : Int) (A : List UInt8) : JV := ⟨s, d, a, 0, 0, zs 32, A⟩
theorem j0_ok {s A : List UInt8} {d a : Int} (hd : d = 0 ∨ d = 1) (ha : a = 0 ∨ a = 1) (hA : A.length = 32) : JOk (j0 s d a A) := ⟨hd, ha, by unfold j0; dsimp only; omega, by unfold j0; dsimp only; omega, zs32_len, hA⟩
theorem start_ok {s : List UInt8} {d a : Int} (hd : d = 0 ∨ d = 1) (ha : a = 0 ∨ a = 1) (hs : s.length = 64) : startE d a s = 0 := by
  unfold startE
  rw [if_neg (by omega), if_neg (by omega)]
theorem jfill3 (r o : Ref) (s : List UInt8) (d a : Int) : fillA (fun k => ([(0, 1), (1, 1), (2, 3), (5, 1), (6, 1), (7, 32), (39, 32)] : List (Nat × Nat))[k]?) (jcells .nilp .nilp (j0 [] 0 0 (zs 32)))
    [(0, .ptr r), (1, .ptr o), (2, .agg [.str s, .int .i64 d, .int .i64 a])] = some (jcells (.ptr r) (.ptr o) (j0 s d a (zs 32))) := rfl
theorem jfill4 (r o : Ref) (s : List UInt8) (d a : Int) {A : List UInt8} (hA : A.length = 32) : fillA (fun k => ([(0, 1), (1, 1), (2, 3), (5, 1), (6, 1), (7, 32), (39, 32)] : List (Nat × Nat))[k]?) (jcells .nilp .nilp (j0 [] 0 0 (zs 32)))
    [(0, .ptr r), (1, .ptr o), (2, .agg [.str s, .int .i64 d, .int .i64 a]), (6, .agg (A.map ofByte))] = some (jcells (.ptr r) (.ptr o) (j0 s d a A)) := by
  have e : fillA (fun k => ([(0, 1), (1, 1), (2, 3), (5, 1), (6, 1), (7, 32), (39, 32)] : List (Nat × Nat))[k]?) (jcells .nilp .nilp (j0 [] 0 0 (zs 32)))
    [(0, .ptr r), (1, .ptr o), (2, .agg [.str s, .int .i64 d, .int .i64 a]), (6, .agg (A.map ofByte))] = fillA (fun k => ([(0, 1), (1, 1), (2, 3), (5, 1), (6, 1), (7, 32), (39, 32)] : List (Nat × Nat))[k]?) (jcells (.ptr r) (.ptr o) (j0 s d a (zs 32))) [(6, .agg (A.map ofByte))] := rfl
  have hc : (AVal.agg (A.map ofByte)).cells = A.map ofByte := rfl
  rw [e]
  simp only [fillA]
  rw [show ([(0, 1), (1, 1), (2, 3), (5, 1), (6, 1), (7, 32), (39, 32)] : List (Nat × Nat))[6]? = some (39, 32) from rfl]
  simp only
  rw [hc, if_pos ⟨rfl, by simp [hA], by simp [hA, jcells, j0, zs]⟩]
  congr 1
  exact jset_anchor (j := j0 s d a (zs 32)) zs32_len zs32_len hA

theorem _root_.Go.Abs.Sep.d1 {H0 B : AHeap} {own : Nat → Prop} {a b : Part} {R : List Part} (h : Sep H0 own B (a :: b :: R)) : Sep H0 own B (a :: R) := h.f1.tail
theorem _root_.Go.Abs.Sep.d2 {H0 B : AHeap} {own : Nat → Prop} {a b c : Part} {R : List Part} (h : Sep H0 own B (a :: b :: c :: R)) : Sep H0 own B (a :: b :: R) := h.f2.tail
section
variable {H0 B : AHeap} {own : Nat → Prop} {R : List Part} {p : Nat} {rp op px : AVal} {j : JV} {L : RL} {v : RV} {n : Int} {q : Rcd} {i m : Nat} {lv : AVal} {T : List (List UInt8)} {s : List UInt8} {d a : Int}
theorem check_bare (h : q.puts = []) : checkE q = if okSeq q then 0 else 2 := by
  unfold checkE goodR
  rw [h, if_neg (by simp)]
  by_cases hq : okSeq q
  · rw [if_pos hq, decide_eq_true hq]; rfl
  · rw [if_neg hq, decide_eq_false hq]; rfl
theorem recW_nils {C : AHeap} (hr : q.root.length = 32) (hp : q.puts = []) : RecW C q .nils := ⟨hr, .inl ⟨by rw [hp]; rfl, .inl ⟨rfl, by rw [hp]; rfl⟩⟩⟩
theorem begin_spec (h : Sep H0 own B (rparts L v (Part.orc i m lv T :: R))) (c : Calm v n) (hn : n ≤ 1000000) (hT : T.length ≤ 100000) (hs64 : s.length = 64) (hd : d = 0 ∨ d = 1) (ha : a = 0 ∨ a = 1)
    (hr : q.root.length = 32) (hp : q.puts = []) :
    ∃ r C v' lv' T', S_jrnl_Begin [.ptr ⟨L.p, 0, 0⟩, .ptr ⟨i, 0, 0⟩, .agg [.str s, .int .i64 d, .int .i64 a], recV q .nils] B r C ∧ Calm v' (n + 80) ∧ T'.length ≤ T.length + 2 ∧ (∀ t ∈ T, t ∈ T') ∧
      (¬ okSeq q → r = .tup [.nilp, .int .i64 2] ∧ v' = v ∧ Sep H0 own C (rparts L v' (Part.orc i m lv' T' :: R))) ∧
      (okSeq q → v.fault = 0 → v'.fault = 0 ∧ Has v' d a (layR q) ∧ startT d a s ∈ T' ∧ nextT (sum (startT d a s)) (layR q) ∈ T' ∧ ∃ p, r = .tup [.ptr ⟨p, 0, 0⟩, .int .i64 0] ∧
        Sep H0 own C (rparts L v' (.obj p (.cells 0 .exact (jcells (.ptr ⟨L.p, 0, 0⟩) (.ptr ⟨i, 0, 0⟩) ((j0 s d a (sum (startT d a s))).add q (layR q)))) :: Part.orc i m lv' T' :: R))) ∧
      (okSeq q → v.fault = 1 → v'.fault = 0 ∧ r = .tup [.nilp, .int .i64 10] ∧ Sep H0 own C (rparts L v' (Part.orc i m lv' T' :: R))) := by
  have hA := sum_len (startT d a s)
  have hck := check_bare hp
  have h0 : q.puts.length = 0 := by rw [hp]; rfl
  obtain ⟨r, C, k1, v', lv', T', k2⟩ := jrnl_Begin.out (x0 := .ptr ⟨L.p, 0, 0⟩) (x1 := .ptr ⟨i, 0, 0⟩) (x2 := .agg [.str s, .int .i64 d, .int .i64 a]) (x3 := recV q .nils) (H := B) (Q := fun r C => ∃ v' lv' T', Calm v' (n + 80) ∧ T'.length ≤ T.length + 2 ∧ (∀ t ∈ T, t ∈ T') ∧
      (¬ okSeq q → r = .tup [.nilp, .int .i64 2] ∧ v' = v ∧ Sep H0 own C (rparts L v' (Part.orc i m lv' T' :: R))) ∧
      (okSeq q → v.fault = 0 → v'.fault = 0 ∧ Has v' d a (layR q) ∧ startT d a s ∈ T' ∧ nextT (sum (startT d a s)) (layR q) ∈ T' ∧ ∃ p, r = .tup [.ptr ⟨p, 0, 0⟩, .int .i64 0] ∧
        Sep H0 own C (rparts L v' (.obj p (.cells 0 .exact (jcells (.ptr ⟨L.p, 0, 0⟩) (.ptr ⟨i, 0, 0⟩) ((j0 s d a (sum (startT d a s))).add q (layR q)))) :: Part.orc i m lv' T' :: R))) ∧
      (okSeq q → v.fault = 1 → v'.fault = 0 ∧ r = .tup [.nilp, .int .i64 10] ∧ Sep H0 own C (rparts L v' (Part.orc i m lv' T' :: R)))) (by
    unfold jrnl_Begin.w
    refine s_box h rfl fun b1 C1 p1 hs => ?_
    refine s_box hs rfl fun b2 C2 p2 hs => ?_
    simp only [recV, AVal.cells] at hs
    have c80 : Calm v (n + 80) := calm_le c (by omega)
    repeat first
    | with_reducible refine isB_F ?_
    | with_reducible refine vb_i (e_ptrNil _ _) ?_
    | with_reducible refine vb_i (e_fieldAddr _ _) ?_
    | ((with_reducible apply vb_ld); (· first | exact hs.g0 | exact hs.g1 | exact hs.g2 | exact hs.g3 | exact hs.g4 | exact hs.g5 | exact hs.g6 | exact hs.rd hg | exact hs.rd hg2 | exact hs.rd hg3 | exact hs.rd hg4 | assumption); (· rfl))
    have hs : Sep H0 own C2 (Part.orc i m lv T :: _) := hs.f5
    obtain ⟨C3, lv1, hc, hs⟩ := Start_spec hs (by omega) (start_ok hd ha hs64)
    refine cb_i _ _ hc ?_
    refine vb_i e_ext0 ?_
    refine vb_i e_ext1 ?_
    refine s_alloc hs fun a1 C4 _ hs => ?_
    refine s_storeA hs rfl (by simp [hA]) rfl (cells_byte _) fun C5 hs => ?_
    repeat first
    | ((with_reducible refine isB_cf ?_ ?_); (· omega))
    | with_reducible refine vb_i (neq64 _ _ _) ?_
    refine vb_recA hs.g2 hr rfl ?_
    have hT1 := (keepT_len T (startT d a s)).2
    have m1 : ∀ t ∈ T, t ∈ keepT T (startT d a s) := fun t ht => keep_mem.2 (.inl ht)
    have m2 : startT d a s ∈ keepT T (startT d a s) := keep_mem.2 (.inr rfl)
    generalize hT' : keepT T (startT d a s) = T1 at hs hT1 m1 m2
    generalize hAA : sum (startT d a s) = A at *
    by_cases hok : okSeq q
    · rw [if_pos hok] at hck
      obtain ⟨h64, hg⟩ := check_good hck
      have hgood := lay_is_good hr hg h64
      have hlen : (layR q).length = 1 := by rw [lay_len, h0]; rfl
      obtain ⟨l, C6, hc, k⟩ := lay_goodW (B := C5) (recW_nils hr hp) h64 hg
      refine cb_i _ _ hc ?_
      have hs := Sep.call01 hs (k.own_of fun _ h => h.elim)
      repeat first
      | ((with_reducible refine isB_cf ?_ ?_); (· omega))
      | with_reducible refine vb_i e_ext0 ?_
      | with_reducible refine vb_i e_ext1 ?_
      | with_reducible refine vb_i (neq64 _ _ _) ?_
      | with_reducible refine vb_i (e_fieldAddr _ _) ?_
      refine vb_rec33 hs.g3 hr ?_
      repeat first
      | ((with_reducible refine isB_cf ?_ ?_); (· omega))
      | with_reducible refine vb_i (gtr64 _ _ _) ?_
      | ((with_reducible apply vb_ldA); (· first | exact hs.g0 | exact hs.g1 | exact hs.g2 | exact hs.g3 | exact hs.g4 | exact hs.g5 | exact hs.g6 | exact hs.rd hg | exact hs.rd hg2 | exact hs.rd hg3 | exact hs.rd hg4 | assumption); (· rfl))
      | (with_reducible refine vb_i e_lenNil ?_)
      refine vb_ldA hs.g1 (by simp [hA]) ?_
      refine vb_bld (jfill4 ⟨L.p, 0, 0⟩ ⟨i, 0, 0⟩ s d a hA) ?_
      refine s_box hs rfl fun p C7 _ hs => ?_
      simp only [AVal.cells] at hs
      have J := j0_ok (s := s) hd ha hA
      have hs := hs.f1.as (b := Part.vw l 1 (layR q).length (strs (layR q))) rfl fun h => h.view
      have hs := rp_in (X := [_, _, _, _, _, _]) (hs.f1 : Sep H0 own C7 ([_, _, _, _, _, _] ++ rparts L v R))
      obtain ⟨e, C8, v', hc, hs, c8, d1, d2⟩ := jwrite_spec hs c hn J hgood.2.2 (by rw [hlen]; unfold j0; dsimp only; omega)
      refine cb_i _ _ hc ?_
      have hs := rp_out (X := [_, _, _, _, _, _]) hs
      refine vb_i (neq64 _ _ _) ?_
      refine isB_c (fun h2 => ?_) (fun h2 => ?_)
      · have hs := rp_in (X := [_]) (hs.f3.d1.d1.d1.d1.d1 : Sep H0 own C8 ([_] ++ rparts L v' R))
        refine fin_ret (rvs_v (rvs_v (rvs_nil _))) ⟨v', lv1, T1, c8, by omega, m1, fun h => absurd hok h, fun _ hf => absurd (d1 hf).1 h2, fun _ hf => ?_⟩
        obtain ⟨rfl, hf'⟩ := d2 ⟨by omega, by omega⟩
        exact ⟨hf', rfl, hs⟩
      · have h2 := Classical.not_not.1 h2
        refine vb_recA hs.g4 hr rfl ?_
        have hv : View C8 l 1 (layR q).length (strs (layR q)) := hs.tail.head
        obtain ⟨C9, lv2, hc, hs⟩ := jadd_spec (q := q) (px := .nils) hs.f3.f1 J (by omega) hr rfl hgood hv (by unfold j0; dsimp only; omega)
        refine cb_i _ _ hc ?_
        have hs := rp_in (X := [_, _]) (hs.d2.d2.d2.d2 : Sep H0 own C9 ([_, _] ++ rparts L v' R))
        have hT2 := (keepT_len T1 (nextT A (layR q))).2
        refine fin_ret (rvs_v (rvs_v (rvs_nil _))) ⟨v', lv2, _, c8, ?_, fun t ht => keep_mem.2 (.inl (m1 t ht)), fun h => absurd hok h, fun _ hf => ⟨(d1 hf).2.1, ?_, keep_mem.2 (.inl m2), keep_mem.2 (.inr rfl), p, rfl, hs⟩, fun _ hf => ?_⟩
        · show (keepT T1 (nextT A (layR q))).length ≤ _
          omega
        · exact (d1 hf).2.2 [] rfl (fun k hk => absurd hk (Nat.not_lt_zero k))
        · have := (d2 ⟨by omega, by omega⟩).1
          omega
    · rw [if_neg hok] at hck
      obtain ⟨C6, hc, k⟩ := lay_badW (B := C5) (recW_nils hr hp) (by rw [h0]; decide) (by rw [hck]; decide)
      refine cb_i _ _ hc ?_
      have hs := hs.quiet k
      rw [hck]
      repeat first
      | ((with_reducible refine isB_ct ?_ ?_); (· omega))
      | with_reducible refine vb_i e_ext0 ?_
      | with_reducible refine vb_i e_ext1 ?_
      | with_reducible refine vb_i (neq64 _ _ _) ?_
      have hs := rp_in (X := [_]) (hs.tail.f1.tail.f1.tail : Sep H0 own C6 (_ :: rparts L v R))
      exact fin_ret (rvs_v (rvs_v (rvs_nil _))) ⟨v, lv1, T1, c80, by omega, m1, fun _ => ⟨rfl, rfl, hs⟩, fun h => absurd h hok, fun h => absurd h hok⟩)
  exact ⟨r, C, v', lv', T', k1, k2⟩
end
end Go.Sh

/- What a journal's blocks say: records, and what they come to. -/
namespace Go.Sh
open Go Go.Abs

/-- A record that may be. -/
structure GoodQ (q : Rcd) : Prop where
  root : q.root.length = 32
  good : goodR q = true
  few : q.puts.length ≤ 64
theorem GoodQ.lay {q : Rcd} (h : GoodQ q) : Sh.good (layR q) := lay_is_good h.root h.good h.few
def blocksQ (qs : List Rcd) : List (List UInt8) := (qs.map layR).flatten
theorem blocksQ_cons (q : Rcd) (qs : List Rcd) : blocksQ (q :: qs) = layR q ++ blocksQ qs := rfl
theorem blocksQ_app (qs : List Rcd) (q : Rcd) : blocksQ (qs ++ [q]) = blocksQ qs ++ layR q := by simp [blocksQ]
theorem parse_root (l : List (List UInt8)) (h : (parseR l).2.2 = 0) : (parseR l).1.root.length = 32 := by
  unfold parseR at *
  split at h
  · exact absurd h (by decide)
  rename_i h0
  rw [if_neg h0]
  split at h
  · exact absurd h (by decide)
  rename_i h1
  rw [if_neg h1]
  split at h
  · exact absurd h (by decide)
  rename_i h2
  rw [if_neg h2]
  split at h
  · rename_i h3
    rw [if_pos h3]
    have hh : headOk (l.getD 0 []) := Classical.byContradiction fun h => h1 (.inl h)
    show (rootOf (l.getD 0 [])).length = 32
    have := hh.1
    simp only [rootOf, List.length_drop, List.length_take]
    omega
  · exact absurd h (by decide)
theorem all_inv : ∀ (f : Nat) (acc : List Rcd) (l : List (List UInt8)), l.length < f → (allFrom f acc l).2 = 0 → ∃ qs, (allFrom f acc l).1 = acc ++ qs ∧ blocksQ qs = l ∧ ∀ q ∈ qs, GoodQ q := by
  intro f
  induction f with
  | zero => intro acc l h; omega
  | succ f ih =>
    intro acc l h he
    rw [allFrom] at he ⊢
    by_cases h0 : l.length = 0
    · rw [if_pos h0]
      refine ⟨[], by simp, ?_, fun q hq => by cases hq⟩
      rw [List.length_eq_zero_iff.1 h0]; rfl
    rw [if_neg h0] at he ⊢
    by_cases h1 : (parseR l).2.2 = 0
    · rw [if_neg (by omega)] at he ⊢
      obtain ⟨hn1, hn2⟩ := parse_step l h1
      have hroot := parse_root l h1
      rcases parse_cases l with ⟨q, n, hp, hg, h64, hn, hl⟩ | ⟨e, hp, hne⟩
      · rw [hp] at he hn1 hn2 hroot ⊢
        simp only at he hn1 hn2 hroot ⊢
        obtain ⟨qs, e1, e2, e3⟩ := ih _ _ (by rw [List.length_drop]; omega) he
        refine ⟨q :: qs, by rw [e1]; simp, ?_, fun x hx => ?_⟩
        · rw [blocksQ_cons, e2, hl, List.take_append_drop]
        · rcases List.mem_cons.1 hx with rfl | hx
          · exact ⟨hroot, hg, h64⟩
          · exact e3 x hx
      · rw [hp] at h1; exact absurd h1 hne
    · rw [if_pos h1] at he; exact absurd he h1
theorem all_back : ∀ (qs : List Rcd), (∀ q ∈ qs, GoodQ q) → ∀ (f : Nat) (acc : List Rcd), (blocksQ qs).length < f → allFrom f acc (blocksQ qs) = (acc ++ qs, 0)
  | [], _, f, acc, hf => by
    obtain ⟨f, rfl⟩ : ∃ k, f = k + 1 := ⟨f - 1, by simp [blocksQ] at hf; omega⟩
    rw [allFrom, if_pos (by rfl), List.append_nil]
  | q :: qs, hg, f, acc, hf => by
    obtain ⟨f, rfl⟩ : ∃ k, f = k + 1 := ⟨f - 1, by omega⟩
    have hq := hg q List.mem_cons_self
    have hgl := hq.lay.1
    rw [blocksQ_cons] at hf ⊢
    rw [List.length_append] at hf
    rw [allFrom, if_neg (by rw [List.length_append]; omega), back hq.root hq.good hq.few]
    simp only
    rw [if_neg (by simp), List.drop_left' rfl, all_back qs (fun x hx => hg x (List.mem_cons_of_mem _ hx)) f _ (by omega), List.append_assoc]
    rfl
theorem allR_back {qs : List Rcd} (h : ∀ q ∈ qs, GoodQ q) : allR (blocksQ qs) = (qs, 0) := all_back qs h _ [] (Nat.lt_succ_self _)
theorem allR_inv {l : List (List UInt8)} (h : (allR l).2 = 0) : blocksQ (allR l).1 = l ∧ ∀ q ∈ (allR l).1, GoodQ q := by
  obtain ⟨qs, e1, e2, e3⟩ := all_inv _ [] l (Nat.lt_succ_self _) h
  have e : (allR l).1 = qs := by unfold allR; rw [e1]; rfl
  rw [e]; exact ⟨e2, e3⟩
/-- Records in a row, from the second one on. -/
def loadFrom : JV → Bool → List Rcd → Option JV
  | j, _, [] => some j
  | j, b, q :: qs => if b = true ∧ q.seq ≠ j.seq + 1 then none else loadFrom (j.add q (layR q)) true qs
def textsJ : List UInt8 → List Rcd → List (List UInt8)
  | _, [] => []
  | A, q :: qs => nextT A (layR q) :: textsJ (sum (nextT A (layR q))) qs
def anchorJ : List UInt8 → List Rcd → List UInt8
  | A, [] => A
  | A, q :: qs => anchorJ (sum (nextT A (layR q))) qs
theorem load_anchor : ∀ {qs : List Rcd} {j j' : JV} {b : Bool}, loadFrom j b qs = some j' → j'.anchor = anchorJ j.anchor qs
  | [], j, j', b, h => by cases h; rfl
  | q :: qs, j, j', b, h => by
    unfold loadFrom at h
    split at h
    · cases h
    · exact load_anchor (qs := qs) h
theorem load_used : ∀ {qs : List Rcd} {j j' : JV} {b : Bool}, loadFrom j b qs = some j' → j'.used = j.used + (blocksQ qs).length ∧ j'.a = j.a ∧ j'.d = j.d ∧ j'.s = j.s
  | [], j, j', b, h => by cases h; simp [blocksQ]
  | q :: qs, j, j', b, h => by
    unfold loadFrom at h
    split at h
    · cases h
    · obtain ⟨h1, h2, h3, h4⟩ := load_used (qs := qs) h
      refine ⟨?_, h2, h3, h4⟩
      rw [h1, blocksQ_cons, List.length_append]
      unfold JV.add; dsimp only; omega
theorem load_app : ∀ {qs : List Rcd} {q : Rcd} {j j' : JV} {b : Bool}, loadFrom j b qs = some j' → ((b = true ∨ qs ≠ []) → q.seq = j'.seq + 1) → loadFrom j b (qs ++ [q]) = some (j'.add q (layR q))
  | [], q, j, j', b, h, hq => by
    cases h
    show loadFrom j b [q] = _
    unfold loadFrom
    rw [if_neg (fun h => h.2 (hq (.inl h.1)))]; rfl
  | p :: qs, q, j, j', b, h, hq => by
    rw [List.cons_append]
    unfold loadFrom at h ⊢
    split at h
    · cases h
    · rename_i hn
      rw [if_neg hn]
      exact load_app (qs := qs) h fun _ => hq (.inr (by simp))
/-- Records of one anchor are the same, or two texts have one sum. -/
theorem anchor_snoc (A : List UInt8) : ∀ (qs : List Rcd) (q : Rcd), anchorJ A (qs ++ [q]) = sum (nextT (anchorJ A qs) (layR q)) := by
  intro qs
  induction qs generalizing A with
  | nil => intro q; rfl
  | cons p qs ih => intro q; exact ih _ q
theorem texts_snoc (A : List UInt8) : ∀ (qs : List Rcd) (q : Rcd), textsJ A (qs ++ [q]) = textsJ A qs ++ [nextT (anchorJ A qs) (layR q)] := by
  intro qs
  induction qs generalizing A with
  | nil => intro q; rfl
  | cons p qs ih => intro q; simp only [List.cons_append, textsJ, ih]; rfl
theorem anchor_len {A : List UInt8} (hA : A.length = 32) : ∀ (qs : List Rcd), (anchorJ A qs).length = 32 := by
  intro qs
  induction qs generalizing A with
  | nil => exact hA
  | cons p qs ih => exact ih (sum_len _)
theorem lay_inj {p q : Rcd} (hp : GoodQ p) (hq : GoodQ q) (h : layR p = layR q) : p = q := by
  have h1 := back (rest := []) hp.root hp.good hp.few
  have h2 := back (rest := []) hq.root hq.good hq.few
  rw [h, h2] at h1
  exact (congrArg (·.1) h1).symm
theorem flat64J : ∀ {l m : List (List UInt8)}, (∀ s ∈ l, s.length = 64) → (∀ s ∈ m, s.length = 64) → l.flatten = m.flatten → l = m
  | [], [], _, _, _ => rfl
  | [], b :: m, _, hm, h => by
    have h1 := hm b List.mem_cons_self
    have := congrArg List.length h
    rw [List.flatten_cons, List.length_append, h1, List.flatten_nil, List.length_nil] at this
    omega
  | a :: l, [], hl, _, h => by
    have h1 := hl a List.mem_cons_self
    have := congrArg List.length h
    rw [List.flatten_cons, List.length_append, h1, List.flatten_nil, List.length_nil] at this
    omega
  | a :: l, b :: m, hl, hm, h => by
    have h1 := hl a List.mem_cons_self
    have h2 := hm b List.mem_cons_self
    rw [List.flatten_cons, List.flatten_cons] at h
    obtain ⟨e1, e2⟩ := List.append_inj h (h1.trans h2.symm)
    rw [e1, flat64J (fun s hs => hl s (List.mem_cons_of_mem _ hs)) (fun s hs => hm s (List.mem_cons_of_mem _ hs)) e2]
theorem next_injJ {a b : List UInt8} {l m : List (List UInt8)} (ha : a.length = 32) (hb : b.length = 32) (hl : good l) (hm : good m) (h : nextT a l = nextT b m) : a = b ∧ l = m := by
  unfold nextT at h
  rw [List.append_assoc, List.append_assoc] at h
  have h := List.append_cancel_left h
  obtain ⟨e1, e2⟩ := List.append_inj h (ha.trans hb.symm)
  exact ⟨e1, flat64J hl.2.2 hm.2.2 e2⟩
/-- No two unlike texts of one sum among these. -/
def NoClash (T : List (List UInt8)) : Prop := ∀ s t, s ∈ T → t ∈ T → sum s = sum t → s = t
theorem rows_apart {T : List (List UInt8)} (hT : NoClash T) {d a : Int} {s : List UInt8} (h0 : startT d a s ∈ T) : ∀ (n : Nat) (ps qs : List Rcd), ps.length + qs.length = n → (∀ q ∈ ps, GoodQ q) → (∀ q ∈ qs, GoodQ q) →
    (∀ t ∈ textsJ (sum (startT d a s)) ps, t ∈ T) → (∀ t ∈ textsJ (sum (startT d a s)) qs, t ∈ T) → anchorJ (sum (startT d a s)) ps = anchorJ (sum (startT d a s)) qs → ps = qs := by
  intro n
  have hst : ∀ (b : List UInt8) (l : List (List UInt8)), startT d a s ≠ nextT b l := fun b l h => by
    have := congrArg (·.headD 0) h
    simp [startT, nextT] at this
  induction n using Nat.strongRecOn with
  | ind n ih =>
    intro ps qs hn hp hq tp tq h
    rcases List.eq_nil_or_concat ps with rfl | ⟨ps, p, rfl⟩
    · rcases List.eq_nil_or_concat qs with rfl | ⟨qs, q, rfl⟩
      · rfl
      · rw [List.concat_eq_append] at *
        rw [texts_snoc] at tq
        rw [anchor_snoc] at h
        exact absurd (hT _ _ h0 (tq _ (by simp)) h) (hst _ _)
    · rw [List.concat_eq_append] at *
      rw [texts_snoc] at tp
      rw [anchor_snoc] at h
      rcases List.eq_nil_or_concat qs with rfl | ⟨qs, q, rfl⟩
      · exact absurd (hT _ _ h0 (tp _ (by simp)) h.symm) (hst _ _)
      · rw [List.concat_eq_append] at *
        rw [texts_snoc] at tq
        rw [anchor_snoc] at h
        have e := hT _ _ (tp _ (by simp)) (tq _ (by simp)) h
        have gp := hp p (by simp)
        have gq := hq q (by simp)
        obtain ⟨e1, e2⟩ := next_injJ (anchor_len (sum_len _) ps) (anchor_len (sum_len _) qs) gp.lay gq.lay e
        have e3 := lay_inj gp gq e2
        have e4 := ih (ps.length + qs.length) (by simp at hn; omega) ps qs rfl (fun x hx => hp x (by simp [hx])) (fun x hx => hq x (by simp [hx])) (fun t ht => tp t (by simp [ht])) (fun t ht => tq t (by simp [ht])) e1
        rw [e3, e4]
theorem no_clash_of {T : List (List UInt8)} (h : pairs T (sums T) T.length = none) : NoClash T := fun s t hs ht e => Classical.byContradiction fun hne => no_clash h hs ht hne e
/-- What Load tells. -/
def loadR (s : List UInt8) (d a : Int) (bs : List (List UInt8)) (A : List UInt8) : Option (JV × List Rcd) :=
  if (allR bs).2 ≠ 0 ∨ 0 < ((allR bs).1.getD 0 zR).puts.length then none
  else (loadFrom (j0 s d a (sum (startT d a s))) false (allR bs).1).bind fun j => if j.anchor = A then some (j, (allR bs).1) else none
end Go.Sh

/- A journal is loaded. -/
namespace Go.Sh
open Go Go.Abs

abbrev bad15 (e : Int) : AVal := .tup [.nilp, .nils, .int .i64 e]
section
variable {H0 B : AHeap} {own : Nat → Prop} {R : List Part} {p : Nat} {rp op px : AVal} {j : JV} {L : RL} {v : RV} {n : Int} {q : Rcd} {i m : Nat} {lv : AVal} {T : List (List UInt8)} {s : List UInt8} {d a : Int}
theorem recs_view {rows : List RC} (h : (Part.recs rows).ok B) {k : Nat} {r : RC} (hr : rows[k]? = some r) : View B r.1.2 2 r.1.1.puts.length (flat ptc r.1.1.puts) := h r (List.mem_of_getElem? hr)
theorem rc33 (b : RC) : (rc b)[33]? = some b.1.2 := by
  have h : (b.1.1.root.map ofByte ++ [b.1.2])[32]? = some b.1.2 := by rw [List.getElem?_append_right (by simp [b.2])]; simp [b.2]
  exact h
theorem blocks_len : ∀ {qs : List Rcd}, (∀ q ∈ qs, GoodQ q) → qs.length ≤ (blocksQ qs).length
  | [], _ => Nat.zero_le _
  | q :: qs, h => by
    rw [blocksQ_cons, List.length_append, List.length_cons]
    have h1 := (h q List.mem_cons_self).lay.1
    have h2 := blocks_len (qs := qs) fun x hx => h x (List.mem_cons_of_mem _ hx)
    omega
theorem drop_get {qs : List Rcd} {k : Nat} {q : Rcd} (h : qs[k]? = some q) : qs.drop k = q :: qs.drop (k + 1) := by
  obtain ⟨h1, rfl⟩ := List.getElem?_eq_some_iff.1 h
  exact List.drop_eq_getElem_cons h1
theorem load_spec (h : Sep H0 own B (rparts L v (Part.orc i m lv T :: R))) (c : Calm v n) (hn : n ≤ 1000000) (hT : T.length ≤ 100000) (hs64 : s.length = 64) (hd : d = 0 ∨ d = 1) (ha : a = 0 ∨ a = 1)
    (used : Int) {A : List UInt8} (hA : A.length = 32) (hf : v.fault = 0 ∨ v.fault = 1) :
    ∃ r C v' lv' T', S_jrnl_Load [.ptr ⟨L.p, 0, 0⟩, .ptr ⟨i, 0, 0⟩, .agg [.str s, .int .i64 d, .int .i64 a], .int .i64 used, .agg (A.map ofByte)] B r C ∧ Calm v' (n + 80) ∧ T'.length ≤ T.length + 81 ∧ (∀ t ∈ T, t ∈ T') ∧
      ((used < 1 ∨ 80 < used) → v' = v ∧ r = bad15 12 ∧ Sep H0 own C (rparts L v' (Part.orc i m lv' T' :: R))) ∧
      (1 ≤ used → used ≤ 80 → v.fault = 1 → v'.fault = 0 ∧ r = bad15 10 ∧ Sep H0 own C (rparts L v' (Part.orc i m lv' T' :: R))) ∧
      (1 ≤ used → used ≤ 80 → v.fault = 0 → v'.fault = 0 ∧ (∀ d, v'.dev d = v.dev d) ∧
        (loadR s d a (rdL v d a used.toNat) A = none → r = bad15 12 ∧ Sep H0 own C (rparts L v' (Part.orc i m lv' T' :: R))) ∧
        (∀ j qs, loadR s d a (rdL v d a used.toNat) A = some (j, qs) → startT d a s ∈ T' ∧ (∀ t ∈ textsJ (sum (startT d a s)) qs, t ∈ T') ∧ JOk j ∧ ∃ p out, ∃ rows : List RC, r = .tup [.ptr ⟨p, 0, 0⟩, out, .int .i64 0] ∧ rows.map (fun r => r.1.1) = qs ∧
          Sep H0 own C (rparts L v' (.obj p (.cells 0 .exact (jcells (.ptr ⟨L.p, 0, 0⟩) (.ptr ⟨i, 0, 0⟩) j)) :: .sl out 34 rows.length (flat rc rows) :: Part.recs rows :: Part.orc i m lv' T' :: R)))) := by
  have hS := sum_len (startT d a s)
  obtain ⟨r, C, k1, v', lv', T', k2⟩ := jrnl_Load.out (x0 := .ptr ⟨L.p, 0, 0⟩) (x1 := .ptr ⟨i, 0, 0⟩) (x2 := .agg [.str s, .int .i64 d, .int .i64 a]) (x3 := .int .i64 used) (x4 := .agg (A.map ofByte)) (H := B) (Q := fun r C => ∃ v' lv' T', Calm v' (n + 80) ∧ T'.length ≤ T.length + 81 ∧ (∀ t ∈ T, t ∈ T') ∧
      ((used < 1 ∨ 80 < used) → v' = v ∧ r = bad15 12 ∧ Sep H0 own C (rparts L v' (Part.orc i m lv' T' :: R))) ∧
      (1 ≤ used → used ≤ 80 → v.fault = 1 → v'.fault = 0 ∧ r = bad15 10 ∧ Sep H0 own C (rparts L v' (Part.orc i m lv' T' :: R))) ∧
      (1 ≤ used → used ≤ 80 → v.fault = 0 → v'.fault = 0 ∧ (∀ d, v'.dev d = v.dev d) ∧
        (loadR s d a (rdL v d a used.toNat) A = none → r = bad15 12 ∧ Sep H0 own C (rparts L v' (Part.orc i m lv' T' :: R))) ∧
        (∀ j qs, loadR s d a (rdL v d a used.toNat) A = some (j, qs) → startT d a s ∈ T' ∧ (∀ t ∈ textsJ (sum (startT d a s)) qs, t ∈ T') ∧ JOk j ∧ ∃ p out, ∃ rows : List RC, r = .tup [.ptr ⟨p, 0, 0⟩, out, .int .i64 0] ∧ rows.map (fun r => r.1.1) = qs ∧
          Sep H0 own C (rparts L v' (.obj p (.cells 0 .exact (jcells (.ptr ⟨L.p, 0, 0⟩) (.ptr ⟨i, 0, 0⟩) j)) :: .sl out 34 rows.length (flat rc rows) :: Part.recs rows :: Part.orc i m lv' T' :: R))))) (by
    unfold jrnl_Load.w
    refine s_box h rfl fun b1 C1 p1 hs => ?_
    refine s_box hs rfl fun b2 C2 p2 hs => ?_
    simp only [AVal.cells] at hs
    have c80 : Calm v (n + 80) := calm_le c (by omega)
    refine vb_ldA hs.g1 rfl ?_
    refine vb_bld (jfill3 ⟨L.p, 0, 0⟩ ⟨i, 0, 0⟩ s d a) ?_
    refine s_box hs rfl fun p C3 p3 hs => ?_
    simp only [AVal.cells] at hs
    refine vb_i (e_fieldAddr _ _) ?_
    refine vb_ld hs.g2 rfl ?_
    refine vb_i (e_fieldAddr _ _) ?_
    refine vb_ld hs.g2 rfl ?_
    refine vb_i (e_fieldAddr _ _) ?_
    refine vb_ld hs.g2 rfl ?_
    have hs : Sep H0 own C3 (Part.orc i m lv T :: _) := hs.f6
    obtain ⟨C4, lv1, hc, hs⟩ := Start_spec hs (by omega) (start_ok hd ha hs64)
    refine cb_i _ _ hc ?_
    refine vb_i e_ext0 ?_
    refine vb_i e_ext1 ?_
    refine s_alloc hs fun a1 C5 _ hs => ?_
    refine s_storeA hs rfl (by simp [hS]) rfl (cells_byte _) fun C6 hs => ?_
    have hT1 := (keepT_len T (startT d a s)).2
    have m1 : ∀ t ∈ T, t ∈ keepT T (startT d a s) := fun t ht => keep_mem.2 (.inl ht)
    have m2 : startT d a s ∈ keepT T (startT d a s) := keep_mem.2 (.inr rfl)
    generalize hT' : keepT T (startT d a s) = T1 at hs hT1 m1 m2
    have hlR : ∀ bs, loadR s d a bs A = if (allR bs).2 ≠ 0 ∨ 0 < ((allR bs).1.getD 0 zR).puts.length then none
      else (loadFrom (j0 s d a (sum (startT d a s))) false (allR bs).1).bind fun j => if j.anchor = A then some (j, (allR bs).1) else none := fun _ => rfl
    generalize hAA : sum (startT d a s) = A0 at *
    refine vb_i (e_ptrNil _ _) ?_
    refine isB_F ?_
    refine vb_i (neq64 _ _ _) ?_
    refine isB_cf (by decide) ?_
    refine vb_i (lss64 _ _ _) ?_
    refine isB_c (fun h1 => ?_) (fun h1 => ?_)
    · have hs := rp_in (X := [_]) (hs.tail.d1.d1.d1 : Sep H0 own C6 ([_] ++ rparts L v R))
      exact fin_ret (rvs_v (rvs_v (rvs_v (rvs_nil _)))) ⟨v, lv1, T1, c80, by omega, m1, fun _ => ⟨rfl, rfl, hs⟩, fun h => by omega, fun h => by omega⟩
    refine vb_i (gtr64 _ _ _) ?_
    refine isB_c (fun h2 => ?_) (fun h2 => ?_)
    · have hs := rp_in (X := [_]) (hs.tail.d1.d1.d1 : Sep H0 own C6 ([_] ++ rparts L v R))
      exact fin_ret (rvs_v (rvs_v (rvs_v (rvs_nil _)))) ⟨v, lv1, T1, c80, by omega, m1, fun _ => ⟨rfl, rfl, hs⟩, fun _ h => by omega, fun _ h => by omega⟩
    refine vb_ldA hs.g0 (by simp [hS]) ?_
    refine vb_i (e_nilCheck _) ?_
    refine vb_i (e_fieldAddr _ _) ?_
    have J00 : JOk (j0 s d a (zs 32)) := j0_ok hd ha zs32_len
    refine s_storeN (n := 32) hs.f2 rfl (by simp [hS]) (by rw [jcells_len J00]; dsimp only; omega) (cells_byte _) fun C7 hs => ?_
    have hz : splice (jcells (.ptr ⟨L.p, 0, 0⟩) (.ptr ⟨i, 0, 0⟩) (j0 s d a (zs 32))) 39 (A0.map ofByte) = jcells (.ptr ⟨L.p, 0, 0⟩) (.ptr ⟨i, 0, 0⟩) (j0 s d a A0) := jset_anchor J00.root J00.anchor hS
    have hs : Sep H0 own C7 (.obj p (.cells 0 .exact (jcells (.ptr ⟨L.p, 0, 0⟩) (.ptr ⟨i, 0, 0⟩) (j0 s d a A0))) :: _) := hz ▸ hs
    have J0 : JOk (j0 s d a A0) := j0_ok hd ha hS
    have hs := hs.d1
    have hs := rp_in (X := [_, _, _, _]) (hs : Sep H0 own C7 ([_, _, _, _] ++ rparts L v R))
    obtain ⟨k, rfl⟩ : ∃ k : Nat, used = k := ⟨used.toNat, by omega⟩
    rw [Int.toNat_natCast]
    obtain ⟨r, C8, v', hc, c8, e0, e1⟩ := jread_spec hs c hn J0 (k := k) (by omega) (by omega)
    refine cb_i _ _ hc ?_
    rcases hf with hf | hf
    case inr =>
      obtain ⟨f0, rfl, hs⟩ := e1 hf
      have hs := rp_out (X := [_, _, _, _]) hs
      repeat first
      | ((with_reducible refine isB_ct ?_ ?_); (· omega))
      | with_reducible refine vb_i e_ext0 ?_
      | with_reducible refine vb_i e_ext1 ?_
      | with_reducible refine vb_i (neq64 _ _ _) ?_
      have hs := rp_in (X := [_]) (hs.tail.d1.d1 : Sep H0 own C8 ([_] ++ rparts L v' R))
      exact fin_ret (rvs_v (rvs_v (rvs_v (rvs_nil _)))) ⟨v', lv1, T1, c8, by omega, m1, fun h => by omega, fun _ _ _ => ⟨f0, rfl, hs⟩, fun _ _ h => by omega⟩
    obtain ⟨f0, hdev, x, rfl, hs⟩ := e0 hf
    have hs := rp_out (X := [_, _, _, _, _]) hs
    have hl1 := hlR (rdL v d a k)
    have hbl := rdL_len v d a k
    have hs : Sep H0 own C8 (_ :: .sl x 1 k (strs (rdL v d a k)) :: _) := hs
    generalize rdL v d a k = bs at hs hl1 hbl
    subst hbl
    refine vb_i e_ext0 ?_
    refine vb_i e_ext1 ?_
    refine vb_i (neq64 _ _ _) ?_
    refine isB_cf (by decide) ?_
    obtain ⟨out, rows, C9, hc, hm, kk⟩ := all_spec (B := C8) (l := bs) hs.o1.view (by omega)
    refine cb_i _ _ hc ?_
    have hs := Sep.call02 hs (kk.own_of fun _ h => h.elim)
    have hs := hs.f3.f3
    have hs := (hs.f1.as (b := Part.vw x 1 bs.length (strs bs)) rfl fun h => h.view).f1
    refine vb_i e_ext0 ?_
    refine vb_i e_ext1 ?_
    have hrl : rows.length = (allR bs).1.length := by rw [← hm]; simp
    have bad : ∀ {D : AHeap} {w : AVal} {T2 : List (List UInt8)} {X : Part} {j : JV}, loadR s d a bs A = none → Sep H0 own D (.obj p (.cells 0 .exact (jcells (.ptr ⟨L.p, 0, 0⟩) (.ptr ⟨i, 0, 0⟩) j)) :: X :: .sl out 34 rows.length (flat rc rows) :: Part.recs rows :: Part.orc i m w T2 :: .obj b2 (.cells 0 .exact (A.map ofByte)) :: .obj b1 (.cells 0 .exact [.str s, .int .i64 d, .int .i64 a]) :: rparts L v' R) →
        T2.length ≤ T.length + 81 → (∀ t ∈ T, t ∈ T2) → fin .ret [.v .nilp, .v .nils, .v (.int .i64 12)] D fun r C => ∃ v' lv' T', Calm v' (n + 80) ∧ T'.length ≤ T.length + 81 ∧ (∀ t ∈ T, t ∈ T') ∧
      (((bs.length : Int) < 1 ∨ 80 < (bs.length : Int)) → v' = v ∧ r = bad15 12 ∧ Sep H0 own C (rparts L v' (Part.orc i m lv' T' :: R))) ∧
      (1 ≤ (bs.length : Int) → (bs.length : Int) ≤ 80 → v.fault = 1 → v'.fault = 0 ∧ r = bad15 10 ∧ Sep H0 own C (rparts L v' (Part.orc i m lv' T' :: R))) ∧
      (1 ≤ (bs.length : Int) → (bs.length : Int) ≤ 80 → v.fault = 0 → v'.fault = 0 ∧ (∀ d, v'.dev d = v.dev d) ∧
        (loadR s d a bs A = none → r = bad15 12 ∧ Sep H0 own C (rparts L v' (Part.orc i m lv' T' :: R))) ∧
        (∀ j qs, loadR s d a bs A = some (j, qs) → startT d a s ∈ T' ∧ (∀ t ∈ textsJ A0 qs, t ∈ T') ∧ JOk j ∧ ∃ p out, ∃ rows : List RC, r = .tup [.ptr ⟨p, 0, 0⟩, out, .int .i64 0] ∧ rows.map (fun r => r.1.1) = qs ∧
          Sep H0 own C (rparts L v' (.obj p (.cells 0 .exact (jcells (.ptr ⟨L.p, 0, 0⟩) (.ptr ⟨i, 0, 0⟩) j)) :: .sl out 34 rows.length (flat rc rows) :: Part.recs rows :: Part.orc i m lv' T' :: R)))) := by
      intro D w T2 X j hn hs h1 h2
      have hs := rp_in (X := [_]) (hs.tail.tail.tail.tail.d1.d1 : Sep H0 own D ([_] ++ rparts L v' R))
      refine fin_ret (rvs_v (rvs_v (rvs_v (rvs_nil _)))) ⟨v', w, T2, c8, h1, h2, fun h => by omega, fun _ _ h => by omega, fun _ _ _ => ⟨f0, hdev, fun _ => ⟨rfl, hs⟩, fun j qs h => ?_⟩⟩
      rw [hn] at h; cases h
    refine JoinP.mk (fun e vs D => C9 = D ∧ ((e = .goto 0 ∧ loadR s d a bs A = none) ∨ (e = .normal ∧ (allR bs).2 = 0 ∧ ¬ 0 < ((allR bs).1.getD 0 zR).puts.length))) ?_ ?_
    · refine vb_i (neq64 _ _ _) ?_
      refine isB_c (fun h3 => ?_) (fun h3 => ?_)
      · exact ⟨rfl, .inl ⟨rfl, by rw [hl1, if_pos (.inl h3)]⟩⟩
      have h3 := Classical.not_not.1 h3
      obtain ⟨i1, i2⟩ := allR_inv h3
      have hr0 : 0 < rows.length := by
        have h0 : (allR bs).1 ≠ [] := fun e => by rw [e] at i1; rw [← i1] at h1; exact h1 (by decide)
        rw [hrl]; exact List.length_pos_iff.2 h0
      have hb := List.getElem?_eq_getElem hr0
      have hg0 : (allR bs).1.getD 0 zR = rows[0].1.1 := by rw [← hm, List.getD_eq_getElem?_getD, List.getElem?_map, hb]; rfl
      generalize rows[0] = r0 at hb hg0
      rw [hg0]
      refine vb_addr (kd := .i64) hs.o2.view (by omega) (by omega) ?_
      refine vb_i (e_fieldAddr _ _) ?_
      refine vb_el1 (f := rc) (l := rows) (j := 0) hs.o2.view rc_len hb (rc33 r0) ?_
      refine vb_len (recs_view hs.tail.tail.tail.head hb) ?_
      refine vb_i (gtr64 _ _ _) ?_
      refine isB_c (fun h4 => ?_) (fun h4 => ?_)
      · exact ⟨rfl, .inl ⟨rfl, by rw [hl1, hg0, if_pos (.inr (by omega))]⟩⟩
      · exact ⟨rfl, .inr ⟨rfl, h3, by omega⟩⟩
    rintro e vs D ⟨rfl, ⟨rfl, h3⟩ | ⟨rfl, h3, h4⟩⟩
    · repeat first
      | with_reducible refine onE_i ?_
      exact bad h3 hs (by omega) m1
    rw [if_neg (by omega)] at hl1
    obtain ⟨i1, i2⟩ := allR_inv h3
    generalize (allR bs).1 = qs at hl1 i1 i2 hm hrl
    subst i1
    have hql := blocks_len i2
    refine onE_s (by decide) ?_
    refine onE_i ?_
    refine vb_len hs.o2.view ?_
    refine LoopP.ruleG (α := AVal × Nat × JV × AVal × List (List UInt8)) (fun z => [z.1, .int .i64 (z.2.1 : Int)])
      (fun z D => (z.2.1 ≤ rows.length ∧ JOk z.2.2.1 ∧ z.2.2.1.used + (blocksQ (qs.drop z.2.1)).length = (blocksQ qs).length ∧ loadFrom (j0 s d a A0) false qs = loadFrom z.2.2.1 (decide (0 < z.2.1)) (qs.drop z.2.1) ∧
          (∀ t ∈ textsJ A0 qs, t ∈ textsJ z.2.2.1.anchor (qs.drop z.2.1) ∨ t ∈ z.2.2.2.2) ∧ (∀ t ∈ T1, t ∈ z.2.2.2.2) ∧ z.2.2.2.2.length ≤ T1.length + z.2.1) ∧
        Sep H0 own D (.obj p (.cells 0 .exact (jcells (.ptr ⟨L.p, 0, 0⟩) (.ptr ⟨i, 0, 0⟩) z.2.2.1)) :: Part.vw z.1 1 (blocksQ (qs.drop z.2.1)).length (strs (blocksQ (qs.drop z.2.1))) :: .sl out 34 rows.length (flat rc rows) :: Part.recs rows ::
          Part.orc i m z.2.2.2.1 z.2.2.2.2 :: .obj b2 (.cells 0 .exact (A.map ofByte)) :: .obj b1 (.cells 0 .exact [.str s, .int .i64 d, .int .i64 a]) :: rparts L v' R))
      (fun z => rows.length - z.2.1) (x, 0, j0 s d a A0, lv1, T1) (by simp)
      ⟨⟨Nat.zero_le _, J0, by show 0 + _ = _; simp, rfl, fun t ht => .inl ht, fun t ht => ht, by simp⟩, hs⟩ ?_
    clear hs
    rintro ⟨cur, k, J, w, T2⟩ D Kn ⟨⟨hk0, hJ, hu, hlf, htx, hT2, hTl⟩, hs⟩ hk
    simp only at hk0 hJ hu hlf htx hT2 hTl hs
    unfold jrnl_Load.L17 jrnl_Load.L17.b
    try simp only [evB]
    refine vb_i (lss64 _ _ _) ?_
    by_cases hkn : k < rows.length
    · refine isB_ct (by omega) ?_
      have hb := List.getElem?_eq_getElem hkn
      have hqk : qs[k]? = some rows[k].1.1 := by rw [← hm, List.getElem?_map, hb]; rfl
      generalize rows[k] = r at hb hqk
      obtain ⟨⟨q, px⟩, hroot⟩ := r
      simp only at hqk hroot
      have hgq := i2 q (List.mem_of_getElem? hqk)
      have hdr := drop_get hqk
      rw [hdr, blocksQ_cons] at hs
      rw [hdr, blocksQ_cons, List.length_append] at hu
      rw [hdr] at hlf htx
      generalize hrest : blocksQ (qs.drop (k + 1)) = rest at hs hu
      have hrv : View D px 2 q.puts.length (flat ptc q.puts) := recs_view hs.tail.tail.tail.head hb
      refine vb_addrN hs.o2.view hkn ?_
      refine vb_elN (f := rc) hs.o2.view rc_len hb ?_
      refine s_alloc hs fun t D1 _ hs => ?_
      refine s_storeA hs rfl (rcells_len hroot) rfl (rcells_all (view_cell hrv)) fun D2 hs => ?_
      have hs : Sep H0 own D2 (.obj t (.cells 0 .exact (rcells q px)) :: _) := hs
      refine JoinP.mk (fun e vs E => D2 = E ∧ ((e = .goto 0 ∧ 0 < k ∧ q.seq ≠ J.seq + 1) ∨ (e = .normal ∧ ¬ (0 < k ∧ q.seq ≠ J.seq + 1)))) ?_ ?_
      · refine vb_i (gtr64 _ _ _) ?_
        refine isB_c (fun h5 => ?_) (fun h5 => ?_)
        · refine vb_i (e_fieldAddr _ _) ?_
          refine vb_rec0 hs.g0 ?_
          refine vb_i (e_nilCheck _) ?_
          refine vb_i (e_fieldAddr _ _) ?_
          refine vb_ld hs.g1 rfl ?_
          have := hJ.q
          refine vb_i (add64 (by omega) (by omega)) ?_
          refine vb_i (neq64 _ _ _) ?_
          refine isB_c (fun h6 => ?_) (fun h6 => ?_)
          · exact ⟨rfl, .inl ⟨rfl, by omega, h6⟩⟩
          · exact ⟨rfl, .inr ⟨rfl, fun h => h6 h.2⟩⟩
        · exact ⟨rfl, .inr ⟨rfl, fun h => h5 (by omega)⟩⟩
      rintro e vs E ⟨rfl, ⟨rfl, h5, h6⟩ | ⟨rfl, h5⟩⟩
      · repeat first
        | with_reducible refine onE_i ?_
        | ((with_reducible refine onE_s ?_ ?_); (· decide))
        refine bad ?_ hs.tail (by omega) fun t ht => hT2 t (m1 t ht)
        rw [hl1, hlf, loadFrom, if_pos ⟨by simpa using h5, h6⟩]; rfl
      refine onE_s (by decide) ?_
      refine onE_i ?_
      refine vb_i (e_fieldAddr _ _) ?_
      refine vb_rec33 (q := q) (x := px) hs.g0 hroot ?_
      have hrv : View D2 px 2 q.puts.length (flat ptc q.puts) := recs_view hs.tail.tail.tail.tail.head hb
      refine vb_len hrv ?_
      obtain ⟨D3, hc, e⟩ := length_spec (B := D2) q.puts.length
      refine cb_i _ _ hc ?_
      have hs := hs.quiet e
      rw [length_long hgq.few, ← lay_len]
      refine vb_recA (q := q) (x := px) hs.g0 hroot rfl ?_
      have hbn : ∀ d, bnd d (some (.int .i64 ((layR q).length : Int))) = some (layR q).length := fun d => by rw [bnd_int (by omega), Int.toNat_natCast]
      have hcv : View D3 cur 1 (layR q ++ rest).length (strs (layR q ++ rest)) := hs.tail.tail.head
      have hll : (layR q ++ rest).length = (layR q).length + rest.length := List.length_append
      obtain ⟨a1, e1, hv1, _⟩ := slice_view (l := none) (h := some (.int .i64 ((layR q).length : Int))) (lo := 0) (hi := (layR q).length) hcv rfl (hbn _) (Nat.zero_le _) (by omega)
      refine vb_i e1 ?_
      have hv1' : View D3 a1 1 (layR q).length (strs (layR q)) := by
        have e : ((strs (layR q ++ rest)).drop (0 * 1)).take (((layR q).length - 0) * 1) = strs (layR q) := by simp [strs]
        rw [e, Nat.sub_zero] at hv1
        exact hv1
      have := hJ.u
      obtain ⟨D4, w', hc, hs⟩ := jadd_spec (q := q) (px := px) hs.tail.f4.f1 hJ (by omega) hroot (view_cell hrv) hgq.lay hv1' (by omega)
      refine cb_i _ _ hc ?_
      have hcv : View D4 cur 1 (layR q ++ rest).length (strs (layR q ++ rest)) := hs.tail.tail.head
      obtain ⟨a2, e2, hv2, hid⟩ := slice_view (l := some (.int .i64 ((layR q).length : Int))) (h := none) (lo := (layR q).length) (hi := (layR q ++ rest).length) hcv (hbn _) rfl (by omega) (Nat.le_refl _)
      refine vb_i e2 ?_
      have hv2' : View D4 a2 1 rest.length (strs rest) := by
        have e : ((strs (layR q ++ rest)).drop ((layR q).length * 1)).take (((layR q ++ rest).length - (layR q).length) * 1) = strs rest := by
          rw [Nat.mul_one, Nat.mul_one, hll, Nat.add_sub_cancel_left]
          unfold strs
          rw [List.map_append, List.drop_left' (by simp), List.take_of_length_le (by simp)]
        rw [e, hll, Nat.add_sub_cancel_left] at hv2
        exact hv2
      have hs := hs.f2.as (b := Part.vw a2 1 rest.length (strs rest)) (by show (slId a2).toList = (slId cur).toList; rw [hid]) fun _ => hv2'
      refine vb_i (add64 (by omega) (by omega)) ?_
      have hkl := (keepT_len T2 (nextT J.anchor (layR q))).2
      refine hk (a2, k + 1, J.add q (layR q), w', keepT T2 (nextT J.anchor (layR q))) _ ⟨⟨by show k + 1 ≤ _; omega, hJ.add hroot (good_inv hgq.good).1 (by omega), ?_, ?_, ?_, fun t ht => keep_mem.2 (.inl (hT2 t ht)), by show (keepT T2 _).length ≤ T1.length + (k + 1); omega⟩, ?_⟩ (by show rows.length - (k + 1) < rows.length - k; omega)
      · show J.used + ((layR q).length : Int) + ((blocksQ (qs.drop (k + 1))).length : Int) = _
        rw [hrest]; omega
      · show _ = loadFrom (J.add q (layR q)) (decide (0 < k + 1)) (qs.drop (k + 1))
        rw [hlf, loadFrom, if_neg (fun h => h5 ⟨by simpa using h.1, h.2⟩)]
        simp
      · intro t ht
        rcases htx t ht with h | h
        · rcases List.mem_cons.1 h with rfl | h
          · exact .inr (keep_mem.2 (.inr rfl))
          · exact .inl h
        · exact .inr (keep_mem.2 (.inl h))
      · show Sep H0 own D4 (.obj p (.cells 0 .exact (jcells (.ptr ⟨L.p, 0, 0⟩) (.ptr ⟨i, 0, 0⟩) (J.add q (layR q)))) :: Part.vw a2 1 (blocksQ (qs.drop (k + 1))).length (strs (blocksQ (qs.drop (k + 1)))) :: _)
        rw [hrest]
        exact hs.f2.b4.f1
    · obtain rfl : k = rows.length := by omega
      refine isB_cf (by omega) ?_
      refine onE_i ?_
      have hdn : qs.drop rows.length = [] := List.drop_of_length_le (by omega)
      rw [hdn] at hlf htx
      rw [hlf] at hl1
      refine vb_i (e_nilCheck _) ?_
      refine vb_i (e_fieldAddr _ _) ?_
      refine jc_anchor hs.g0 hJ ?_
      refine vb_ldA hs.g5 (by simp [hA]) ?_
      refine vb_i (e_eqBytes hJ.anchor hA) ?_
      refine isB_c (fun h7 => ?_) (fun h7 => ?_)
      · have hl2 : loadR s d a (blocksQ qs) A = some (J, qs) := by
          rw [hl1]
          show (if J.anchor = A then some (J, qs) else none) = _
          rw [if_pos h7]
        have hs := rp_in (X := [_, _, _, _]) (hs.d1.f4.tail.f4.tail : Sep H0 own D ([_, _, _, _] ++ rparts L v' R))
        refine fin_ret (rvs_v (rvs_v (rvs_v (rvs_nil _)))) ⟨v', w, T2, c8, by omega, fun t ht => hT2 t (m1 t ht), fun h => by omega, fun _ _ h => by omega, fun _ _ _ => ⟨f0, hdev, fun h => ?_, fun j qs' h => ?_⟩⟩
        · rw [hl2] at h; cases h
        · rw [hl2] at h; cases h
          refine ⟨hT2 _ m2, fun t ht => ?_, hJ, p, out, rows, rfl, hm, hs⟩
          rcases htx t ht with h | h
          · cases h
          · exact h
      · refine bad ?_ hs (by omega) fun t ht => hT2 t (m1 t ht)
        rw [hl1]
        show (if J.anchor = A then some (J, qs) else none) = none
        rw [if_neg h7])
  exact ⟨r, C, v', lv', T', k1, k2⟩
end
end Go.Sh
