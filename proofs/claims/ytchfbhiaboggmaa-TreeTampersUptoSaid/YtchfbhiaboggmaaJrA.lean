/- One text of these: Jrn0, JrnW1, JrnP1, JrnP2, JrnP3, JrnP4, JrnP5, JrnP6. -/
import Derived.Test.YtchfbhiaboggmaaRigA
import Derived.Test.YtchfbhiaboggmaaChain
import Derived.Test.YtchfbhiaboggmaaCol
import Derived.Test.YtchfbhiaboggmaaRecB
import Derived.Test.YtchfbhiaboggmaaRecC

/- The journal: where it is, what it has; an oracle as a part of the heap; blocks that a rig has. -/
namespace Go.Sh
open Go Go.Abs

/-! ### An oracle -/
def Part.orc (i m : Nat) (lv : AVal) (T : List (List UInt8)) : Part where
  ids := i :: m :: (slId lv).toList
  ok B := ∃ mv, ORep B i 0 m mv lv T
  loc B C h k := by
    obtain ⟨mv, k⟩ := k
    refine ⟨mv, by rw [h i (by simp)]; exact k.cell, by rw [h m (by simp)]; exact k.mp, ?_, k.nd, k.short⟩
    rcases k.lst with k1 | ⟨j, u, rfl, k2, k3⟩
    · exact .inl k1
    · exact .inr ⟨j, u, rfl, by rw [h j (by simp [slId])]; exact k2, k3⟩
  live B k j hj := by
    obtain ⟨mv, k⟩ := k
    simp only [List.mem_cons, Option.mem_toList] at hj
    rcases hj with rfl | rfl | hj
    · exact lt_of_some k.cell
    · exact lt_of_some k.mp
    · rcases k.lst with ⟨rfl, _⟩ | ⟨q, u, rfl, k2, k3⟩
      · cases hj
      · cases hj; exact lt_of_some k2
section
variable {H0 B : AHeap} {own : Nat → Prop} {R : List Part} {i m : Nat} {lv : AVal} {T : List (List UInt8)}
theorem orc_new (h : Sep H0 own B R) : Sep H0 own (newO B) (Part.orc (B.length + 1) B.length .nils [] :: R) :=
  Sep.call (R1 := []) (R2 := [_]) h ⟨by simp [newO], fun j hj _ => by unfold newO; exact List.getElem?_append_left hj, fun r hr => (by simp at hr; subst hr; exact ⟨0, ORep.new B⟩),
    fun r hr j hj => (by simp at hr; subst hr; simp [Part.orc, slId] at hj; exact .inl (by omega)), List.pairwise_singleton _ _⟩
theorem orc_sums (h : Sep H0 own B (Part.orc i m lv T :: R)) {ss : List (List UInt8)} (hl : T.length + ss.length ≤ 1073741824) (hs : ∀ s ∈ ss, s.length ≤ 1099511627776) :
    ∃ C lv', Osums B (.ptr ⟨i, 0, 0⟩) ss C ∧ Sep H0 own C (Part.orc i m lv' (keepTs T ss) :: R) := by
  obtain ⟨mv, hO⟩ := h.head
  obtain ⟨C, mv2, lv2, h1, h2, h3, _⟩ := (OInv.refl hO).sums hl hs
  refine ⟨C, lv2, h1, h.put h3 (fun j hj => ?_) (fun k hk hn => ?_) ⟨mv2, h2.rep⟩⟩
  · simp only [Part.orc, List.mem_cons, Option.mem_toList] at hj ⊢
    rcases hj with rfl | rfl | hj
    · exact .inl (.inl rfl)
    · exact .inl (.inr (.inl rfl))
    · rcases hO.lst with ⟨e, _⟩ | ⟨q, u, e, _⟩
      · rcases h2.new e with e2 | ⟨q, w, e2, hq⟩
        · rw [e2] at hj; cases hj
        · rw [e2] at hj; cases hj; exact .inr hq
      · have e2 := h2.old _ _ _ e
        rw [e2] at hj; cases hj
        rw [e]; exact .inl (.inr (.inr rfl))
  · simp only [Part.orc, List.mem_cons, Option.mem_toList, not_or] at hn
    exact h2.keep k hk hn.1 hn.2.1 hn.2.2
theorem orc_rep (h : Sep H0 own B (Part.orc i m lv T :: R)) : ∃ mv, ORep B i 0 m mv lv T := h.head
theorem Collide_spec (h : Sep H0 own B (Part.orc i m lv T :: R)) (hT : T.length ≤ 1000000) : S_oracle_Oracle_Collide [.ptr ⟨i, 0, 0⟩] B (.tup (collideR T)) B := by
  obtain ⟨mv, hO⟩ := orc_rep h
  exact ⟨_, rfl, rfl, .inr ⟨_, _, _, _, _, _, rfl, hO, by omega, rfl⟩⟩
end

/-! ### The journal's cells -/
structure JV where
  s : List UInt8
  d : Int
  a : Int
  used : Int
  seq : Int
  root : List UInt8
  anchor : List UInt8
/-! ### Blocks -/
def nowAt (v : RV) (d i : Int) : List UInt8 := (bkAt (v.dev d) i).now
/-- A rig that does what it is asked, but for its fault. -/
structure Calm (v : RV) (n : Int) : Prop where
  wr : WR v
  down : v.down = false
  later : v.later = 0
  arm : v.arm = 0
  calls : 0 ≤ v.calls ∧ v.calls ≤ n
end Go.Sh

/- What Go functions come to over abstract values, printed by a program (wx.py); of each function its own text is what is told of it. -/
namespace Go.Sh
open Go Go.Abs

def geom_AreaAt.w (x0 : AVal) (x1 : AVal) (H : AHeap) (K : AVal → AHeap → Prop) : Prop :=
 JoinP (fun Kj1 => vb (aBin .lss x0 (.int .i64 0)) fun v2 =>
 isB v2 fun b3 => cond b3
 (Kj1 .ret [.int .i64 0, .int .i64 3] H)
 (vb (aBin .gtr x0 (.int .i64 1)) fun v4 =>
 isB v4 fun b5 => cond b5
 (Kj1 .ret [.int .i64 0, .int .i64 3] H)
 (vb (aBin .lss x1 (.int .i64 0)) fun v6 =>
 isB v6 fun b7 => cond b7
 (Kj1 .ret [.int .i64 0, .int .i64 3] H)
 (vb (aBin .geq x1 (.int .i64 80)) fun v8 =>
 isB v8 fun b9 => cond b9
 (Kj1 .ret [.int .i64 0, .int .i64 3] H)
 (Kj1 .normal [.int .i64 0, .int .i64 0] H)))))
 (fun e10 vs11 H12 =>
 onE e10 .normal
 (vb (aBin .mul (.int .i64 80) x0) fun v13 =>
 vb (aBin .add (.int .i64 1) v13) fun v14 =>
 vb (aBin .add v14 x1) fun v15 =>
 fin .ret [.v (v15), .v (.int .i64 0)] H12 K)
 (onE e10 .ret
 (fin .ret [.v (vs11.getD 0 .undef), .v (vs11.getD 1 .undef)] H12 K)
 (False)))

def S_geom_AreaAt : Abs.Spec := fun args H r H' => ∃ x0 x1 : AVal, args = [x0, x1] ∧ (geom_AreaAt.w x0 x1 H fun r1 H1 => r1 = r ∧ H1 = H') ∧ H <+: H'
def jrnl_Where_block.w (x0 : AVal) (x1 : AVal) (H : AHeap) (K : AVal → AHeap → Prop) : Prop :=
 hb (aBox H x0) fun v1 H2 =>
 vb (aFieldAddr 2 v1) fun v3 =>
 vb (aLoad H2 false 1 v3) fun v4 =>
 cb (S_geom_AreaAt [v4, x1] H2) fun v5 H6 =>
 vb (aExtract v5 0) fun v7 =>
 vb (aExtract v5 1) fun v8 =>
 fin .ret [.v (v7)] H6 K

def S_jrnl_Where_block : Abs.Spec := fun args H r H' => ∃ x0 x1 : AVal, args = [x0, x1] ∧ (jrnl_Where_block.w x0 x1 H fun r1 H1 => r1 = r ∧ H1 = H') ∧ H <+: H'
def jrnl_Journal_Room.w (x0 : AVal) (x1 : AVal) (H : AHeap) (K : AVal → AHeap → Prop) : Prop :=
 cb (S_record_Length [x1] H) fun v1 H2 =>
 vb (aEql true .ptr H2 x0 .nilp) fun v3 =>
 isB v3 fun b4 => cond b4
 (vb (aBin .gtr v1 (.int .i64 0)) fun v5 =>
 isB v5 fun b6 => cond b6
 (vb (aNilCheck x0) fun v7 =>
 vb (aFieldAddr 5 v7) fun v8 =>
 vb (aLoad H2 false 1 v8) fun v9 =>
 vb (aBin .sub (.int .i64 80) v9) fun v10 =>
 vb (aBin .leq v1 v10) fun v11 =>
 fin .ret [.v (v11)] H2 K)
 (fin .ret [.v (.bool false)] H2 K))
 (fin .ret [.v (.bool false)] H2 K)

def S_jrnl_Journal_Room : Abs.Spec := fun args H r H' => ∃ x0 x1 : AVal, args = [x0, x1] ∧ (jrnl_Journal_Room.w x0 x1 H fun r1 H1 => r1 = r ∧ H1 = H') ∧ H <+: H'
def jrnl_Journal_write.L3.b (v4 : AVal) (x1 : AVal) (x0 : AVal) (v3 : AVal) (x16_3 : AVal) (H5 : AHeap) (Kn6 : List AVal → AHeap → Prop) (Ke7 : AExit → List AVal → AHeap → Prop) : Prop :=
 vb (aBin .lss x16_3 v4) fun v8 =>
 isB v8 fun b9 => cond b9
 (vb (aIndexAddr 1 x1 x16_3) fun v10 =>
 vb (aLoad H5 false 1 v10) fun v11 =>
 vb (aNilCheck x0) fun v12 =>
 vb (aFieldAddr 2 v12) fun v13 =>
 vb (aFieldAddr 1 v13) fun v14 =>
 vb (aLoad H5 false 1 v14) fun v15 =>
 vb (aNilCheck x0) fun v16 =>
 vb (aFieldAddr 2 v16) fun v17 =>
 vb (aLoad H5 true 3 v17) fun v18 =>
 vb (aNilCheck x0) fun v19 =>
 vb (aFieldAddr 5 v19) fun v20 =>
 vb (aLoad H5 false 1 v20) fun v21 =>
 vb (aBin .add v21 x16_3) fun v22 =>
 cb (S_jrnl_Where_block [v18, v22] H5) fun v23 H24 =>
 cb (S_rig_Rig_Write [v3, v15, v23, v11] H24) fun v25 H26 =>
 vb (aBin .neq v25 (.int .i64 0)) fun v27 =>
 isB v27 fun b28 => cond b28
 (Ke7 .ret [v25] H26)
 (vb (aBin .add x16_3 (.int .i64 1)) fun v29 =>
 Kn6 [v29] H26))
 (Ke7 (.exit 0) [.undef] H5)

def jrnl_Journal_write.L3 (v4 : AVal) (x1 : AVal) (x0 : AVal) (v3 : AVal) : Body := fun vs H Kn Ke => jrnl_Journal_write.L3.b v4 x1 x0 v3 (vs.getD 0 .undef) H Kn Ke

def jrnl_Journal_write.w (x0 : AVal) (x1 : AVal) (H : AHeap) (K : AVal → AHeap → Prop) : Prop :=
 vb (aNilCheck x0) fun v1 =>
 vb (aFieldAddr 0 v1) fun v2 =>
 vb (aLoad H false 1 v2) fun v3 =>
 vb (lenSl x1) fun v4 =>
 LoopP (jrnl_Journal_write.L3 v4 x1 x0 v3) [.int .i64 0] H fun e30 vs31 H32 =>
 onE e30 (.exit 0)
 (fin .ret [.v (.int .i64 0)] H32 K)
 (onE e30 .ret
 (fin .ret [.v (vs31.getD 0 .undef)] H32 K)
 (False))

def S_jrnl_Journal_write : Abs.Spec := fun args H r H' => ∃ x0 x1 : AVal, args = [x0, x1] ∧ (jrnl_Journal_write.w x0 x1 H fun r1 H1 => r1 = r ∧ H1 = H')
def jrnl_Journal_add.w (x0 : AVal) (x1 : AVal) (x2 : AVal) (H : AHeap) (K : AVal → AHeap → Prop) : Prop :=
 hb (aBox H x1) fun v1 H2 =>
 vb (aNilCheck x0) fun v3 =>
 vb (aFieldAddr 1 v3) fun v4 =>
 vb (aLoad H2 false 1 v4) fun v5 =>
 vb (aNilCheck x0) fun v6 =>
 vb (aFieldAddr 39 v6) fun v7 =>
 vb (aLoad H2 true 32 v7) fun v8 =>
 cb (S_chain_Next [v5, v8, x2] H2) fun v9 H10 =>
 vb (aExtract v9 0) fun v11 =>
 vb (aExtract v9 1) fun v12 =>
 vb (aNilCheck x0) fun v13 =>
 vb (aFieldAddr 39 v13) fun v14 =>
 sb (aStore H10 32 v14 v11) fun H15 =>
 vb (aNilCheck x0) fun v16 =>
 vb (aFieldAddr 5 v16) fun v17 =>
 vb (aLoad H15 false 1 v17) fun v18 =>
 vb (lenSl x2) fun v19 =>
 vb (aBin .add v18 v19) fun v20 =>
 vb (aNilCheck x0) fun v21 =>
 vb (aFieldAddr 5 v21) fun v22 =>
 sb (aStore H15 1 v22 v20) fun H23 =>
 (vb (aFieldAddr 0 v1) fun v24 =>
 vb (aLoad H23 false 1 v24) fun v25 =>
 vb (aFieldAddr 1 v1) fun v26 =>
 vb (aLoad H23 true 32 v26) fun v27 =>
 vb (aNilCheck x0) fun v28 =>
 vb (aFieldAddr 6 v28) fun v29 =>
 sb (aStore H23 1 v29 v25) fun H30 =>
 vb (aNilCheck x0) fun v31 =>
 vb (aFieldAddr 7 v31) fun v32 =>
 sb (aStore H30 32 v32 v27) fun H33 =>
 fin .normal [] H33 K) ∧
 (vb (aFieldAddr 0 v1) fun v34 =>
 vb (aLoad H23 false 1 v34) fun v35 =>
 vb (aFieldAddr 1 v1) fun v36 =>
 vb (aNilCheck x0) fun v37 =>
 vb (aFieldAddr 6 v37) fun v38 =>
 sb (aStore H23 1 v38 v35) fun H39 =>
 vb (aLoad H39 true 32 v36) fun v40 =>
 vb (aNilCheck x0) fun v41 =>
 vb (aFieldAddr 7 v41) fun v42 =>
 sb (aStore H39 32 v42 v40) fun H43 =>
 fin .normal [] H43 K)

def S_jrnl_Journal_add : Abs.Spec := fun args H r H' => ∃ x0 x1 x2 : AVal, args = [x0, x1, x2] ∧ (jrnl_Journal_add.w x0 x1 x2 H fun r1 H1 => r1 = r ∧ H1 = H')
def jrnl_Journal_Append.w (x0 : AVal) (x1 : AVal) (H : AHeap) (K : AVal → AHeap → Prop) : Prop :=
 hb (aBox H x1) fun v1 H2 =>
 vb (aEql false .ptr H2 x0 .nilp) fun v3 =>
 isB v3 fun b4 => cond b4
 (fin .ret [.v (.int .i64 1)] H2 K)
 (vb (aLoad H2 true 34 v1) fun v5 =>
 cb (S_record_Lay [v5] H2) fun v6 H7 =>
 vb (aExtract v6 0) fun v8 =>
 vb (aExtract v6 1) fun v9 =>
 vb (aBin .neq v9 (.int .i64 0)) fun v10 =>
 isB v10 fun b11 => cond b11
 (fin .ret [.v (v9)] H7 K)
 (vb (aFieldAddr 0 v1) fun v12 =>
 vb (aLoad H7 false 1 v12) fun v13 =>
 vb (aNilCheck x0) fun v14 =>
 vb (aFieldAddr 6 v14) fun v15 =>
 vb (aLoad H7 false 1 v15) fun v16 =>
 vb (aBin .add v16 (.int .i64 1)) fun v17 =>
 vb (aBin .neq v13 v17) fun v18 =>
 isB v18 fun b19 => cond b19
 (fin .ret [.v (.int .i64 2)] H7 K)
 (vb (aFieldAddr 33 v1) fun v20 =>
 vb (aLoad H7 false 1 v20) fun v21 =>
 vb (lenSl v21) fun v22 =>
 cb (S_jrnl_Journal_Room [x0, v22] H7) fun v23 H24 =>
 vb (aUn .not v23) fun v25 =>
 isB v25 fun b26 => cond b26
 (fin .ret [.v (.int .i64 9)] H24 K)
 (cb (S_jrnl_Journal_write [x0, v8] H24) fun v27 H28 =>
 vb (aBin .neq v27 (.int .i64 0)) fun v29 =>
 isB v29 fun b30 => cond b30
 (fin .ret [.v (v27)] H28 K)
 (vb (aLoad H28 true 34 v1) fun v31 =>
 cb (S_jrnl_Journal_add [x0, v31, v8] H28) fun v32 H33 =>
 fin .ret [.v (.int .i64 0)] H33 K)))))

def S_jrnl_Journal_Append : Abs.Spec := fun args H r H' => ∃ x0 x1 : AVal, args = [x0, x1] ∧ (jrnl_Journal_Append.w x0 x1 H fun r1 H1 => r1 = r ∧ H1 = H')
set_option maxRecDepth 100000 in
theorem jrnl_Journal_Append.ex (x0 x1 : AVal) (H : AHeap) : Ex fun K : AVal × AHeap → Prop => jrnl_Journal_Append.w x0 x1 H fun r H => K (r, H) := by
  unfold jrnl_Journal_Append.w
  repeat with_reducible first
    | exact Ex.pt _
    | exact Ex.fin
    | exact Ex.no
    | refine Ex.vb fun _ => ?_
    | refine Ex.hb fun _ _ => ?_
    | refine Ex.sb fun _ => ?_
    | refine Ex.cb fun _ _ => ?_
    | refine Ex.isB fun _ => ?_
    | refine Ex.cond ?_ ?_
    | refine Ex.onE ?_ ?_
    | refine Ex.join ?_ fun _ _ _ => ?_
    | refine Ex.loop (fun _ _ => ?_) fun _ _ _ => ?_

theorem jrnl_Journal_Append.out {x0 x1 : AVal} {H : AHeap} {Q : AVal → AHeap → Prop} (h : jrnl_Journal_Append.w x0 x1 H fun r H' => Q r H') : ∃ r H', S_jrnl_Journal_Append [x0, x1] H r H' ∧ Q r H' := by
  obtain ⟨r, H', h1, h2⟩ := (jrnl_Journal_Append.ex x0 x1 H).out h
  exact ⟨r, H', ⟨_, _, rfl, h1⟩, h2⟩

end Go.Sh

/- The journal: what a calm rig does; small functions; writing. -/
namespace Go.Sh
open Go Go.Abs

section
variable {v : RV} {n : Int}
theorem calm_err (c : Calm v n) : v.err = if v.fault = 1 then 10 else 0 := by
  unfold RV.err
  rw [c.down, c.arm, if_neg (by simp)]
theorem calm_step (c : Calm v n) : v.step = { v with calls := v.calls + 1, fault := cnt v.fault } := by
  have h1 := c.later
  have h2 := c.arm
  have h3 := c.down
  unfold RV.step
  rw [if_neg (by rw [h3]; decide)]
  unfold RV.tick
  rw [strike_no (by omega), h1, h2]
  cases v
  simp only at h1 h2 h3
  subst h1 h2 h3
  rfl
theorem step_calm (c : Calm v n) : Calm v.step (n + 1) := by
  have h := c.wr.step
  rw [calm_step c] at h ⊢
  exact ⟨h, c.down, c.later, c.arm, by show 0 ≤ v.calls + 1 ∧ v.calls + 1 ≤ n + 1; have := c.calls; omega⟩
theorem step_fault (c : Calm v n) : v.step.fault = cnt v.fault := by rw [calm_step c]
theorem step_dev (c : Calm v n) (d : Int) : v.step.dev d = v.dev d := by rw [calm_step c]; rfl
theorem calm_le {k : Int} (c : Calm v n) (h : n ≤ k) : Calm v k := ⟨c.wr, c.down, c.later, c.arm, c.calls.1, Int.le_trans c.calls.2 h⟩
theorem calm_dev (c : Calm v n) (d : Int) {l : List Bk} (h1 : l.length = 288) (h2 : WB l) : Calm (v.setDev d l) n := by
  have h := c.wr.setDev d h1 h2
  unfold RV.setDev at h ⊢
  split at h
  · rename_i hd; rw [if_pos hd]; exact ⟨h, c.down, c.later, c.arm, c.calls⟩
  · rename_i hd; rw [if_neg hd]; exact ⟨h, c.down, c.later, c.arm, c.calls⟩
theorem setDev_dev {d e : Int} {l : List Bk} (hd : d = 0 ∨ d = 1) (he : e = 0 ∨ e = 1) : (v.setDev d l).dev e = if e = d then l else v.dev e := by
  unfold RV.setDev RV.dev
  rcases hd with rfl | rfl <;> rcases he with rfl | rfl <;> rfl
theorem setDev_fault (d : Int) (l : List Bk) : (v.setDev d l).fault = v.fault := by unfold RV.setDev; split <;> rfl
theorem bk_set {l : List Bk} {i j : Int} {b : Bk} (h0 : 0 ≤ i) (h1 : i < l.length) (h2 : 0 ≤ j) : bkAt (l.set i.toNat b) j = if j = i then b else bkAt l j := by
  unfold bkAt
  rw [List.getD_eq_getElem?_getD, List.getD_eq_getElem?_getD]
  by_cases e : j = i
  · rw [if_pos e, e, List.getElem?_set_self (by omega)]; rfl
  · rw [if_neg e, List.getElem?_set_ne (by omega)]
theorem write_calm {d i : Int} {s : List UInt8} (c : Calm v n) (hm : mayG d i = 0) (hl : s.length = 64) :
    Calm (v.write d i s) (n + 1) ∧ (v.write d i s).fault = cnt v.fault ∧ v.writeE d i s = (if v.fault = 1 then 10 else 0) ∧
      (v.fault ≠ 1 → ∀ e j, (e = 0 ∨ e = 1) → 0 ≤ j → nowAt (v.write d i s) e j = if e = d ∧ j = i then s else nowAt v e j) := by
  obtain ⟨hd, hi0, hi1⟩ := mayG_ok hm
  have he := calm_err c
  have hs := step_calm c
  refine ⟨?_, ?_, ?_, fun hf e j hed hj => ?_⟩
  · unfold RV.write
    rw [if_pos ⟨hm, hl⟩]
    split
    · exact calm_dev hs _ (by rw [blkW_len]; exact (hs.wr.dev _).1) (blkW_wb (hs.wr.dev _).2 _ _)
    · exact hs
  · unfold RV.write
    rw [if_pos ⟨hm, hl⟩]
    split
    · rw [setDev_fault, step_fault c]
    · exact step_fault c
  · unfold RV.writeE
    rw [if_pos hm, if_pos hl, he]
  · unfold RV.write nowAt
    rw [if_pos ⟨hm, hl⟩, if_pos (by rw [he, if_neg hf]), setDev_dev hd hed, step_dev c]
    by_cases h1 : e = d
    · subst h1
      rw [if_pos rfl]
      unfold blkW
      have h288 := (c.wr.dev e).1
      rw [if_pos (may_blk h288 hm hl), bk_set hi0 (by rw [h288]; omega) hj]
      by_cases h2 : j = i
      · rw [if_pos h2, if_pos ⟨rfl, h2⟩]; rfl
      · rw [if_neg h2, if_neg (fun h => h2 h.2)]
    · rw [if_neg h1, if_neg (fun h => h1 h.1), step_dev c]
theorem ask_calm {d i : Int} (c : Calm v n) (hm : mayG d i = 0) :
    Calm (v.ask d i) (n + 1) ∧ (v.ask d i).fault = cnt v.fault ∧ v.askE d i = (if v.fault = 1 then 10 else 0) ∧ (∀ e, (v.ask d i).dev e = v.dev e) ∧ v.readS d i = (if v.fault = 1 then [] else nowAt v d i) := by
  have he := calm_err c
  have ha : v.ask d i = v.step := if_pos hm
  have hE : v.askE d i = if v.fault = 1 then 10 else 0 := by unfold RV.askE; rw [if_pos hm, he]
  refine ⟨by rw [ha]; exact step_calm c, by rw [ha]; exact step_fault c, hE, fun e => by rw [ha]; exact step_dev c e, ?_⟩
  unfold RV.readS nowAt
  rw [hE, ha, step_dev c]
  by_cases h : v.fault = 1
  · rw [if_pos h, if_pos h, if_neg (by decide)]
  · rw [if_neg h, if_neg h, if_pos rfl]
theorem tamper_calm {d i : Int} {s : List UInt8} (c : Calm v n) (hm : mayG d i = 0) (hl : s.length = 64) : Calm (v.tamper d i s) n ∧ (v.tamper d i s).fault = v.fault := by
  unfold RV.tamper
  split
  · exact ⟨calm_dev c _ (by rw [blkT_len]; exact (c.wr.dev _).1) (blkT_wb (c.wr.dev _).2 _ _), setDev_fault _ _⟩
  · exact ⟨c, rfl⟩
theorem now_len {d i : Int} (c : Calm v n) (h0 : 0 ≤ i) (h1 : i < 288) : (nowAt v d i).length = 64 := (bkAt_wb (c.wr.dev d).2 h0 (by rw [(c.wr.dev d).1]; omega)).1
theorem calm_rig0 : Calm rig0 0 := ⟨WR.rig0, rfl, rfl, rfl, by decide⟩
end
/-- The blocks that an area begins with. -/
def Has (v : RV) (d a : Int) (bs : List (List UInt8)) : Prop := ∀ k, k < bs.length → nowAt v d (1 + 80 * a + k) = bs.getD k []
section
variable {H0 B : AHeap} {own : Nat → Prop} {R : List Part} {p : Nat} {rp op : AVal} {j : JV}
end
end Go.Sh

/- The journal writes a record's blocks, and lets it count. -/
namespace Go.Sh
open Go Go.Abs

section
variable {H0 B : AHeap} {own : Nat → Prop} {R : List Part} {p : Nat} {rp op x : AVal} {j : JV} {L : RL} {v : RV} {n : Int} {l : List (List UInt8)}
end
end Go.Sh

/- A record counts; reading. -/
namespace Go.Sh
open Go Go.Abs

section
variable {H0 B : AHeap} {own : Nat → Prop} {R : List Part} {p : Nat} {rp op x : AVal} {j : JV} {L : RL} {v : RV} {n : Int} {l : List (List UInt8)}
theorem set_get {C : AHeap} {i : Nat} {o o' : AObj} (h : C[i]? = some o) : (C.set i o')[i]? = some o' := List.getElem?_set_self (lt_of_some h)
end
end Go.Sh

/- A journal is begun; records are appended. -/
namespace Go.Sh
open Go Go.Abs

/-- Why a record is not appended. -/
def roomP (j : JV) (n : Int) : Prop := 0 < lengthR n ∧ lengthR n ≤ 80 - j.used
instance (j : JV) (n : Int) : Decidable (roomP j n) := inferInstanceAs (Decidable (_ ∧ _))
section
variable {H0 B : AHeap} {own : Nat → Prop} {R : List Part} {p : Nat} {rp op px : AVal} {j : JV} {L : RL} {v : RV} {n : Int} {q : Rcd} {i m : Nat} {lv : AVal} {T : List (List UInt8)}
theorem append_nil (x : AVal) (hx : x.defd = true) : ∃ C, S_jrnl_Journal_Append [.nilp, x] B (.int .i64 1) C ∧ B <+: C := by
  obtain ⟨r, C, h, rfl, e⟩ := jrnl_Journal_Append.out (x0 := .nilp) (x1 := x) (H := B) (Q := fun r C => r = .int .i64 1 ∧ B <+: C) (by
    unfold jrnl_Journal_Append.w
    have hs : Sep B (fun _ => False) B [] := Sep.start B
    refine s_box hs hx fun i C1 e hs => ?_
    refine vb_i (e_nilNil _) ?_
    repeat first
    | with_reducible refine isB_T ?_
    exact fin_ret (rvs_v (rvs_nil _)) ⟨rfl, e⟩)
  exact ⟨C, h, e⟩
end
end Go.Sh

/- A journal is begun. -/
namespace Go.Sh
open Go Go.Abs

def j0 (s : List UInt8) (d a : Int) (A : List UInt8) : JV := ⟨s, d, a, 0, 0, zs 32, A⟩
theorem _root_.Go.Abs.Sep.d1 {H0 B : AHeap} {own : Nat → Prop} {a b : Part} {R : List Part} (h : Sep H0 own B (a :: b :: R)) : Sep H0 own B (a :: R) := h.f1.tail
section
variable {H0 B : AHeap} {own : Nat → Prop} {R : List Part} {p : Nat} {rp op px : AVal} {j : JV} {L : RL} {v : RV} {n : Int} {q : Rcd} {i m : Nat} {lv : AVal} {T : List (List UInt8)} {s : List UInt8} {d a : Int}
end
end Go.Sh

/- What a journal's blocks say: records, and what they come to. -/
namespace Go.Sh
open Go Go.Abs

/-- No two unlike texts of one sum among these. -/
def NoClash (T : List (List UInt8)) : Prop := ∀ s t, s ∈ T → t ∈ T → sum s = sum t → s = t
theorem no_clash_of {T : List (List UInt8)} (h : pairs T (sums T) T.length = none) : NoClash T := fun s t hs ht e => Classical.byContradiction fun hne => no_clash h hs ht hne e
end Go.Sh
