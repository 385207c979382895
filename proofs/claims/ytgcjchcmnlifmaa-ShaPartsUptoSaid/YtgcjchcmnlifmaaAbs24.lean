/- Steps by rewriting: what the operations give, told so that simp can use it. -/
import Derived.Test.YtgcjchcmnlifmaaAbs23
namespace Go.Abs
open Go

/-- One cell, and nothing but. -/
def AVal.sc : AVal → Bool
  | .undef | .agg _ | .tup _ => false
  | _ => true
theorem sc_cells {x : AVal} (h : x.sc = true) : x.cells = [x] := by cases x <;> simp_all [AVal.sc, AVal.cells]
theorem sc_cell {x : AVal} (h : x.sc = true) : x.isCell = true := by cases x <;> simp_all [AVal.sc, AVal.isCell]
def Kd.rw : Kd → Bool
  | .ro => false
  | _ => true
theorem Kd.rw_ne {k : Kd} (h : k.rw = true) : k ≠ .ro := by cases k <;> simp_all [Kd.rw]

/-! loads -/
def ld1 (o : Option AObj) (v off : Nat) : Option AVal :=
  match o with
  | some (.cells w _ cs) => if w = v ∧ off < cs.length then some (cs.getD off .undef) else none
  | _ => none
def ldN (o : Option AObj) (v off n : Nat) : Option AVal :=
  match o with
  | some (.cells w _ cs) => if w = v ∧ (0 < n → off + n ≤ cs.length) then some (.agg ((cs.drop off).take n)) else none
  | _ => none
theorem x_load1 (H : AHeap) (n i v off : Nat) : aLoad H false n (.ptr ⟨i, v, off⟩) = ld1 H[i]? v off := by
  simp only [aLoad, ld1, rdCells, cond_false]
  cases H[i]? with
  | none => rfl
  | some o =>
    cases o <;> simp only []
    rename_i w kd cs
    by_cases h : w = v ∧ off < cs.length
    · rw [if_pos h, if_pos ⟨h.1, fun _ => by omega⟩]
      simp only [List.head?_take]
      simp [List.getD, h.2]
    · rw [if_neg h, if_neg (fun hh => h ⟨hh.1, by have := hh.2 (by omega); omega⟩)]
theorem x_loadN (H : AHeap) (n i v off : Nat) : aLoad H true n (.ptr ⟨i, v, off⟩) = ldN H[i]? v off n := by
  simp only [aLoad, ldN, rdCells, cond_true]
  cases H[i]? with
  | none => rfl
  | some o =>
    cases o <;> simp only []
    rename_i w kd cs
    by_cases h : w = v ∧ (0 < n → off + n ≤ cs.length)
    · rw [if_pos h, if_pos h]
    · rw [if_neg h, if_neg h]
theorem x_ld1 {v : Nat} {kd : Kd} {cs : List AVal} {off : Nat} (h : off < cs.length) : ld1 (some (.cells v kd cs)) v off = some (cs.getD off .undef) := if_pos ⟨rfl, h⟩
theorem x_ldN {v : Nat} {kd : Kd} {cs : List AVal} {off n : Nat} (h : off + n ≤ cs.length) : ldN (some (.cells v kd cs)) v off n = some (.agg ((cs.drop off).take n)) := if_pos ⟨rfl, fun _ => h⟩
theorem x_ldAll {v : Nat} {kd : Kd} {cs : List AVal} {n : Nat} (h : cs.length = n) : ldN (some (.cells v kd cs)) v 0 n = some (.agg cs) := by
  rw [x_ldN (by omega)]; simp [← h]

/-! stores -/
def st1 (H : AHeap) (i : Nat) (o : Option AObj) (v off : Nat) (x : AVal) : Option AHeap :=
  match o with
  | some (.cells w kd cs) => if w = v ∧ kd.rw = true ∧ off < cs.length then some (H.set i (.cells w kd (cs.set off x))) else none
  | _ => none
def stN (H : AHeap) (i : Nat) (o : Option AObj) (v off : Nat) (xs : List AVal) : Option AHeap :=
  match o with
  | some (.cells w kd cs) => if w = v ∧ kd.rw = true ∧ off + xs.length ≤ cs.length ∧ xs.all AVal.isCell = true then some (H.set i (.cells w kd (splice cs off xs))) else none
  | _ => none
theorem x_store1 {H : AHeap} {i v off : Nat} {x : AVal} (hx : x.sc = true) : aStore H 1 (.ptr ⟨i, v, off⟩) x = st1 H i H[i]? v off x := by
  simp only [aStore, sc_cells hx, List.length_cons, List.length_nil, Nat.zero_add, if_true, wrCells, st1]
  cases H[i]? with
  | none => rfl
  | some o =>
    cases o <;> simp only []
    rename_i w kd cs
    by_cases h : w = v ∧ kd.rw = true ∧ off < cs.length
    · rw [if_pos h, if_pos ⟨h.1, Kd.rw_ne h.2.1, by omega, by simp [sc_cell hx]⟩, splice_one _ _ _ h.2.2]
    · rw [if_neg h, if_neg (fun hh => h ⟨hh.1, by cases kd <;> simp_all [Kd.rw], by omega⟩)]
theorem x_storeN {H : AHeap} {i v off n : Nat} {xs : List AVal} (hx : xs.length = n) : aStore H n (.ptr ⟨i, v, off⟩) (.agg xs) = stN H i H[i]? v off xs := by
  simp only [aStore, AVal.cells, hx, if_true, wrCells, stN]
  cases H[i]? with
  | none => rfl
  | some o =>
    cases o <;> simp only []
    rename_i w kd cs
    by_cases h : w = v ∧ kd.rw = true ∧ off + n ≤ cs.length ∧ xs.all AVal.isCell = true
    · rw [if_pos h, if_pos ⟨h.1, Kd.rw_ne h.2.1, h.2.2⟩]
    · rw [if_neg h, if_neg (fun hh => h ⟨hh.1, by cases kd <;> simp_all [Kd.rw], hh.2.2⟩)]
theorem x_st1 {H : AHeap} {i v off : Nat} {kd : Kd} {cs : List AVal} {x : AVal} (hk : kd.rw = true) (h : off < cs.length) : st1 H i (some (.cells v kd cs)) v off x = some (H.set i (.cells v kd (cs.set off x))) := if_pos ⟨rfl, hk, h⟩
theorem x_stN {H : AHeap} {i v off : Nat} {kd : Kd} {cs xs : List AVal} (hk : kd.rw = true) (h : off + xs.length ≤ cs.length) (hc : xs.all AVal.isCell = true) : stN H i (some (.cells v kd cs)) v off xs = some (H.set i (.cells v kd (splice cs off xs))) := if_pos ⟨rfl, hk, h, hc⟩
theorem x_stAll {H : AHeap} {i v : Nat} {kd : Kd} {cs xs : List AVal} (hk : kd.rw = true) (h : xs.length = cs.length) (hc : xs.all AVal.isCell = true) : stN H i (some (.cells v kd cs)) v 0 xs = some (H.set i (.cells v kd xs)) := by
  rw [x_stN hk (by omega) hc]
  simp [splice, h]

theorem x_alloc (H : AHeap) (z : List AVal) : aAlloc H z = some (.ptr ⟨H.length, 0, 0⟩, H ++ [.cells 0 .exact z]) := rfl
theorem x_boxAgg (H : AHeap) (cs : List AVal) : aBox H (.agg cs) = some (.ptr ⟨H.length, 0, 0⟩, H ++ [.cells 0 .exact cs]) := rfl
theorem x_box1 {H : AHeap} {x : AVal} (h : x.sc = true) : aBox H x = some (.ptr ⟨H.length, 0, 0⟩, H ++ [.cells 0 .exact [x]]) := by
  unfold aBox
  rw [if_pos (by cases x <;> simp_all [AVal.sc, AVal.defd]), sc_cells h]

theorem getD_map {α : Type} {f : α → AVal} {l : List α} {i : Nat} (d : α) (h : i < l.length) : (l.map f).getD i .undef = f (l.getD i d) := by
  simp [List.getD, h]

/-! ### Arrays and structs built -/
def fillO (place : Nat → Option (Nat × Nat)) (cells : List AVal) (v : AVal) (rest : List (Nat × AVal)) : Option (Nat × Nat) → Option (List AVal)
  | none => none
  | some (off, size) => if v.defd = true ∧ v.cells.length = size ∧ off + v.cells.length ≤ cells.length then fillA place (splice cells off v.cells) rest else none
theorem x_fill (place : Nat → Option (Nat × Nat)) (cells : List AVal) (i : Nat) (v : AVal) (rest : List (Nat × AVal)) : fillA place cells ((i, v) :: rest) = fillO place cells v rest (place i) := by
  simp only [fillA]
  cases place i with
  | none => rfl
  | some p => rfl
theorem x_fillNil (place : Nat → Option (Nat × Nat)) (cells : List AVal) : fillA place cells [] = some cells := rfl
theorem x_fill1 {place : Nat → Option (Nat × Nat)} {cells : List AVal} {v : AVal} {rest : List (Nat × AVal)} {off : Nat} (h : v.sc = true) (hl : off < cells.length) :
    fillO place cells v rest (some (off, 1)) = fillA place (cells.set off v) rest := by
  simp only [fillO, sc_cells h]
  rw [if_pos ⟨by cases v <;> simp_all [AVal.sc, AVal.defd], rfl, by simp; omega⟩, splice_one _ _ _ hl]
theorem x_fillN {place : Nat → Option (Nat × Nat)} {cells xs : List AVal} {rest : List (Nat × AVal)} {off n : Nat} (h : xs.length = n) (hl : off + n ≤ cells.length) :
    fillO place cells (.agg xs) rest (some (off, n)) = fillA place (splice cells off xs) rest := by
  have hc : (AVal.agg xs).cells = xs := rfl
  exact if_pos ⟨rfl, by rw [hc]; exact h, by rw [hc]; omega⟩
theorem x_build {zero : List AVal} {place : Nat → Option (Nat × Nat)} {parts : List (Nat × AVal)} : aBuild zero place parts = (fillA place zero parts).map .agg := by
  unfold aBuild; cases fillA place zero parts <;> rfl
theorem x_mapSome {α β : Type} (f : α → β) (x : α) : (some x).map f = some (f x) := rfl
theorem x_buildSlice {H : AHeap} {es len : Nat} {zero : List AVal} {parts : List (Nat × AVal)} :
    aBuildSlice H es zero len parts = (fillA (fun i => some (i * es, es)) (fillCells len zero) parts).map fun cs => (.slice ⟨H.length, 0, 0⟩ len (.ex len), H ++ [.cells 0 .exact cs]) := by
  unfold aBuildSlice
  cases fillA (fun i => some (i * es, es)) (fillCells len zero) parts <;> rfl

theorem sc_U (x : BitVec 32) : (U x).sc = true := rfl
theorem sc_byte (x : UInt8) : (ofByte x).sc = true := rfl
theorem sc_int (k : IntKind) (n : Int) : (AVal.int k n).sc = true := rfl
theorem sc_bool (b : Bool) : (AVal.bool b).sc = true := rfl
theorem sc_str (s : List UInt8) : (AVal.str s).sc = true := rfl
theorem sc_ptr (r : Ref) : (AVal.ptr r).sc = true := rfl
theorem sc_slice (r : Ref) (n : Nat) (c : Cap) : (AVal.slice r n c).sc = true := rfl
theorem sc_nils : AVal.nils.sc = true := rfl
theorem sc_nilp : AVal.nilp.sc = true := rfl
theorem sc_nilm : AVal.nilm.sc = true := rfl
theorem sc_map (i : Nat) : (AVal.map i).sc = true := rfl
theorem rw_exact : Kd.exact.rw = true := rfl
theorem rw_opn : Kd.opn.rw = true := rfl
theorem cells_U (l : List (BitVec 32)) : (l.map U).all AVal.isCell = true := map_cell (fun _ => rfl) l
theorem cells_byte (l : List UInt8) : (l.map ofByte).all AVal.isCell = true := map_cell (fun _ => rfl) l
theorem cells_rep (n : Nat) (k : IntKind) (m : Int) : (List.replicate n (AVal.int k m)).all AVal.isCell = true := by
  rw [List.all_eq_true]; intro x hx; rw [List.eq_of_mem_replicate hx]; rfl
/-- Side conditions. -/
theorem evS : type_of% (And.intro @sc_U <| And.intro @sc_byte <| And.intro @sc_int <| And.intro @sc_bool <| And.intro @sc_str <| And.intro @sc_ptr <| And.intro @sc_slice <| And.intro @sc_nils <| And.intro @sc_nilp <| And.intro @sc_nilm <| And.intro @sc_map <| And.intro @rw_exact <| And.intro @rw_opn <| And.intro @cells_rep <| And.intro @cells_U @cells_byte) := And.intro @sc_U <| And.intro @sc_byte <| And.intro @sc_int <| And.intro @sc_bool <| And.intro @sc_str <| And.intro @sc_ptr <| And.intro @sc_slice <| And.intro @sc_nils <| And.intro @sc_nilp <| And.intro @sc_nilm <| And.intro @sc_map <| And.intro @rw_exact <| And.intro @rw_opn <| And.intro @cells_rep <| And.intro @cells_U @cells_byte
/-- Lengths. -/
theorem len_map {α β : Type} (f : α → β) (l : List α) : (l.map f).length = l.length := List.length_map f
theorem len_set {α : Type} (l : List α) (i : Nat) (x : α) : (l.set i x).length = l.length := List.length_set
theorem len_app {α : Type} (l k : List α) : (l ++ k).length = l.length + k.length := List.length_append
theorem len_rep {α : Type} (n : Nat) (x : α) : (List.replicate n x).length = n := List.length_replicate
theorem len_take {α : Type} (l : List α) (n : Nat) : (l.take n).length = min n l.length := List.length_take
theorem len_drop {α : Type} (l : List α) (n : Nat) : (l.drop n).length = l.length - n := List.length_drop
theorem len_cons {α : Type} (x : α) (l : List α) : (x :: l).length = l.length + 1 := rfl
theorem len_nil {α : Type} : ([] : List α).length = 0 := rfl

theorem isB_true {K : Bool → Prop} : isB (.bool true) K = K true := rfl
theorem isB_false {K : Bool → Prop} : isB (.bool false) K = K false := rfl
theorem e_ptrNil (H : AHeap) (r : Ref) : aEql false .ptr H (.ptr r) .nilp = some (.bool false) := rfl
theorem e_ptrNilN (H : AHeap) (r : Ref) : aEql true .ptr H (.ptr r) .nilp = some (.bool true) := rfl
theorem e_nilNil (H : AHeap) : aEql false .ptr H .nilp .nilp = some (.bool true) := rfl
theorem e_nilNilN (H : AHeap) : aEql true .ptr H .nilp .nilp = some (.bool false) := rfl
theorem e_pickT (a b : AVal) : aPick (.bool true) a b = some a := rfl
theorem e_pickF (a b : AVal) : aPick (.bool false) a b = some b := rfl
/-- Control and numbers. -/
theorem ev : type_of% (And.intro @isB_true <| And.intro @isB_false <| And.intro @e_ptrNil <| And.intro @e_ptrNilN <| And.intro @e_nilNil <| And.intro @e_nilNilN <| And.intro @e_pickT <| And.intro @e_pickF <| And.intro @vb_some <| And.intro @hb_some <| And.intro @sb_some <| And.intro @cond_true.{1} <| And.intro @cond_false.{1} <| And.intro @onE_same <| And.intro @onE_nr <| And.intro @onE_rn <| And.intro @onE_ne <| And.intro @onE_en <| And.intro @onE_re <| And.intro @onE_er <| And.intro @onE_ee <| And.intro @lss64 <| And.intro @leq64 <| And.intro @gtr64 <| And.intro @geq64 <| And.intro @eql64 <| And.intro @neq64 <| And.intro @add64 <| And.intro @sub64 <| And.intro @mul64 <| And.intro @quo64 <| And.intro @rem64 <| And.intro @adds <| And.intro @eqls <| And.intro @neqs <| And.intro @int_of_byte <| And.intro @byte_of_int <| And.intro @int_of_int <| And.intro @u64_of_int <| And.intro @mulU64 <| And.intro @e_idxAddrArr <| And.intro @e_idxAddr <| And.intro @e_idxStr <| And.intro @e_fieldAddr <| And.intro @e_idxArr1 <| And.intro @e_lenSt <| And.intro @e_lenSl <| And.intro @e_lenNil <| And.intro @e_nilCheck <| And.intro @e_extract <| And.intro @e_not <| And.intro @e_sliceStrTo <| And.intro @e_sliceStrFrom <| @e_sliceStr) := And.intro @isB_true <| And.intro @isB_false <| And.intro @e_ptrNil <| And.intro @e_ptrNilN <| And.intro @e_nilNil <| And.intro @e_nilNilN <| And.intro @e_pickT <| And.intro @e_pickF <| And.intro @vb_some <| And.intro @hb_some <| And.intro @sb_some <| And.intro @cond_true.{1} <| And.intro @cond_false.{1} <| And.intro @onE_same <| And.intro @onE_nr <| And.intro @onE_rn <| And.intro @onE_ne <| And.intro @onE_en <| And.intro @onE_re <| And.intro @onE_er <| And.intro @onE_ee <| And.intro @lss64 <| And.intro @leq64 <| And.intro @gtr64 <| And.intro @geq64 <| And.intro @eql64 <| And.intro @neq64 <| And.intro @add64 <| And.intro @sub64 <| And.intro @mul64 <| And.intro @quo64 <| And.intro @rem64 <| And.intro @adds <| And.intro @eqls <| And.intro @neqs <| And.intro @int_of_byte <| And.intro @byte_of_int <| And.intro @int_of_int <| And.intro @u64_of_int <| And.intro @mulU64 <| And.intro @e_idxAddrArr <| And.intro @e_idxAddr <| And.intro @e_idxStr <| And.intro @e_fieldAddr <| And.intro @e_idxArr1 <| And.intro @e_lenSt <| And.intro @e_lenSl <| And.intro @e_lenNil <| And.intro @e_nilCheck <| And.intro @e_extract <| And.intro @e_not <| And.intro @e_sliceStrTo <| And.intro @e_sliceStrFrom <| @e_sliceStr
/-- Words of 32 bits. -/
theorem evU : type_of% (And.intro @U_add <| And.intro @U_or <| And.intro @U_and <| And.intro @U_xor <| And.intro @U_not <| And.intro @U_shl <| And.intro @U_shr <| And.intro @U_of_byte <| And.intro @byte_of_U <| @int_of_U) := And.intro @U_add <| And.intro @U_or <| And.intro @U_and <| And.intro @U_xor <| And.intro @U_not <| And.intro @U_shl <| And.intro @U_shr <| And.intro @U_of_byte <| And.intro @byte_of_U <| @int_of_U
/-- Memory. -/
theorem evH : type_of% (And.intro @x_load1 <| And.intro @x_loadN <| And.intro @x_ldAll <| And.intro @x_ld1 <| And.intro @x_store1 <| And.intro @x_storeN <| And.intro @x_stAll <| And.intro @x_st1 <| And.intro @x_alloc <| And.intro @x_boxAgg <| And.intro @x_box1 <| And.intro @app_get0 <| And.intro @app_get <| And.intro @app_set0 <| @app_set) := And.intro @x_load1 <| And.intro @x_loadN <| And.intro @x_ldAll <| And.intro @x_ld1 <| And.intro @x_store1 <| And.intro @x_storeN <| And.intro @x_stAll <| And.intro @x_st1 <| And.intro @x_alloc <| And.intro @x_boxAgg <| And.intro @x_box1 <| And.intro @app_get0 <| And.intro @app_get <| And.intro @app_set0 <| @app_set
/-- Arrays and structs built. -/
theorem evF : type_of% (And.intro @x_build <| And.intro @x_fill <| And.intro @x_fillNil <| And.intro @x_fill1 <| And.intro @x_fillN <| And.intro @x_mapSome @x_buildSlice) := And.intro @x_build <| And.intro @x_fill <| And.intro @x_fillNil <| And.intro @x_fill1 <| And.intro @x_fillN <| And.intro @x_mapSome @x_buildSlice
end Go.Abs
