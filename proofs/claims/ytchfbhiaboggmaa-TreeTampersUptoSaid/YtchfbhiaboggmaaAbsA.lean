/- One text of these: Abs1, Abs2, Abs3, Abs4, Abs5, Abs6, Abs7, Abs8, Abs9, Abs10, Abs11, Abs12, Abs13, Abs13m, Abs13n. -/
import GoSem.Step
import Derived.Calls
import Derived.Orders
import Derived.Laws.World
import Derived.Laws.Sem
import Derived.Below
import Derived.Laws.Cells
import Derived.Lib.Strings
import Derived.Lib.ConvBytes
import Derived.Laws.BytesArg
import Derived.Laws.StructEq
import Derived.ChangeKeysEq
import Derived.MapKept
import Derived.WideKeyRuns

/- Abstract values and heaps, and how they stand for the model's values and worlds. -/
namespace Go.Abs
open Go

/-- A place: which block, which state of it, which cell. -/
structure Ref where
  id : Nat
  ver : Nat
  off : Nat
  deriving DecidableEq

/-- A slice's capacity: known, or open (elements of so many cells each). -/
inductive Cap where
  | ex (c : Nat)
  | op (es : Nat)
  deriving DecidableEq

inductive AVal where
  | undef
  | bool (b : Bool)
  | int (k : IntKind) (n : Int)
  | float (k : FloatKind) (bits : Nat)
  | cplx (k : FloatKind) (re im : Nat)
  | str (s : List UInt8)
  | nilp
  | ptr (r : Ref)
  | nils
  | slice (r : Ref) (len : Nat) (cap : Cap)
  | nilm
  | map (id : Nat)
  | func (fn : Fn) (first captured : List AVal)
  | nilf
  | iface (t : TypeId) (v : AVal)
  | nili
  | agg (cs : List AVal)
  | tup (vs : List AVal)
  deriving Inhabited

/-- ro: came in, may be looked at alone; exact: as many cells as told; opn: there may be more behind. -/
inductive Kd where
  | ro | exact | opn
  deriving DecidableEq

inductive AObj where
  | cells (ver : Nat) (kd : Kd) (cs : List AVal)
  | map (ver : Nat) (es : List (AVal × AVal))
  | strIter (s : List UInt8) (pos : Nat)
  | mapIter (mp : Option (Nat × Nat)) (left : List (AVal × AVal)) (cur : Option (AVal × AVal))

abbrev AHeap := List AObj

def AObj.ver : AObj → Nat
  | .cells v _ _ => v
  | .map v _ => v
  | _ => 0
def AObj.own : AObj → Bool
  | .cells _ .ro _ => false

  | _ => true
def AObj.opn : AObj → Bool
  | .cells _ .opn _ => true
  | _ => false

def verOf (H : AHeap) (i : Nat) : Nat := ((H[i]?).map AObj.ver).getD 0
def ownAt (H : AHeap) (i : Nat) : Bool := ((H[i]?).map AObj.own).getD false
def opnAt (H : AHeap) (i : Nat) : Bool := ((H[i]?).map AObj.opn).getD false

/-- The model's side: which block stands for which, how many cells it truly has, which ones count. -/
structure Env where
  m : Nat → Nat
  sz : Nat → Nat
  S : Nat → Prop
  H : AHeap

def RelRef (E : Env) (r : Ref) (a : Addr) : Prop :=
  E.S r.id ∧ r.id < E.H.length ∧ r.ver ≤ verOf E.H r.id ∧ (r.ver = verOf E.H r.id → a = ⟨E.m r.id, r.off, none⟩)

def RelSl (E : Env) (r : Ref) (len : Nat) (cap : Cap) (a : Addr) (c : Nat) : Prop :=
  E.S r.id ∧ r.id < E.H.length ∧ r.ver ≤ verOf E.H r.id ∧
  (r.ver = verOf E.H r.id →
    match cap with
    | .ex k => a = ⟨E.m r.id, r.off, none⟩ ∧ c = k
    | .op es => a.block = E.m r.id ∧ a.spot = none ∧ len ≤ c ∧
      ((a.off = r.off ∧ (opnAt E.H r.id = true → r.off + c * es = E.sz r.id)) ∨ (len = 0 ∧ c = 0 ∧ (opnAt E.H r.id = true → E.sz r.id = r.off))))

def isMapAt (H : AHeap) (i : Nat) : Bool := match H[i]? with | some (.map _ _) => true | _ => false
def RelMp (E : Env) (i b : Nat) : Prop := E.S i ∧ i < E.H.length ∧ isMapAt E.H i = true ∧ b = E.m i

mutual
def RelG (RP : Ref → Addr → Prop) (RS : Ref → Nat → Cap → Addr → Nat → Prop) (RM : Nat → Nat → Prop) : AVal → Value → Prop
  | .undef, _ => True
  | .bool b, v => v = .bool b
  | .int k n, v => v = .int k n
  | .float k n, v => v = .float k n
  | .cplx k a b, v => v = .complex k a b
  | .str s, v => v = .string ⟨s.toArray⟩
  | .nilp, v => v = .pointer none
  | .ptr r, v => ∃ a, v = .pointer (some a) ∧ RP r a
  | .nils, v => v = .slice none 0 0
  | .slice r len cap, v => ∃ a c, v = .slice (some a) len c ∧ RS r len cap a c
  | .nilm, v => v = .map none
  | .map i, v => ∃ b, v = .map (some b) ∧ RM i b
  | .func fn f c, v => ∃ f' c' : List Value, v = .func fn f'.toArray c'.toArray ∧ RelGL RP RS RM f f' ∧ RelGL RP RS RM c c'
  | .nilf, v => v = .nilFunc
  | .iface t x, v => ∃ y, v = .iface t y ∧ RelG RP RS RM x y
  | .nili, v => v = .nilIface
  | .agg cs, v => ∃ l : List Value, v = .agg l.toArray ∧ RelGL RP RS RM cs l
  | .tup cs, v => ∃ l : List Value, v = .tuple l.toArray ∧ RelGL RP RS RM cs l
def RelGL (RP : Ref → Addr → Prop) (RS : Ref → Nat → Cap → Addr → Nat → Prop) (RM : Nat → Nat → Prop) : List AVal → List Value → Prop
  | [], l => l = []
  | x :: xs, l => ∃ y ys, l = y :: ys ∧ RelG RP RS RM x y ∧ RelGL RP RS RM xs ys
end

abbrev RelV (E : Env) : AVal → Value → Prop := RelG (RelRef E) (RelSl E) (RelMp E)
abbrev RelL (E : Env) : List AVal → List Value → Prop := RelGL (RelRef E) (RelSl E) (RelMp E)

section mono
variable {RP RP' : Ref → Addr → Prop} {RS RS' : Ref → Nat → Cap → Addr → Nat → Prop} {RM RM' : Nat → Nat → Prop}
mutual
theorem RelG.mono (hp : ∀ r a, RP r a → RP' r a) (hs : ∀ r n c a k, RS r n c a k → RS' r n c a k) (hm : ∀ i b, RM i b → RM' i b) :
    ∀ (x : AVal) (v : Value), RelG RP RS RM x v → RelG RP' RS' RM' x v
  | .undef, _, _ => by simp only [RelG]
  | .bool _, _, h => by simpa only [RelG] using h
  | .int _ _, _, h => by simpa only [RelG] using h
  | .float _ _, _, h => by simpa only [RelG] using h
  | .cplx _ _ _, _, h => by simpa only [RelG] using h
  | .str _, _, h => by simpa only [RelG] using h
  | .nilp, _, h => by simpa only [RelG] using h
  | .ptr r, _, h => by simp only [RelG] at h ⊢; obtain ⟨a, h1, h2⟩ := h; exact ⟨a, h1, hp _ _ h2⟩
  | .nils, _, h => by simpa only [RelG] using h
  | .slice r n c, _, h => by simp only [RelG] at h ⊢; obtain ⟨a, k, h1, h2⟩ := h; exact ⟨a, k, h1, hs _ _ _ _ _ h2⟩
  | .nilm, _, h => by simpa only [RelG] using h
  | .map i, _, h => by simp only [RelG] at h ⊢; obtain ⟨a, h1, h2⟩ := h; exact ⟨a, h1, hm _ _ h2⟩
  | .func _ f c, _, h => by
    simp only [RelG] at h ⊢; obtain ⟨f', c', h1, h2, h3⟩ := h
    exact ⟨f', c', h1, RelGL.mono hp hs hm f f' h2, RelGL.mono hp hs hm c c' h3⟩
  | .nilf, _, h => by simpa only [RelG] using h
  | .iface _ x, _, h => by simp only [RelG] at h ⊢; obtain ⟨y, h1, h2⟩ := h; exact ⟨y, h1, RelG.mono hp hs hm x y h2⟩
  | .nili, _, h => by simpa only [RelG] using h
  | .agg cs, _, h => by simp only [RelG] at h ⊢; obtain ⟨l, h1, h2⟩ := h; exact ⟨l, h1, RelGL.mono hp hs hm cs l h2⟩
  | .tup cs, _, h => by simp only [RelG] at h ⊢; obtain ⟨l, h1, h2⟩ := h; exact ⟨l, h1, RelGL.mono hp hs hm cs l h2⟩
theorem RelGL.mono (hp : ∀ r a, RP r a → RP' r a) (hs : ∀ r n c a k, RS r n c a k → RS' r n c a k) (hm : ∀ i b, RM i b → RM' i b) :
    ∀ (xs : List AVal) (l : List Value), RelGL RP RS RM xs l → RelGL RP' RS' RM' xs l
  | [], _, h => by simpa only [RelGL] using h
  | x :: xs, _, h => by
    simp only [RelGL] at h ⊢; obtain ⟨y, ys, h1, h2, h3⟩ := h
    exact ⟨y, ys, h1, RelG.mono hp hs hm x y h2, RelGL.mono hp hs hm xs ys h3⟩
end
end mono

section lists
variable {RP : Ref → Addr → Prop} {RS : Ref → Nat → Cap → Addr → Nat → Prop} {RM : Nat → Nat → Prop}
theorem RelGL.length : ∀ {xs : List AVal} {l : List Value}, RelGL RP RS RM xs l → xs.length = l.length
  | [], _, h => by simp only [RelGL] at h; subst h; rfl
  | x :: xs, _, h => by
    simp only [RelGL] at h; obtain ⟨y, ys, rfl, _, h3⟩ := h
    simp [RelGL.length h3]
theorem RelGL.nil : RelGL RP RS RM [] [] := by simp only [RelGL]
theorem RelGL.cons {x : AVal} {xs : List AVal} {y : Value} {ys : List Value} (h : RelG RP RS RM x y) (h' : RelGL RP RS RM xs ys) :
    RelGL RP RS RM (x :: xs) (y :: ys) := by
  simp only [RelGL]; exact ⟨y, ys, rfl, h, h'⟩
theorem RelGL.cons_iff {x : AVal} {xs : List AVal} {y : Value} {ys : List Value} :
    RelGL RP RS RM (x :: xs) (y :: ys) ↔ RelG RP RS RM x y ∧ RelGL RP RS RM xs ys := by
  simp only [RelGL]; constructor
  · rintro ⟨_, _, h, h1, h2⟩; cases h; exact ⟨h1, h2⟩
  · rintro ⟨h1, h2⟩; exact ⟨_, _, rfl, h1, h2⟩
theorem RelGL.append {xs ys : List AVal} {l k : List Value} (h : RelGL RP RS RM xs l) (h' : RelGL RP RS RM ys k) :
    RelGL RP RS RM (xs ++ ys) (l ++ k) := by
  induction xs generalizing l with
  | nil => simp only [RelGL] at h; subst h; simpa using h'
  | cons x xs ih => simp only [RelGL] at h; obtain ⟨y, ys', rfl, h2, h3⟩ := h; exact RelGL.cons h2 (ih h3)
theorem RelGL.get {xs : List AVal} {l : List Value} (h : RelGL RP RS RM xs l) {i : Nat} {x : AVal} (hx : xs[i]? = some x) :
    ∃ y, l[i]? = some y ∧ RelG RP RS RM x y := by
  induction xs generalizing l i with
  | nil => simp at hx
  | cons z xs ih =>
    simp only [RelGL] at h; obtain ⟨y, ys, rfl, h2, h3⟩ := h
    cases i with
    | zero => simp at hx; subst hx; exact ⟨y, by simp, h2⟩
    | succ i => simp at hx; obtain ⟨y', hy, hr⟩ := ih h3 hx; exact ⟨y', by simpa using hy, hr⟩
theorem RelGL.getD {xs : List AVal} {l : List Value} (h : RelGL RP RS RM xs l) (i : Nat) (d : Value) :
    RelG RP RS RM (xs.getD i .undef) (l.getD i d) := by
  cases hx : xs[i]? with
  | none => simp only [List.getD, hx, Option.getD, RelG]
  | some x =>
    obtain ⟨y, hy, hr⟩ := h.get hx
    simpa only [List.getD, hx, hy, Option.getD] using hr
theorem RelGL.take {xs : List AVal} {l : List Value} (h : RelGL RP RS RM xs l) (n : Nat) : RelGL RP RS RM (xs.take n) (l.take n) := by
  induction xs generalizing l n with
  | nil => simp only [RelGL] at h; subst h; simp [RelGL]
  | cons z xs ih =>
    simp only [RelGL] at h; obtain ⟨y, ys, rfl, h2, h3⟩ := h
    cases n with
    | zero => simp [RelGL]
    | succ n => simpa using RelGL.cons h2 (ih h3 n)
theorem RelGL.drop {xs : List AVal} {l : List Value} (h : RelGL RP RS RM xs l) (n : Nat) : RelGL RP RS RM (xs.drop n) (l.drop n) := by
  induction xs generalizing l n with
  | nil => simp only [RelGL] at h; subst h; simp [RelGL]
  | cons z xs ih =>
    simp only [RelGL] at h; obtain ⟨y, ys, rfl, h2, h3⟩ := h
    cases n with
    | zero => simpa using RelGL.cons h2 h3
    | succ n => simpa using ih h3 n
theorem RelGL.set {xs : List AVal} {l : List Value} (h : RelGL RP RS RM xs l) (i : Nat) {x : AVal} {y : Value} (hx : RelG RP RS RM x y) :
    RelGL RP RS RM (xs.set i x) (l.set i y) := by
  induction xs generalizing l i with
  | nil => simp only [RelGL] at h; subst h; simp [RelGL]
  | cons z xs ih =>
    simp only [RelGL] at h; obtain ⟨y', ys, rfl, h2, h3⟩ := h
    cases i with
    | zero => simpa using RelGL.cons hx h3
    | succ i => simpa using RelGL.cons h2 (ih h3 i)
theorem RelGL.replicate_undef (n : Nat) (l : List Value) (h : l.length = n) : RelGL RP RS RM (List.replicate n .undef) l := by
  induction n generalizing l with
  | zero => simp at h; subst h; simp [RelGL]
  | succ n ih =>
    cases l with
    | nil => simp at h
    | cons y ys => simp only [List.replicate_succ]; exact RelGL.cons (by simp only [RelG]) (ih ys (by simpa using h))
end lists

/-- The cells of a value. -/
def AVal.cells : AVal → List AVal
  | .agg cs => cs
  | v => [v]

end Go.Abs

/- How an abstract heap stands for a world; steps from one such pair to the next. -/
namespace Go.Abs
open Go


def RelCells (E : Env) (w : World) (i : Nat) (kd : Kd) (cs : List AVal) : Prop :=
  ∃ (c : Array Value) (e : TypeId) (fz : Nat × Nat), w.heap[E.m i]? = some (.cells c e fz) ∧ c.size = E.sz i ∧
    RelL E cs (c.toList.take cs.length) ∧ cs.length ≤ c.size ∧ (kd = .exact → cs.length = c.size) ∧ (kd ≠ .ro → fz.1 = fz.2 ∨ c.size ≤ fz.1)

def StampsOk (ents : Array MapEntry) (clock : Nat) : Prop :=
  (ents.toList.map (·.born)).Pairwise (· < ·) ∧ ∀ e ∈ ents.toList, e.born < clock

def RelMapObj (E : Env) (w : World) (i : Nat) (es : List (AVal × AVal)) : Prop :=
  ∃ (ents : Array MapEntry) (clock : Nat), w.heap[E.m i]? = some (.map ents clock) ∧ StampsOk ents clock ∧
    RelL E (es.map (·.1)) (ents.toList.map (·.key)) ∧ RelL E (es.map (·.2)) (ents.toList.map (·.val))

/-- The entry at which a range stands. -/
def CurOk (E : Env) (ents : Array MapEntry) (seen : Array Nat) : Option (AVal × AVal) → Prop
  | none => True
  | some c => ∃ e, e ∈ ents.toList ∧ seen.back? = some e.born ∧ RelV E c.1 e.key ∧ RelV E c.2 e.val

def RelIter (E : Env) (w : World) (i : Nat) (mp : Option (Nat × Nat)) (left : List (AVal × AVal)) (cur : Option (AVal × AVal)) : Prop :=
  match mp with
  | none => left = [] ∧ ∃ since seen stepped, w.heap[E.m i]? = some (.mapIter none since seen stepped)
  | some (j, v) => E.S j ∧ j < E.H.length ∧ isMapAt E.H j = true ∧ v ≤ verOf E.H j ∧
    ∃ (since : Nat) (seen : Array Nat), w.heap[E.m i]? = some (.mapIter (some (E.m j)) since seen since) ∧
      (v = verOf E.H j → ∃ ents : Array MapEntry, w.heap[E.m j]? = some (.map ents since) ∧ StampsOk ents since ∧
        RelL E (left.map (·.1)) ((ents.toList.filter fun e => !seen.contains e.born).map (·.key)) ∧
        RelL E (left.map (·.2)) ((ents.toList.filter fun e => !seen.contains e.born).map (·.val)) ∧ CurOk E ents seen cur)

def RelObj (E : Env) (w : World) (i : Nat) : AObj → Prop
  | .cells _ kd cs => RelCells E w i kd cs
  | .map _ es => RelMapObj E w i es
  | .strIter s pos => w.heap[E.m i]? = some (.stringIter ⟨s.toArray⟩ pos)
  | .mapIter mp left cur => RelIter E w i mp left cur

structure RelW (E : Env) (w : World) : Prop where
  obj : ∀ i o, E.S i → E.H[i]? = some o → RelObj E w i o
  inj : ∀ i j, E.S i → E.S j → i < E.H.length → j < E.H.length → ownAt E.H i = true → i ≠ j → E.m i ≠ E.m j

structure Sub (E : Env) (w : World) (E' : Env) (w' : World) : Prop where
  len : E.H.length ≤ E'.H.length
  ver : ∀ i, i < E.H.length → E.S i → verOf E.H i ≤ verOf E'.H i
  mp : ∀ i, i < E.H.length → E.S i → isMapAt E.H i = true → isMapAt E'.H i = true ∧ E'.m i = E.m i ∧ (verOf E.H i = verOf E'.H i → w'.heap[E.m i]? = w.heap[E.m i]?)
  same : ∀ i, i < E.H.length → E.S i → verOf E.H i = verOf E'.H i → E'.m i = E.m i ∧ E'.sz i = E.sz i ∧ (opnAt E'.H i = true → opnAt E.H i = true)
  S : ∀ i, i < E.H.length → E.S i → E'.S i

structure Ext0 (E : Env) (w : World) (E' : Env) (w' : World) : Prop extends Sub E w E' w' where
  own : ∀ i, i < E.H.length → E.S i → ownAt E'.H i = ownAt E.H i
  fresh : ∀ i, i < E'.H.length → E'.S i → (i < E.H.length ∧ E.S i ∧ E'.m i = E.m i) ∨ w.heap.size ≤ E'.m i
  tape : w'.tape = w.tape
  os : w'.os = w.os
  output : w'.output = w.output
  size : w.heap.size ≤ w'.heap.size
  frame : ∀ k, k < w.heap.size → (∀ i, i < E.H.length → E.S i → ownAt E.H i = true → E.m i ≠ k) → w'.heap[k]? = w.heap[k]?

/-- .. and nothing else is new, and all that is new counts. -/
structure Ext (E : Env) (w : World) (E' : Env) (w' : World) : Prop extends Ext0 E w E' w' where
  news : ∀ i, E'.S i → i < E'.H.length → (i < E.H.length ∧ E.S i) ∨ E.H.length ≤ i
  full : ∀ i, E.H.length ≤ i → i < E'.H.length → E'.S i

theorem Ext0.refl (E : Env) (w : World) : Ext0 E w E w :=
  ⟨⟨Nat.le_refl _, fun _ _ _ => Nat.le_refl _, fun _ _ _ h => ⟨h, rfl, fun _ => rfl⟩, fun _ _ _ _ => ⟨rfl, rfl, id⟩, fun _ _ h => h⟩, fun _ _ _ => rfl,
   fun _ h h' => .inl ⟨h, h', rfl⟩, rfl, rfl, rfl, Nat.le_refl _, fun _ _ _ => rfl⟩
theorem Ext.refl (E : Env) (w : World) : Ext E w E w := ⟨Ext0.refl E w, fun _ h h' => .inl ⟨h', h⟩, fun _ h h' => by omega⟩

theorem Ext0.trans {E E1 E2 : Env} {w w1 w2 : World} (h : Ext0 E w E1 w1) (k : Ext0 E1 w1 E2 w2) : Ext0 E w E2 w2 where
  len := Nat.le_trans h.len k.len
  ver i hi hs := Nat.le_trans (h.ver i hi hs) (k.ver i (Nat.lt_of_lt_of_le hi h.len) (h.S i hi hs))
  own i hi hs := (k.own i (Nat.lt_of_lt_of_le hi h.len) (h.S i hi hs)).trans (h.own i hi hs)
  mp i hi hs hm := by
    obtain ⟨a, b, e⟩ := h.mp i hi hs hm
    obtain ⟨c, d, f⟩ := k.mp i (Nat.lt_of_lt_of_le hi h.len) (h.S i hi hs) a
    have h1 := h.ver i hi hs
    have h2 := k.ver i (Nat.lt_of_lt_of_le hi h.len) (h.S i hi hs)
    exact ⟨c, d.trans b, fun hv => by rw [← e (by omega), ← b]; exact f (by omega)⟩
  same i hi hs hv := by
    have h1 := h.ver i hi hs
    have h2 := k.ver i (Nat.lt_of_lt_of_le hi h.len) (h.S i hi hs)
    obtain ⟨a, b, c⟩ := h.same i hi hs (by omega)
    obtain ⟨a', b', c'⟩ := k.same i (Nat.lt_of_lt_of_le hi h.len) (h.S i hi hs) (by omega)
    exact ⟨a'.trans a, b'.trans b, fun x => c (c' x)⟩
  S i hi hs := k.S i (Nat.lt_of_lt_of_le hi h.len) (h.S i hi hs)
  fresh i hi hs := by
    rcases k.fresh i hi hs with ⟨a, b, c⟩ | c
    · rcases h.fresh i a b with ⟨a', b', c'⟩ | c'
      · exact .inl ⟨a', b', c.trans c'⟩
      · exact .inr (by rw [c]; exact c')
    · exact .inr (Nat.le_trans h.size c)
  tape := k.tape.trans h.tape
  os := k.os.trans h.os
  output := k.output.trans h.output
  size := Nat.le_trans h.size k.size
  frame r hr hne := by
    rw [k.frame r (Nat.lt_of_lt_of_le hr h.size) ?_, h.frame r hr hne]
    intro i hi hs ho
    rcases h.fresh i hi hs with ⟨a, b, c⟩ | c
    · rw [c]; exact hne i a b (by rw [← h.own i a b]; exact ho)
    · omega

theorem Ext.trans {E E1 E2 : Env} {w w1 w2 : World} (h : Ext E w E1 w1) (k : Ext E1 w1 E2 w2) : Ext E w E2 w2 where
  toExt0 := h.toExt0.trans k.toExt0
  news i hs hi := by
    rcases k.news i hs hi with ⟨a, b⟩ | a
    · exact h.news i b a
    · exact .inr (Nat.le_trans h.len a)
  full i h1 h2 := by
    by_cases hi : i < E1.H.length
    · exact k.S i hi (h.full i h1 hi)
    · exact k.full i (by omega) h2

section ext
variable {E E' : Env} {w w' : World}
theorem RelRef.ext0 (x : Sub E w E' w') {r : Ref} {a : Addr} (h : RelRef E r a) : RelRef E' r a := by
  obtain ⟨h1, h2, h3, h4⟩ := h
  refine ⟨x.S _ h2 h1, Nat.lt_of_lt_of_le h2 x.len, Nat.le_trans h3 (x.ver _ h2 h1), fun hv => ?_⟩
  have := x.ver _ h2 h1
  have e : r.ver = verOf E.H r.id := by omega
  rw [h4 e, (x.same _ h2 h1 (by omega)).1]
theorem RelSl.ext0 (x : Sub E w E' w') {r : Ref} {n : Nat} {cp : Cap} {a : Addr} {c : Nat}
    (h : RelSl E r n cp a c) : RelSl E' r n cp a c := by
  obtain ⟨h1, h2, h3, h4⟩ := h
  refine ⟨x.S _ h2 h1, Nat.lt_of_lt_of_le h2 x.len, Nat.le_trans h3 (x.ver _ h2 h1), fun hv => ?_⟩
  have := x.ver _ h2 h1
  have e : r.ver = verOf E.H r.id := by omega
  obtain ⟨s1, s2, s3⟩ := x.same _ h2 h1 (by omega)
  have h4 := h4 e
  cases cp with
  | ex k => simp only [s1] at h4 ⊢; exact h4
  | op es =>
    simp only [s1, s2] at h4 ⊢
    obtain ⟨a1, a2, a3, a4⟩ := h4
    exact ⟨a1, a2, a3, a4.imp (fun ⟨y, z⟩ => ⟨y, fun ho => z (s3 ho)⟩) (fun ⟨y, y', z⟩ => ⟨y, y', fun ho => z (s3 ho)⟩)⟩
theorem RelMp.ext0 (x : Sub E w E' w') {i b : Nat} (h : RelMp E i b) : RelMp E' i b := by
  obtain ⟨h1, h2, h3, h4⟩ := h
  obtain ⟨a, c, _⟩ := x.mp i h2 h1 h3
  exact ⟨x.S _ h2 h1, Nat.lt_of_lt_of_le h2 x.len, a, by rw [c]; exact h4⟩
theorem RelV.ext0 (x : Sub E w E' w') {v : AVal} {u : Value} (h : RelV E v u) : RelV E' v u :=
  RelG.mono (fun _ _ => RelRef.ext0 x) (fun _ _ _ _ _ => RelSl.ext0 x) (fun _ _ => RelMp.ext0 x) v u h
theorem RelL.ext0 (x : Sub E w E' w') {v : List AVal} {u : List Value} (h : RelL E v u) : RelL E' v u :=
  RelGL.mono (fun _ _ => RelRef.ext0 x) (fun _ _ _ _ _ => RelSl.ext0 x) (fun _ _ => RelMp.ext0 x) v u h

theorem RelObj.ext0 (x : Sub E w E' w') {i : Nat} {o : AObj} (hm : E'.m i = E.m i) (hs : E'.sz i = E.sz i)
    (hb : w'.heap[E.m i]? = w.heap[E.m i]?) (h : RelObj E w i o) : RelObj E' w' i o := by
  cases o with
  | cells v kd cs =>
    obtain ⟨c, e, fz, h1, h2, h3, h4, h5, h6⟩ := h
    exact ⟨c, e, fz, by rw [hm, hb]; exact h1, by rw [hs]; exact h2, RelL.ext0 x h3, h4, h5, h6⟩
  | map v es =>
    obtain ⟨ents, clock, h1, h2, h3, h4⟩ := h
    exact ⟨ents, clock, by rw [hm, hb]; exact h1, h2, RelL.ext0 x h3, RelL.ext0 x h4⟩
  | strIter s pos => show _ = _; rw [hm, hb]; exact h
  | mapIter mp left cur =>
    cases mp with
    | none =>
      obtain ⟨h0, a, b, c, h1⟩ := h
      exact ⟨h0, a, b, c, by rw [hm, hb]; exact h1⟩
    | some jv =>
      obtain ⟨j, v⟩ := jv
      obtain ⟨h1, h2, h3, h4, since, seen, h5, h6⟩ := h
      obtain ⟨a, c, d⟩ := x.mp j h2 h1 h3
      have hv := x.ver j h2 h1
      refine ⟨x.S _ h2 h1, Nat.lt_of_lt_of_le h2 x.len, a, Nat.le_trans h4 hv, since, seen, by rw [hm, hb, c]; exact h5, fun e => ?_⟩
      obtain ⟨ents, g1, g2, g3, g4, g5⟩ := h6 (by omega)
      refine ⟨ents, by rw [c, d (by omega)]; exact g1, g2, RelL.ext0 x g3, RelL.ext0 x g4, ?_⟩
      cases cur with
      | none => trivial
      | some c => obtain ⟨e, k1, k2, k3, k4⟩ := g5; exact ⟨e, k1, k2, RelV.ext0 x k3, RelV.ext0 x k4⟩
theorem RelSl.ext (x : Ext E w E' w') {r : Ref} {n : Nat} {cp : Cap} {a : Addr} {c : Nat} (h : RelSl E r n cp a c) : RelSl E' r n cp a c := RelSl.ext0 x.toExt0.toSub h
theorem RelV.ext (x : Ext E w E' w') {v : AVal} {u : Value} (h : RelV E v u) : RelV E' v u := RelV.ext0 x.toExt0.toSub h
theorem RelL.ext (x : Ext E w E' w') {v : List AVal} {u : List Value} (h : RelL E v u) : RelL E' v u := RelL.ext0 x.toExt0.toSub h
theorem RelObj.ext (x : Ext E w E' w') {i : Nat} {o : AObj} (hm : E'.m i = E.m i) (hs : E'.sz i = E.sz i)
    (hb : w'.heap[E.m i]? = w.heap[E.m i]?) (h : RelObj E w i o) : RelObj E' w' i o := RelObj.ext0 x.toExt0.toSub hm hs hb h
end ext

theorem RelObj.lt {E : Env} {w : World} {i : Nat} {o : AObj} (h : RelObj E w i o) : E.m i < w.heap.size := by
  have key : ∀ {b : Obj}, w.heap[E.m i]? = some b → E.m i < w.heap.size := fun hb => (Array.getElem?_eq_some_iff.1 hb).1
  cases o with
  | cells v kd cs => obtain ⟨c, e, fz, h1, _⟩ := h; exact key h1
  | map v es => obtain ⟨ents, clock, h1, _⟩ := h; exact key h1
  | strIter s pos => exact key h
  | mapIter mp left cur =>
    cases mp with
    | none => obtain ⟨_, a, b, c, h1⟩ := h; exact key h1
    | some jv => obtain ⟨_, _, _, _, since, seen, h5, _⟩ := h; exact key h5
theorem RelW.lt {E : Env} {w : World} (h : RelW E w) {i : Nat} (hs : E.S i) (hi : i < E.H.length) : E.m i < w.heap.size :=
  (h.obj i E.H[i] hs (List.getElem?_eq_getElem hi)).lt

/-- A new object. -/
def Env.push (E : Env) (o : AObj) (b n : Nat) : Env where
  m := fun i => if i = E.H.length then b else E.m i
  sz := fun i => if i = E.H.length then n else E.sz i
  S := fun i => (E.S i ∧ i < E.H.length) ∨ i = E.H.length
  H := E.H ++ [o]

theorem verOf_append {H K : AHeap} {i : Nat} (h : i < H.length) : verOf (H ++ K) i = verOf H i := by
  simp [verOf, List.getElem?_append_left h]
theorem ownAt_append {H K : AHeap} {i : Nat} (h : i < H.length) : ownAt (H ++ K) i = ownAt H i := by
  simp [ownAt, List.getElem?_append_left h]
theorem opnAt_append {H K : AHeap} {i : Nat} (h : i < H.length) : opnAt (H ++ K) i = opnAt H i := by
  simp [opnAt, List.getElem?_append_left h]
theorem isMapAt_append {H K : AHeap} {i : Nat} (h : i < H.length) : isMapAt (H ++ K) i = isMapAt H i := by
  simp [isMapAt, List.getElem?_append_left h]

theorem ext_new {E : Env} {w w' : World} {ob : Obj} (h : RelW E w) (o : AObj) (n : Nat) (hh : w'.heap = w.heap.push ob)
    (ht : w'.tape = w.tape) (ho : w'.os = w.os) (hp : w'.output = w.output) : Ext E w (E.push o w.heap.size n) w' := by
  have old : ∀ k, k < w.heap.size → w'.heap[k]? = w.heap[k]? := fun k hk => by rw [hh, Array.getElem?_push, if_neg (by omega)]
  refine ⟨⟨⟨by simp [Env.push], fun i hi _ => ?_, fun i hi hs hmp => ?_, fun i hi _ _ => ?_, fun i hi hs => .inl ⟨hs, hi⟩⟩, fun i hi _ => ?_, fun i hi hs => ?_, ht, ho, hp, by simp [hh], fun k hk _ => old k hk⟩, fun i hs hi => ?_, fun i h1 h2 => .inr (by simp [Env.push] at h2; omega)⟩
  · simp only [Env.push, verOf_append hi]; exact Nat.le_refl _
  · refine ⟨by simpa only [Env.push, isMapAt_append hi] using hmp, by simp only [Env.push]; rw [if_neg (by omega)], fun _ => old _ (h.lt hs hi)⟩
  · simp only [Env.push, opnAt_append hi]
    rw [if_neg (by omega), if_neg (by omega)]; exact ⟨rfl, rfl, id⟩
  · simp only [Env.push, ownAt_append hi]
  · rcases hs with ⟨a, b⟩ | a
    · exact .inl ⟨b, a, by simp only [Env.push]; rw [if_neg (by omega)]⟩
    · right; simp only [Env.push]; rw [if_pos a]; exact Nat.le_refl _
  · rcases hs with ⟨a, b⟩ | a
    · exact .inl ⟨b, a⟩
    · right; omega

theorem rel_new {E : Env} {w w' : World} {ob : Obj} (h : RelW E w) (o : AObj) (n : Nat) (hh : w'.heap = w.heap.push ob)
    (ht : w'.tape = w.tape) (ho : w'.os = w.os) (hp : w'.output = w.output)
    (hobj : RelObj (E.push o w.heap.size n) w' E.H.length o) : RelW (E.push o w.heap.size n) w' := by
  have x := ext_new (E := E) h o n hh ht ho hp
  have old : ∀ k, k < w.heap.size → w'.heap[k]? = w.heap[k]? := fun k hk => by rw [hh, Array.getElem?_push, if_neg (by omega)]
  have mold : ∀ i, i < E.H.length → (E.push o w.heap.size n).m i = E.m i := fun i hi => by simp only [Env.push]; rw [if_neg (by omega)]
  have mnew : (E.push o w.heap.size n).m E.H.length = w.heap.size := by simp [Env.push]
  have len : (E.push o w.heap.size n).H.length = E.H.length + 1 := by simp [Env.push]
  refine ⟨fun i o' hs ho' => ?_, fun i j hsi hsj hi hj how hne => ?_⟩
  · rcases hs with ⟨a, b⟩ | a
    · have ho' : (E.H ++ [o])[i]? = some o' := ho'
      rw [List.getElem?_append_left b] at ho'
      exact (h.obj i o' a ho').ext x (mold i b) (by simp only [Env.push]; rw [if_neg (by omega)]) (old _ (h.lt a b))
    · subst a
      have ho' : (E.H ++ [o])[E.H.length]? = some o' := ho'
      simp at ho'; subst ho'; exact hobj
  · rcases hsi with ⟨a, b⟩ | a <;> rcases hsj with ⟨a', b'⟩ | a'
    · rw [mold i b, mold j b']
      exact h.inj i j a a' b b' (by simpa only [Env.push, ownAt_append b] using how) hne
    · subst a'; rw [mold i b, mnew]; have := h.lt a b; omega
    · subst a; rw [mold j b', mnew]; have := h.lt a' b'; omega
    · omega

/-- An object of one's own is written. -/
def Env.put (E : Env) (i : Nat) (o : AObj) : Env := { E with H := E.H.set i o }

theorem verOf_set_ne {H : AHeap} {i j : Nat} {o : AObj} (h : i ≠ j) : verOf (H.set i o) j = verOf H j := by
  simp [verOf, List.getElem?_set_ne h]
theorem ownAt_set_ne {H : AHeap} {i j : Nat} {o : AObj} (h : i ≠ j) : ownAt (H.set i o) j = ownAt H j := by
  simp [ownAt, List.getElem?_set_ne h]
theorem opnAt_set_ne {H : AHeap} {i j : Nat} {o : AObj} (h : i ≠ j) : opnAt (H.set i o) j = opnAt H j := by
  simp [opnAt, List.getElem?_set_ne h]
theorem isMapAt_set_ne {H : AHeap} {i j : Nat} {o : AObj} (h : i ≠ j) : isMapAt (H.set i o) j = isMapAt H j := by
  simp [isMapAt, List.getElem?_set_ne h]
theorem verOf_some {H : AHeap} {i : Nat} {o : AObj} (h : H[i]? = some o) : verOf H i = o.ver := by simp [verOf, h]
theorem ownAt_some {H : AHeap} {i : Nat} {o : AObj} (h : H[i]? = some o) : ownAt H i = o.own := by simp [ownAt, h]
theorem opnAt_some {H : AHeap} {i : Nat} {o : AObj} (h : H[i]? = some o) : opnAt H i = o.opn := by simp [opnAt, h]
def AObj.isMap : AObj → Bool | .map _ _ => true | _ => false
theorem isMapAt_some {H : AHeap} {i : Nat} {o : AObj} (h : H[i]? = some o) : isMapAt H i = o.isMap := by
  unfold isMapAt; rw [h]; cases o <;> rfl
theorem lt_of_some {H : AHeap} {i : Nat} {o : AObj} (h : H[i]? = some o) : i < H.length := (List.getElem?_eq_some_iff.1 h).1
theorem set_get {H : AHeap} {i : Nat} {o o0 : AObj} (h : H[i]? = some o0) : (H.set i o)[i]? = some o := by
  rw [List.getElem?_set_self (lt_of_some h)]

/-- What may take an object's place. -/
structure Follows (o0 o : AObj) : Prop where
  own0 : o0.own = true
  own : o.own = true
  ver : o0.ver ≤ o.ver
  opn : o0.ver = o.ver → o.opn = true → o0.opn = true
  map : o0.isMap = true → o.isMap = true ∧ o0.ver < o.ver

theorem ext_put {E : Env} {w w' : World} {i : Nat} {o0 o : AObj} (hs : E.S i) (h0 : E.H[i]? = some o0) (f : Follows o0 o)
    (hsz : w'.heap.size = w.heap.size) (hk : ∀ k, k ≠ E.m i → w'.heap[k]? = w.heap[k]?)
    (hinj : ∀ j, E.S j → j < E.H.length → i ≠ j → E.m i ≠ E.m j)
    (ht : w'.tape = w.tape) (ho : w'.os = w.os) (hp : w'.output = w.output) : Ext E w (E.put i o) w' := by
  have h1 : (E.put i o).H[i]? = some o := set_get h0
  refine ⟨⟨⟨by simp [Env.put], fun j hj hsj => ?_, fun j hj hsj hmp => ?_, fun j hj hsj hv => ⟨rfl, rfl, fun hop => ?_⟩, fun _ _ h => h⟩, fun j hj hsj => ?_,
    fun j hj hsj => .inl ⟨by simpa [Env.put] using hj, hsj, rfl⟩, ht, ho, hp, by omega, fun k hkl hne => ?_⟩, fun j hsj hj => .inl ⟨by simpa [Env.put] using hj, hsj⟩, fun j h1 h2 => by simp [Env.put] at h2; omega⟩
  · by_cases e : i = j
    · subst e; rw [verOf_some h0, verOf_some h1]; exact f.ver
    · simp only [Env.put, verOf_set_ne e]; exact Nat.le_refl _
  · by_cases e : i = j
    · subst e
      rw [isMapAt_some h0] at hmp
      obtain ⟨a, b⟩ := f.map hmp
      refine ⟨by rw [isMapAt_some h1]; exact a, rfl, fun hv => ?_⟩
      rw [verOf_some h0, verOf_some h1] at hv; omega
    · refine ⟨by simpa only [Env.put, isMapAt_set_ne e] using hmp, rfl, fun _ => hk _ ?_⟩
      exact fun e' => hinj j hsj hj e e'.symm
  · by_cases e : i = j
    · subst e
      rw [verOf_some h0, verOf_some h1] at hv
      rw [opnAt_some h1] at hop
      rw [opnAt_some h0]; exact f.opn hv hop
    · simpa only [Env.put, opnAt_set_ne e] using hop
  · by_cases e : i = j
    · subst e; rw [ownAt_some h0, ownAt_some h1, f.own, f.own0]
    · simp only [Env.put, ownAt_set_ne e]
  · refine hk k fun e => ?_
    exact hne i (lt_of_some h0) hs (by rw [ownAt_some h0]; exact f.own0) e.symm

theorem rel_put {E : Env} {w w' : World} {i : Nat} {o0 o : AObj} (h : RelW E w) (hs : E.S i) (h0 : E.H[i]? = some o0) (f : Follows o0 o)
    (hsz : w'.heap.size = w.heap.size) (hk : ∀ k, k ≠ E.m i → w'.heap[k]? = w.heap[k]?)
    (ht : w'.tape = w.tape) (ho : w'.os = w.os) (hp : w'.output = w.output)
    (hobj : Ext E w (E.put i o) w' → RelObj (E.put i o) w' i o) : RelW (E.put i o) w' ∧ Ext E w (E.put i o) w' := by
  have hi := lt_of_some h0
  have own0 : ownAt E.H i = true := by rw [ownAt_some h0]; exact f.own0
  have hinj : ∀ j, E.S j → j < E.H.length → i ≠ j → E.m i ≠ E.m j := fun j hsj hj hne => h.inj i j hs hsj hi hj own0 hne
  have x := ext_put hs h0 f hsz hk hinj ht ho hp
  refine ⟨⟨fun j o' hsj ho' => ?_, fun j l hsj hsl hj hl how hne => ?_⟩, x⟩
  · by_cases e : i = j
    · subst e
      rw [show (E.put i o).H[i]? = some o from set_get h0] at ho'; cases ho'; exact hobj x
    · have ho' : (E.H.set i o)[j]? = some o' := ho'
      rw [List.getElem?_set_ne e] at ho'
      exact (h.obj j o' hsj ho').ext x rfl rfl (hk _ fun e' => hinj j hsj (lt_of_some ho') e e'.symm)
  · have hj' : j < E.H.length := by simpa [Env.put] using hj
    have hl' : l < E.H.length := by simpa [Env.put] using hl
    refine h.inj j l hsj hsl hj' hl' ?_ hne
    rw [← x.own j hj' hsj]; exact how

/-- An object of one's own gets a new block (an append that did not fit). -/
def Env.swap (E : Env) (i : Nat) (o : AObj) (b n : Nat) : Env where
  m := fun j => if j = i then b else E.m j
  sz := fun j => if j = i then n else E.sz j
  S := E.S
  H := E.H.set i o

theorem rel_swap {E : Env} {w w' : World} {i : Nat} {o0 o : AObj} {ob : Obj} (n : Nat) (h : RelW E w) (hs : E.S i) (h0 : E.H[i]? = some o0) (f : Follows o0 o)
    (hver : o0.ver < o.ver) (hnm : o0.isMap = false) (hh : w'.heap = w.heap.push ob)
    (ht : w'.tape = w.tape) (ho : w'.os = w.os) (hp : w'.output = w.output)
    (hobj : Ext E w (E.swap i o w.heap.size n) w' → RelObj (E.swap i o w.heap.size n) w' i o) :
    RelW (E.swap i o w.heap.size n) w' ∧ Ext E w (E.swap i o w.heap.size n) w' := by
  have hi := lt_of_some h0
  have old : ∀ k, k < w.heap.size → w'.heap[k]? = w.heap[k]? := fun k hk => by rw [hh, Array.getElem?_push, if_neg (by omega)]
  have h1 : (E.swap i o w.heap.size n).H[i]? = some o := set_get h0
  have mne : ∀ j, j ≠ i → (E.swap i o w.heap.size n).m j = E.m j := fun j hj => by simp only [Env.swap]; rw [if_neg hj]
  have sne : ∀ j, j ≠ i → (E.swap i o w.heap.size n).sz j = E.sz j := fun j hj => by simp only [Env.swap]; rw [if_neg hj]
  have meq : (E.swap i o w.heap.size n).m i = w.heap.size := by simp [Env.swap]
  have hl : (E.swap i o w.heap.size n).H.length = E.H.length := by simp [Env.swap]
  have x : Ext E w (E.swap i o w.heap.size n) w' := by
    refine ⟨⟨⟨by simp [Env.swap], fun j hj hsj => ?_, fun j hj hsj hmp => ?_, fun j hj hsj hv => ?_, fun _ _ h => h⟩, fun j hj hsj => ?_,
      fun j hj hsj => ?_, ht, ho, hp, by simp [hh], fun k hkl hne => old k hkl⟩, fun j hsj hj => .inl ⟨by simpa [Env.swap] using hj, hsj⟩, fun j h1 h2 => by simp [Env.swap] at h2; omega⟩
    · by_cases e : i = j
      · subst e; rw [verOf_some h0, verOf_some h1]; exact f.ver
      · simp only [Env.swap, verOf_set_ne e]; exact Nat.le_refl _
    · by_cases e : i = j
      · subst e; rw [isMapAt_some h0, hnm] at hmp; cases hmp
      · exact ⟨by simpa only [Env.swap, isMapAt_set_ne e] using hmp, mne j (Ne.symm e), fun _ => old _ (h.lt hsj hj)⟩
    · by_cases e : i = j
      · subst e; rw [verOf_some h0, verOf_some h1] at hv; omega
      · refine ⟨mne j (Ne.symm e), sne j (Ne.symm e), fun hop => ?_⟩
        simpa only [Env.swap, opnAt_set_ne e] using hop
    · by_cases e : i = j
      · subst e; rw [ownAt_some h0, ownAt_some h1, f.own, f.own0]
      · simp only [Env.swap, ownAt_set_ne e]
    · by_cases e : j = i
      · right; rw [e, meq]; exact Nat.le_refl _
      · exact .inl ⟨by omega, hsj, mne j e⟩
  refine ⟨⟨fun j o' hsj ho' => ?_, fun j l hsj hsl hj hll how hne => ?_⟩, x⟩
  · by_cases e : j = i
    · subst e
      rw [h1] at ho'; cases ho'; exact hobj x
    · have ho' : (E.H.set i o)[j]? = some o' := ho'
      rw [List.getElem?_set_ne (Ne.symm e)] at ho'
      exact (h.obj j o' hsj ho').ext x (mne j e) (sne j e) (old _ (h.lt hsj (lt_of_some ho')))
  · have hj' : j < E.H.length := by omega
    have hl' : l < E.H.length := by omega
    by_cases e : j = i <;> by_cases e' : l = i
    · omega
    · subst e; rw [meq, mne l e']; have := h.lt hsl hl'; omega
    · subst e'; rw [meq, mne j e]; have := h.lt hsj hj'; omega
    · rw [mne j e, mne l e']
      refine h.inj j l hsj hsl hj' hl' ?_ hne
      rw [← x.own j hj' hsj]; exact how

end Go.Abs

/- The operations over abstract values: deterministic, without a program. -/
namespace Go.Abs
open Go

/-- A constant of the program's text. -/
def toA : Value → AVal
  | .bool b => .bool b
  | .int k n => .int k n
  | .float k n => .float k n
  | .complex k a b => .cplx k a b
  | .string s => .str s.data.toList
  | .pointer none => .nilp
  | .slice none 0 0 => .nils
  | .map none => .nilm
  | .nilFunc => .nilf
  | .nilIface => .nili
  | _ => .undef

/-- What may lie in one cell. -/
def AVal.isCell : AVal → Bool
  | .undef | .agg _ | .tup _ => false
  | _ => true

def AVal.defd : AVal → Bool
  | .undef => false
  | _ => true

def aInt (op : BinOp) (k : IntKind) (x y : Int) : Option AVal :=
  match op with
  | .add => some (.int k (k.wrap (x + y)))
  | .sub => some (.int k (k.wrap (x - y)))
  | .mul => some (.int k (k.wrap (x * y)))
  | .quo => if y = 0 then none else some (.int k (k.wrap (x.tdiv y)))
  | .rem => if y = 0 then none else some (.int k (x.tmod y))
  | .and => some (.int k (k.wrap (BitVec.ofInt k.bits x &&& BitVec.ofInt k.bits y).toNat))
  | .or => some (.int k (k.wrap (BitVec.ofInt k.bits x ||| BitVec.ofInt k.bits y).toNat))
  | .xor => some (.int k (k.wrap (BitVec.ofInt k.bits x ^^^ BitVec.ofInt k.bits y).toNat))
  | .andNot => some (.int k (k.wrap (BitVec.ofInt k.bits x &&& ~~~ BitVec.ofInt k.bits y).toNat))
  | .eql => some (.bool (x == y))
  | .neq => some (.bool (x != y))
  | .lss => some (.bool (x < y))
  | .leq => some (.bool (x ≤ y))
  | .gtr => some (.bool (x > y))
  | .geq => some (.bool (x ≥ y))
  | _ => none

def aStr (op : BinOp) (x y : List UInt8) : Option AVal :=
  match op with
  | .add => if x.length + y.length ≤ 4611686018427387904 then some (.str (x ++ y)) else none
  | .eql => some (.bool (x == y))
  | .neq => some (.bool !(x == y))
  | .lss => some (.bool (Op.bytesLess x y))
  | .leq => some (.bool (Op.bytesLess x y || x == y))
  | .gtr => some (.bool !(Op.bytesLess x y || x == y))
  | .geq => some (.bool !(Op.bytesLess x y))
  | _ => none

/-- Arithmetic and comparison of numbers and texts. -/
def aBin (op : BinOp) (x y : AVal) : Option AVal :=
  match op, x, y with
  | .shl, .int k a, .int _ b => if b < 0 then none else some (.int k (k.wrap (a * 2 ^ (min b.toNat k.bits))))
  | .shr, .int k a, .int _ b => if b < 0 then none else some (.int k (a.fdiv (2 ^ (min b.toNat k.bits))))
  | op, .int k a, .int k' b => if k = k' then aInt op k a b else none
  | op, .str a, .str b => aStr op a b
  | _, _, _ => none

/-- What a cell of a comparable aggregate is. -/
inductive Ck where
  | int | str | bool
  deriving DecidableEq

def eqCell : Ck → AVal → AVal → Option Bool
  | .int, .int k a, .int k' b => if k = k' then some (a == b) else none
  | .str, .str a, .str b => some (a == b)
  | .bool, .bool a, .bool b => some (a == b)
  | _, _, _ => none

def eqCells : List Ck → List AVal → List AVal → Option Bool
  | [], [], [] => some true
  | k :: ks, x :: xs, y :: ys =>
    match eqCell k x y, eqCells ks xs ys with
    | some a, some b => some (a && b)
    | _, _ => none
  | _, _, _ => none

/-- '==' ('!=') of what is no number and no text. -/
inductive Ek where
  | bool | ptr | slice | map | func | agg (l : List Ck)

def aEq (ek : Ek) (H : AHeap) (x y : AVal) : Option Bool :=
  match ek, x, y with
  | .bool, .bool a, .bool b => some (a == b)
  | .ptr, .nilp, .nilp => some true
  | .ptr, .nilp, .ptr _ => some false
  | .ptr, .ptr _, .nilp => some false
  | .ptr, .ptr r, .ptr r' => if r.id = r'.id ∧ r.ver = verOf H r.id ∧ r'.ver = verOf H r.id then some (r.off == r'.off) else none
  | .slice, .nils, .nils => some true
  | .slice, .nils, .slice _ _ _ => some false
  | .slice, .slice _ _ _, .nils => some false
  | .map, .nilm, .nilm => some true
  | .map, .nilm, .map _ => some false
  | .map, .map _, .nilm => some false
  | .func, .nilf, .nilf => some true
  | .func, .nilf, .func _ _ _ => some false
  | .func, .func _ _ _, .nilf => some false
  | .agg l, .agg xs, .agg ys => eqCells l xs ys
  | _, _, _ => none

def aEql (neq : Bool) (ek : Ek) (H : AHeap) (x y : AVal) : Option AVal :=
  match aEq ek H x y with
  | some b => some (.bool (b != neq))
  | none => none

def aUn (op : UnOp) (x : AVal) : Option AVal :=
  match op, x with
  | .neg, .int k n => some (.int k (k.wrap (0 - n)))
  | .xor, .int k n => aInt .xor k (if k.signed then -1 else k.max) n
  | .not, .bool b => some (.bool !b)
  | _, _ => none

def aPick (c a b : AVal) : Option AVal :=
  match c with
  | .bool t => some (bif t then a else b)
  | _ => none

def aInt2 (k : IntKind) (x : AVal) : Option AVal :=
  match x with
  | .int _ n => some (.int k (k.wrap n))
  | _ => none

def aStr2 (x : AVal) : Option AVal :=
  match x with
  | .str s => some (.str s)
  | _ => none

/-- Cells of a live block. -/
def rdCells (H : AHeap) (r : Ref) (n : Nat) : Option (List AVal) :=
  match H[r.id]? with
  | some (.cells v _ cs) => if v = r.ver ∧ (0 < n → r.off + n ≤ cs.length) then some ((cs.drop r.off).take n) else none
  | _ => none

def splice {α : Type} (cs : List α) (off : Nat) (xs : List α) : List α := cs.take off ++ xs ++ cs.drop (off + xs.length)

def wrCells (H : AHeap) (r : Ref) (xs : List AVal) : Option AHeap :=
  match H[r.id]? with
  | some (.cells v kd cs) =>
    if v = r.ver ∧ kd ≠ .ro ∧ r.off + xs.length ≤ cs.length ∧ xs.all AVal.isCell = true then some (H.set r.id (.cells v kd (splice cs r.off xs))) else none
  | _ => none

def byteOf : AVal → Option UInt8
  | .int .u8 n => some (UInt8.ofNat n.toNat)
  | _ => none

def bytesOf : List AVal → Option (List UInt8)
  | [] => some []
  | x :: xs =>
    match byteOf x, bytesOf xs with
    | some a, some b => some (a :: b)
    | _, _ => none

def ofByte (b : UInt8) : AVal := .int .u8 b.toNat

def aBytes2Str (H : AHeap) (x : AVal) : Option AVal :=
  match x with
  | .nils => some (.str [])
  | .slice r n _ =>
    match rdCells H r n with
    | some cs => match bytesOf cs with | some s => some (.str s) | none => none
    | none => none
  | _ => none

def aStr2Bytes (H : AHeap) (x : AVal) : Option (AVal × AHeap) :=
  match x with
  | .str s => if s.length ≤ 4611686018427387904 then some (.slice ⟨H.length, 0, 0⟩ s.length (.op 1), H ++ [.cells 0 .opn (s.map ofByte)]) else none
  | _ => none

def aAlloc (H : AHeap) (z : List AVal) : Option (AVal × AHeap) :=
  some (.ptr ⟨H.length, 0, 0⟩, H ++ [.cells 0 .exact z])

def aBox (H : AHeap) (x : AVal) : Option (AVal × AHeap) :=
  if x.defd = true then some (.ptr ⟨H.length, 0, 0⟩, H ++ [.cells 0 .exact x.cells]) else none

def fillA (place : Nat → Option (Nat × Nat)) (cells : List AVal) : List (Nat × AVal) → Option (List AVal)
  | [] => some cells
  | (i, v) :: rest =>
    match place i with
    | none => none
    | some (off, size) => if v.defd = true ∧ v.cells.length = size ∧ off + v.cells.length ≤ cells.length then fillA place (splice cells off v.cells) rest else none

def aBuild (zero : List AVal) (place : Nat → Option (Nat × Nat)) (parts : List (Nat × AVal)) : Option AVal :=
  match fillA place zero parts with
  | some cs => some (.agg cs)
  | none => none

def fillCells (n : Nat) (zero : List AVal) : List AVal := (List.replicate n zero).flatten

def aBuildSlice (H : AHeap) (es : Nat) (zero : List AVal) (len : Nat) (parts : List (Nat × AVal)) : Option (AVal × AHeap) :=
  match fillA (fun i => some (i * es, es)) (fillCells len zero) parts with
  | some cs => some (.slice ⟨H.length, 0, 0⟩ len (.ex len), H ++ [.cells 0 .exact cs])
  | none => none

def aLoad (H : AHeap) (agg : Bool) (n : Nat) (x : AVal) : Option AVal :=
  match x with
  | .ptr r =>
    match rdCells H r (bif agg then n else 1) with
    | some cs => bif agg then some (.agg cs) else cs.head?
    | none => none
  | _ => none

def aStore (H : AHeap) (n : Nat) (x v : AVal) : Option AHeap :=
  match x with
  | .ptr r => if v.cells.length = n then wrCells H r v.cells else none
  | _ => none

def aNilCheck (x : AVal) : Option AVal :=
  match x with
  | .ptr r => some (.ptr r)
  | .func (.func f) a b => some (.func (.func f) a b)
  | _ => none

def aFieldAddr (off : Nat) (x : AVal) : Option AVal :=
  match x with
  | .ptr r => some (.ptr { r with off := r.off + off })
  | _ => none

/-- The place of an element of a slice. -/
def aIndexAddr (es : Nat) (x i : AVal) : Option AVal :=
  match x, i with
  | .slice r n _, .int _ k => if 0 ≤ k ∧ k < n then some (.ptr { r with off := r.off + k.toNat * es }) else none
  | _, _ => none

def aIndexAddrArr (n es : Nat) (x i : AVal) : Option AVal :=
  match x, i with
  | .ptr r, .int _ k => if 0 ≤ k ∧ k < n then some (.ptr { r with off := r.off + k.toNat * es }) else none
  | _, _ => none

def aPart (agg : Bool) (n off : Nat) (cs : List AVal) : Option AVal :=
  bif agg then (if off + n ≤ cs.length then some (.agg ((cs.drop off).take n)) else none) else cs[off]?

def aField (agg : Bool) (n off : Nat) (x : AVal) : Option AVal :=
  match x with
  | .agg cs => aPart agg n off cs
  | _ => none

def aIndexArr (len : Nat) (agg : Bool) (es : Nat) (x i : AVal) : Option AVal :=
  match x, i with
  | .agg cs, .int _ k => if 0 ≤ k ∧ k < len then aPart agg es (k.toNat * es) cs else none
  | _, _ => none

def aIndexStr (x i : AVal) : Option AVal :=
  match x, i with
  | .str s, .int _ k => if 0 ≤ k then (match s[k.toNat]? with | some b => some (ofByte b) | none => none) else none
  | _, _ => none

def aExtract (x : AVal) (i : Nat) : Option AVal :=
  match x with
  | .tup vs => vs[i]?
  | _ => none

/-- A bound of a slice expression: what is written, or none. -/
def bnd (d : Nat) : Option AVal → Option Nat
  | none => some d
  | some (.int _ k) => if 0 ≤ k then some k.toNat else none
  | _ => none

def aSliceStr (x : AVal) (lo hi : Option AVal) : Option AVal :=
  match x with
  | .str s =>
    match bnd 0 lo, bnd s.length hi with
    | some l, some h => if l ≤ h ∧ h ≤ s.length then some (.str ((s.take h).drop l)) else none
    | _, _ => none
  | _ => none

/-- What a slice may be made longer to: cells that its block has at any rate. -/
def overOk (H : AHeap) (r : Ref) (es' es l h : Nat) : Bool :=
  match H[r.id]? with
  | some (.cells v .opn cs) => decide (v = r.ver ∧ es' = es ∧ 0 < es ∧ l ≤ h ∧ 0 < h ∧ r.off + h * es ≤ cs.length)
  | _ => false

def aSlice (H : AHeap) (es : Nat) (x : AVal) (lo hi mx : Option AVal) : Option AVal :=
  match x with
  | .nils =>
    match bnd 0 lo, bnd 0 hi, bnd 0 mx with
    | some 0, some 0, some 0 => some .nils
    | _, _, _ => none
  | .slice r n (.ex c) =>
    match bnd 0 lo, bnd n hi, bnd c mx with
    | some l, some h, some m =>
      if r.ver = verOf H r.id ∧ l ≤ h ∧ h ≤ m ∧ m ≤ c then some (.slice { r with off := if m = l then r.off else r.off + l * es } (h - l) (.ex (m - l))) else none
    | _, _, _ => none
  | .slice r n (.op es') =>
    match mx with
    | none =>
      match bnd 0 lo, bnd n hi with
      | some l, some h =>
        if r.ver = verOf H r.id ∧ es' = es ∧ l ≤ h ∧ h ≤ n then some (.slice { r with off := r.off + l * es } (h - l) (.op es))
        else if overOk H r es' es l h = true then some (.slice { r with off := r.off + l * es } (h - l) (.op es)) else none
      | _, _ => none
    | some _ =>
      match bnd 0 lo, bnd n hi, bnd n mx with
      | some l, some h, some m =>
        if r.ver = verOf H r.id ∧ l ≤ h ∧ h ≤ m ∧ m ≤ n ∧ 0 < n then some (.slice { r with off := if m = l then r.off else r.off + l * es } (h - l) (.ex (m - l))) else none
      | _, _, _ => none
  | _ => none

def aSliceArr (len es : Nat) (x : AVal) (lo hi mx : Option AVal) : Option AVal :=
  match x with
  | .ptr r =>
    match bnd 0 lo, bnd len hi, bnd len mx with
    | some l, some h, some m =>
      if l ≤ h ∧ h ≤ m ∧ m ≤ len then some (.slice { r with off := if m = l then r.off else r.off + l * es } (h - l) (.ex (m - l))) else none
    | _, _, _ => none
  | _ => none

def aLen (H : AHeap) (x : AVal) : Option AVal :=
  match x with
  | .str s => some (.int .i64 s.length)
  | .nils => some (.int .i64 0)
  | .slice _ n _ => some (.int .i64 n)
  | .nilm => some (.int .i64 0)
  | .map i => match H[i]? with | some (.map _ es) => some (.int .i64 es.length) | _ => none
  | _ => none

def lenSt (x : AVal) : Option AVal :=
  match x with
  | .str s => some (.int .i64 s.length)
  | _ => none
def lenSl (x : AVal) : Option AVal :=
  match x with
  | .nils => some (.int .i64 0)
  | .slice _ n _ => some (.int .i64 n)
  | _ => none
def lenMp (H : AHeap) (x : AVal) : Option AVal :=
  match x with
  | .nilm => some (.int .i64 0)
  | .map i => match H[i]? with | some (.map _ es) => some (.int .i64 es.length) | _ => none
  | _ => none

def aMakeSlice (H : AHeap) (bytes : Nat) (zero : List AVal) (len cap : AVal) : Option (AVal × AHeap) :=
  match len, cap with
  | .int _ n, .int _ c =>
    if 0 ≤ n ∧ n ≤ c ∧ bytes * c ≤ 140737488355328 ∧ c ≤ 4611686018427387904 then
      some (.slice ⟨H.length, 0, 0⟩ n.toNat (.ex c.toNat), H ++ [.cells 0 .exact (fillCells c.toNat zero)])
    else none
  | _, _ => none

/-- The cells that are appended or copied. -/
def srcCells (H : AHeap) (es n : Nat) (x : AVal) : Option (List AVal) :=
  match x with
  | .nils => some []
  | .str s => some ((s.take n).map ofByte)
  | .slice r _ _ => if n * es = 0 then some [] else rdCells H r (n * es)
  | _ => none
def srcLen (x : AVal) : Option Nat :=
  match x with
  | .nils => some 0
  | .str s => some s.length
  | .slice _ n _ => some n
  | _ => none

def room : Nat := 35184372088832

def aAppendTo (H : AHeap) (es bytes : Nat) (s : AVal) (n : Nat) (xs : List AVal) : Option (AVal × AHeap) :=
  match s with
  | .nils =>
    if n = 0 then some (.nils, H)
    else if n * bytes ≤ room ∧ n ≤ room then some (.slice ⟨H.length, 0, 0⟩ n (.op es), H ++ [.cells 0 .opn xs])
    else none
  | .slice r k (.ex c) =>
    if n = 0 then (if r.ver = verOf H r.id ∧ k ≤ c then some (.slice r k (.ex c), H) else none)
    else if k + n ≤ c then
      match wrCells H { r with off := r.off + k * es } xs with
      | some H' => some (.slice r (k + n) (.ex c), H')
      | none => none
    else if (k + n) * bytes ≤ room ∧ k + n ≤ room then
      match rdCells H r (k * es) with
      | some old => some (.slice ⟨H.length, 0, 0⟩ (k + n) (.op es), H ++ [.cells 0 .opn (old ++ xs)])
      | none => none
    else none
  | .slice r k (.op es') =>
    if n = 0 then (if r.ver = verOf H r.id then some (.slice r k (.op es'), H) else none)
    else if es' = es ∧ 0 < es ∧ (k + n) * bytes ≤ room ∧ k + n ≤ room then
      match H[r.id]? with
      | some (.cells v .opn cs) =>
        if v = r.ver ∧ xs.all AVal.isCell = true then
          if r.off = 0 ∧ cs.length = k * es then some (.slice ⟨r.id, v + 1, 0⟩ (k + n) (.op es), H.set r.id (.cells (v + 1) .opn (cs ++ xs)))
          else if r.off + (k + n) * es ≤ cs.length then some (.slice r (k + n) (.op es), H.set r.id (.cells v .opn (splice cs (r.off + k * es) xs)))
          else none
        else none
      | _ => none
    else none
  | _ => none

def aAppend (H : AHeap) (es bytes : Nat) (s x : AVal) : Option (AVal × AHeap) :=
  match srcLen x with
  | some n => match srcCells H es n x with
    | some xs => aAppendTo H es bytes s n xs
    | none => none
  | none => none

/-- What is appended is a slice. -/
def aAppendS (H : AHeap) (es bytes : Nat) (s x : AVal) : Option (AVal × AHeap) :=
  match x with
  | .str _ => none
  | _ => aAppend H es bytes s x

def aCopy (H : AHeap) (es : Nat) (d x : AVal) : Option (AVal × AHeap) :=
  match srcLen x, d with
  | some n, .slice r k _ =>
    match srcCells H es (min n k) x with
    | some xs => match wrCells H r xs with
      | some H' => some (.int .i64 (min n k : Nat), H')
      | none => none
    | none => none
  | some _, .nils => some (.int .i64 0, H)
  | _, _ => none

def aCopyS (H : AHeap) (es : Nat) (d x : AVal) : Option (AVal × AHeap) :=
  match x with
  | .str _ => none
  | _ => aCopy H es d x

/-- Elements made zero. -/
def aClear (H : AHeap) (z : List AVal) (x : AVal) : Option (AVal × AHeap) :=
  match x with
  | .nils => some (.tup [], H)
  | .slice r n _ =>
    bif Nat.beq n 0 then some (.tup [], H) else
    match wrCells H r (fillCells n z) with
    | some H' => some (.tup [], H')
    | none => none
  | _ => none

def aMin2 (x y : AVal) : Option AVal :=
  match x, y with
  | .int k a, .int _ b => some (.int k (if b < a then b else a))
  | _, _ => none
def aMax2 (x y : AVal) : Option AVal :=
  match x, y with
  | .int k a, .int _ b => some (.int k (if b > a then b else a))
  | _, _ => none
def aFold (f : AVal → AVal → Option AVal) : AVal → List AVal → Option AVal
  | x, [] => some x
  | x, y :: l => match f x y with | some z => aFold f z l | none => none

/-- Keys: texts, numbers of a kind, or so many bytes. -/
inductive Kt where
  | str
  | int (k : IntKind)
  | arr (n : Nat)
  deriving DecidableEq

def isU8 : AVal → Bool
  | .int .u8 _ => true
  | _ => false

def keyOk : Kt → AVal → Bool
  | .str, .str _ => true
  | .int k, .int k' _ => decide (k' = k)
  | .arr n, .agg cs => Nat.beq cs.length n && cs.all isU8
  | _, _ => false

def keyEq : Kt → AVal → AVal → Option Bool
  | .str, .str a, .str b => some (a == b)
  | .int k, .int k1 a, .int k2 b => if k1 = k ∧ k2 = k then some (a == b) else none
  | .arr n, .agg xs, .agg ys => eqCells (List.replicate n .int) xs ys
  | _, _, _ => none

def findKey (l : Kt) (k : AVal) : List (AVal × AVal) → Nat → Option (Option (Nat × AVal))
  | [], _ => some none
  | e :: es, i =>
    match keyEq l k e.1 with
    | some true => some (some (i, e.2))
    | some false => findKey l k es (i + 1)
    | none => none

def lookupOut (ok : Bool) (v : AVal) (b : Bool) : AVal := bif ok then .tup [v, .bool b] else v

def aLookup (H : AHeap) (l : Kt) (zero : AVal) (ok : Bool) (x k : AVal) : Option AVal :=
  bif keyOk l k then
    match x with
    | .nilm => some (lookupOut ok zero false)
    | .map i =>
      match H[i]? with
      | some (.map _ es) =>
        match findKey l k es 0 with
        | some (some (_, v)) => some (lookupOut ok v true)
        | some none => some (lookupOut ok zero false)
        | none => none
      | _ => none
    | _ => none
  else none

def aMapUpdate (H : AHeap) (l : Kt) (x k v : AVal) : Option AHeap :=
  bif keyOk l k then
    match x with
    | .map i =>
      match H[i]? with
      | some (.map w es) =>
        match findKey l k es 0 with
        | some (some (j, _)) => some (H.set i (.map (w + 1) (es.set j (k, v))))
        | some none => some (H.set i (.map (w + 1) (es ++ [(k, v)])))
        | none => none
      | _ => none
    | _ => none
  else none

def aDelete (H : AHeap) (l : Kt) (x k : AVal) : Option (AVal × AHeap) :=
  bif keyOk l k then
    match x with
    | .nilm => some (.tup [], H)
    | .map i =>
      match H[i]? with
      | some (.map w es) =>
        match findKey l k es 0 with
        | some (some (j, _)) => some (.tup [], H.set i (.map (w + 1) (es.eraseIdx j)))
        | some none => some (.tup [], H.set i (.map (w + 1) es))
        | none => none
      | _ => none
    | _ => none
  else none

/-- A byte slice of one's own that is made of a text. -/
def aMark (H : AHeap) (x : AVal) : Option AVal :=
  match x with
  | .slice r n c =>
    match H[r.id]? with
    | some (.cells v kd _) => if v = r.ver ∧ kd ≠ .ro ∧ (c = .ex n) then some x else none
    | _ => none
  | _ => none

def aMakeMap (H : AHeap) : Option (AVal × AHeap) := some (.map H.length, H ++ [.map 0 []])

def aRangeMap (H : AHeap) (x : AVal) : Option (AVal × AHeap) :=
  match x with
  | .nilm => some (.ptr ⟨H.length, 0, 0⟩, H ++ [.mapIter none [] none])
  | .map i => match H[i]? with
    | some (.map v es) => some (.ptr ⟨H.length, 0, 0⟩, H ++ [.mapIter (some (i, v)) es none])
    | _ => none
  | _ => none

/-- The entry at which a range stands. -/
def aEntry (H : AHeap) (x : AVal) : Option AVal :=
  match x with
  | .ptr r =>
    match H[r.id]? with
    | some (.mapIter (some (j, v)) _ (some (k, y))) => if v = verOf H j ∧ r.off = 0 ∧ r.ver = 0 then some (.tup [k, y]) else none
    | _ => none
  | _ => none
/-- A range goes on: at an end, or at any of what is left. -/
def nxP (x : AVal) (H : AHeap) (K : AVal → Bool → AHeap → Prop) : Prop :=
  match x with
  | .ptr r =>
    match H[r.id]? with
    | some (.mapIter none _ _) => (r.off = 0 ∧ r.ver = 0) ∧ K (.tup [.bool false]) false H
    | some (.mapIter (some (j, v)) left _) => (v = verOf H j ∧ r.off = 0 ∧ r.ver = 0) ∧ (left = [] → K (.tup [.bool false]) false H) ∧
        ∀ i c, left[i]? = some c → K (.tup [.bool true, c.1, c.2]) true (H.set r.id (.mapIter (some (j, v)) (left.eraseIdx i) (some c)))
    | _ => False
  | _ => False

end Go.Abs

/- Memory: what the model's loads and stores do to what stands for an abstract heap. -/
namespace Go.Abs
open Go

theorem add_none (b o n : Nat) : (⟨b, o, none⟩ : Addr).add n = ⟨b, o + n, none⟩ := by
  unfold Addr.add; by_cases h : n = 0 <;> simp [h]

theorem cell_of {w : World} {b j : Nat} {c : Array Value} {e : TypeId} {fz : Nat × Nat} (h : w.heap[b]? = some (.cells c e fz)) :
    w.cell? ⟨b, j, none⟩ = c[j]? := by simp [World.cell?, h]
theorem frozen_of {w : World} {b j : Nat} {c : Array Value} {e : TypeId} {fz : Nat × Nat} (h : w.heap[b]? = some (.cells c e fz)) (hf : fz.1 = fz.2 ∨ c.size ≤ fz.1) (hj : j < c.size) :
    w.frozen? ⟨b, j, none⟩ = false := by
  obtain ⟨lo, hi⟩ := fz
  simp only [World.frozen?, h]
  simp only at hf
  by_cases h1 : lo ≤ j <;> by_cases h2 : j < hi <;> simp [h1, h2] <;> omega

section
variable {P : Program} {E : Env} {w : World}

/-- The cells behind a reference. -/
theorem rd_sound (h : RelW E w) {r : Ref} {n : Nat} {cs : List AVal} (hr : rdCells E.H r n = some cs) (hS : E.S r.id) :
    r.id < E.H.length ∧ r.ver = verOf E.H r.id ∧
    ∃ vs : List Value, RelL E cs vs ∧ vs.length = n ∧ (∀ j v, vs[j]? = some v → w.cell? ⟨E.m r.id, r.off + j, none⟩ = some v) ∧
      ∃ c e fz, w.heap[E.m r.id]? = some (.cells c e fz) ∧ c.size = E.sz r.id ∧ (0 < n → r.off + n ≤ c.size) := by
  unfold rdCells at hr
  split at hr
  · rename_i v kd cs0 h0
    split at hr
    · rename_i hc
      obtain ⟨hv, hl⟩ := hc
      simp only [Option.some.injEq] at hr
      subst hr
      obtain ⟨c, e, fz, h1, h2, h3, h4, _, _⟩ := h.obj r.id _ hS h0
      refine ⟨lt_of_some h0, by rw [verOf_some h0]; exact hv.symm, ((c.toList.take cs0.length).drop r.off).take n, (h3.drop _).take _, ?_, ?_, c, e, fz, h1, h2, by omega⟩
      · simp; omega
      · intro j u hj
        rw [cell_of h1]
        have hjn : j < n := by
          have := (List.getElem?_eq_some_iff.1 hj).1
          simp at this; omega
        rw [List.getElem?_take_of_lt hjn, List.getElem?_drop, List.getElem?_take_of_lt (by omega)] at hj
        simpa using hj
    · cases hr
  · cases hr

theorem run_loadCells_of (a : Addr) (b o : Nat) (ha : a = ⟨b, o, none⟩) (vs : List Value) (h : ∀ j v, vs[j]? = some v → w.cell? ⟨b, o + j, none⟩ = some v) :
    (loadCells a vs.length).run P w = .ok vs.toArray w := by
  subst ha
  exact run_loadCells_list w _ vs fun j v hj => by rw [add_none]; exact h j v hj

theorem splice_get {α : Type} {l : List α} {off : Nat} {vs : List α} (h : off + vs.length ≤ l.length) (j : Nat) :
    (splice l off vs)[j]? = if j < off then l[j]? else if j < off + vs.length then vs[j - off]? else l[j]? := by
  unfold splice
  have ht : (l.take off).length = off := by simp; omega
  by_cases h1 : j < off
  · rw [if_pos h1, List.append_assoc, List.getElem?_append_left (by omega), List.getElem?_take_of_lt h1]
  · rw [if_neg h1]
    by_cases h2 : j < off + vs.length
    · rw [if_pos h2, List.append_assoc, List.getElem?_append_right (by omega), ht, List.getElem?_append_left (by omega)]
    · rw [if_neg h2, List.append_assoc, List.getElem?_append_right (by omega), ht, List.getElem?_append_right (by omega), List.getElem?_drop]
      congr 1; omega
theorem splice_length {α : Type} {l : List α} {off : Nat} {vs : List α} (h : off + vs.length ≤ l.length) : (splice l off vs).length = l.length := by
  simp [splice]; omega
theorem splice_take {α : Type} {l : List α} {off n : Nat} {vs : List α} (h : off + vs.length ≤ n) (hn : n ≤ l.length) :
    (splice l off vs).take n = splice (l.take n) off vs := by
  apply List.ext_getElem?
  intro j
  rw [splice_get (by simp; omega)]
  by_cases hj : j < n
  · rw [List.getElem?_take_of_lt hj, splice_get (by omega), List.getElem?_take_of_lt hj]
  · rw [List.getElem?_eq_none (by simp; omega), if_neg (by omega), if_neg (by omega), List.getElem?_eq_none (by simp; omega)]
theorem splice_step {α : Type} {l : List α} {off : Nat} {v : α} {vs : List α} (h : off + 1 + vs.length ≤ l.length) :
    splice (l.set off v) (off + 1) vs = splice l off (v :: vs) := by
  apply List.ext_getElem?
  intro j
  rw [splice_get (by simp; omega), splice_get (by simp; omega)]
  simp only [List.length_cons]
  by_cases h0 : j < off
  · rw [if_pos (show j < off + 1 by omega), if_pos h0, List.getElem?_set_ne (by omega)]
  · rw [if_neg h0]
    by_cases h1 : j = off
    · subst h1
      rw [if_pos (show j < j + 1 by omega), if_pos (show j < j + (vs.length + 1) by omega), List.getElem?_set_self (by omega)]; simp
    · rw [if_neg (show ¬ j < off + 1 by omega)]
      by_cases h2 : j < off + 1 + vs.length
      · rw [if_pos h2, if_pos (show j < off + (vs.length + 1) by omega)]
        obtain ⟨k, rfl⟩ : ∃ k, j = off + 1 + k := ⟨j - off - 1, by omega⟩
        rw [show off + 1 + k - (off + 1) = k by omega, show off + 1 + k - off = k + 1 by omega, List.getElem?_cons_succ]
      · rw [if_neg h2, if_neg (show ¬ j < off + (vs.length + 1) by omega), List.getElem?_set_ne (by omega)]

theorem RelL.splice {xs cs : List AVal} {vs ls : List Value} (h : RelL E cs ls) (h' : RelL E xs vs) (off : Nat) :
    RelL E (splice cs off xs) (Abs.splice ls off vs) := by
  unfold Abs.splice
  rw [h'.length]
  exact ((h.take _).append h').append (h.drop _)

theorem run_storeCells_own (b : Nat) (e : TypeId) (fz : Nat × Nat) (o : Nat) :
    ∀ (vs : List Value) (i : Nat) (w : World) (c : Array Value), w.heap[b]? = some (.cells c e fz) → (fz.1 = fz.2 ∨ c.size ≤ fz.1) →
      o + i + vs.length ≤ c.size → (∀ v ∈ vs, v.oneCell' = true) →
      ∃ w', (storeCells ⟨b, o, none⟩ vs i).run P w = .ok () w' ∧ w'.heap[b]? = some (.cells (splice c.toList (o + i) vs).toArray e fz) ∧
        w'.heap.size = w.heap.size ∧ (∀ k, k ≠ b → w'.heap[k]? = w.heap[k]?) ∧ w'.tape = w.tape ∧ w'.os = w.os ∧ w'.output = w.output
  | [], i, w, c, hb, _, hl, _ => by
    refine ⟨w, rfl, ?_, rfl, fun _ _ => rfl, rfl, rfl, rfl⟩
    rw [hb]; simp [splice]
  | v :: vs, i, w, c, hb, hf, hl, hv => by
    simp only [List.length_cons] at hl
    have hc : w.cell? ⟨b, o + i, none⟩ = some c[o + i] := by rw [cell_of hb]; exact Array.getElem?_eq_getElem (by omega)
    have hst : (store (⟨b, o + i, none⟩ : Addr) v).run P w = .ok () (w.setCell ⟨b, o + i, none⟩ v) := by
      rw [run_store P w _ v _ (hv v (by simp)), hc]
      simp [frozen_of hb hf (show o + i < c.size by omega)]
    have hb' : (w.setCell ⟨b, o + i, none⟩ v).heap[b]? = some (.cells (c.setIfInBounds (o + i) v) e fz) := by
      simp [World.setCell, Array.getElem?_modify, hb]
    obtain ⟨w', h1, h2, h3, h4, h5, h6, h7⟩ := run_storeCells_own b e fz o vs (i + 1) _ _ hb' (by simpa using hf) (by simp; omega) (fun u hu => hv u (by simp [hu]))
    refine ⟨w', ?_, ?_, by rw [h3]; simp, fun k hk => ?_, h5, h6, h7⟩
    · simp only [storeCells, Sem.run_bind, add_none, hst, Result.andThen, h1]
    · rw [h2]
      congr 2
      rw [Array.toList_setIfInBounds, ← splice_step (by simp; omega)]
      congr 1
    · rw [h4 k hk]; simp [World.setCell, Array.getElem?_modify, Ne.symm hk]

theorem oneCell_of {x : AVal} {v : Value} (hx : x.isCell = true) (h : RelV E x v) : v.oneCell' = true := by
  cases x <;> simp only [AVal.isCell] at hx <;> simp only [RelG] at h <;> first
    | (cases hx; done)
    | (subst h; rfl)
    | (obtain ⟨a, rfl, _⟩ := h; rfl)
    | (obtain ⟨a, c, rfl, _⟩ := h; rfl)

theorem oneCells_of {xs : List AVal} {vs : List Value} (hx : xs.all AVal.isCell = true) (h : RelL E xs vs) : ∀ v ∈ vs, v.oneCell' = true := by
  intro v hv
  obtain ⟨i, hi⟩ := List.mem_iff_getElem?.1 hv
  have hlen := h.length
  have hlt : i < xs.length := by rw [hlen]; exact (List.getElem?_eq_some_iff.1 hi).1
  obtain ⟨y, hy, hr⟩ := h.get (List.getElem?_eq_getElem hlt)
  rw [hi] at hy; cases hy
  exact oneCell_of (List.all_eq_true.1 hx _ (List.getElem_mem hlt)) hr

theorem wr_sound (h : RelW E w) {r : Ref} {xs : List AVal} {H' : AHeap} (hw : wrCells E.H r xs = some H') (hS : E.S r.id) {vs : List Value} (hx : RelL E xs vs) :
    ∃ w' E', (storeCells ⟨E.m r.id, r.off, none⟩ vs).run P w = .ok () w' ∧ E'.H = H' ∧ RelW E' w' ∧ Ext E w E' w' := by
  unfold wrCells at hw
  split at hw
  · rename_i v kd cs0 h0
    split at hw
    · rename_i hc
      obtain ⟨hv, hkd, hl, hall⟩ := hc
      simp only [Option.some.injEq] at hw
      subst hw
      obtain ⟨c, e, fz, h1, h2, h3, h4, h5, h6⟩ := h.obj r.id _ hS h0
      have hlen := hx.length
      obtain ⟨w', g1, g2, g3, g4, g5, g6, g7⟩ := run_storeCells_own (P := P) (E.m r.id) e fz r.off vs 0 w c h1 (h6 hkd) (by omega) (oneCells_of hall hx)
      have hown : (AObj.cells v kd cs0).own = true := by cases kd <;> first | rfl | exact absurd rfl hkd
      have f : Follows (AObj.cells v kd cs0) (.cells v kd (splice cs0 r.off xs)) :=
        ⟨hown, by cases kd <;> first | rfl | exact absurd rfl hkd, Nat.le_refl _, fun _ h => by cases kd <;> first | exact h | rfl, fun e => by cases e⟩
      have := rel_put h hS h0 f g3 g4 g5 g6 g7 (fun x => ?_)
      · exact ⟨w', _, g1, rfl, this.1, this.2⟩
      · refine ⟨_, e, fz, g2, ?_, ?_, ?_, ?_, ?_⟩
        · simp only [List.size_toArray, Nat.add_zero]; rw [splice_length (by simp; omega)]; exact h2
        · rw [splice_length (by omega)]
          have := (RelL.splice h3 hx r.off).ext x
          simp only [Nat.add_zero]
          rw [splice_take (by omega) (by simpa using h4)]
          exact this
        · rw [splice_length (by omega)]; simp only [List.size_toArray, Nat.add_zero]; rw [splice_length (by simp; omega)]; simpa using h4
        · intro hk; rw [splice_length (by omega)]; simp only [List.size_toArray, Nat.add_zero]; rw [splice_length (by simp; omega)]; simpa using h5 hk
        · intro _; simp only [List.size_toArray, Nat.add_zero]; rw [splice_length (by simp; omega)]; simpa using h6 hkd
    · cases hw
  · cases hw
end
end Go.Abs

/- The operations one by one: what the model runs stands for what is reckoned over abstract values. -/
namespace Go.Abs
open Go

section
variable {P : Program} {E : Env} {w : World}

/-- A run of the model that ends in what stands for v over the heap H'. -/
def Runs (P : Program) (E : Env) (w : World) (s : Sem Value) (v : AVal) (H' : AHeap) : Prop :=
  ∃ u w' E', s.run P w = .ok u w' ∧ RelV E' v u ∧ RelW E' w' ∧ E'.H = H' ∧ Ext E w E' w'

theorem Runs.pure {s : Sem Value} {v : AVal} {u : Value} (h : RelW E w) (hr : s.run P w = .ok u w) (hv : RelV E v u) : Runs P E w s v E.H :=
  ⟨u, w, E, hr, hv, h, rfl, Ext.refl E w⟩

theorem toA_rel (v : Value) : RelV E (toA v) v := by
  unfold toA
  split <;> simp only [RelG] <;> first | trivial | rfl

theorem toA_relL (l : List Value) : RelL E (l.map toA) l := by
  induction l with
  | nil => exact RelGL.nil
  | cons v l ih => exact RelGL.cons (toA_rel v) ih

theorem defd_ne {x : AVal} (h : x.defd = true) : x ≠ .undef := by rintro rfl; cases h

theorem RelV.cells {x : AVal} {v : Value} (h : RelV E x v) (hu : x ≠ .undef) : RelL E x.cells v.cells.toList := by
  cases x <;> simp only [RelG] at h <;> first
    | (exact absurd rfl hu)
    | (subst h; exact RelGL.cons (by simp only [RelG]) RelGL.nil)
    | (obtain ⟨l, rfl, h⟩ := h; exact h)
    | skip
  case ptr r => obtain ⟨a, rfl, h⟩ := h; exact RelGL.cons (by simp only [RelG]; exact ⟨a, rfl, h⟩) RelGL.nil
  case slice r n c => obtain ⟨a, k, rfl, h⟩ := h; exact RelGL.cons (by simp only [RelG]; exact ⟨a, k, rfl, h⟩) RelGL.nil
  case map i => obtain ⟨a, rfl, h⟩ := h; exact RelGL.cons (by simp only [RelG]; exact ⟨a, rfl, h⟩) RelGL.nil
  case func f a b => obtain ⟨a', b', rfl, h, h'⟩ := h; exact RelGL.cons (by simp only [RelG]; exact ⟨a', b', rfl, h, h'⟩) RelGL.nil
  case iface t y => obtain ⟨a, rfl, h⟩ := h; exact RelGL.cons (by simp only [RelG]; exact ⟨a, rfl, h⟩) RelGL.nil
  case tup l => obtain ⟨a, rfl, h⟩ := h; exact RelGL.cons (by simp only [RelG]; exact ⟨a, rfl, h⟩) RelGL.nil

theorem new_cells (h : RelW E w) {w' : World} (kd : Kd) {cs : List AVal} {c : Array Value} {t : TypeId} {fz : Nat × Nat}
    (hc : RelL E cs (c.toList.take cs.length)) (hl : cs.length ≤ c.size) (hex : kd = .exact → cs.length = c.size) (hfz : kd ≠ .ro → fz.1 = fz.2 ∨ c.size ≤ fz.1)
    (hh : w'.heap = w.heap.push (.cells c t fz)) (ht : w'.tape = w.tape) (ho : w'.os = w.os) (hp : w'.output = w.output) :
    ∃ E', RelW E' w' ∧ Ext E w E' w' ∧ E'.H = E.H ++ [.cells 0 kd cs] ∧ E'.m E.H.length = w.heap.size ∧ E'.sz E.H.length = c.size ∧ E'.S E.H.length := by
  have x := ext_new (E := E) h (.cells 0 kd cs) c.size hh ht ho hp
  have hm : (E.push (.cells 0 kd cs) w.heap.size c.size).m E.H.length = w.heap.size := by simp [Env.push]
  have hs : (E.push (.cells 0 kd cs) w.heap.size c.size).sz E.H.length = c.size := by simp [Env.push]
  refine ⟨_, rel_new h (.cells 0 kd cs) c.size hh ht ho hp ?_, x, rfl, hm, hs, .inr rfl⟩
  exact ⟨c, t, fz, by rw [hm, hh]; simp, hs.symm, RelL.ext x hc, hl, hex, hfz⟩

theorem new_ref {E' : Env} {kd : Kd} {cs : List AVal} (hH : E'.H = E.H ++ [.cells 0 kd cs]) (hS : E'.S E.H.length) {b : Nat} (hm : E'.m E.H.length = b) :
    RelRef E' ⟨E.H.length, 0, 0⟩ ⟨b, 0, none⟩ := by
  refine ⟨hS, by simp [hH], Nat.zero_le _, fun _ => by simp [hm]⟩

theorem run_zero {t : TypeId} {i : TypeInfo} {z : Value} (hi : P.info? t = some i) (hz : i.zero = some z) : (zeroValue t).run P w = .ok z w := by
  simp [zeroValue, typeInfo, hi, hz]
theorem run_size {t : TypeId} {i : TypeInfo} (hi : P.info? t = some i) : (sizeOf t).run P w = .ok i.size w := by
  simp [sizeOf, typeInfo, hi]
theorem run_info {t : TypeId} {i : TypeInfo} (hi : P.info? t = some i) : (typeInfo t).run P w = .ok i w := by
  simp [typeInfo, hi]
theorem run_under {t : TypeId} {d : TypeDesc} (hd : P.underlying t = some d) : (underlying t).run P w = .ok d w := by
  simp [underlying, hd]
def aggB : TypeDesc → Bool
  | .struct _ | .array _ _ => true
  | _ => false
theorem run_agg {t : TypeId} {d : TypeDesc} (hd : P.underlying t = some d) : (isAgg t).run P w = .ok (aggB d) w := by
  simp only [isAgg, Sem.run_bind, run_under hd, Result.andThen]
  cases d <;> rfl

theorem alloc_sound (h : RelW E w) {t : TypeId} {i : TypeInfo} {z : Value} (hi : P.info? t = some i) (hz : i.zero = some z) {v : AVal} {H' : AHeap}
    (ha : aAlloc E.H (z.cells.toList.map toA) = some (v, H')) : Runs P E w (Instr.alloc t true (.tuple #[])) v H' := by
  simp only [aAlloc, Option.some.injEq, Prod.mk.injEq] at ha
  obtain ⟨rfl, rfl⟩ := ha
  obtain ⟨E', h1, h2, h3, h4, h5, h6⟩ := new_cells h (w' := w.alloc (.cells z.cells t)) .exact (cs := z.cells.toList.map toA) (c := z.cells) (t := t) (fz := (0, 0))
    (by rw [List.take_of_length_le (by simp)]; exact toA_relL _) (by simp) (fun _ => by simp) (fun _ => .inl rfl) rfl rfl rfl rfl
  refine ⟨.pointer (some ⟨w.heap.size, 0, none⟩), _, E', ?_, ?_, h1, h3, h2⟩
  · simp [Instr.alloc, run_zero hi hz, newVar, newRow]
  · simp only [RelG]; exact ⟨_, rfl, new_ref h3 h6 h4⟩

theorem box_sound (h : RelW E w) {t : TypeId} {x : AVal} {u : Value} (hx : RelV E x u) {v : AVal} {H' : AHeap}
    (ha : aBox E.H x = some (v, H')) : Runs P E w (Instr.box t u) v H' := by
  unfold aBox at ha
  split at ha
  case isFalse => cases ha
  rename_i hu
  have hu := defd_ne hu
  simp only [Option.some.injEq, Prod.mk.injEq] at ha
  obtain ⟨rfl, rfl⟩ := ha
  have hc := RelV.cells hx hu
  have hl := hc.length
  obtain ⟨E', h1, h2, h3, h4, h5, h6⟩ := new_cells h (w' := w.alloc (.cells u.cells t)) .exact (cs := x.cells) (c := u.cells) (t := t) (fz := (0, 0))
    (by rw [List.take_of_length_le (by simpa using Nat.le_of_eq hl.symm)]; exact hc) (by simpa using Nat.le_of_eq hl) (fun _ => by simpa using hl) (fun _ => .inl rfl) rfl rfl rfl rfl
  refine ⟨.pointer (some ⟨w.heap.size, 0, none⟩), _, E', ?_, ?_, h1, h3, h2⟩
  · simp [Instr.box, newVar, newRow]
  · simp only [RelG]; exact ⟨_, rfl, new_ref h3 h6 h4⟩

theorem loadVar_sound (h : RelW E w) {t : TypeId} {i : TypeInfo} {d : TypeDesc} (hi : P.info? t = some i) (hd : P.underlying t = some d) {x : AVal} {u : Value} (hx : RelV E x u)
    {v : AVal} (ha : aLoad E.H (aggB d) i.size x = some v) : Runs P E w (Instr.loadAt t u) v E.H := by
  unfold aLoad at ha
  split at ha
  · rename_i r
    simp only [RelG] at hx
    obtain ⟨a, rfl, hr1, hr2, hr3, hr4⟩ := hx
    split at ha
    · rename_i cs hrd
      obtain ⟨g1, g2, vs, g3, g4, g5, _⟩ := rd_sound h hrd hr1
      have ha' := hr4 g2
      cases hag : aggB d with
      | true =>
        simp only [hag, cond_true, Option.some.injEq] at ha hrd g4
        subst ha
        refine Runs.pure h (u := .agg vs.toArray) ?_ (by simp only [RelG]; exact ⟨vs, rfl, g3⟩)
        have := run_loadCells_of (P := P) (w := w) a _ _ ha' vs g5
        simp [Instr.loadAt, Instr.sureAddr, loadVar, run_agg hd, hag, run_size hi]
        rw [← g4]; simp [this]
      | false =>
        simp only [hag, cond_false] at ha g4
        cases vs with
        | nil => simp at g4
        | cons y ys =>
          cases cs with
          | nil => simp at ha
          | cons c cs =>
            simp only [List.head?_cons, Option.some.injEq] at ha
            subst ha
            refine Runs.pure h (u := y) ?_ (RelGL.cons_iff.1 g3).1
            have hc := g5 0 y (by simp)
            simp only [Nat.add_zero] at hc
            rw [← ha'] at hc
            simp [Instr.loadAt, Instr.sureAddr, loadVar, run_agg hd, hag, hc]
    · cases ha
  · cases ha

theorem storeVar_sound (h : RelW E w) {t : TypeId} {i : TypeInfo} (hi : P.info? t = some i) {x v : AVal} {u y : Value} (hx : RelV E x u) (hv : RelV E v y)
    {H' : AHeap} (ha : aStore E.H i.size x v = some H') :
    ∃ w' E', (Instr.storeAt t u y).run P w = .ok () w' ∧ RelW E' w' ∧ E'.H = H' ∧ Ext E w E' w' := by
  unfold aStore at ha
  split at ha
  · rename_i r
    simp only [RelG] at hx
    obtain ⟨a, rfl, hr1, hr2, hr3, hr4⟩ := hx
    split at ha
    · rename_i hlen
      have hver : r.ver = verOf E.H r.id ∧ v ≠ .undef := by
        unfold wrCells at ha
        split at ha
        · rename_i vv kd cs h0
          split at ha
          · rename_i hc
            refine ⟨by rw [verOf_some h0]; exact hc.1.symm, ?_⟩
            rintro rfl
            have := hc.2.2.2
            simp [AVal.cells, AVal.isCell] at this
          · cases ha
        · cases ha
      have hcl := RelV.cells hv hver.2
      obtain ⟨w', E', g1, g2, g3, g4⟩ := wr_sound (P := P) h ha hr1 hcl
      refine ⟨w', E', ?_, g3, g2, g4⟩
      have hl := hcl.length
      rw [← hr4 hver.1] at g1
      have : y.cells.size = i.size := by rw [← hlen, hl]; simp
      simp [Instr.storeAt, Instr.sureAddr, storeVar, run_size hi, this, g1]
    · cases ha
  · cases ha
end
end Go.Abs

/- The operations one by one, on: arithmetic, comparison, parts. -/
namespace Go.Abs
open Go

theorem bytes_mk (s : List UInt8) : (⟨s.toArray⟩ : ByteArray).toList = s := by rw [Lib.toList_data]
theorem bytes_size (s : List UInt8) : (⟨s.toArray⟩ : ByteArray).size = s.length := by simp [ByteArray.size]
theorem bytes_append (s t : List UInt8) : (⟨s.toArray⟩ : ByteArray) ++ ⟨t.toArray⟩ = ⟨(s ++ t).toArray⟩ := by
  apply ByteArray.ext
  simp
theorem bytes_extract (s : List UInt8) (a b : Nat) : (⟨s.toArray⟩ : ByteArray).extract a b = ⟨((s.take b).drop a).toArray⟩ := by
  have h := Lib.extract_data ⟨s.toArray⟩ a b
  apply ByteArray.ext
  apply Array.ext'
  rw [h]
  simp [List.drop_take]

section
variable {P : Program} {E : Env} {w : World}

theorem rel_int {k : IntKind} {n : Int} : RelV E (.int k n) (.int k n) := by simp only [RelG]
theorem rel_bool {b : Bool} : RelV E (.bool b) (.bool b) := by simp only [RelG]
theorem rel_str {s : List UInt8} : RelV E (.str s) (.string ⟨s.toArray⟩) := by simp only [RelG]

theorem aInt_sound {op : BinOp} {k : IntKind} {a b : Int} {t : TypeId} {v : AVal} (hs : op ≠ .shl ∧ op ≠ .shr) (h : aInt op k a b = some v) :
    ∃ u, (binOp op t (.int k a) (.int k b)).run P w = .ok u w ∧ RelV E v u := by
  cases op <;> simp only [aInt] at h <;> first
    | (cases h; done)
    | (exact absurd rfl hs.1)
    | (exact absurd rfl hs.2)
    | (simp only [Option.some.injEq] at h; subst h; exact ⟨_, by simp [binOp, Op.intArith, Op.intBits, Op.intCmp], rel_int⟩)
    | (simp only [Option.some.injEq] at h; subst h; exact ⟨_, by simp [binOp, Op.intArith, Op.intBits, Op.intCmp], rel_bool⟩)
    | (split at h
       · cases h
       · rename_i hb
         simp only [Option.some.injEq] at h; subst h
         exact ⟨_, by simp [binOp, Op.intDiv, hb], rel_int⟩)

theorem aStr_sound {op : BinOp} {a b : List UInt8} {t : TypeId} {v : AVal} (h : aStr op a b = some v) :
    ∃ u, (binOp op t (.string ⟨a.toArray⟩) (.string ⟨b.toArray⟩)).run P w = .ok u w ∧ RelV E v u := by
  cases op <;> simp only [aStr] at h <;> first
    | (cases h; done)
    | (simp only [Option.some.injEq] at h; subst h; exact ⟨_, by simp [binOp, Op.stringOp, bytes_mk], rel_bool⟩)
    | skip
  case add =>
    split at h
    · rename_i hl
      simp only [Option.some.injEq] at h; subst h
      refine ⟨.string ⟨(a ++ b).toArray⟩, ?_, by simp only [RelG]⟩
      have : ¬ ((((⟨a.toArray⟩ : ByteArray).size + (⟨b.toArray⟩ : ByteArray).size : Nat) : Int) > IntKind.i64.max) := by
        rw [bytes_size, bytes_size]; simp only [IntKind.max, IntKind.signed, IntKind.bits]; simp; omega
      simp only [binOp, Op.stringOp]
      rw [if_neg this, bytes_append]; rfl
    · cases h

theorem aBin_sound {op : BinOp} {t : TypeId} {x y : AVal} {a b : Value} (hx : RelV E x a) (hy : RelV E y b) {v : AVal} (h : aBin op x y = some v) :
    ∃ u, (binOp op t a b).run P w = .ok u w ∧ RelV E v u := by
  unfold aBin at h
  split at h
  · simp only [RelG] at hx hy; subst hx; subst hy
    split at h
    · cases h
    · rename_i hb
      simp only [Option.some.injEq] at h; subst h
      exact ⟨_, by simp [binOp, Op.shift, hb], rel_int⟩
  · simp only [RelG] at hx hy; subst hx; subst hy
    split at h
    · cases h
    · rename_i hb
      simp only [Option.some.injEq] at h; subst h
      exact ⟨_, by simp [binOp, Op.shift, hb], rel_int⟩
  · simp only [RelG] at hx hy; subst hx; subst hy
    rename_i h1 h2
    split at h
    · rename_i hk; subst hk
      refine aInt_sound ⟨?_, ?_⟩ h
      · rintro rfl; exact h1 rfl
      · rintro rfl; exact h2 rfl
    · cases h
  · simp only [RelG] at hx hy; subst hx; subst hy
    exact aStr_sound h
  · cases h

theorem aUn_sound {op : UnOp} {x : AVal} {a : Value} (hx : RelV E x a) {v : AVal} (h : aUn op x = some v) :
    ∃ u, (Op.unary op a).run P w = .ok u w ∧ RelV E v u := by
  unfold aUn at h
  split at h
  · simp only [RelG] at hx; subst hx
    simp only [Option.some.injEq] at h; subst h
    exact ⟨_, by simp [Op.unary, Op.intArith], rel_int⟩
  · simp only [RelG] at hx; subst hx
    simp only [aInt, Option.some.injEq] at h; subst h
    exact ⟨_, by simp [Op.unary, Op.intBits], rel_int⟩
  · simp only [RelG] at hx; subst hx
    simp only [Option.some.injEq] at h; subst h
    exact ⟨_, by simp [Op.unary], rel_bool⟩
  · cases h

theorem aPart_sound {cs : List AVal} {l : List Value} (hl : RelL E cs l) {t : TypeId} {i : TypeInfo} {d : TypeDesc} (hi : P.info? t = some i) (hd : P.underlying t = some d)
    {off : Nat} {v : AVal} (h : aPart (aggB d) i.size off cs = some v) : ∃ u, (part t l.toArray off).run P w = .ok u w ∧ RelV E v u := by
  unfold aPart at h
  have hlen := hl.length
  cases hag : aggB d with
  | true =>
    simp only [hag, cond_true] at h
    split at h
    · rename_i hle
      simp only [Option.some.injEq] at h; subst h
      refine ⟨.agg ((l.drop off).take i.size).toArray, ?_, by simp only [RelG]; exact ⟨_, rfl, (hl.drop _).take _⟩⟩
      simp [part, run_agg hd, hag, run_size hi]
    · cases h
  | false =>
    simp only [hag, cond_false] at h
    obtain ⟨y, hy, hr⟩ := hl.get h
    exact ⟨y, by simp [part, run_agg hd, hag, hy], hr⟩

theorem aField_sound {x : AVal} {a : Value} (hx : RelV E x a) {t : TypeId} {fs : Array Field} (hd : P.underlying t = some (.struct fs)) {k : Nat} {f : Field} (hf : fs[k]? = some f)
    {i : TypeInfo} {d : TypeDesc} (hi : P.info? f.type = some i) (hd' : P.underlying f.type = some d) {v : AVal} (h : aField (aggB d) i.size f.offset x = some v) :
    ∃ u, (Instr.field t a k).run P w = .ok u w ∧ RelV E v u := by
  unfold aField at h
  split at h
  · simp only [RelG] at hx
    obtain ⟨l, rfl, hl⟩ := hx
    obtain ⟨u, h1, h2⟩ := aPart_sound (P := P) (w := w) hl hi hd' h
    exact ⟨u, by simp [Instr.field, run_under hd, hf, asAgg, h1], h2⟩
  · cases h

theorem aIndexArr_sound {x y : AVal} {a b : Value} (hx : RelV E x a) (hy : RelV E y b) {t et : TypeId} {n : Nat} (hd : P.underlying t = some (.array n et))
    {i : TypeInfo} {d : TypeDesc} (hi : P.info? et = some i) (hd' : P.underlying et = some d) {v : AVal} (h : aIndexArr n (aggB d) i.size x y = some v) :
    ∃ u, (Instr.index t a b).run P w = .ok u w ∧ RelV E v u := by
  unfold aIndexArr at h
  split at h
  · simp only [RelG] at hx hy
    obtain ⟨l, rfl, hl⟩ := hx
    subst hy
    split at h
    · rename_i hk
      obtain ⟨u, h1, h2⟩ := aPart_sound (P := P) (w := w) hl hi hd' h
      exact ⟨u, by simp [Instr.index, asIntOf, run_under hd, hk, run_size hi, h1], h2⟩
    · cases h
  · cases h

theorem aIndexStr_sound {x y : AVal} {a b : Value} (hx : RelV E x a) (hy : RelV E y b) {t : TypeId} (hd : P.underlying t = some .string)
    {v : AVal} (h : aIndexStr x y = some v) :
    ∃ u, (Instr.index t a b).run P w = .ok u w ∧ RelV E v u := by
  unfold aIndexStr at h
  split at h
  · simp only [RelG] at hx hy
    subst hx; subst hy
    split at h
    · rename_i s _ k hk
      split at h
      · rename_i c hc
        simp only [Option.some.injEq] at h; subst h
        have h0 : (⟨s.toArray⟩ : ByteArray)[k.toNat]? = some c := by
          obtain ⟨hl, he⟩ := List.getElem?_eq_some_iff.1 hc
          rw [getElem?_pos _ _ (by rw [bytes_size]; exact hl)]
          congr 1
        exact ⟨.int .u8 c.toNat, by simp [Instr.index, asIntOf, run_under hd, hk, h0], rel_int⟩
      · cases h
    · cases h
  · cases h

theorem aExtract_sound {x : AVal} {a : Value} (hx : RelV E x a) {i : Nat} {v : AVal} (h : aExtract x i = some v) :
    ∃ u, (Instr.extract a i).run P w = .ok u w ∧ RelV E v u := by
  unfold aExtract at h
  split at h
  · simp only [RelG] at hx
    obtain ⟨l, rfl, hl⟩ := hx
    obtain ⟨y, hy, hr⟩ := hl.get h
    exact ⟨y, by simp [Instr.extract, hy], hr⟩
  · cases h

theorem aNilCheck_sound {x : AVal} {a : Value} (hx : RelV E x a) {v : AVal} (h : aNilCheck x = some v) :
    RelV E v a ∧ (∃ p, a = .pointer (some p)) ∨ (RelV E v a ∧ ∃ f l k, a = .func (.func f) l k) := by
  unfold aNilCheck at h
  split at h
  · simp only [Option.some.injEq] at h; subst h
    left; refine ⟨hx, ?_⟩
    simp only [RelG] at hx; obtain ⟨p, rfl, _⟩ := hx; exact ⟨p, rfl⟩
  · simp only [Option.some.injEq] at h; subst h
    right; refine ⟨hx, ?_⟩
    simp only [RelG] at hx; obtain ⟨p, q, rfl, _⟩ := hx; exact ⟨_, _, _, rfl⟩
  · cases h

theorem RelRef.off {r : Ref} {a : Addr} (h : RelRef E r a) (n : Nat) : RelRef E { r with off := r.off + n } (a.add n) := by
  obtain ⟨h1, h2, h3, h4⟩ := h
  exact ⟨h1, h2, h3, fun hv => by rw [h4 hv, add_none]⟩

theorem aFieldAddr_sound {x : AVal} {a : Value} (hx : RelV E x a) {t : TypeId} {fs : Array Field} (hd : P.underlying t = some (.struct fs)) {k : Nat} {f : Field} (hf : fs[k]? = some f)
    (hz : ∀ w p, (fieldPlace p f).run P w = .ok (p.add f.offset) w) {v : AVal} (h : aFieldAddr f.offset x = some v) :
    ∃ u, (Instr.fieldAt t a k).run P w = .ok u w ∧ RelV E v u := by
  unfold aFieldAddr at h
  split at h
  · simp only [RelG] at hx
    obtain ⟨p, rfl, hp⟩ := hx
    simp only [Option.some.injEq] at h; subst h
    exact ⟨.pointer (some (p.add f.offset)), by simp [Instr.fieldAt, run_under hd, hf, Instr.sureAddr, hz], by simp only [RelG]; exact ⟨_, rfl, hp.off _⟩⟩
  · cases h

theorem aIndexAddr_sound {x y : AVal} {a b : Value} (hx : RelV E x a) (hy : RelV E y b) {t et : TypeId} (hd : P.underlying t = some (.slice et))
    {i : TypeInfo} (hi : P.info? et = some i) {v : AVal} (h : aIndexAddr i.size x y = some v) :
    ∃ u, (Instr.indexAt t a b).run P w = .ok u w ∧ RelV E v u := by
  unfold aIndexAddr at h
  split at h
  · rename_i r n c _ k
    simp only [RelG] at hx hy
    obtain ⟨p, m, rfl, h1, h2, h3, h4⟩ := hx
    subst hy
    split at h
    · rename_i hk
      simp only [Option.some.injEq] at h; subst h
      refine ⟨.pointer (some (p.add (k.toNat * i.size))), by simp [Instr.indexAt, asIntOf, run_under hd, hk, run_size hi], ?_⟩
      simp only [RelG]
      refine ⟨_, rfl, h1, h2, h3, fun hv => ?_⟩
      have h4 := h4 hv
      cases c with
      | ex c => simp only at h4; rw [h4.1, add_none]
      | op es =>
        obtain ⟨g1, g2, g3, g4⟩ := h4
        rcases g4 with ⟨g4, _⟩ | ⟨g4, _⟩
        · obtain ⟨pb, po, ps⟩ := p
          simp only at g1 g2 g4
          subst g1; subst g2; subst g4
          rw [add_none]
        · omega
    · cases h
  · cases h

theorem aIndexAddrArr_sound {x y : AVal} {a b : Value} (hx : RelV E x a) (hy : RelV E y b) {t et : TypeId} {n : Nat} (hd : P.underlying t = some (.array n et))
    {i : TypeInfo} (hi : P.info? et = some i) {v : AVal} (h : aIndexAddrArr n i.size x y = some v) :
    ∃ u, (Instr.indexAt t a b).run P w = .ok u w ∧ RelV E v u := by
  unfold aIndexAddrArr at h
  split at h
  · rename_i r _ k
    simp only [RelG] at hx hy
    obtain ⟨p, rfl, hp⟩ := hx
    subst hy
    split at h
    · rename_i hk
      simp only [Option.some.injEq] at h; subst h
      refine ⟨.pointer (some (p.add (k.toNat * i.size))), by simp [Instr.indexAt, asIntOf, run_under hd, hk, run_size hi, Instr.sureAddr], ?_⟩
      simp only [RelG]
      exact ⟨_, rfl, hp.off _⟩
    · cases h
  · cases h
end
end Go.Abs

/- The operations one by one, on: slicing, making, appending, copying, texts and bytes. -/
namespace Go.Abs
open Go

section
variable {P : Program} {E : Env} {w : World}

/-- A bound that is written stands for one that is written. -/
def RelO (E : Env) : Option AVal → Option Value → Prop
  | none, none => True
  | some x, some v => RelV E x v
  | _, _ => False

theorem bnd_run {x : AVal} {a : Value} (hx : RelV E x a) {d k y : Nat} (h : bnd d (some x) = some k) (hk : k ≤ y) (c : BoundsCode) :
    (Instr.sliceBound a y c).run P w = .ok k w := by
  unfold bnd at h
  split at h
  · rename_i heq; cases heq
  · rename_i heq
    simp only [Option.some.injEq] at heq; subst heq
    simp only [RelG] at hx; subst hx
    split at h
    · rename_i n h0
      simp only [Option.some.injEq] at h; subst h
      have : 0 ≤ n ∧ n ≤ (y : Int) := ⟨h0, by omega⟩
      simp [Instr.sliceBound, asIntOf, this]
    · cases h
  · cases h

theorem bnd_some {d d' : Nat} {x : AVal} : bnd d (some x) = bnd d' (some x) := by cases x <;> rfl

theorem bounds_run {isS : Bool} {len cap : Nat} {lo hi mx : Option AVal} {lo' hi' mx' : Option Value} (hl : RelO E lo lo') (hh : RelO E hi hi') (hm : RelO E mx mx')
    {l h m : Nat} (el : bnd 0 lo = some l) (eh : bnd len hi = some h) (em : bnd cap mx = some m) (c1 : l ≤ h) (c2 : h ≤ m) (c3 : m ≤ cap) (c4 : mx.isSome = true → hi.isSome = true) :
    (Instr.sliceBounds isS len cap lo' hi' mx').run P w = .ok (l, h, m) w := by
  have key : ∀ {d k y : Nat} {o : Option AVal} {o' : Option Value}, RelO E o o' → bnd d o = some k → k ≤ y →
      (o' = none → k = d) ∧ (∀ v, o' = some v → ∀ c, (Instr.sliceBound v y c).run P w = .ok k w) ∧ (o.isSome = o'.isSome) := by
    intro d k y o o' hr hb hk
    cases o with
    | none => cases o' with
      | none => simp [bnd] at hb; exact ⟨fun _ => hb.symm, fun v e => by simp at e, rfl⟩
      | some _ => exact hr.elim
    | some x => cases o' with
      | none => exact hr.elim
      | some v => exact ⟨fun e => by simp at e, fun u e c => by cases e; exact bnd_run hr hb hk c, rfl⟩
  obtain ⟨m1, m2, m3⟩ := key hm em c3
  obtain ⟨h1, h2, h3⟩ := key hh eh c2
  obtain ⟨l1, l2, l3⟩ := key hl el c1
  rw [m3, h3] at c4
  cases mx' with
  | none =>
    have e := m1 rfl; subst e
    cases hi' with
    | none =>
      have e := h1 rfl; subst e
      cases lo' with
      | none => have e := l1 rfl; subst e; simp [Instr.sliceBounds]
      | some v => simp [Instr.sliceBounds, l2 v rfl]
    | some u =>
      cases lo' with
      | none => have e := l1 rfl; subst e; simp [Instr.sliceBounds, h2 u rfl]
      | some v => simp [Instr.sliceBounds, l2 v rfl, h2 u rfl]
  | some t =>
    cases hi' with
    | none => simp at c4
    | some u =>
      cases lo' with
      | none => have e := l1 rfl; subst e; simp [Instr.sliceBounds, h2 u rfl, m2 t rfl]
      | some v => simp [Instr.sliceBounds, l2 v rfl, h2 u rfl, m2 t rfl]

theorem aSliceStr_sound {x : AVal} {a : Value} (hx : RelV E x a) {t : TypeId} (hd : P.underlying t = some .string) {lo hi : Option AVal} {lo' hi' : Option Value}
    (hl : RelO E lo lo') (hh : RelO E hi hi') {v : AVal} (h : aSliceStr x lo hi = some v) :
    ∃ u, (Instr.sliceAt t a lo' hi' none).run P w = .ok u w ∧ RelV E v u := by
  unfold aSliceStr at h
  split at h
  · rename_i s
    simp only [RelG] at hx; subst hx
    split at h
    · rename_i l k el eh
      split at h
      · rename_i hc
        simp only [Option.some.injEq] at h; subst h
        have hb := bounds_run (P := P) (E := E) (w := w) (isS := false) (len := s.length) (cap := s.length) (mx := none) (mx' := none) hl hh trivial el eh rfl hc.1 hc.2 (Nat.le_refl _) (by simp)
        refine ⟨.string ⟨((s.take k).drop l).toArray⟩, ?_, rel_str⟩
        simp [Instr.sliceAt, run_under hd, Instr.slice, bytes_size, hb, bytes_extract]
      · cases h
    · cases h
  · cases h

theorem RelSl.partEx {r : Ref} {n c' l h m : Nat} {c : Cap} {p : Addr} {es : Nat} (hx : RelSl E r n c p c')
    (hc : match c with | .ex _ => True | .op _ => 0 < n) :
    RelSl E { r with off := if m = l then r.off else r.off + l * es } (h - l) (.ex (m - l)) (if m = l then p else p.add (l * es)) (m - l) := by
  obtain ⟨h1, h2, h3, h4⟩ := hx
  refine ⟨h1, h2, h3, fun hver => ?_⟩
  have h4 := h4 hver
  have hp : p = ⟨E.m r.id, r.off, none⟩ := by
    cases c with
    | ex c => exact h4.1
    | op es' =>
      obtain ⟨g1, g2, g3, g4⟩ := h4
      simp only at hc
      rcases g4 with ⟨g4, _⟩ | ⟨g4, _⟩
      · obtain ⟨pb, po, ps⟩ := p; simp only at g1 g2 g4; subst g1; subst g2; subst g4; rfl
      · omega
  subst hp
  refine ⟨?_, rfl⟩
  by_cases e : m = l <;> simp [e, add_none]
theorem RelSl.partOp {r : Ref} {n c' l h : Nat} {p : Addr} {es : Nat} (hx : RelSl E r n (.op es) p c') (hlh : l ≤ h) (hn : r.ver = verOf E.H r.id → h ≤ c') :
    RelSl E { r with off := r.off + l * es } (h - l) (.op es) (if c' = l then p else p.add (l * es)) (c' - l) := by
  obtain ⟨h1, h2, h3, h4⟩ := hx
  refine ⟨h1, h2, h3, fun hver => ?_⟩
  have hn := hn hver
  obtain ⟨g1, g2, g3, g4⟩ := h4 hver
  obtain ⟨pb, po, ps⟩ := p
  simp only at g1 g2 g4; subst g1; subst g2
  by_cases hml : c' = l
  · subst hml
    simp only [if_true]
    refine ⟨by first | rfl | trivial, by first | rfl | trivial, by omega, .inr ⟨by omega, by omega, fun ho => ?_⟩⟩
    rcases g4 with ⟨g4, g5⟩ | ⟨g4, g5, g6⟩
    · exact (g5 ho).symm
    · subst g5; simp only [Nat.zero_mul, Nat.add_zero]; exact g6 ho
  · rw [if_neg hml, add_none]
    refine ⟨by first | rfl | trivial, by first | rfl | trivial, by omega, .inl ⟨?_, fun ho => ?_⟩⟩
    · rcases g4 with ⟨g4, g5⟩ | ⟨g4, g5, g6⟩
      · simp only; rw [g4]
      · omega
    · rcases g4 with ⟨g4, g5⟩ | ⟨g4, g5, g6⟩
      · rw [← g5 ho, Nat.sub_mul, Nat.add_assoc]
        have : l * es ≤ c' * es := Nat.mul_le_mul_right _ (by omega)
        omega
      · omega

theorem aSlice_sound (hw : RelW E w) {x : AVal} {a : Value} (hx : RelV E x a) {t et : TypeId} (hd : P.underlying t = some (.slice et)) {i : TypeInfo} (hi : P.info? et = some i)
    {lo hi' mx : Option AVal} {lo0 hi0 mx0 : Option Value} (hl : RelO E lo lo0) (hh : RelO E hi' hi0) (hm : RelO E mx mx0) {v : AVal}
    (h : aSlice E.H i.size x lo hi' mx = some v) (hmx : mx.isSome = true → hi'.isSome = true) :
    ∃ u, (Instr.sliceAt t a lo0 hi0 mx0).run P w = .ok u w ∧ RelV E v u := by
  unfold aSlice at h
  split at h
  · simp only [RelG] at hx; subst hx
    split at h
    · rename_i e1 e2 e3
      simp only [Option.some.injEq] at h; subst h
      have hb := bounds_run (P := P) (E := E) (w := w) (isS := true) (len := 0) (cap := 0) hl hh hm e1 e2 e3 (Nat.le_refl _) (Nat.le_refl _) (Nat.le_refl _) hmx
      exact ⟨.slice none 0 0, by simp [Instr.sliceAt, run_under hd, Instr.slice, hb, run_size hi], by simp only [RelG]⟩
    · cases h
  · rename_i r n c
    simp only [RelG] at hx
    obtain ⟨p, k, rfl, hs⟩ := hx
    split at h
    · rename_i l hh0 m e1 e2 e3
      split at h
      · rename_i hc
        obtain ⟨hv, hc⟩ := hc
        have hs' := hs
        obtain ⟨h1, h2, h3, h4⟩ := hs
        obtain ⟨hp, rfl⟩ := h4 hv
        simp only [Option.some.injEq] at h; subst h
        have hb := bounds_run (P := P) (E := E) (w := w) (isS := true) (len := n) (cap := k) hl hh hm e1 e2 e3 hc.1 hc.2.1 hc.2.2 hmx
        refine ⟨.slice (some (if m = l then p else p.add (l * i.size))) (hh0 - l) (m - l), ?_, ?_⟩
        · simp only [Instr.sliceAt, run_under hd, Instr.slice, hb, run_size hi, Sem.run_bind, Result.andThen, Sem.run_pure]
          by_cases e : m = l <;> simp [e]
        · simp only [RelG]
          exact ⟨_, _, rfl, RelSl.partEx (c := .ex k) hs' trivial⟩
      · cases h
    · cases h
  · rename_i r n es'
    simp only [RelG] at hx
    obtain ⟨p, k, rfl, hs⟩ := hx
    split at h
    · split at h
      · rename_i l hh0 e1 e2
        split at h
        · rename_i hc
          obtain ⟨hv, hc⟩ := hc
          have hs' := hs
          obtain ⟨h1, h2, h3, h4⟩ := hs
          have h4 := h4 hv
          simp only at h4
          simp only [Option.some.injEq] at h; subst h
          have hmx0 : mx0 = none := by cases mx0 with | none => rfl | some _ => exact hm.elim
          subst hmx0
          have hb := bounds_run (P := P) (E := E) (w := w) (isS := true) (len := n) (cap := k) (mx := none) (mx' := none) hl hh trivial e1 e2 rfl hc.2.1 (by omega) (Nat.le_refl _) (by simp)
          refine ⟨.slice (some (if k = l then p else p.add (l * i.size))) (hh0 - l) (k - l), ?_, ?_⟩
          · simp only [Instr.sliceAt, run_under hd, Instr.slice, hb, run_size hi, Sem.run_bind, Result.andThen, Sem.run_pure]
            by_cases e : k = l <;> simp [e]
          · simp only [RelG]
            obtain ⟨rfl, hc1, hc2⟩ := hc
            exact ⟨_, _, rfl, RelSl.partOp hs' hc1 fun _ => by omega⟩
        · split at h
          · rename_i hov
            simp only [Option.some.injEq] at h; subst h
            unfold overOk at hov
            split at hov
            · rename_i v0 cs0 h0
              obtain ⟨hv0, heq, hes, hlh, hh0', hlen⟩ := of_decide_eq_true hov
              subst heq
              have hs' := hs
              obtain ⟨h1, h2, h3, h4⟩ := hs
              have hvv : r.ver = verOf E.H r.id := by rw [verOf_some h0]; exact hv0.symm
              have h4 := h4 hvv
              simp only at h4
              obtain ⟨c, e, fz, g1, g2, g3, g4, _, _⟩ := hw.obj r.id _ h1 h0
              have hop : opnAt E.H r.id = true := by unfold opnAt; rw [h0]; rfl
              have hk : hh0 ≤ k := by
                obtain ⟨_, _, _, ⟨q1, q2⟩ | ⟨q1, q2, q3⟩⟩ := h4
                · have := q2 hop
                  have q : hh0 * i.size ≤ k * i.size := by omega
                  exact Nat.le_of_mul_le_mul_right q hes
                · have := q3 hop
                  have q : hh0 * i.size = 0 := by omega
                  rcases Nat.mul_eq_zero.1 q with q | q <;> omega
              have hmx0 : mx0 = none := by cases mx0 with | none => rfl | some _ => exact hm.elim
              subst hmx0
              have hb := bounds_run (P := P) (E := E) (w := w) (isS := true) (len := n) (cap := k) (mx := none) (mx' := none) hl hh trivial e1 e2 rfl hlh hk (Nat.le_refl _) (by simp)
              refine ⟨.slice (some (if k = l then p else p.add (l * i.size))) (hh0 - l) (k - l), ?_, ?_⟩
              · simp only [Instr.sliceAt, run_under hd, Instr.slice, hb, run_size hi, Sem.run_bind, Result.andThen, Sem.run_pure]
                by_cases e : k = l <;> simp [e]
              · simp only [RelG]
                exact ⟨_, _, rfl, RelSl.partOp hs' hlh fun _ => hk⟩
            · cases hov
          · cases h
      · cases h
    · split at h
      · rename_i l hh0 m e1 e2 e3
        split at h
        · rename_i hc
          obtain ⟨hv, hc⟩ := hc
          have hs' := hs
          obtain ⟨h1, h2, h3, h4⟩ := hs
          have h4 := h4 hv
          simp only at h4
          simp only [Option.some.injEq] at h; subst h
          have e3' : bnd k (some _) = some m := bnd_some.trans e3
          have hb := bounds_run (P := P) (E := E) (w := w) (isS := true) (len := n) (cap := k) hl hh hm e1 e2 e3' hc.1 hc.2.1 (by omega) hmx
          refine ⟨.slice (some (if m = l then p else p.add (l * i.size))) (hh0 - l) (m - l), ?_, ?_⟩
          · simp only [Instr.sliceAt, run_under hd, Instr.slice, hb, run_size hi, Sem.run_bind, Result.andThen, Sem.run_pure]
            by_cases e : m = l <;> simp [e]
          · simp only [RelG]
            exact ⟨_, _, rfl, RelSl.partEx hs' hc.2.2.2⟩
        · cases h
      · cases h
  · cases h

theorem aSliceArr_sound {x : AVal} {a : Value} (hx : RelV E x a) {t et : TypeId} {n : Nat} (hd : P.underlying t = some (.array n et)) {i : TypeInfo} (hi : P.info? et = some i)
    {lo hi' mx : Option AVal} {lo0 hi0 mx0 : Option Value} (hl : RelO E lo lo0) (hh : RelO E hi' hi0) (hm : RelO E mx mx0) {v : AVal}
    (h : aSliceArr n i.size x lo hi' mx = some v) (hmx : mx.isSome = true → hi'.isSome = true) :
    ∃ u, (Instr.sliceAt t a lo0 hi0 mx0).run P w = .ok u w ∧ RelV E v u := by
  unfold aSliceArr at h
  split at h
  · rename_i r
    simp only [RelG] at hx
    obtain ⟨p, rfl, hs⟩ := hx
    split at h
    · rename_i l hh0 m e1 e2 e3
      split at h
      · rename_i hc
        simp only [Option.some.injEq] at h; subst h
        have hb := bounds_run (P := P) (E := E) (w := w) (isS := false) (len := n) (cap := n) hl hh hm e1 e2 e3 hc.1 hc.2.1 hc.2.2 hmx
        refine ⟨.slice (some (if m = l then p else p.add (l * i.size))) (hh0 - l) (m - l), ?_, ?_⟩
        · simp [Instr.sliceAt, run_under hd, Instr.sureAddr, hb, run_size hi]
        · simp only [RelG]
          refine ⟨_, _, rfl, ?_⟩
          obtain ⟨h1, h2, h3, h4⟩ := hs
          exact RelSl.partEx (c := .ex n) (c' := n) (n := n) ⟨h1, h2, h3, fun hv => ⟨h4 hv, rfl⟩⟩ trivial
      · cases h
    · cases h
  · cases h
end
end Go.Abs

/- The operations one by one, on: building, making, appending, copying, texts and bytes. -/
namespace Go.Abs
open Go

theorem foldl_splice {α : Type} (off : Nat) : ∀ (vs : List α) (k : Nat) (cells : Array α), off + k + vs.length ≤ cells.size →
    ((vs.zipIdx k).foldl (fun cs p => cs.setIfInBounds (off + p.2) p.1) cells).toList = splice cells.toList (off + k) vs
  | [], k, cells, _ => by simp [splice]
  | v :: vs, k, cells, h => by
    simp only [List.length_cons] at h
    rw [List.zipIdx_cons, List.foldl_cons, foldl_splice off vs (k + 1) _ (by simp; omega), Array.toList_setIfInBounds]
    exact splice_step (by simp; omega)

section
variable {P : Program} {E : Env} {w : World}

def RelParts (E : Env) : List (Nat × AVal) → List (Nat × Value) → Prop
  | [], l => l = []
  | (i, x) :: r, l => ∃ v l', l = (i, v) :: l' ∧ RelV E x v ∧ RelParts E r l'

theorem fill_sound (place : Nat → Option (Nat × Nat)) : ∀ (parts : List (Nat × AVal)) (parts' : List (Nat × Value)) (cells : List AVal) (cells' : Array Value) {out : List AVal},
    RelParts E parts parts' → RelL E cells cells'.toList → fillA place cells parts = some out →
    ∃ out' : Array Value, Instr.fill place cells' parts' = some out' ∧ RelL E out out'.toList
  | [], parts', cells, cells', out, hp, hc, h => by
    simp only [RelParts] at hp; subst hp
    simp only [fillA, Option.some.injEq] at h; subst h
    exact ⟨cells', rfl, hc⟩
  | (i, x) :: r, parts', cells, cells', out, hp, hc, h => by
    simp only [RelParts] at hp
    obtain ⟨v, l', rfl, hv, hr⟩ := hp
    simp only [fillA] at h
    cases hpl : place i with
    | none => rw [hpl] at h; cases h
    | some os =>
      obtain ⟨off, size⟩ := os
      rw [hpl] at h
      simp only at h
      split at h
      · rename_i hh
        obtain ⟨h1, h2, h3⟩ := hh
        have hvc := RelV.cells hv (defd_ne h1)
        have hl := hvc.length
        have hcl := hc.length
        simp only [Array.length_toList] at hl hcl
        have hfold : (v.cells.zipIdx.foldl (fun cs (c, j) => cs.setIfInBounds (off + j) c) cells').toList = splice cells'.toList off v.cells.toList := by
          rw [← Array.foldl_toList, Array.toList_zipIdx]
          have := foldl_splice off v.cells.toList 0 cells' (by simp; omega)
          simpa using this
        obtain ⟨out', g1, g2⟩ := fill_sound place r l' _ (v.cells.zipIdx.foldl (fun cs (c, j) => cs.setIfInBounds (off + j) c) cells') hr
          (by rw [hfold]; exact RelL.splice hc hvc off) h
        refine ⟨out', ?_, g2⟩
        simp only [Instr.fill, hpl]
        rw [if_neg (by simp; omega)]
        exact g1
      · cases h

theorem aBuildArr_sound {t et : TypeId} {n : Nat} (hd : P.underlying t = some (.array n et)) {i it : TypeInfo} {z : Value} (hit : P.info? t = some it) (hz : it.zero = some z)
    (hi : P.info? et = some i) {parts : List (Nat × AVal)} {parts' : Array (Nat × Value)} (hp : RelParts E parts parts'.toList) {v : AVal}
    (h : aBuild (z.cells.toList.map toA) (fun k => some (k * i.size, i.size)) parts = some v) :
    ∃ u, (Instr.build t parts').run P w = .ok u w ∧ RelV E v u := by
  unfold aBuild at h
  split at h
  · rename_i cs hf
    simp only [Option.some.injEq] at h; subst h
    obtain ⟨out', g1, g2⟩ := fill_sound (E := E) _ parts parts'.toList _ z.cells hp (toA_relL _) hf
    refine ⟨.agg out', ?_, by simp only [RelG]; exact ⟨out'.toList, rfl, g2⟩⟩
    simp [Instr.build, run_zero hit hz, run_under hd, run_size hi, g1]
  · cases h

theorem run_places (fs : List Field) : ∀ {pl : List (Nat × Nat)}, fs.mapM (fun f => (P.info? f.type).map fun i => (f.offset, i.size)) = some pl →
    (fs.mapM (fun f => do pure (f.offset, ← sizeOf f.type) : Field → Sem (Nat × Nat))).run P w = .ok pl w := by
  induction fs with
  | nil => intro pl h; simp at h; subst h; simp
  | cons f fs ih =>
    intro pl h
    simp only [List.mapM_cons, Option.bind_eq_bind, Option.bind_eq_some_iff, Option.map_eq_some_iff] at h
    obtain ⟨p, ⟨i, hi, rfl⟩, pl', hpl, he⟩ := h
    simp at he
    subst he
    simp only [List.mapM_cons, Sem.run_bind, run_size hi, Result.andThen_ok, Sem.run_pure, ih hpl]

theorem aBuildStr_sound {t : TypeId} {fs : Array Field} (hd : P.underlying t = some (.struct fs)) {it : TypeInfo} {z : Value} (hit : P.info? t = some it) (hz : it.zero = some z)
    {pl : List (Nat × Nat)} (hpl : fs.toList.mapM (fun f => (P.info? f.type).map fun i => (f.offset, i.size)) = some pl)
    {parts : List (Nat × AVal)} {parts' : Array (Nat × Value)} (hp : RelParts E parts parts'.toList) {v : AVal}
    (h : aBuild (z.cells.toList.map toA) (fun k => pl[k]?) parts = some v) :
    ∃ u, (Instr.build t parts').run P w = .ok u w ∧ RelV E v u := by
  unfold aBuild at h
  split at h
  · rename_i cs hf
    simp only [Option.some.injEq] at h; subst h
    obtain ⟨out', g1, g2⟩ := fill_sound (E := E) _ parts parts'.toList _ z.cells hp (toA_relL _) hf
    refine ⟨.agg out', ?_, by simp only [RelG]; exact ⟨out'.toList, rfl, g2⟩⟩
    have hm : (fs.mapM (fun f => do pure (f.offset, ← sizeOf f.type) : Field → Sem (Nat × Nat))).run P w = .ok pl.toArray w := by
      rw [Array.mapM_eq_mapM_toList]
      simp only [Sem.run_map, run_places fs.toList hpl, Result.andThen_ok]
    simp only [Instr.build, run_zero hit hz, run_under hd, Sem.run_bind, Result.andThen, hm]
    have : (fun x : Nat => pl.toArray[x]?) = fun k => pl[k]? := by funext k; simp
    rw [this, g1]; rfl
  · cases h

theorem range_mod {α : Type} (f : Nat → α) (s : Nat) : ∀ c : Nat, (List.range (c * s)).map (fun j => f (j % s)) = (List.replicate c ((List.range s).map f)).flatten
  | 0 => by simp
  | c + 1 => by
    rw [Nat.add_mul, Nat.one_mul, Nat.add_comm, List.range_add, List.map_append, List.replicate_succ, List.flatten_cons, ← range_mod f s c, List.map_map]
    congr 1
    · apply List.map_congr_left
      intro j hj
      rw [Nat.mod_eq_of_lt (List.mem_range.1 hj)]
    · apply List.map_congr_left
      intro j _
      simp

theorem zeros_rel (z : Array Value) (c : Nat) : RelL E (fillCells c (z.toList.map toA)) ((Array.range (c * z.size)).map (z[· % z.size]!)).toList := by
  have h : ((Array.range (c * z.size)).map (z[· % z.size]!)).toList = (List.replicate c z.toList).flatten := by
    rw [Array.toList_map, Array.toList_range, range_mod (fun j => z[j]!) z.size c]
    congr 2
    apply List.ext_getElem?
    intro j
    by_cases hj : j < z.size
    · simp [hj]
    · simp [hj, List.getElem?_eq_none (show z.toList.length ≤ j by simp; omega)]
  rw [h]
  clear h
  unfold fillCells
  induction c with
  | zero => exact RelGL.nil
  | succ c ih => simp only [List.replicate_succ, List.flatten_cons]; exact (toA_relL _).append ih

theorem newSlice_rel {E' : Env} {kd : Kd} {cs : List AVal} (hH : E'.H = E.H ++ [.cells 0 kd cs]) (hS : E'.S E.H.length) {b n : Nat} (hm : E'.m E.H.length = b) :
    RelV E' (.slice ⟨E.H.length, 0, 0⟩ n (.ex n)) (.slice (some ⟨b, 0, none⟩) n n) := by
  simp only [RelG]
  exact ⟨_, _, rfl, hS, by simp [hH], Nat.zero_le _, fun _ => ⟨by simp [hm], rfl⟩⟩

theorem aBuildSlice_sound (h : RelW E w) {t et : TypeId} (hd : P.underlying t = some (.slice et)) {i : TypeInfo} {z : Value} (hi : P.info? et = some i) (hz : i.zero = some z)
    (hsz : z.cells.size = i.size) {n : Nat} (hn : n * i.size ≤ 2 ^ 24)
    {parts : List (Nat × AVal)} {parts' : Array (Nat × Value)} (hp : RelParts E parts parts'.toList) {v : AVal} {H' : AHeap}
    (ha : aBuildSlice E.H i.size (z.cells.toList.map toA) n parts = some (v, H')) : Runs P E w (Instr.buildSlice t n parts') v H' := by
  unfold aBuildSlice at ha
  split at ha
  · rename_i cs hf
    simp only [Option.some.injEq, Prod.mk.injEq] at ha
    obtain ⟨rfl, rfl⟩ := ha
    obtain ⟨out', g1, g2⟩ := fill_sound (E := E) _ parts parts'.toList _ ((Array.range (n * z.cells.size)).map (z.cells[· % z.cells.size]!)) hp (zeros_rel _ _) hf
    have hl := g2.length
    obtain ⟨E', h1, h2, h3, h4, h5, h6⟩ := new_cells h (w' := w.alloc (.cells out' et)) .exact (cs := cs) (c := out') (t := et) (fz := (0, 0))
      (by rw [List.take_of_length_le (by simp at hl ⊢; omega)]; exact g2) (by simp at hl; omega) (fun _ => by simpa using hl) (fun _ => .inl rfl) rfl rfl rfl rfl
    refine ⟨.slice (some ⟨w.heap.size, 0, none⟩) n n, _, E', ?_, newSlice_rel h3 h6 h4, h1, h3, h2⟩
    rw [hsz] at g1
    have hnot : ¬ (n * i.size > 2 ^ 24) := by omega
    by_cases hz0 : n * i.size = 0
    · rw [hz0] at g1
      simp only [Instr.buildSlice, run_under hd, run_size hi, Sem.run_bind, Result.andThen, hz0, if_true, Sem.run_pure]
      have hr0 : Array.range 0 = #[] := rfl
      rw [hr0, Array.map_empty] at g1
      rw [if_neg (by omega)]
      simp [hr0, g1, newRow]
    · simp only [Instr.buildSlice, run_under hd, run_size hi, Sem.run_bind, Result.andThen]
      rw [if_neg hnot]
      simp [hz0, run_zero hi hz, hsz, g1, newRow]
  · cases ha
end
end Go.Abs

/- The operations one by one, on: make, append, copy, texts and bytes, lengths. -/
namespace Go.Abs
open Go

section
variable {P : Program} {E : Env} {w : World}

theorem aMakeSlice_sound (h : RelW E w) {t et : TypeId} (hd : P.underlying t = some (.slice et)) {i : TypeInfo} {z : Value} (hi : P.info? et = some i) (hz : i.zero = some z)
    (hsz : z.cells.size = i.size) {x y : AVal} {a b : Value} (hx : RelV E x a) (hy : RelV E y b) {v : AVal} {H' : AHeap}
    (ha : aMakeSlice E.H i.bytes (z.cells.toList.map toA) x y = some (v, H')) : Runs P E w (Instr.makeSlice t a b) v H' := by
  unfold aMakeSlice at ha
  split at ha
  · rename_i k1 n k2 c
    simp only [RelG] at hx hy; subst hx; subst hy
    split at ha
    · rename_i hc
      obtain ⟨c1, c2, c3, c4⟩ := hc
      simp only [Option.some.injEq, Prod.mk.injEq] at ha
      obtain ⟨rfl, rfl⟩ := ha
      have hr := zeros_rel (E := E) z.cells c.toNat
      have hl := hr.length
      obtain ⟨E', h1, h2, h3, h4, h5, h6⟩ := new_cells h (w' := w.alloc (.cells ((Array.range (c.toNat * z.cells.size)).map (z.cells[· % z.cells.size]!)) et)) .exact
        (cs := fillCells c.toNat (z.cells.toList.map toA)) (c := (Array.range (c.toNat * z.cells.size)).map (z.cells[· % z.cells.size]!)) (t := et) (fz := (0, 0))
        (by rw [List.take_of_length_le (by omega)]; exact hr) (by simp only [Array.length_toList] at hl; omega) (fun _ => by simpa only [Array.length_toList] using hl) (fun _ => .inl rfl) rfl rfl rfl rfl
      have wn : IntKind.i64.wrap n = n := by simp only [IntKind.wrap, IntKind.bits, IntKind.signed]; simp; omega
      have wc : IntKind.i64.wrap c = c := by simp only [IntKind.wrap, IntKind.bits, IntKind.signed]; simp; omega
      refine ⟨.slice (some ⟨w.heap.size, 0, none⟩) n.toNat c.toNat, _, E', ?_, ?_, h1, h3, h2⟩
      · have hnot : ¬ ((decide (c < 0) || decide ((i.bytes : Int) * c > 2 ^ 48)) = true ∨ n < 0 ∨ n > c) := by
          simp; omega
        simp only [Instr.makeSlice, run_under hd, asInt, asIntOf, Sem.run_bind, Result.andThen, Sem.run_pure, run_info hi, wn, wc]
        have hcond : (((decide (c < 0) || decide ((i.bytes : Int) * c > 2 ^ 48)) || decide (n < 0)) || decide (n > c)) = false := by
          simp; omega
        simp only [hcond, Bool.false_eq_true, if_false, run_askRoom, run_size hi]
        by_cases hz0 : c.toNat * i.size = 0
        · have hr0 : Array.range 0 = #[] := rfl
          simp [run_size hi, hz0, hsz, hr0, newRow]
        · simp [run_size hi, hz0, hsz, run_zero hi hz, newRow]
      · simp only [RelG]
        exact ⟨_, _, rfl, h6, by simp [h3], Nat.zero_le _, fun _ => ⟨by simp [h4], rfl⟩⟩
    · cases ha
  · cases ha

def lenFits : TypeDesc → AVal → Prop
  | .string, .str _ => True
  | .slice _, .nils => True
  | .slice _, .slice _ _ _ => True
  | .map _ _, .nilm => True
  | .map _ _, .map _ => True
  | _, _ => False

theorem aLen_sound (h : RelW E w) {x : AVal} {a : Value} (hx : RelV E x a) {t : TypeId} {d : TypeDesc} (hd : P.underlying t = some d)
    (hk : lenFits d x)
    {v : AVal} (ha : aLen E.H x = some v) (ty : TypeId) : ∃ u, (Builtin.len_ #[t] ty #[a]).run P w = .ok u w ∧ RelV E v u := by
  unfold aLen at ha
  split at ha
  · simp only [RelG] at hx; subst hx
    simp only [Option.some.injEq] at ha; subst ha
    cases d <;> simp only [lenFits] at hk
    exact ⟨.int .i64 _, by simp [Builtin.len_, run_under hd, bytes_size, goInt], rel_int⟩
  · simp only [RelG] at hx; subst hx
    simp only [Option.some.injEq] at ha; subst ha
    cases d <;> simp only [lenFits] at hk
    exact ⟨.int .i64 _, by simp [Builtin.len_, run_under hd, goInt], rel_int⟩
  · simp only [RelG] at hx; obtain ⟨p, c, rfl, _⟩ := hx
    simp only [Option.some.injEq] at ha; subst ha
    cases d <;> simp only [lenFits] at hk
    exact ⟨.int .i64 _, by simp [Builtin.len_, run_under hd, goInt], rel_int⟩
  · simp only [RelG] at hx; subst hx
    simp only [Option.some.injEq] at ha; subst ha
    cases d <;> simp only [lenFits] at hk
    exact ⟨.int .i64 _, by simp [Builtin.len_, run_under hd, goInt], rel_int⟩
  · rename_i j
    simp only [RelG] at hx; obtain ⟨b, rfl, h1, h2, h3, h4⟩ := hx
    split at ha
    · rename_i vv es ho
      simp only [Option.some.injEq] at ha; subst ha
      obtain ⟨ents, clock, g1, g2, g3, g4⟩ := h.obj _ _ h1 ho
      have hl := g3.length
      cases d <;> simp only [lenFits] at hk
      refine ⟨.int .i64 ents.size, ?_, ?_⟩
      · subst h4
        simp [Builtin.len_, run_under hd, goInt, getObj, Sem.run, g1]
      · simp at hl; simp only [RelG, hl]
    · cases ha
  · cases ha

/-- The cells that an append or a copy takes. -/
theorem src_sound (h : RelW E w) {x : AVal} {a : Value} (hx : RelV E x a) {es n k : Nat} (hl : srcLen x = some k) (hn : n ≤ k) {xs : List AVal} (hc : srcCells E.H es n x = some xs)
    (hes : (∃ s, x = .str s) → es = 1) :
    (∀ w' : World, (Builtin.lenOf a).run P w' = .ok k w') ∧ ∃ vs : List Value, (∀ w' : World, w'.heap = w.heap → (Builtin.firstCells es n a).run P w' = .ok vs.toArray w') ∧ RelL E xs vs ∧ vs.length = n * es := by
  unfold srcLen at hl
  unfold srcCells at hc
  split at hl
  · simp only [RelG] at hx; subst hx
    simp only [Option.some.injEq] at hl hc; subst hl; subst hc
    have : n = 0 := by omega
    subst this
    exact ⟨fun _ => by simp [Builtin.lenOf], [], fun _ _ => by simp [Builtin.firstCells], RelGL.nil, by simp⟩
  · rename_i s
    simp only [RelG] at hx; subst hx
    simp only [Option.some.injEq] at hl hc; subst hl; subst hc
    have he := hes ⟨s, rfl⟩
    subst he
    refine ⟨fun _ => by simp [Builtin.lenOf, bytes_size], ((s.take n).map fun b => Value.int .u8 b.toNat), fun w' _ => ?_, ?_, by simp; omega⟩
    · have : ((⟨s.toArray⟩ : ByteArray).extract 0 n) = ⟨(s.take n).toArray⟩ := by rw [bytes_extract]; simp
      simp [Builtin.firstCells, this]
    · induction (s.take n) with
      | nil => exact RelGL.nil
      | cons b l ih => exact RelGL.cons rel_int ih
  · rename_i r m c
    simp only [RelG] at hx; obtain ⟨p, c', rfl, hs⟩ := hx
    simp only [Option.some.injEq] at hl; subst hl
    simp only at hc
    by_cases hz : n * es = 0
    · rw [if_pos hz] at hc
      simp only [Option.some.injEq] at hc; subst hc
      exact ⟨fun _ => by simp [Builtin.lenOf], [], fun w' _ => by simp [Builtin.firstCells, hz, loadCells, loadCellsFrom], RelGL.nil, by simp [hz]⟩
    rw [if_neg hz] at hc
    have hr := rd_sound h hc hs.1
    obtain ⟨g1, g2, vs, g3, g4, g5, cc, ee, ff, g6, g7, g8⟩ := hr
    refine ⟨fun _ => by simp [Builtin.lenOf], vs, fun w' hh => ?_, g3, g4⟩
    obtain ⟨h1, h2, h3, h4⟩ := hs
    have h4 := h4 g2
    by_cases hv : n * es = 0
    · have : vs = [] := by cases vs with | nil => rfl | cons _ _ => simp at g4; omega
      subst this
      simp [Builtin.firstCells, hv, loadCells, loadCellsFrom]
    · have hp : p = ⟨E.m r.id, r.off, none⟩ := by
        cases c with
        | ex c => exact h4.1
        | op es' =>
          obtain ⟨q1, q2, q3, q4⟩ := h4
          rcases q4 with ⟨q4, _⟩ | ⟨q4, _⟩
          · obtain ⟨pb, po, ps⟩ := p; simp only at q1 q2 q4; subst q1; subst q2; subst q4; rfl
          · subst q4; have : n = 0 := by omega
            subst this; simp at hv
      have := run_loadCells_of (P := P) (w := w') p _ _ hp vs (fun j v hj => by rw [World.cell?, hh]; exact g5 j v hj)
      rw [g4] at this
      simp [Builtin.firstCells, this]
  · cases hl

theorem src_zero {x : AVal} {a : Value} (hx : RelV E x a) {k : Nat} (hl : srcLen x = some k) (es : Nat) :
    (Builtin.lenOf a).run P w = .ok k w ∧ (Builtin.firstCells es 0 a).run P w = .ok #[] w := by
  unfold srcLen at hl
  split at hl
  · simp only [RelG] at hx; subst hx
    simp only [Option.some.injEq] at hl; subst hl
    exact ⟨by simp [Builtin.lenOf], by simp [Builtin.firstCells]⟩
  · rename_i s
    simp only [RelG] at hx; subst hx
    simp only [Option.some.injEq] at hl; subst hl
    exact ⟨by simp [Builtin.lenOf, bytes_size], by rw [Builtin.firstCells, bytes_extract]; simp⟩
  · simp only [RelG] at hx; obtain ⟨p, c', rfl, hs⟩ := hx
    simp only [Option.some.injEq] at hl; subst hl
    exact ⟨by simp [Builtin.lenOf], by simp [Builtin.firstCells, loadCells, loadCellsFrom]⟩
  · cases hl

theorem aCopy_sound (h : RelW E w) {t et : TypeId} (hd : P.underlying t = some (.slice et)) {i : TypeInfo} (hi : P.info? et = some i)
    {d x : AVal} {a b : Value} (hdd : RelV E d a) (hx : RelV E x b) (hes : (∃ s, x = .str s) → i.size = 1) {v : AVal} {H' : AHeap}
    (ha : aCopy E.H i.size d x = some (v, H')) (ts : Array TypeId) (hts : ts[0]? = some t) (ty : TypeId) : Runs P E w (Builtin.copy_ ts ty #[a, b]) v H' := by
  unfold aCopy at ha
  split at ha
  · rename_i n r k c hl
    simp only [RelG] at hdd; obtain ⟨p, c', rfl, hs⟩ := hdd
    split at ha
    · rename_i xs hc
      split at ha
      · rename_i H1 hw
        simp only [Option.some.injEq, Prod.mk.injEq] at ha
        obtain ⟨rfl, rfl⟩ := ha
        obtain ⟨s1, vs, s2, s3, s4⟩ := src_sound (P := P) h hx hl (Nat.min_le_left n k) hc hes
        obtain ⟨w', E', g1, g2, g3, g4⟩ := wr_sound (P := P) h hw hs.1 s3
        have hver : r.ver = verOf E.H r.id := by
          unfold wrCells at hw
          split at hw
          · rename_i vv kd cs h0
            split at hw
            · rename_i hc; rw [verOf_some h0]; exact hc.1.symm
            · cases hw
          · cases hw
        obtain ⟨h1, h2, h3, h4⟩ := hs
        have h4 := h4 hver
        have hst : (storeCells p vs).run P w = .ok () w' := by
          cases vs with
          | nil => simp only [storeCells] at g1 ⊢; exact g1
          | cons y ys =>
            have hp : p = ⟨E.m r.id, r.off, none⟩ := by
              cases c with
              | ex c => exact h4.1
              | op es' =>
                obtain ⟨q1, q2, q3, q4⟩ := h4
                rcases q4 with ⟨q4, _⟩ | ⟨q4, _⟩
                · obtain ⟨pb, po, ps⟩ := p; simp only at q1 q2 q4; subst q1; subst q2; subst q4; rfl
                · subst q4; simp at s4
            rw [hp]; exact g1
        refine ⟨.int .i64 (min n k : Nat), w', E', ?_, rel_int, g3, g2, g4⟩
        have hmin : n.min k = min n k := rfl
        simp [Builtin.copy_, hts, run_under hd, s1, run_size hi, hmin, s2 w rfl, hst, goInt]
      · cases ha
    · cases ha
  · rename_i hl
    simp only [RelG] at hdd; subst hdd
    simp only [Option.some.injEq, Prod.mk.injEq] at ha
    obtain ⟨rfl, rfl⟩ := ha
    have hz := src_zero (P := P) (w := w) hx hl i.size
    refine Runs.pure h (u := .int .i64 0) ?_ rel_int
    have hmin : ∀ n : Nat, n.min 0 = 0 := fun n => Nat.min_zero n
    simp [Builtin.copy_, hts, run_under hd, hz.1, run_size hi, hmin, hz.2, goInt]
  · cases ha

theorem aClear_sound (h : RelW E w) {t et : TypeId} (hd : P.underlying t = some (.slice et)) {i : TypeInfo} {z : Value} (hi : P.info? et = some i) (hz : i.zero = some z)
    {x : AVal} {a : Value} (hx : RelV E x a) {v : AVal} {H' : AHeap} (ha : aClear E.H (z.cells.toList.map toA) x = some (v, H')) (ts : Array TypeId) (hts : ts[0]? = some t) (ty : TypeId) :
    Runs P E w (Builtin.clear_ ts ty #[a]) v H' := by
  have tup : ∀ E' : Env, RelV E' (.tup []) (.tuple #[]) := fun E' => by simp only [RelG]; exact ⟨[], rfl, RelGL.nil⟩
  unfold aClear at ha
  split at ha
  · simp only [RelG] at hx; subst hx
    simp only [Option.some.injEq, Prod.mk.injEq] at ha
    obtain ⟨rfl, rfl⟩ := ha
    exact Runs.pure h (u := .tuple #[]) (by simp [Builtin.clear_, hts, run_under hd]) (tup _)
  · rename_i r n c
    simp only [RelG] at hx; obtain ⟨p, k, rfl, hs⟩ := hx
    cases hn : Nat.beq n 0 with
    | true =>
      rw [hn] at ha
      simp only [cond_true, Option.some.injEq, Prod.mk.injEq] at ha
      obtain ⟨rfl, rfl⟩ := ha
      have := Nat.eq_of_beq_eq_true hn
      subst this
      exact Runs.pure h (u := .tuple #[]) (by simp [Builtin.clear_, hts, run_under hd]) (tup _)
    | false =>
      rw [hn] at ha
      simp only [cond_false] at ha
      have hn0 : n ≠ 0 := fun e => by subst e; cases hn
      split at ha
      · rename_i H1 hw
        simp only [Option.some.injEq, Prod.mk.injEq] at ha
        obtain ⟨rfl, rfl⟩ := ha
        have hrel := zeros_rel (E := E) z.cells n
        obtain ⟨w', E', g1, g2, g3, g4⟩ := wr_sound (P := P) h hw hs.1 hrel
        have hver : r.ver = verOf E.H r.id := by
          unfold wrCells at hw
          split at hw
          · rename_i vv kd cs h0
            split at hw
            · rename_i hc; rw [verOf_some h0]; exact hc.1.symm
            · cases hw
          · cases hw
        obtain ⟨h1, h2, h3, h4⟩ := hs
        have h4 := h4 hver
        have hp : p = ⟨E.m r.id, r.off, none⟩ := by
          cases c with
          | ex c => exact h4.1
          | op es' =>
            obtain ⟨q1, q2, q3, q4⟩ := h4
            rcases q4 with ⟨q4, _⟩ | ⟨q4, _⟩
            · obtain ⟨pb, po, ps⟩ := p; simp only at q1 q2 q4; subst q1; subst q2; subst q4; rfl
            · exact absurd q4 hn0
        subst hp
        refine ⟨.tuple #[], w', E', ?_, tup _, g3, g2, g4⟩
        obtain ⟨m, rfl⟩ : ∃ m, n = m + 1 := ⟨n - 1, by omega⟩
        simp only [Builtin.clear_, hts, run_under hd, Sem.run_bind, Result.andThen, List.getElem?_toArray, List.getElem?_cons_zero, run_zero hi hz, Builtin.zeroCells, g1, Sem.run_pure]
      · cases ha
  · cases ha
end
end Go.Abs

/- Append. -/
namespace Go.Abs
open Go

theorem growBy_le (need : Nat) : ∀ (r c : Nat), c < need ∨ c ≤ need + (need + 768) / 4 → Builtin.growBy need r c ≤ need + (need + 768) / 4
  | 0, c, h => by simp only [Builtin.growBy]; omega
  | r + 1, c, h => by
    simp only [Builtin.growBy]
    split
    · omega
    · exact growBy_le need r _ (by omega)

theorem nextcap_le {need cap : Nat} (h : cap < need) : Builtin.nextslicecap need cap ≤ 2 * need := by
  unfold Builtin.nextslicecap
  split
  · omega
  · split
    · omega
    · have := growBy_le need 4 cap (.inl h)
      omega

section
variable {P : Program} {E : Env} {w : World}

/-- The bare facts of an append's types. -/
structure AppTy (P : Program) (ts : Array TypeId) (et : TypeId) (i : TypeInfo) (z : Value) : Prop where
  t0 : ∃ t, ts[0]? = some t ∧ P.underlying t = some (.slice et)
  t1 : ∃ t d, ts[1]? = some t ∧ P.underlying t = some d ∧ (∀ k, d ≠ .int k)
  info : P.info? et = some i
  zero : i.zero = some z
  size : z.cells.size = i.size

theorem append_fit {ts : Array TypeId} {et : TypeId} {i : TypeInfo} {z : Value} (T : AppTy P ts et i z) {base : Option Addr} {k c n : Nat} {x : Value} (ty : TypeId)
    (hl : (Builtin.lenOf x).run P w = .ok n w) {vs : Array Value} (hv : (Builtin.firstCells i.size n x).run P w = .ok vs w) (hfit : k + n ≤ c) {w' : World}
    (hs : ∀ a, base = some a → (storeCells (a.add (k * i.size)) vs.toList).run P w = .ok () w') (hn : base = none → w' = w) :
    (Builtin.append_ ts ty #[.slice base k c, x]).run P w = .ok (.slice base (k + n) c) w' := by
  obtain ⟨t, ht, hd⟩ := T.t0
  obtain ⟨t1, d1, ht1, hd1, hint⟩ := T.t1
  have hz : (match d1 with | .int _ => true | _ => false) = false := by
    cases d1 <;> first | rfl | exact absurd rfl (hint _)
  simp only [Builtin.append_, ht, ht1, Sem.run_bind, run_under hd, run_under hd1, Result.andThen, run_size T.info]
  simp only [List.size_toArray, List.length_cons, List.length_nil, Nat.reduceAdd, Nat.lt_add_one, getElem?_pos, List.getElem_toArray, List.getElem_cons_zero, List.getElem_cons_succ, Nat.zero_lt_succ]
  simp only [Sem.run_bind, run_under hd, run_under hd1, Result.andThen, run_size T.info, Sem.run_pure, hz, Bool.false_eq_true, if_false, hl, Bool.not_false, if_true, hfit, hv]
  cases base with
  | none => have := hn rfl; subst this; rfl
  | some a => simp only [Sem.run_bind, hs a rfl, Result.andThen, Sem.run_pure]

theorem append_grow {ts : Array TypeId} {et : TypeId} {i : TypeInfo} {z : Value} (T : AppTy P ts et i z) {base : Option Addr} {k c n : Nat} {x : Value} (ty : TypeId)
    (hl : ∀ w' : World, w'.heap = w.heap → (Builtin.lenOf x).run P w' = .ok n w') {vs olds : Array Value} (hv : ∀ w' : World, w'.heap = w.heap → (Builtin.firstCells i.size n x).run P w' = .ok vs w')
    (ho : ∀ w' : World, w'.heap = w.heap → (Builtin.firstCells i.size k (.slice base k c)).run P w' = .ok olds w')
    (hfit : c < k + n) (hb : (k + n) * i.bytes ≤ room) (hk : k + n ≤ room) :
    ∃ nc : Nat, k + n ≤ nc ∧ ∃ w' : World, (Builtin.append_ ts ty #[.slice base k c, x]).run P w = .ok (.slice (some ⟨w.heap.size, 0, none⟩) (k + n) nc) w' ∧
      w'.heap = w.heap.push (.cells (olds ++ vs ++ ((Array.range ((nc - (k + n)) * i.size)).map (z.cells[· % i.size]!))) et) ∧ w'.tape = w.tape ∧ w'.os = w.os ∧ w'.output = w.output := by
  obtain ⟨t, ht, hd⟩ := T.t0
  obtain ⟨t1, d1, ht1, hd1, hint⟩ := T.t1
  have hz : (match d1 with | .int _ => true | _ => false) = false := by
    cases d1 <;> first | rfl | exact absurd rfl (hint _)
  have hr : room = 35184372088832 := rfl
  have n1 : ¬ (((k + n : Nat) : Int) > IntKind.i64.max ∧ ((false = true) ∨ i.bytes = 0)) := by
    simp only [IntKind.max, IntKind.signed, IntKind.bits]; simp; omega
  have n2 : ¬ (Builtin.nextslicecap (k + n) c * i.bytes > 2 ^ 48) := by
    have h1 := nextcap_le hfit
    have h2 : Builtin.nextslicecap (k + n) c * i.bytes ≤ 2 * (k + n) * i.bytes := Nat.mul_le_mul_right _ h1
    have h3 : 2 * (k + n) * i.bytes = 2 * ((k + n) * i.bytes) := Nat.mul_assoc _ _ _
    omega
  refine ⟨(Question.appendCap (k + n) c et).cut (w.tape w.drawn (.appendCap (k + n) c et)), by simp only [Question.cut]; omega,
    (w.drew).alloc (.cells (olds ++ vs ++ ((Array.range (((Question.appendCap (k + n) c et).cut (w.tape w.drawn (.appendCap (k + n) c et)) - (k + n)) * i.size)).map (z.cells[· % i.size]!))) et), ?_, rfl, rfl, rfl, rfl⟩
  simp only [Builtin.append_, ht, ht1, Sem.run_bind, run_under hd, run_under hd1, Result.andThen, run_size T.info]
  simp only [List.size_toArray, List.length_cons, List.length_nil, Nat.reduceAdd, Nat.lt_add_one, getElem?_pos, List.getElem_toArray, List.getElem_cons_zero, List.getElem_cons_succ, Nat.zero_lt_succ]
  simp only [Sem.run_bind, run_under hd, run_under hd1, Result.andThen, run_size T.info, run_info T.info, Sem.run_pure, hz, Bool.false_eq_true, if_false, hl w rfl, Bool.not_false, if_true, if_neg (show ¬ (k + n ≤ c) by omega), false_or, n2, run_choose, Question.forced, run_askRoom]
  simp only [Bool.false_eq_true, false_or] at n1
  rw [if_neg n1]
  simp only [Sem.run_bind, run_info T.info, Result.andThen, if_neg n2, run_choose, Question.forced, Bool.false_eq_true, if_false, run_askRoom, World.drew_eq,
    ho w.drew rfl, hv w.drew rfl, run_zero T.info T.zero, newRow, run_newObj, Sem.run_pure, World.size_drew, Builtin.zeroCells, T.size]
  rfl

theorem wr_ver {H : AHeap} {r : Ref} {o : Nat} {xs : List AVal} {H' : AHeap} (hw : wrCells H { r with off := o } xs = some H') : r.ver = verOf H r.id := by
  unfold wrCells at hw
  split at hw
  · rename_i vv kd cs h0
    split at hw
    · rename_i hc; rw [verOf_some h0]; exact hc.1.symm
    · cases hw
  · cases hw

theorem open_new (h : RelW E w) {w' : World} {xs : List AVal} {vs : List Value} {rest : Array Value} {t : TypeId} {es n nc : Nat} (hx : RelL E xs vs)
    (hsz : vs.length + rest.size = nc * es) (hle : n ≤ nc)
    (hh : w'.heap = w.heap.push (.cells (vs.toArray ++ rest) t)) (ht : w'.tape = w.tape) (ho : w'.os = w.os) (hp : w'.output = w.output) :
    ∃ E', RelW E' w' ∧ Ext E w E' w' ∧ E'.H = E.H ++ [.cells 0 .opn xs] ∧ RelV E' (.slice ⟨E.H.length, 0, 0⟩ n (.op es)) (.slice (some ⟨w.heap.size, 0, none⟩) n nc) := by
  have hl := hx.length
  obtain ⟨E', h1, h2, h3, h4, h5, h6⟩ := new_cells h (w' := w') .opn (cs := xs) (c := vs.toArray ++ rest) (t := t) (fz := (0, 0))
    (by rw [hl]; simp; exact hx) (by simp; omega) (fun e => by cases e) (fun _ => .inl rfl) hh ht ho hp
  refine ⟨E', h1, h2, h3, ?_⟩
  simp only [RelG]
  exact ⟨_, _, rfl, h6, by simp [h3], Nat.zero_le _, fun _ => ⟨h4.symm, rfl, hle, .inl ⟨rfl, fun _ => by rw [h5]; simp; omega⟩⟩⟩

theorem aAppend_sound (h : RelW E w) {ts : Array TypeId} {et : TypeId} {i : TypeInfo} {z : Value} (T : AppTy P ts et i z) {s x : AVal} {a b : Value}
    (hs : RelV E s a) (hx : RelV E x b) (hes : (∃ s, x = .str s) → i.size = 1) {v : AVal} {H' : AHeap}
    (ha : aAppend E.H i.size i.bytes s x = some (v, H')) (ty : TypeId) : Runs P E w (Builtin.append_ ts ty #[a, b]) v H' := by
  unfold aAppend at ha
  split at ha
  case h_2 => cases ha
  rename_i n hl
  split at ha
  case h_2 => cases ha
  rename_i xs hc
  obtain ⟨hlen, vs, hfc, hxs, hvl⟩ := src_sound (P := P) h hx hl (Nat.le_refl n) hc hes
  unfold aAppendTo at ha
  split at ha
  · -- a nil slice
    simp only [RelG] at hs; subst hs
    split at ha
    · rename_i hn
      simp only [Option.some.injEq, Prod.mk.injEq] at ha
      obtain ⟨rfl, rfl⟩ := ha
      subst hn
      exact Runs.pure h (append_fit T (base := none) (k := 0) (c := 0) (n := 0) ty (hlen w) (hfc w rfl) (Nat.le_refl _) (fun a e => by cases e) (fun _ => rfl)) (by simp only [RelG])
    · split at ha
      · rename_i hn hc2
        simp only [Option.some.injEq, Prod.mk.injEq] at ha
        obtain ⟨rfl, rfl⟩ := ha
        obtain ⟨nc, hnc, w', g1, g2, g3, g4, g5⟩ := append_grow T (w := w) (base := none) (k := 0) (c := 0) (n := n) (x := b) ty (fun w' _ => hlen w') hfc
          (olds := #[]) (fun w' _ => by simp [Builtin.firstCells]) (by omega) (by simpa using hc2.1) (by simpa using hc2.2)
        simp only [Nat.zero_add] at g1 g2 hnc
        obtain ⟨E', q1, q2, q3, q4⟩ := open_new (n := n) (nc := nc) (es := i.size) h hxs (rest := (Array.range ((nc - n) * i.size)).map (z.cells[· % i.size]!)) (t := et) (w' := w')
          (by simp [hvl, ← Nat.add_mul]; congr 1; omega) hnc (by rw [g2]; simp) g3 g4 g5
        exact ⟨_, w', E', g1, q4, q1, q3, q2⟩
      · cases ha
  · -- a slice of a known capacity
    rename_i r k c
    simp only [RelG] at hs
    obtain ⟨p, c', rfl, h1, h2, h3, h4⟩ := hs
    split at ha
    · rename_i hn
      split at ha
      · rename_i hv
        simp only [Option.some.injEq, Prod.mk.injEq] at ha
        obtain ⟨rfl, rfl⟩ := ha
        obtain ⟨hp, rfl⟩ := h4 hv.1
        subst hn
        have : vs = [] := by simpa using hvl
        subst this
        exact Runs.pure h (append_fit T (base := some p) (n := 0) ty (hlen w) (hfc w rfl) hv.2 (fun a _ => rfl) (fun e => by cases e)) (by simp only [RelG]; exact ⟨_, _, rfl, h1, h2, h3, h4⟩)
      · cases ha
    · rename_i hn
      split at ha
      · rename_i hfit
        split at ha
        · rename_i H1 hw
          simp only [Option.some.injEq, Prod.mk.injEq] at ha
          obtain ⟨rfl, rfl⟩ := ha
          have hver : r.ver = verOf E.H r.id := wr_ver hw
          obtain ⟨hp, rfl⟩ := h4 hver
          obtain ⟨w', E', g1, g2, g3, g4⟩ := wr_sound (P := P) h hw h1 hxs
          refine ⟨.slice (some p) (k + n) c', w', E', ?_, ?_, g3, g2, g4⟩
          · exact append_fit T (base := some p) ty (hlen w) (hfc w rfl) hfit (fun a e => by cases e; rw [hp, add_none]; simpa using g1) (fun e => by cases e)
          · simp only [RelG]
            exact ⟨_, _, rfl, RelSl.ext g4 ⟨h1, h2, h3, h4⟩⟩
        · cases ha
      · rename_i hfit
        split at ha
        · rename_i hroom
          split at ha
          · rename_i olds hrd
            simp only [Option.some.injEq, Prod.mk.injEq] at ha
            obtain ⟨rfl, rfl⟩ := ha
            obtain ⟨e1, e2, us, e3, e4, e5, _⟩ := rd_sound h hrd h1
            obtain ⟨hp, rfl⟩ := h4 e2
            have ho : ∀ w' : World, w'.heap = w.heap → (Builtin.firstCells i.size k (.slice (some p) k c')).run P w' = .ok us.toArray w' := fun w' hh => by
              have := run_loadCells_of (P := P) (w := w') p _ _ hp us (fun j v hj => by rw [World.cell?, hh]; exact e5 j v hj)
              rw [e4] at this
              simp [Builtin.firstCells, this]
            obtain ⟨nc, hnc, w', g1, g2, g3, g4, g5⟩ := append_grow T (w := w) (base := some p) (k := k) (c := c') (n := n) (x := b) ty (fun w' _ => hlen w') hfc ho (by omega) hroom.1 hroom.2
            obtain ⟨E', q1, q2, q3, q4⟩ := open_new (n := k + n) (nc := nc) (es := i.size) h (e3.append hxs) (rest := (Array.range ((nc - (k + n)) * i.size)).map (z.cells[· % i.size]!)) (t := et) (w' := w')
              (by simp [hvl, e4, ← Nat.add_mul]; congr 1; omega) hnc (by rw [g2]; simp) g3 g4 g5
            exact ⟨_, w', E', g1, q4, q1, q3, q2⟩
          · cases ha
        · cases ha
  · -- a slice whose capacity is open
    rename_i r k es'
    simp only [RelG] at hs
    obtain ⟨p, c', rfl, h1, h2, h3, h4⟩ := hs
    split at ha
    · rename_i hn
      split at ha
      · rename_i hv
        simp only [Option.some.injEq, Prod.mk.injEq] at ha
        obtain ⟨rfl, rfl⟩ := ha
        obtain ⟨_, _, hk, _⟩ := h4 hv
        subst hn
        have : vs = [] := by simpa using hvl
        subst this
        exact Runs.pure h (append_fit T (base := some p) (n := 0) ty (hlen w) (hfc w rfl) hk (fun a _ => rfl) (fun e => by cases e)) (by simp only [RelG]; exact ⟨_, _, rfl, h1, h2, h3, h4⟩)
      · cases ha
    · rename_i hn
      split at ha
      case isFalse => cases ha
      rename_i hco
      obtain ⟨rfl, hes0, hr1, hr2⟩ := hco
      split at ha
      case h_2 => cases ha
      rename_i v0 cs h0
      split at ha
      case isFalse => cases ha
      rename_i hcv
      obtain ⟨hv, hall⟩ := hcv
      have hver : r.ver = verOf E.H r.id := by rw [verOf_some h0]; exact hv.symm
      obtain ⟨q1, q2, q3, q4⟩ := h4 hver
      have hopn : opnAt E.H r.id = true := by rw [opnAt_some h0]; rfl
      obtain ⟨c, e, fz, b1, b2, b3, b4, b5, b6⟩ := h.obj r.id _ h1 h0
      have hxl := hxs.length
      split at ha
      · rename_i hfr
        obtain ⟨hoff, hcl⟩ := hfr
        simp only [Option.some.injEq, Prod.mk.injEq] at ha
        obtain ⟨rfl, rfl⟩ := ha
        by_cases hfit : k + n ≤ c'
        · -- there is room
          have hq : p.off = r.off ∧ r.off + c' * i.size = E.sz r.id := by
            rcases q4 with ⟨q4, q5⟩ | ⟨q4, q5, _⟩
            · exact ⟨q4, q5 hopn⟩
            · omega
          have hp : p = ⟨E.m r.id, 0, none⟩ := by
            obtain ⟨pb, po, ps⟩ := p; simp only at q1 q2 hq; subst q1; subst q2; rw [hq.1, hoff]
          have hmul : (k + n) * i.size ≤ c' * i.size := Nat.mul_le_mul_right _ hfit
          rw [Nat.add_mul] at hmul
          obtain ⟨w', g1, g2, g3, g4, g5, g6, g7⟩ := run_storeCells_own (P := P) (E.m r.id) e fz (k * i.size) vs 0 w c b1 (b6 (by simp)) (by omega) (oneCells_of hall hxs)
          have f : Follows (AObj.cells v0 .opn cs) (.cells (v0 + 1) .opn (cs ++ xs)) := ⟨rfl, rfl, by simp [AObj.ver], fun _ _ => rfl, fun e => by cases e⟩
          have hx' := rel_put h h1 h0 f g3 g4 g5 g6 g7 (fun x => by
            refine ⟨_, e, fz, g2, ?_, ?_, ?_, fun e => (by cases e), ?_⟩
            · simp only [List.size_toArray, Nat.add_zero]; rw [splice_length (by simp; omega)]; exact b2
            · have e1 : (splice c.toList (k * i.size + 0) vs).toArray.toList.take (cs ++ xs).length = c.toList.take cs.length ++ vs := by
                simp only [Nat.add_zero, splice, List.length_append, hcl, hxl]
                rw [List.take_append_of_le_length (by simp; omega), List.take_of_length_le (by simp; omega)]
              rw [e1]
              exact RelL.ext x (b3.append hxs)
            · simp only [List.size_toArray, Nat.add_zero, List.length_append]; rw [splice_length (by simp; omega)]; simp; omega
            · intro _; simp only [List.size_toArray, Nat.add_zero]; rw [splice_length (by simp; omega)]; simpa using b6 (by simp))
          refine ⟨.slice (some p) (k + n) c', w', _, ?_, ?_, hx'.1, rfl, hx'.2⟩
          · exact append_fit T (base := some p) ty (hlen w) (hfc w rfl) hfit (fun a e => by cases e; rw [hp, add_none]; simpa using g1) (fun e => by cases e)
          · simp only [RelG]
            have hl' : r.id < E.H.length := lt_of_some h0
            refine ⟨_, _, rfl, h1, by simpa [Env.put] using hl', ?_, fun _ => ⟨q1, q2, hfit, .inl ⟨by rw [hp], fun _ => ?_⟩⟩⟩
            · show v0 + 1 ≤ verOf (E.H.set r.id _) r.id
              rw [verOf_some (set_get h0)]; exact Nat.le_refl _
            · show 0 + c' * i.size = E.sz r.id
              rw [← hq.2, hoff]
        · -- a new block
          have ho : ∀ w' : World, w'.heap = w.heap → (Builtin.firstCells i.size k (.slice (some p) k c')).run P w' = .ok (c.toList.take cs.length).toArray w' := fun w' hh => by
            by_cases hk0 : k * i.size = 0
            · have : cs.length = 0 := by omega
              simp [Builtin.firstCells, hk0, this, loadCells, loadCellsFrom]
            · have hp : p = ⟨E.m r.id, 0, none⟩ := by
                rcases q4 with ⟨q4, q5⟩ | ⟨q4, q5, _⟩
                · obtain ⟨pb, po, ps⟩ := p; simp only at q1 q2 q4; subst q1; subst q2; rw [q4, hoff]
                · subst q4; simp at hk0
              have := run_loadCells_of (P := P) (w := w') p _ _ hp (c.toList.take cs.length) (fun j v hj => by
                rw [World.cell?, hh, b1]
                have hjl := (List.getElem?_eq_some_iff.1 hj).1
                simp only [List.length_take] at hjl
                rw [List.getElem?_take_of_lt (by omega)] at hj
                simpa using hj)
              have hl4 : (c.toList.take cs.length).length = k * i.size := by simp; omega
              rw [hl4] at this
              simp [Builtin.firstCells, this]
          obtain ⟨nc, hnc, w', g1, g2, g3, g4, g5⟩ := append_grow T (w := w) (base := some p) (k := k) (c := c') (n := n) (x := b) ty (fun w' _ => hlen w') hfc ho (by omega) hr1 hr2
          have f : Follows (AObj.cells v0 .opn cs) (.cells (v0 + 1) .opn (cs ++ xs)) := ⟨rfl, rfl, by simp [AObj.ver], fun _ _ => rfl, fun e => by cases e⟩
          have hx' := rel_swap (nc * i.size) h h1 h0 f (by simp [AObj.ver]) rfl g2 g3 g4 g5 (fun x => by
            refine ⟨(c.toList.take cs.length).toArray ++ vs.toArray ++ ((Array.range ((nc - (k + n)) * i.size)).map (z.cells[· % i.size]!)), et, (0, 0), by show w'.heap[if r.id = r.id then _ else _]? = _; rw [if_pos rfl, g2]; simp, ?_, ?_, ?_, fun e => (by cases e), fun _ => .inl rfl⟩
            · simp [Env.swap, hvl, hcl]
              rw [Nat.min_eq_left (by omega), ← Nat.add_mul, ← Nat.add_mul]; congr 1; omega
            · have e1 : ((c.toList.take cs.length).toArray ++ vs.toArray ++ ((Array.range ((nc - (k + n)) * i.size)).map (z.cells[· % i.size]!))).toList.take (cs ++ xs).length = c.toList.take cs.length ++ vs := by
                simp only [List.append_toArray, Array.toList_append, List.length_append]
                rw [List.take_append_of_le_length (by simp; omega), List.take_of_length_le (by simp; omega)]
              rw [e1]
              exact RelL.ext x (b3.append hxs)
            · simp; omega)
          refine ⟨_, w', _, g1, ?_, hx'.1, rfl, hx'.2⟩
          simp only [RelG]
          have hl' : r.id < E.H.length := lt_of_some h0
          refine ⟨_, _, rfl, h1, by simpa [Env.swap] using hl', ?_, fun _ => ⟨by simp [Env.swap], rfl, hnc, .inl ⟨rfl, fun _ => by simp [Env.swap]⟩⟩⟩
          show v0 + 1 ≤ verOf (E.H.set r.id _) r.id
          rw [verOf_some (set_get h0)]; exact Nat.le_refl _
      · split at ha
        · rename_i hroom
          simp only [Option.some.injEq, Prod.mk.injEq] at ha
          obtain ⟨rfl, rfl⟩ := ha
          have hn0 : 0 < n := by omega
          have hne : 0 < n * i.size := Nat.mul_pos hn0 hes0
          have hq : p.off = r.off ∧ r.off + c' * i.size = E.sz r.id := by
            rcases q4 with ⟨q4, q5⟩ | ⟨q4, q5, q6⟩
            · exact ⟨q4, q5 hopn⟩
            · have := q6 hopn
              rw [Nat.add_mul] at hroom; omega
          have hp : p = ⟨E.m r.id, r.off, none⟩ := by
            obtain ⟨pb, po, ps⟩ := p; simp only at q1 q2 hq; subst q1; subst q2; rw [hq.1]
          have hfit : k + n ≤ c' := by
            have : (k + n) * i.size ≤ c' * i.size := by omega
            exact Nat.le_of_mul_le_mul_right this hes0
          rw [Nat.add_mul] at hroom
          have hw : wrCells E.H { r with off := r.off + k * i.size } xs = some (E.H.set r.id (.cells v0 .opn (splice cs (r.off + k * i.size) xs))) := by
            simp only [wrCells, h0]
            rw [if_pos ⟨hv, by simp, by omega, hall⟩]
          obtain ⟨w', E', g1, g2, g3, g4⟩ := wr_sound (P := P) h hw h1 hxs
          refine ⟨.slice (some p) (k + n) c', w', E', ?_, ?_, g3, g2, g4⟩
          · exact append_fit T (base := some p) ty (hlen w) (hfc w rfl) hfit (fun a e => by cases e; rw [hp, add_none]; simpa using g1) (fun e => by cases e)
          · simp only [RelG]
            exact ⟨_, _, rfl, RelSl.ext g4 ⟨h1, h2, h3, fun _ => ⟨q1, q2, hfit, .inl ⟨hq.1, fun _ => hq.2⟩⟩⟩⟩
        · cases ha
  · cases ha
end
end Go.Abs

/- Texts and bytes; equality. -/
namespace Go.Abs
open Go

section
variable {P : Program} {E : Env} {w : World}

theorem bytesOf_rel : ∀ {cs : List AVal} {vs : List Value} {s : List UInt8}, bytesOf cs = some s → RelL E cs vs →
    ∃ ns : List Int, vs = ns.map (Value.int .u8) ∧ s = ns.map (fun n => UInt8.ofNat n.toNat)
  | [], vs, s, h, hr => by
    simp only [bytesOf, Option.some.injEq] at h; subst h
    simp only [RelGL] at hr; subst hr
    exact ⟨[], rfl, rfl⟩
  | x :: xs, vs, s, h, hr => by
    simp only [bytesOf] at h
    split at h
    · rename_i a b h1 h2
      simp only [Option.some.injEq] at h; subst h
      simp only [RelGL] at hr
      obtain ⟨y, ys, rfl, g1, g2⟩ := hr
      obtain ⟨ns, rfl, rfl⟩ := bytesOf_rel h2 g2
      unfold byteOf at h1
      split at h1
      · rename_i n
        simp only [Option.some.injEq] at h1; subst h1
        simp only [RelG] at g1; subst g1
        exact ⟨n :: ns, rfl, rfl⟩
      · cases h1
    · cases h

theorem aBytes2Str_sound (h : RelW E w) {x : AVal} {a : Value} (hx : RelV E x a) {src dst e : TypeId} (hs : P.underlying src = some (.slice e)) (he : P.underlying e = some (.int .u8))
    (hd : P.underlying dst = some .string) {v : AVal} (ha : aBytes2Str E.H x = some v) : ∃ u, (convert src dst a).run P w = .ok u w ∧ RelV E v u := by
  unfold aBytes2Str at ha
  split at ha
  · simp only [RelG] at hx; subst hx
    simp only [Option.some.injEq] at ha; subst ha
    refine ⟨_, by rw [run_convert_bytes_string w src dst e _ _ _ hs he hd]; simp [Conv.bytesToString]; rfl, ?_⟩
    simp only [RelG]; rfl
  · rename_i r n c
    simp only [RelG] at hx; obtain ⟨p, c', rfl, h1, h2, h3, h4⟩ := hx
    split at ha
    · rename_i cs hrd
      split at ha
      · rename_i s hb
        simp only [Option.some.injEq] at ha; subst ha
        obtain ⟨g1, g2, vs, g3, g4, g5, _⟩ := rd_sound h hrd h1
        have h4 := h4 g2
        obtain ⟨ns, rfl, rfl⟩ := bytesOf_rel hb g3
        have hld : (loadCells p n).run P w = .ok (ns.map (Value.int .u8)).toArray w := by
          by_cases hn : n = 0
          · subst hn
            have : ns = [] := by simpa using g4
            subst this; rfl
          · have hp : p = ⟨E.m r.id, r.off, none⟩ := by
              cases c with
              | ex c => exact h4.1
              | op es' =>
                obtain ⟨q1, q2, q3, q4⟩ := h4
                rcases q4 with ⟨q4, _⟩ | ⟨q4, _⟩
                · obtain ⟨pb, po, ps⟩ := p; simp only at q1 q2 q4; subst q1; subst q2; subst q4; rfl
                · omega
            have := run_loadCells_of (P := P) (w := w) p _ _ hp _ g5
            rwa [g4] at this
        refine ⟨_, by rw [run_convert_bytes_string w src dst e _ _ _ hs he hd, run_bytesToString w _ n c' ns hld, foldl_push_bytes], ?_⟩
        simp only [RelG]
        congr 1
        apply ByteArray.ext
        simp [ByteArray.empty, ByteArray.emptyWithCapacity]
        rfl
      · cases ha
    · cases ha
  · cases ha

theorem aStr2Bytes_sound (h : RelW E w) {x : AVal} {a : Value} (hx : RelV E x a) {src dst e : TypeId} {u0 : TypeDesc} (hs : P.underlying src = some u0) (hd : P.underlying dst = some (.slice e))
    (he : P.underlying e = some (.int .u8)) {v : AVal} {H' : AHeap} (ha : aStr2Bytes E.H x = some (v, H')) : Runs P E w (convert src dst a) v H' := by
  unfold aStr2Bytes at ha
  split at ha
  · rename_i s
    split at ha
    · rename_i hl
      simp only [RelG] at hx; subst hx
      simp only [Option.some.injEq, Prod.mk.injEq] at ha
      obtain ⟨rfl, rfl⟩ := ha
      have hrun := Lib.run_convert_string_bytes w src dst e ⟨s.toArray⟩ hs hd he
      have hcap : s.length ≤ grownCap w (ByteArray.size ⟨s.toArray⟩) 0 e := by
        rw [bytes_size]; simp only [grownCap, Question.cut]; omega
      have hcells : Lib.bytesCells w e ⟨s.toArray⟩ = ((s.map fun b : UInt8 => Value.int .u8 (b.toNat : Int)) ++ List.replicate (grownCap w (ByteArray.size ⟨s.toArray⟩) 0 e - s.length) (Value.int .u8 0)).toArray := by
        simp [Lib.bytesCells, bytes_size]
      have hsize : (Lib.bytesCells w e ⟨s.toArray⟩).size = grownCap w (ByteArray.size ⟨s.toArray⟩) 0 e := by rw [hcells]; simp; omega
      have hheap : (Lib.bytesWorld w e ⟨s.toArray⟩).heap = w.heap.push (.cells (Lib.bytesCells w e ⟨s.toArray⟩) e ((Lib.bytesCells w e ⟨s.toArray⟩).size, (Lib.bytesCells w e ⟨s.toArray⟩).size + 1)) := by
        apply Array.ext_getElem?
        intro j
        rw [Array.getElem?_push]
        by_cases hj : j < w.heap.size
        · rw [if_neg (by omega), Lib.bytesWorld_at_old w e _ j hj]
        · by_cases hj' : j = w.heap.size
          · subst hj'; rw [if_pos rfl, Lib.bytesWorld_at_new]
          · rw [if_neg hj', Array.getElem?_eq_none (by rw [Lib.bytesWorld_size]; omega), Array.getElem?_eq_none (by omega)]
      have hrel : RelL E (s.map ofByte) (s.map fun b : UInt8 => Value.int .u8 (b.toNat : Int)) := by
        clear hrun hcap hcells hsize hheap hl
        induction s with
        | nil => exact RelGL.nil
        | cons b l ih => exact RelGL.cons rel_int ih
      obtain ⟨E', h1, h2, h3, h4, h5, h6⟩ := new_cells h (w' := Lib.bytesWorld w e ⟨s.toArray⟩) .opn (cs := s.map ofByte) (c := Lib.bytesCells w e ⟨s.toArray⟩) (t := e)
        (fz := ((Lib.bytesCells w e ⟨s.toArray⟩).size, (Lib.bytesCells w e ⟨s.toArray⟩).size + 1))
        (by rw [hcells]; simp only [List.length_map]; rw [List.take_append_of_le_length (by simp), List.take_of_length_le (by simp)]; exact hrel)
        (by rw [hsize]; simpa using hcap) (fun e => by cases e) (fun _ => .inr (Nat.le_refl _)) hheap
        (by simp [Lib.bytesWorld, World.freeze]) (by simp [Lib.bytesWorld, World.freeze]; rfl) (by simp [Lib.bytesWorld, World.freeze]; rfl)
      refine ⟨_, _, E', hrun, ?_, h1, h3, h2⟩
      simp only [RelG]
      refine ⟨_, _, rfl, h6, by simp [h3], Nat.zero_le _, fun _ => ⟨h4.symm, rfl, ?_, .inl ⟨rfl, fun _ => ?_⟩⟩⟩
      · rw [bytes_size] at hcap; exact hcap
      · rw [h5, hsize, bytes_size, Nat.mul_one, Nat.zero_add]
    · cases ha
  · cases ha

theorem aInt2_sound {x : AVal} {a : Value} (hx : RelV E x a) {src dst : TypeId} {u0 : TypeDesc} {k : IntKind} (hs : P.underlying src = some u0) (hd : P.underlying dst = some (.int k))
    {v : AVal} (ha : aInt2 k x = some v) : ∃ u, (convert src dst a).run P w = .ok u w ∧ RelV E v u := by
  unfold aInt2 at ha
  split at ha
  · simp only [RelG] at hx; subst hx
    simp only [Option.some.injEq] at ha; subst ha
    exact ⟨_, by simp [convert, run_under hs, run_under hd, Conv.intToInt], rel_int⟩
  · cases ha

theorem aStr2_sound {x : AVal} {a : Value} (hx : RelV E x a) {src dst : TypeId} {u0 : TypeDesc} (hs : P.underlying src = some u0) (hd : P.underlying dst = some .string)
    {v : AVal} (ha : aStr2 x = some v) : ∃ u, (convert src dst a).run P w = .ok u w ∧ RelV E v u := by
  unfold aStr2 at ha
  split at ha
  · simp only [RelG] at hx; subst hx
    simp only [Option.some.injEq] at ha; subst ha
    exact ⟨_, by simp [convert, run_under hs, run_under hd], rel_str⟩
  · cases ha

theorem aPick_sound {c x y : AVal} {a b d : Value} (hc : RelV E c a) (hx : RelV E x b) (hy : RelV E y d) {v : AVal} (ha : aPick c x y = some v) :
    ∃ t, a = .bool t ∧ RelV E v (if t then b else d) := by
  unfold aPick at ha
  split at ha
  · rename_i t
    simp only [RelG] at hc; subst hc
    simp only [Option.some.injEq] at ha; subst ha
    refine ⟨t, rfl, ?_⟩
    cases t
    · exact hy
    · exact hx
  · cases ha

theorem fold2_sound {f : AVal → AVal → Option AVal} {g : Value → Value → Sem Value} (hf : ∀ x y v a b, f x y = some v → RelV E x a → RelV E y b → ∃ u, (g a b).run P w = .ok u w ∧ RelV E v u) :
    ∀ (l : List AVal) (x : AVal) (a : Value) (m : List Value) {v : AVal}, RelV E x a → RelL E l m → aFold f x l = some v → ∃ u, (m.foldlM g a).run P w = .ok u w ∧ RelV E v u
  | [], x, a, m, v, hx, hl, h => by
    simp only [RelGL] at hl; subst hl
    simp only [aFold, Option.some.injEq] at h; subst h
    exact ⟨a, by simp, hx⟩
  | y :: l, x, a, m, v, hx, hl, h => by
    simp only [RelGL] at hl; obtain ⟨b, m', rfl, hb, hl⟩ := hl
    simp only [aFold] at h
    split at h
    · rename_i z hz
      obtain ⟨u, h1, h2⟩ := hf _ _ _ _ _ hz hx hb
      obtain ⟨u', h3, h4⟩ := fold2_sound hf l z u m' h2 hl h
      exact ⟨u', by simp [List.foldlM_cons, h1, h3], h4⟩
    · cases h

theorem aMin2_sound (x y v : AVal) (a b : Value) (h : aMin2 x y = some v) (hx : RelV E x a) (hy : RelV E y b) : ∃ u, (Builtin.min2 a b).run P w = .ok u w ∧ RelV E v u := by
  unfold aMin2 at h
  split at h
  · simp only [RelG] at hx hy; subst hx; subst hy
    simp only [Option.some.injEq] at h; subst h
    exact ⟨_, by simp [Builtin.min2], rel_int⟩
  · cases h
theorem aMax2_sound (x y v : AVal) (a b : Value) (h : aMax2 x y = some v) (hx : RelV E x a) (hy : RelV E y b) : ∃ u, (Builtin.max2 a b).run P w = .ok u w ∧ RelV E v u := by
  unfold aMax2 at h
  split at h
  · simp only [RelG] at hx hy; subst hx; subst hy
    simp only [Option.some.injEq] at h; subst h
    exact ⟨_, by simp [Builtin.max2], rel_int⟩
  · cases h
end
end Go.Abs

/- Equality of whatever is made of numbers, texts and bools; of pointers, slices, maps, functions. -/
namespace Go.Abs
open Go

/-- The cells of a comparable type, in order. -/
def flatFs (F : TypeId → Option (List Ck)) (c : TypeId → Nat) : Nat → List Field → Option (List Ck)
  | _, [] => some []
  | off, f :: fs =>
    if f.name ≠ "_" ∧ f.offset = off then
      match F f.type with
      | some l => if l.length = c f.type then (match flatFs F c (off + l.length) fs with | some r => some (l ++ r) | none => none) else none
      | none => none
    else none

def flatT (P : Program) : Nat → TypeId → Option (List Ck)
  | 0, _ => none
  | d + 1, t =>
    match P.underlying t with
    | some (.int _) => some [.int]
    | some .string => some [.str]
    | some .bool => some [.bool]
    | some (.array n e) =>
      match flatT P d e with
      | some l => if l.length = P.cellsOf e ∧ n * l.length = P.cellsOf t then some (List.replicate n l).flatten else none
      | none => none
    | some (.struct fs) =>
      if P.stoodInHeld t = true then none else
      match flatFs (flatT P d) P.cellsOf 0 fs.toList with
      | some l => if l.length = P.cellsOf t then some l else none
      | none => none
    | _ => none

theorem eqCells_len : ∀ {l : List Ck} {xs ys : List AVal} {b : Bool}, eqCells l xs ys = some b → xs.length = l.length ∧ ys.length = l.length
  | [], [], [], _, _ => ⟨rfl, rfl⟩
  | k :: ks, x :: xs, y :: ys, b, h => by
    simp only [eqCells] at h
    split at h
    · rename_i a c h1 h2
      obtain ⟨g1, g2⟩ := eqCells_len h2
      exact ⟨by simp [g1], by simp [g2]⟩
    · cases h
  | [], [], _ :: _, _, h => by simp [eqCells] at h
  | [], _ :: _, _, _, h => by simp [eqCells] at h
  | _ :: _, [], _, _, h => by simp [eqCells] at h
  | _ :: _, _ :: _, [], _, h => by simp [eqCells] at h

theorem eqCells_append : ∀ {l1 l2 : List Ck} {xs ys : List AVal} {b : Bool}, eqCells (l1 ++ l2) xs ys = some b →
    ∃ b1 b2, eqCells l1 (xs.take l1.length) (ys.take l1.length) = some b1 ∧ eqCells l2 (xs.drop l1.length) (ys.drop l1.length) = some b2 ∧ b = (b1 && b2)
  | [], l2, xs, ys, b, h => ⟨true, b, by simp [eqCells], by simpa using h, by simp⟩
  | k :: l1, l2, xs, ys, b, h => by
    cases xs with
    | nil => simp [eqCells] at h
    | cons x xs =>
      cases ys with
      | nil => simp [eqCells] at h
      | cons y ys =>
        simp only [List.cons_append, eqCells] at h
        split at h
        · rename_i a c h1 h2
          simp only [Option.some.injEq] at h; subst h
          obtain ⟨b1, b2, g1, g2, rfl⟩ := eqCells_append h2
          exact ⟨a && b1, b2, by simp [eqCells, h1, g1], by simpa using g2, by simp [Bool.and_assoc]⟩
        · cases h

section
variable {P : Program} {E : Env} {w : World}

theorem info_under {t : TypeId} {d : TypeDesc} (h : P.underlying t = some d) : ∃ i, P.info? t = some i := info_of_underlying h

def EqOk (P : Program) (E : Env) (w : World) (D : Nat) (t : TypeId) (l : List Ck) : Prop :=
  ∀ (xs ys : List AVal) (X Y : List Value) (off : Nat) (b : Bool), RelL E xs X → RelL E ys Y →
    eqCells l ((xs.drop off).take l.length) ((ys.drop off).take l.length) = some b →
    ∃ u v, (part t X.toArray off).run P w = .ok u w ∧ (part t Y.toArray off).run P w = .ok v w ∧ (Op.equalIn D t u v).run P w = .ok b w

theorem eqCells_one {k : Ck} {xs ys : List AVal} {off : Nat} {b : Bool} (h : eqCells [k] ((xs.drop off).take 1) ((ys.drop off).take 1) = some b) :
    ∃ x y, xs[off]? = some x ∧ ys[off]? = some y ∧ eqCell k x y = some b := by
  have one : ∀ l : List AVal, ∀ z r, (l.drop off).take 1 = z :: r → l[off]? = some z ∧ r = [] := by
    intro l z r hz
    cases hl : l.drop off with
    | nil => rw [hl] at hz; simp at hz
    | cons a as =>
      rw [hl] at hz
      simp at hz
      have : (l.drop off)[0]? = some a := by rw [hl]; rfl
      rw [List.getElem?_drop] at this
      exact ⟨by simpa [hz.1] using this, hz.2⟩
  cases hx : (xs.drop off).take 1 with
  | nil => rw [hx] at h; simp [eqCells] at h
  | cons x r =>
    cases hy : (ys.drop off).take 1 with
    | nil => rw [hx, hy] at h; simp [eqCells] at h
    | cons y r' =>
      obtain ⟨g1, rfl⟩ := one _ _ _ hx
      obtain ⟨g2, rfl⟩ := one _ _ _ hy
      rw [hx, hy] at h
      simp only [eqCells] at h
      split at h
      · rename_i a c h1 h2
        simp only [Option.some.injEq] at h2 h; subst h2; subst h
        exact ⟨x, y, g1, g2, by simpa using h1⟩
      · cases h

theorem eqCell_int {x y : AVal} {b : Bool} (h : eqCell .int x y = some b) : ∃ k a c, x = .int k a ∧ y = .int k c ∧ b = (a == c) := by
  unfold eqCell at h
  split at h
  · split at h
    · rename_i hk; subst hk
      simp only [Option.some.injEq] at h
      exact ⟨_, _, _, rfl, rfl, h.symm⟩
    · cases h
  · rename_i he; cases he
  · rename_i he; cases he
  · cases h
theorem eqCell_str {x y : AVal} {b : Bool} (h : eqCell .str x y = some b) : ∃ a c, x = .str a ∧ y = .str c ∧ b = (a == c) := by
  unfold eqCell at h
  split at h
  · rename_i he; cases he
  · simp only [Option.some.injEq] at h
    exact ⟨_, _, rfl, rfl, h.symm⟩
  · rename_i he; cases he
  · cases h
theorem eqCell_bool {x y : AVal} {b : Bool} (h : eqCell .bool x y = some b) : ∃ a c, x = .bool a ∧ y = .bool c ∧ b = (a == c) := by
  unfold eqCell at h
  split at h
  · rename_i he; cases he
  · rename_i he; cases he
  · simp only [Option.some.injEq] at h
    exact ⟨_, _, rfl, rfl, h.symm⟩
  · cases h

theorem eqItems_ok {D n : Nat} {e : TypeId} {l : List Ck} (hl : l.length = P.cellsOf e) (ih : EqOk P E w D e l) {xs ys : List AVal} {X Y : List Value} (hx : RelL E xs X) (hy : RelL E ys Y) :
    ∀ (m k : Nat) (b : Bool), eqCells (List.replicate m l).flatten ((xs.drop (k * l.length)).take (m * l.length)) ((ys.drop (k * l.length)).take (m * l.length)) = some b →
      (Op.eqItems D e (P.cellsOf e) X.toArray Y.toArray (List.range' k m)).run P w = .ok b w
  | 0, k, b, h => by
    simp [eqCells] at h; subst h
    simp [Op.eqItems]
  | m + 1, k, b, h => by
    simp only [List.replicate_succ, List.flatten_cons] at h
    obtain ⟨b1, b2, g1, g2, rfl⟩ := eqCells_append h
    rw [List.take_take, List.take_take, Nat.min_eq_left (by rw [Nat.add_mul]; omega)] at g1
    have e2 : ∀ zs : List AVal, ((zs.drop (k * l.length)).take ((m + 1) * l.length)).drop l.length = (zs.drop ((k + 1) * l.length)).take (m * l.length) := by
      intro zs
      rw [List.drop_take, List.drop_drop]
      congr 1
      · rw [Nat.add_mul]; omega
      · congr 1; rw [Nat.add_mul]; omega
    rw [e2, e2] at g2
    obtain ⟨u, v, p1, p2, p3⟩ := ih xs ys X Y (k * l.length) b1 hx hy g1
    have hrec := eqItems_ok (n := n) hl ih hx hy m (k + 1) b2 g2
    rw [hl] at p1 p2
    simp only [List.range'_succ, Op.eqItems, Sem.run_bind, p1, p2, p3, Result.andThen_ok]
    cases b1
    · simp
    · simpa using hrec

theorem eqFields_ok {D d : Nat} (ih : ∀ t l, flatT P d t = some l → EqOk P E w D t l) {xs ys : List AVal} {X Y : List Value} (hx : RelL E xs X) (hy : RelL E ys Y) :
    ∀ (fs : List Field) (off : Nat) (l : List Ck) (b : Bool), flatFs (flatT P d) P.cellsOf off fs = some l →
      eqCells l ((xs.drop off).take l.length) ((ys.drop off).take l.length) = some b →
      (Op.eqFields D X.toArray Y.toArray fs).run P w = .ok b w
  | [], off, l, b, hf, h => by
    simp only [flatFs, Option.some.injEq] at hf; subst hf
    simp [eqCells] at h; subst h
    simp [Op.eqFields]
  | f :: fs, off, l, b, hf, h => by
    simp only [flatFs] at hf
    split at hf
    · rename_i hc
      split at hf
      · rename_i l1 hl1
        split at hf
        · split at hf
          · rename_i r hr
            simp only [Option.some.injEq] at hf; subst hf
            obtain ⟨b1, b2, g1, g2, rfl⟩ := eqCells_append h
            rw [List.take_take, List.take_take, List.length_append, Nat.min_eq_left (by omega)] at g1
            have e2 : ∀ zs : List AVal, ((zs.drop off).take (l1 ++ r).length).drop l1.length = (zs.drop (off + l1.length)).take r.length := by
              intro zs
              rw [List.drop_take, List.drop_drop, List.length_append]
              congr 1; omega
            rw [e2, e2] at g2
            obtain ⟨u, v, p1, p2, p3⟩ := ih f.type l1 hl1 xs ys X Y off b1 hx hy g1
            have hrec := eqFields_ok ih hx hy fs (off + l1.length) r b2 hr g2
            rw [← hc.2] at p1 p2
            simp only [Op.eqFields, Sem.run_bind, p1, p2, p3, Result.andThen_ok]
            rw [if_pos hc.1]
            simp only [Sem.run_bind, p1, p2, p3, Result.andThen_ok]
            cases b1
            · simp
            · simpa using hrec
          · cases hf
        · cases hf
      · cases hf
    · cases hf

theorem flat_ok (k : Nat) : ∀ (d : Nat) (t : TypeId) (l : List Ck), flatT P d t = some l → EqOk P E w (k + d) t l
  | 0, t, l, h => by simp [flatT] at h
  | d + 1, t, l, h => by
    intro xs ys X Y off b hx hy he
    unfold flatT at h
    have cell : ∀ (q : Ck) (dd : TypeDesc), P.underlying t = some dd → aggB dd = false → l = [q] →
        (∀ x y u v, eqCell q x y = some b → RelV E x u → RelV E y v → (Op.equalIn (k + (d + 1)) t u v).run P w = .ok b w) →
        ∃ u v, (part t X.toArray off).run P w = .ok u w ∧ (part t Y.toArray off).run P w = .ok v w ∧ (Op.equalIn (k + (d + 1)) t u v).run P w = .ok b w := by
      intro q dd hdd hag hl hq
      subst hl
      obtain ⟨x, y, h1, h2, h3⟩ := eqCells_one he
      obtain ⟨u, hu, ru⟩ := hx.get h1
      obtain ⟨v, hv, rv⟩ := hy.get h2
      exact ⟨u, v, by simp [part, run_agg hdd, hag, hu], by simp [part, run_agg hdd, hag, hv], hq x y u v h3 ru rv⟩
    have wide : ∀ dd, P.underlying t = some dd → aggB dd = true → l.length = P.cellsOf t →
        (∀ xs' ys' X' Y', RelL E xs' X' → RelL E ys' Y' → eqCells l (xs'.take l.length) (ys'.take l.length) = some b → (Op.equalIn (k + (d + 1)) t (.agg X'.toArray) (.agg Y'.toArray)).run P w = .ok b w) →
        ∃ u v, (part t X.toArray off).run P w = .ok u w ∧ (part t Y.toArray off).run P w = .ok v w ∧ (Op.equalIn (k + (d + 1)) t u v).run P w = .ok b w := by
      intro dd hdd hag hlen hq
      obtain ⟨i, hi⟩ := info_under hdd
      have hsz : i.size = l.length := by rw [hlen]; simp [Program.cellsOf, hi]
      refine ⟨.agg ((X.drop off).take l.length).toArray, .agg ((Y.drop off).take l.length).toArray, by simp [part, run_agg hdd, hag, run_size hi, hsz], by simp [part, run_agg hdd, hag, run_size hi, hsz],
        hq _ _ _ _ ((hx.drop off).take _) ((hy.drop off).take _) (by simpa [List.take_take] using he)⟩
    split at h
    · rename_i kk hu
      simp only [Option.some.injEq] at h
      refine cell .int _ hu rfl h.symm fun x y u v hq ru rv => ?_
      obtain ⟨q, a, c, rfl, rfl, rfl⟩ := eqCell_int hq
      simp only [RelG] at ru rv; subst ru; subst rv
      exact run_equalIn_int w (k + d) t _ kk _ _ hu
    · rename_i hu
      simp only [Option.some.injEq] at h
      refine cell .str _ hu rfl h.symm fun x y u v hq ru rv => ?_
      obtain ⟨a, c, rfl, rfl, rfl⟩ := eqCell_str hq
      simp only [RelG] at ru rv; subst ru; subst rv
      have := run_equalIn_string (P := P) w (k + d) t ⟨a.toArray⟩ ⟨c.toArray⟩ hu
      rw [bytes_mk, bytes_mk] at this
      exact this
    · rename_i hu
      simp only [Option.some.injEq] at h
      refine cell .bool _ hu rfl h.symm fun x y u v hq ru rv => ?_
      obtain ⟨a, c, rfl, rfl, rfl⟩ := eqCell_bool hq
      simp only [RelG] at ru rv; subst ru; subst rv
      exact run_equalIn_bool w (k + d) t _ _ hu
    · rename_i n e hu
      split at h
      · rename_i l1 hl1
        split at h
        · rename_i hc
          simp only [Option.some.injEq] at h; subst h
          refine wide _ hu rfl (by simp; exact hc.2) fun xs' ys' X' Y' hx' hy' he' => ?_
          have hpe : ∃ i, P.info? e = some i := by
            cases d with
            | zero => simp [flatT] at hl1
            | succ d =>
              unfold flatT at hl1
              cases hue : P.underlying e with
              | none => simp [hue] at hl1
              | some _ => exact info_of_underlying hue
          obtain ⟨i, hi⟩ := hpe
          rw [show k + (d + 1) = (k + d) + 1 from rfl, run_equalIn_array w (k + d) _ _ hu hi, List.range_eq_range']
          refine eqItems_ok (n := n) hc.1 (flat_ok k d e l1 hl1) hx' hy' n 0 b ?_
          simpa using he'
        · cases h
      · cases h
    · rename_i fs hu
      split at h
      · cases h
      · rename_i hst
        split at h
        · rename_i l1 hl1
          split at h
          · rename_i hc
            simp only [Option.some.injEq] at h; subst h
            refine wide _ hu rfl hc fun xs' ys' X' Y' hx' hy' he' => ?_
            have hfs : P.fieldsOf t = fs := by simp [Program.fieldsOf, hu]
            rw [show k + (d + 1) = (k + d) + 1 from rfl, run_equalIn_struct w (k + d) t _ _ (by rw [hfs]; exact hu) (by simpa using hst), hfs]
            exact eqFields_ok (fun t l h => flat_ok k d t l h) hx' hy' fs.toList 0 l1 b hl1 (by simpa using he')
          · cases h
        · cases h
    · cases h
end
end Go.Abs

/- '==' and '!='; maps. -/
namespace Go.Abs
open Go

def ekOf (P : Program) (t : TypeId) : Option Ek :=
  match P.underlying t with
  | some .bool => some .bool
  | some (.pointer e) => if P.cellsOf e = 0 then none else some .ptr
  | some (.slice _) => some .slice
  | some (.map _ _) => some .map
  | some (.func _ _ _) => some .func
  | some (.array _ _) | some (.struct _) =>
    if P.eqGuardType P.depth t = true then none else
    match flatT P 1000 t with
    | some l => some (.agg l)
    | none => none
  | _ => none

section
variable {P : Program} {E : Env} {w : World}

theorem part_whole {t : TypeId} {d : TypeDesc} {i : TypeInfo} (hd : P.underlying t = some d) (ha : aggB d = true) (hi : P.info? t = some i) {X : List Value} (hl : X.length = i.size) :
    (part t X.toArray 0).run P w = .ok (.agg X.toArray) w := by
  simp [part, run_agg hd, ha, run_size hi, ← hl]

theorem addr_beq (b o o' : Nat) : ((⟨b, o, none⟩ : Addr) == ⟨b, o', none⟩) = (o == o') := by
  rw [Bool.eq_iff_iff]; simp

theorem flatT_len {t : TypeId} {l : List Ck} {d : Nat} (hl : flatT P d t = some l) (ha : (∃ n e, P.underlying t = some (.array n e)) ∨ ∃ fs, P.underlying t = some (.struct fs)) :
    l.length = P.cellsOf t := by
  cases d with
  | zero => simp [flatT] at hl
  | succ d =>
    unfold flatT at hl
    rcases ha with ⟨n, e, hu⟩ | ⟨fs, hu⟩
    · simp only [hu] at hl
      split at hl
      · split at hl
        · rename_i hc
          simp only [Option.some.injEq] at hl; subst hl
          simp; exact hc.2
        · cases hl
      · cases hl
    · simp only [hu] at hl
      split at hl
      · cases hl
      · split at hl
        · split at hl
          · rename_i hc
            simp only [Option.some.injEq] at hl; subst hl; exact hc
          · cases hl
        · cases hl

theorem agg_sound (k d : Nat) {t : TypeId} {l : List Ck} (hl : flatT P d t = some l) (ha : (∃ n e, P.underlying t = some (.array n e)) ∨ ∃ fs, P.underlying t = some (.struct fs))
    {xs ys : List AVal} {X Y : List Value} (hX : RelL E xs X) (hY : RelL E ys Y) {b : Bool} (h : eqCells l xs ys = some b) :
    (Op.equalIn (k + d) t (.agg X.toArray) (.agg Y.toArray)).run P w = .ok b w := by
  obtain ⟨l1, l2⟩ := eqCells_len h
  have hlen := flatT_len hl ha
  obtain ⟨dd, hd, hag⟩ : ∃ dd, P.underlying t = some dd ∧ aggB dd = true := by
    rcases ha with ⟨n, e, hu⟩ | ⟨fs, hu⟩
    · exact ⟨_, hu, rfl⟩
    · exact ⟨_, hu, rfl⟩
  obtain ⟨i, hi⟩ := info_under hd
  have hci : P.cellsOf t = i.size := by simp [Program.cellsOf, hi]
  obtain ⟨u, v, p1, p2, p3⟩ := flat_ok (P := P) (E := E) (w := w) k d t l hl _ _ X Y 0 b hX hY (by simpa [List.take_of_length_le (Nat.le_of_eq l1), List.take_of_length_le (Nat.le_of_eq l2)] using h)
  rw [part_whole hd hag hi (by rw [← hX.length, l1, hlen, hci])] at p1
  rw [part_whole hd hag hi (by rw [← hY.length, l2, hlen, hci])] at p2
  cases p1; cases p2
  exact p3

theorem simple_sound (d : Nat) {t : TypeId} {ek : Ek} (hk : ekOf P t = some ek) (hn : ∀ l, ek ≠ .agg l) {x y : AVal} {a c : Value} (hx : RelV E x a) (hy : RelV E y c) {b : Bool} (h : aEq ek E.H x y = some b) :
    (Op.equalIn (d + 1) t a c).run P w = .ok b w := by
  unfold ekOf at hk
  split at hk
  · rename_i hu
    simp only [Option.some.injEq] at hk; subst hk
    cases x <;> cases y <;> simp only [aEq] at h <;> try (cases h; done)
    simp only [Option.some.injEq] at h; subst h
    simp only [RelG] at hx hy; subst hx; subst hy
    exact run_equalIn_bool w d t _ _ hu
  · rename_i e hu
    split at hk
    · cases hk
    · rename_i hce
      simp only [Option.some.injEq] at hk; subst hk
      have hsz : ∀ i, P.info? e = some i → i.size ≠ 0 := fun i hi => by simpa [Program.cellsOf, hi] using hce
      have hie : ∃ i, P.info? e = some i := by
        cases hi : P.info? e with
        | some i => exact ⟨i, rfl⟩
        | none => simp [Program.cellsOf, hi] at hce
      obtain ⟨i, hi⟩ := hie
      cases x <;> cases y <;> simp only [aEq] at h <;> try (cases h; done)
      · simp only [Option.some.injEq] at h; subst h
        simp only [RelG] at hx hy; subst hx; subst hy
        simp [Op.equalIn, run_under hu]
      · simp only [Option.some.injEq] at h; subst h
        simp only [RelG] at hx hy; subst hx; obtain ⟨q, rfl, _⟩ := hy
        simp [Op.equalIn, run_under hu]
      · simp only [Option.some.injEq] at h; subst h
        simp only [RelG] at hx hy; subst hy; obtain ⟨q, rfl, _⟩ := hx
        simp [Op.equalIn, run_under hu]
      · split at h
        · rename_i r r' hc
          simp only [Option.some.injEq] at h; subst h
          simp only [RelG] at hx hy
          obtain ⟨q, rfl, h1, h2, h3, h4⟩ := hx
          obtain ⟨q', rfl, g1, g2, g3, g4⟩ := hy
          have e1 := h4 hc.2.1
          have e2 := g4 (by rw [← hc.1]; exact hc.2.2)
          subst e1; subst e2
          simp only [Op.equalIn, run_under hu, Sem.run_bind, Result.andThen, run_size hi]
          rw [if_pos (hsz i hi)]
          simp only [sameAddr, hc.1]
          simp [addr_beq]
        · cases h
  · rename_i e hu
    simp only [Option.some.injEq] at hk; subst hk
    cases x <;> cases y <;> simp only [aEq] at h <;> try (cases h; done)
    · simp only [Option.some.injEq] at h; subst h
      simp only [RelG] at hx hy; subst hx; subst hy
      simp [Op.equalIn, run_under hu]
    · simp only [Option.some.injEq] at h; subst h
      simp only [RelG] at hx hy; subst hx; obtain ⟨q, q', rfl, _⟩ := hy
      simp [Op.equalIn, run_under hu]
    · simp only [Option.some.injEq] at h; subst h
      simp only [RelG] at hx hy; subst hy; obtain ⟨q, q', rfl, _⟩ := hx
      simp [Op.equalIn, run_under hu]
  · rename_i e e' hu
    simp only [Option.some.injEq] at hk; subst hk
    cases x <;> cases y <;> simp only [aEq] at h <;> try (cases h; done)
    · simp only [Option.some.injEq] at h; subst h
      simp only [RelG] at hx hy; subst hx; subst hy
      simp [Op.equalIn, run_under hu]
    · simp only [Option.some.injEq] at h; subst h
      simp only [RelG] at hx hy; subst hx; obtain ⟨q, rfl, _⟩ := hy
      simp [Op.equalIn, run_under hu]
    · simp only [Option.some.injEq] at h; subst h
      simp only [RelG] at hx hy; subst hy; obtain ⟨q, rfl, _⟩ := hx
      simp [Op.equalIn, run_under hu]
  · rename_i hu
    simp only [Option.some.injEq] at hk; subst hk
    cases x <;> cases y <;> simp only [aEq] at h <;> try (cases h; done)
    · simp only [Option.some.injEq] at h; subst h
      simp only [RelG] at hx hy; obtain ⟨p, q, rfl, _⟩ := hx; subst hy
      simp [Op.equalIn, run_under hu]
    · simp only [Option.some.injEq] at h; subst h
      simp only [RelG] at hx hy; subst hx; obtain ⟨q, q', rfl, _⟩ := hy
      simp [Op.equalIn, run_under hu]
    · simp only [Option.some.injEq] at h; subst h
      simp only [RelG] at hx hy; subst hy; subst hx
      simp [Op.equalIn, run_under hu]
  · split at hk
    · cases hk
    · split at hk
      · simp only [Option.some.injEq] at hk; exact absurd hk.symm (hn _)
      · cases hk
  · split at hk
    · cases hk
    · split at hk
      · simp only [Option.some.injEq] at hk; exact absurd hk.symm (hn _)
      · cases hk
  · cases hk

theorem equal_sound {t : TypeId} {ek : Ek} (hk : ekOf P t = some ek) {x y : AVal} {a c : Value} (hx : RelV E x a) (hy : RelV E y c) {b : Bool} (h : aEq ek E.H x y = some b) :
    (Op.equal t a c).run P w = .ok b w := by
  by_cases hn : ∀ l, ek ≠ .agg l
  · exact simple_sound 9999 hk hn hx hy h
  · have : ∃ l, ek = .agg l := by
      cases ek <;> first | exact ⟨_, rfl⟩ | (exfalso; apply hn; intro l e; cases e)
    obtain ⟨l, rfl⟩ := this
    cases x <;> cases y <;> simp only [aEq] at h <;> try (cases h; done)
    simp only [RelG] at hx hy
    obtain ⟨X, rfl, hX⟩ := hx
    obtain ⟨Y, rfl, hY⟩ := hy
    unfold ekOf at hk
    split at hk <;> try (cases hk; done)
    · split at hk <;> simp at hk
    · rename_i n e hu
      split at hk
      · cases hk
      · split at hk
        · rename_i l' hl
          simp only [Option.some.injEq, Ek.agg.injEq] at hk; subst hk
          exact agg_sound 9000 1000 hl (.inl ⟨_, _, hu⟩) hX hY h
        · cases hk
    · rename_i fs hu
      split at hk
      · cases hk
      · split at hk
        · rename_i l' hl
          simp only [Option.some.injEq, Ek.agg.injEq] at hk; subst hk
          exact agg_sound 9000 1000 hl (.inr ⟨_, hu⟩) hX hY h
        · cases hk

theorem aEql_sound {neq : Bool} {t : TypeId} {ek : Ek} (hk : ekOf P t = some ek) {x y : AVal} {a c : Value} (hx : RelV E x a) (hy : RelV E y c) {v : AVal} (h : aEql neq ek E.H x y = some v) (ox oy : Operand) :
    ∃ u, (do eqGuard (if neq then .neq else .eql) t ox oy a c; binOp (if neq then .neq else .eql) t a c : Sem Value).run P w = .ok u w ∧ RelV E v u := by
  unfold aEql at h
  split at h
  · rename_i b hb
    simp only [Option.some.injEq] at h; subst h
    have he := equal_sound (P := P) (w := w) hk hx hy hb
    refine ⟨.bool (b != neq), ?_, rel_bool⟩
    have hg : ∀ l, ek = .agg l → P.eqGuardType P.depth t = false := by
      rintro l rfl
      unfold ekOf at hk
      split at hk <;> try (cases hk; done)
      · split at hk <;> simp at hk
      all_goals
        split at hk
        · cases hk
        · rename_i hh; simpa using hh
    have key : (eqGuard (if neq then .neq else .eql) t ox oy a c).run P w = .ok () w ∧
        (binOp (if neq then .neq else .eql) t a c).run P w = .ok (.bool (b != neq)) w := by
      unfold aEq at hb
      split at hb
      all_goals try (cases hb; done)
      all_goals simp only [RelG] at hx hy
      · subst hx; subst hy
        cases neq <;> exact ⟨by simp [eqGuard], by simp [binOp, he]⟩
      · subst hx; subst hy
        cases neq <;> exact ⟨by simp [eqGuard], by simp [binOp, he]⟩
      · subst hx; obtain ⟨q, rfl, _⟩ := hy
        cases neq <;> exact ⟨by simp [eqGuard], by simp [binOp, he]⟩
      · subst hy; obtain ⟨q, rfl, _⟩ := hx
        cases neq <;> exact ⟨by simp [eqGuard], by simp [binOp, he]⟩
      · obtain ⟨q', rfl, _⟩ := hy; obtain ⟨q, rfl, _⟩ := hx
        cases neq <;> exact ⟨by simp [eqGuard], by simp [binOp, he]⟩
      · subst hx; subst hy
        cases neq <;> exact ⟨by simp [eqGuard], by simp [binOp, he]⟩
      · subst hx; obtain ⟨q, q', rfl, _⟩ := hy
        cases neq <;> exact ⟨by simp [eqGuard], by simp [binOp, he]⟩
      · subst hy; obtain ⟨q, q', rfl, _⟩ := hx
        cases neq <;> exact ⟨by simp [eqGuard], by simp [binOp, he]⟩
      · subst hx; subst hy
        cases neq <;> exact ⟨by simp [eqGuard], by simp [binOp, he]⟩
      · subst hx; obtain ⟨q, rfl, _⟩ := hy
        cases neq <;> exact ⟨by simp [eqGuard], by simp [binOp, he]⟩
      · subst hy; obtain ⟨q, rfl, _⟩ := hx
        cases neq <;> exact ⟨by simp [eqGuard], by simp [binOp, he]⟩
      · subst hx; subst hy
        cases neq <;> exact ⟨by simp [eqGuard], by simp [binOp, he]⟩
      · subst hx; obtain ⟨q, q', rfl, _⟩ := hy
        cases neq <;> exact ⟨by simp [eqGuard], by simp [binOp, he]⟩
      · subst hy; obtain ⟨q, q', rfl, _⟩ := hx
        cases neq <;> exact ⟨by simp [eqGuard], by simp [binOp, he]⟩
      · obtain ⟨q', rfl, _⟩ := hy; obtain ⟨q, rfl, _⟩ := hx
        have := hg _ rfl
        cases neq <;> exact ⟨by simp [eqGuard, this], by simp [binOp, he]⟩
    obtain ⟨hguard, hbin⟩ := key
    simp only [Sem.run_bind, hguard, Result.andThen, hbin]
  · cases h
end
end Go.Abs

/- Maps with keys that are texts or numbers: each operation is sound. -/
namespace Go.Abs
open Go Go.MapKept
section
variable {P : Program} {E : Env} {w : World}

def ktOf (P : Program) (t : TypeId) : Option Kt :=
  match P.underlying t with
  | some .string => some .str
  | some (.int k) => some (.int k)
  | some (.array n e) =>
    match P.underlying e with
    | some (.int .u8) =>
      match ekOf P t with
      | some (.agg l) => if l = List.replicate n .int ∧ P.cellsOf e = 1 then some (.arr n) else none
      | _ => none
    | _ => none
  | _ => none

/-- A value's zero, of one cell. -/
def zeroV (P : Program) (t : TypeId) : Option AVal :=
  match (P.info? t).bind (·.zero) with
  | some (.agg _) => none
  | some z => some (toA z)
  | none => none

theorem ktOf_some {t : TypeId} {l : Kt} (h : ktOf P t = some l) : (∃ d, P.underlying t = some d ∧ (l = .str ∧ d = .string ∨ ∃ k, l = .int k ∧ d = .int k)) ∨
    ∃ n e, l = .arr n ∧ P.underlying t = some (.array n e) ∧ P.underlying e = some (.int .u8) ∧ ekOf P t = some (.agg (List.replicate n .int)) ∧ P.cellsOf e = 1 := by
  unfold ktOf at h
  split at h
  · rename_i hd; cases h; exact .inl ⟨_, hd, .inl ⟨rfl, rfl⟩⟩
  · rename_i k hd; cases h; exact .inl ⟨_, hd, .inr ⟨_, rfl, rfl⟩⟩
  · rename_i n e hd
    split at h
    · rename_i he
      split at h
      · rename_i l' hk
        split at h
        · rename_i hc
          cases h
          exact .inr ⟨n, e, rfl, hd, he, by rw [hk, hc.1], hc.2⟩
        · cases h
      · cases h
    · cases h
  · cases h

theorem isKey_of {d : TypeDesc} {l : Kt} (hd : l = .str ∧ d = .string ∨ ∃ k, l = .int k ∧ d = .int k) {k : AVal} {a : Value} (h : keyOk l k = true) (hr : RelV E k a) : IsKey d a := by
  rcases hd with ⟨rfl, rfl⟩ | ⟨q, rfl, rfl⟩
  · cases k <;> simp only [keyOk, Bool.false_eq_true] at h
    simp only [RelG] at hr; subst hr; trivial
  · cases k <;> simp only [keyOk, Bool.false_eq_true, decide_eq_true_eq] at h
    simp only [RelG] at hr; subst hr; exact h

theorem sameNow_of {d : TypeDesc} {l : Kt} (hd : l = .str ∧ d = .string ∨ ∃ k, l = .int k ∧ d = .int k) {x y : AVal} {a b : Value} {r : Bool} (h : keyEq l x y = some r) (hx : RelV E x a) (hy : RelV E y b) : Instr.sameNow d a b = some r := by
  rcases hd with ⟨rfl, rfl⟩ | ⟨q, rfl, rfl⟩
  · cases x <;> cases y <;> simp only [keyEq, reduceCtorEq] at h
    rename_i s t
    simp only [RelG] at hx hy; subst hx; subst hy
    simp only [Instr.sameNow, Option.some.injEq] at h ⊢
    subst h
    by_cases e : s = t
    · subst e; simp [bytes_beq]
    · have : ¬ ((⟨s.toArray⟩ : ByteArray) = ⟨t.toArray⟩) := fun h => e (by simpa using h)
      rw [show (s == t) = false by simpa using e]
      cases hb : ((⟨s.toArray⟩ : ByteArray) == ⟨t.toArray⟩) with
      | false => rfl
      | true => exact absurd ((bytes_beq _ _).1 hb) this
  · cases x <;> cases y <;> simp only [keyEq, reduceCtorEq] at h
    rename_i k1 n k2 m
    simp only [RelG] at hx hy; subst hx; subst hy
    split at h
    · rename_i hk
      obtain ⟨rfl, rfl⟩ := hk
      simp only [Instr.sameNow, if_true]
      exact h
    · cases h

theorem findNow_of {d : TypeDesc} {l : Kt} (hd : l = .str ∧ d = .string ∨ ∃ k, l = .int k ∧ d = .int k) {k : AVal} {a : Value} (hk : RelV E k a) : ∀ {es : List (AVal × AVal)} {ents : List MapEntry} {i : Nat} {r : Option (Nat × AVal)},
    RelL E (es.map (·.1)) (ents.map (·.key)) → RelL E (es.map (·.2)) (ents.map (·.val)) → findKey l k es i = some r →
    (r = none ∧ Instr.findNow d a ents i = some none) ∨ ∃ j v b e, r = some (i + j, v) ∧ Instr.findNow d a ents i = some (some (i + j, b)) ∧ RelV E v b ∧ ents[j]? = some e ∧ j < es.length
  | [], ents, i, r, h1, _, h => by
    simp only [findKey, Option.some.injEq] at h; subst h
    simp only [List.map_nil, RelGL, List.map_eq_nil_iff] at h1; subst h1
    exact .inl ⟨rfl, rfl⟩
  | e :: es, ents, i, r, h1, h2, h => by
    simp only [List.map_cons, RelGL] at h1 h2
    obtain ⟨y, ys, h1, ry, rys⟩ := h1
    cases ents with
    | nil => cases h1
    | cons en ents =>
      simp only [List.map_cons, List.cons.injEq] at h1 h2
      obtain ⟨rfl, rfl⟩ := h1
      obtain ⟨z, zs, ⟨rfl, rfl⟩, rz, rzs⟩ := h2
      unfold findKey at h
      split at h
      · rename_i hq
        simp only [Option.some.injEq] at h; subst h
        exact .inr ⟨0, _, _, en, rfl, by simp [Instr.findNow, sameNow_of hd hq hk ry], rz, rfl, by simp⟩
      · rename_i hq
        rcases findNow_of hd hk rys rzs h with ⟨rfl, g⟩ | ⟨j, v, b, e2, rfl, g1, g2, g3, g4⟩
        · exact .inl ⟨rfl, by simp [Instr.findNow, sameNow_of hd hq hk ry, g]⟩
        · exact .inr ⟨j + 1, v, b, e2, by rw [Nat.add_assoc, Nat.add_comm 1 j], by simp only [Instr.findNow, sameNow_of hd hq hk ry]; rw [g1, Nat.add_assoc, Nat.add_comm 1 j], g2, by simpa using g3, by simp; omega⟩
      · cases h

theorem findNow_grow {d : TypeDesc} {b : Value} : ∀ (L : List MapEntry) (i1 p1 : Nat) (q1 : Value), Instr.findNow d b L i1 = some (some (p1, q1)) → i1 ≤ p1 := by
  intro L
  induction L with
  | nil => intro i1 p1 q1 h; simp [Instr.findNow] at h
  | cons z L ih2 =>
    intro i1 p1 q1 h
    unfold Instr.findNow at h
    split at h
    · simp only [Option.some.injEq, Prod.mk.injEq] at h; omega
    · have := ih2 _ _ _ h; omega
    · cases h
/-- The found key is the same one. -/
theorem findNow_same {d : TypeDesc} {b : Value} : ∀ (L : List MapEntry) (i0 : Nat) (p : Nat) (q : Value) (eL : MapEntry), Instr.findNow d b L i0 = some (some (i0 + p, q)) → L[p]? = some eL → Instr.sameNow d b eL.key = some true := by
  intro L
  induction L with
  | nil => intro i0 p q eL h1; simp [Instr.findNow] at h1
  | cons z L ih =>
    intro i0 p q eL h1 h2
    unfold Instr.findNow at h1
    split at h1
    · rename_i hs
      simp only [Option.some.injEq, Prod.mk.injEq] at h1
      have : p = 0 := by omega
      subst this
      simp at h2; subst h2; exact hs
    · rename_i hs
      cases p with
      | zero =>
        exfalso
        have := findNow_grow _ _ _ _ h1
        omega
      | succ p => exact ih (i0 + 1) p q eL (by rw [show i0 + 1 + p = i0 + (p + 1) by omega]; exact h1) (by simpa using h2)
    · cases h1

theorem isU8_some {x : AVal} (h : isU8 x = true) : ∃ n, x = .int .u8 n := by
  unfold isU8 at h
  split at h
  · exact ⟨_, rfl⟩
  · cases h
theorem u8_rel : ∀ {xs : List AVal} {X : List Value}, (∀ x ∈ xs, isU8 x = true) → RelL E xs X → ∀ v ∈ X, ∃ n, v = .int .u8 n
  | [], X, _, h, v, hv => by simp only [RelGL] at h; subst h; cases hv
  | x :: xs, X, ha, h, v, hv => by
    simp only [RelGL] at h
    obtain ⟨y, ys, rfl, h1, h2⟩ := h
    rcases List.mem_cons.1 hv with rfl | hv
    · obtain ⟨n, rfl⟩ := isU8_some (ha x List.mem_cons_self)
      simp only [RelG] at h1
      exact ⟨n, h1⟩
    · exact u8_rel (fun x hx => ha x (List.mem_cons_of_mem _ hx)) h2 v hv
theorem eqCells_true : ∀ {n : Nat} {xs ys : List AVal} {X Y : List Value}, eqCells (List.replicate n .int) xs ys = some true → RelL E xs X → RelL E ys Y → X = Y
  | 0, [], [], X, Y, _, h1, h2 => by simp only [RelGL] at h1 h2; rw [h1, h2]
  | 0, [], _ :: _, X, Y, h, _, _ => by simp [eqCells] at h
  | 0, _ :: _, _, X, Y, h, _, _ => by simp [eqCells] at h
  | n + 1, [], _, X, Y, h, _, _ => by simp [eqCells, List.replicate_succ] at h
  | n + 1, _ :: _, [], X, Y, h, _, _ => by simp [eqCells, List.replicate_succ] at h
  | n + 1, x :: xs, y :: ys, X, Y, h, h1, h2 => by
    simp only [List.replicate_succ, eqCells] at h
    split at h
    · rename_i a b ha hb
      simp only [Option.some.injEq, Bool.and_eq_true] at h
      obtain ⟨rfl, rfl⟩ := h
      obtain ⟨k, p, q, rfl, rfl, he⟩ := eqCell_int ha
      simp only [RelGL] at h1 h2
      obtain ⟨u, us, rfl, hu, hus⟩ := h1
      obtain ⟨v, vs, rfl, hv, hvs⟩ := h2
      simp only [RelG] at hu hv
      have : p = q := by simpa using he.symm
      rw [hu, hv, this, eqCells_true hb hus hvs]
    · cases h

theorem chk_of {t : TypeId} {l : Kt} (hl : ktOf P t = some l) {k : AVal} {b : Value} (h : keyOk l k = true) (hr : RelV E k b) (em : Bool) : (Instr.checkKey em 10000 t b).run P w = .ok () w := by
  rcases ktOf_some hl with ⟨d, hd, hdl⟩ | ⟨n, e, rfl, hd, he, hk, hc⟩
  · exact run_checkKey hd (isKey_of hdl h hr) em 9999
  · cases k <;> simp only [keyOk, Bool.false_eq_true] at h
    rename_i cs
    simp only [Bool.and_eq_true, List.all_eq_true] at h
    have hlen := Nat.eq_of_beq_eq_true h.1
    simp only [RelG] at hr
    obtain ⟨X, rfl, hX⟩ := hr
    have hXl := hX.length
    have hu := u8_rel h.2 hX
    obtain ⟨i, hi⟩ := info_of_underlying he
    rw [show (10000 : Nat) = 9999 + 1 from rfl, Instr.checkKey]
    simp only [Sem.run_bind, run_underlying hd, Result.andThen_ok]
    simp only [Std.Legacy.Range.forIn_eq_forIn_range', Std.Legacy.Range.size, Nat.sub_zero, Nat.add_one_sub_one, Nat.div_one]
    have each : ∀ j ∈ List.range' 0 n, j < X.length := fun j hj => by
      have := (List.mem_range'_1.1 hj).2
      omega
    generalize List.range' 0 n = is at each
    induction is with
    | nil => simp
    | cons j is ih =>
      have hj := each j (by simp)
      obtain ⟨m, hm⟩ := hu X[j] (List.getElem_mem hj)
      have p0 : X.toArray[j * P.cellsOf e]? = some (.int .u8 m) := by
        rw [hc, Nat.mul_one, List.getElem?_toArray, List.getElem?_eq_getElem hj, hm]
      have p1 : (part e X.toArray (j * P.cellsOf e)).run P w = .ok (.int .u8 m) w := run_part_plain w (by simp [Program.plainKey, he]) p0
      have p2 : (Instr.checkKey em 9999 e (.int .u8 m)).run P w = .ok () w := by
        rw [show (9999 : Nat) = 9998 + 1 from rfl, Instr.checkKey]
        simp [run_underlying he]
      simp only [List.forIn_cons, Sem.run_bind, run_sizeOf w hi, Result.andThen_ok, p1, p2, Sem.run_pure]
      exact ih (fun y hy => each y (by simp [hy]))

theorem stay_of {l : Kt} {k : AVal} {b : Value} (h : keyOk l k = true) (hr : RelV E k b) : (Instr.keyThatStays b b).run P w = .ok b w := by
  have hs : Instr.sameBits 10000 b b = true := by
    cases l <;> cases k <;> simp only [keyOk, Bool.false_eq_true] at h
    · simp only [RelG] at hr; subst hr; simp [Instr.sameBits, bytes_beq]
    · simp only [RelG] at hr; subst hr; simp [Instr.sameBits]
    · rename_i n cs
      simp only [Bool.and_eq_true, List.all_eq_true] at h
      simp only [RelG] at hr
      obtain ⟨X, rfl, hX⟩ := hr
      have hu := u8_rel h.2 hX
      rw [show (10000 : Nat) = 9999 + 1 from rfl]
      simp only [Instr.sameBits, beq_self_eq_true, Bool.true_and, List.all_eq_true]
      intro p hp
      obtain ⟨x, y⟩ := p
      have hxy : x = y ∧ x ∈ X := by
        have : ∀ (L : List Value), (x, y) ∈ L.zip L → x = y ∧ x ∈ L := by
          intro L
          induction L with
          | nil => intro h; cases h
          | cons a L ih =>
            intro h
            simp only [List.zip_cons_cons, List.mem_cons, Prod.mk.injEq] at h
            rcases h with ⟨rfl, rfl⟩ | h
            · exact ⟨rfl, List.mem_cons_self⟩
            · exact ⟨(ih h).1, List.mem_cons_of_mem _ (ih h).2⟩
        exact this X (by simpa using hp)
      obtain ⟨rfl, hx⟩ := hxy
      obtain ⟨m, rfl⟩ := hu x hx
      simp [Instr.sameBits]
  simp [Instr.keyThatStays, hs]

theorem fnd_of {t : TypeId} {l : Kt} (hl : ktOf P t = some l) {k : AVal} {b : Value} (hko : keyOk l k = true) (hk : RelV E k b) {es : List (AVal × AVal)} {ents : List MapEntry} {r : Option (Nat × AVal)}
    (r1 : RelL E (es.map (·.1)) (ents.map (·.key))) (r2 : RelL E (es.map (·.2)) (ents.map (·.val))) (h : findKey l k es 0 = some r) :
    (r = none ∧ (Instr.findKey t b ents).run P w = .ok none w) ∨ ∃ j v b' e, r = some (j, v) ∧ (Instr.findKey t b ents).run P w = .ok (some (j, b')) w ∧ RelV E v b' ∧ ents[j]? = some e ∧ j < es.length ∧ e.key = b := by
  rcases ktOf_some hl with ⟨d, hd, hdl⟩ | ⟨n, e, rfl, hd, he, hek, hc⟩
  · have hik := isKey_of hdl hko hk
    rcases findNow_of hdl hk r1 r2 h with ⟨rfl, g1⟩ | ⟨j, v', b', e', rfl, g1, g2, g3, g4⟩
    · exact .inl ⟨rfl, run_findKey hd g1⟩
    · refine .inr ⟨j, v', b', e', by rw [Nat.zero_add], by rw [Nat.zero_add] at g1; exact run_findKey hd g1, g2, g3, g4, ?_⟩
      have hs := findNow_same ents 0 j b' e' g1 g3
      rcases hdl with ⟨_, rfl⟩ | ⟨q, _, rfl⟩
      · cases b <;> simp only [IsKey] at hik
        cases hek : e'.key <;> rw [hek] at hs <;> simp only [Instr.sameNow, reduceCtorEq, Option.some.injEq] at hs
        rw [(bytes_beq _ _).1 hs]
      · cases b <;> simp only [IsKey] at hik
        cases hek : e'.key <;> rw [hek] at hs <;> simp only [Instr.sameNow, reduceCtorEq] at hs
        split at hs
        · rename_i hq; simp only [Option.some.injEq, beq_iff_eq] at hs; rw [hs, hq]
        · cases hs
  · rw [run_findKey_eq w (by simp [hd])]
    cases k <;> simp only [keyOk, Bool.false_eq_true] at hko
    rename_i xs
    have key : ∀ (es : List (AVal × AVal)) (ents : List MapEntry) (i : Nat) (r : Option (Nat × AVal)), RelL E (es.map (·.1)) (ents.map (·.key)) → RelL E (es.map (·.2)) (ents.map (·.val)) → findKey (.arr n) (.agg xs) es i = some r →
        (r = none ∧ (Instr.findAsking t b ents i).run P w = .ok none w) ∨ ∃ j v b' e, r = some (i + j, v) ∧ (Instr.findAsking t b ents i).run P w = .ok (some (i + j, b')) w ∧ RelV E v b' ∧ ents[j]? = some e ∧ j < es.length ∧ e.key = b := by
      intro es
      induction es with
      | nil =>
        intro ents i r h1 _ h
        simp only [findKey, Option.some.injEq] at h; subst h
        simp only [List.map_nil, RelGL, List.map_eq_nil_iff] at h1; subst h1
        exact .inl ⟨rfl, by simp [Instr.findAsking]⟩
      | cons e es ih =>
        intro ents i r h1 h2 h
        simp only [List.map_cons, RelGL] at h1 h2
        obtain ⟨y, ys, h1, ry, rys⟩ := h1
        cases ents with
        | nil => cases h1
        | cons en ents =>
          simp only [List.map_cons, List.cons.injEq] at h1 h2
          obtain ⟨rfl, rfl⟩ := h1
          obtain ⟨z, zs, ⟨rfl, rfl⟩, rz, rzs⟩ := h2
          have eqv : ∀ q, keyEq (.arr n) (.agg xs) e.1 = some q → (Op.equal t b en.key).run P w = .ok q w ∧ (q = true → en.key = b) := by
            intro q hq
            cases hx : e.1 <;> rw [hx] at hq <;> simp only [keyEq, reduceCtorEq] at hq
            rename_i ys'
            rw [hx] at ry
            refine ⟨equal_sound hek hk ry (by simpa only [aEq] using hq), fun e1 => ?_⟩
            subst e1
            simp only [RelG] at hk ry
            obtain ⟨X, rfl, hX⟩ := hk
            obtain ⟨Y, hY, hYr⟩ := ry
            rw [hY, eqCells_true hq hX hYr]
          unfold findKey at h
          split at h
          · rename_i hq
            simp only [Option.some.injEq] at h; subst h
            obtain ⟨q1, q2⟩ := eqv _ hq
            exact .inr ⟨0, _, _, en, rfl, by simp [Instr.findAsking, q1], rz, rfl, by simp, q2 rfl⟩
          · rename_i hq
            obtain ⟨q1, _⟩ := eqv _ hq
            rcases ih ents (i + 1) r rys rzs h with ⟨rfl, g⟩ | ⟨j, v, b', e2, rfl, g1, g2, g3, g4, g5⟩
            · exact .inl ⟨rfl, by simp [Instr.findAsking, q1, g]⟩
            · exact .inr ⟨j + 1, v, b', e2, by rw [Nat.add_assoc, Nat.add_comm 1 j], by simp only [Instr.findAsking, Sem.run_bind, q1, Result.andThen_ok]; simp [g1]; omega, g2, by simpa using g3, by simp; omega, g5⟩
          · cases h
    have := key es ents 0 r r1 r2 h
    simpa using this

theorem zeroV_run {t : TypeId} {z : AVal} (h : zeroV P t = some z) : ∃ v, (zeroValue t).run P w = .ok v w ∧ RelV E z v := by
  unfold zeroV at h
  cases hi : P.info? t with
  | none => simp [hi] at h
  | some i =>
    cases hz : i.zero with
    | none => simp [hi, hz] at h
    | some zv =>
      have : z = toA zv := by
        simp only [hi, Option.bind_some, hz] at h
        split at h
        · cases h
        · rename_i e; cases e; simpa using h.symm
        · cases h
      subst this
      exact ⟨zv, by simp [zeroValue, typeInfo, hi, hz, Result.andThen], toA_rel zv⟩

theorem mapObj_of (h : RelW E w) {i v : Nat} {es : List (AVal × AVal)} (hi : E.H[i]? = some (.map v es)) (hS : E.S i) : RelMapObj E w i es := h.obj i _ hS hi

theorem rel_mapVal {x : AVal} {a : Value} {i : Nat} (hx : x = .map i) (h : RelV E x a) : a = .map (some (E.m i)) ∧ E.S i ∧ i < E.H.length := by
  subst hx
  simp only [RelG] at h
  obtain ⟨b, rfl, h1, h2, _, rfl⟩ := h
  exact ⟨rfl, h1, h2⟩

theorem lookup_sound (h : RelW E w) {t kt et : TypeId} {l : Kt} {z x k v : AVal} {a b : Value} {ok : Bool} (ht : P.underlying t = some (.map kt et)) (hl : ktOf P kt = some l) (hz : zeroV P et = some z) (hx : RelV E x a) (hk : RelV E k b)
    (hr : aLookup E.H l z ok x k = some v) : ∃ u, (Instr.lookup t a b ok).run P w = .ok u w ∧ RelV E v u := by
  unfold aLookup at hr
  cases hko : keyOk l k with
  | false => rw [hko] at hr; cases hr
  | true =>
    rw [hko, cond_true] at hr
    have hik := fun em => chk_of (w := w) hl hko hk em
    obtain ⟨zv, hz1, hz2⟩ := zeroV_run (E := E) (w := w) hz
    have out : ∀ {v0 : AVal} {u0 : Value} {bb : Bool}, RelV E v0 u0 → RelV E (lookupOut ok v0 bb) (if ok then .tuple #[u0, .bool bb] else u0) := by
      intro v0 u0 bb hv
      cases ok
      · exact hv
      · simp only [lookupOut, cond_true, if_true, RelG]
        exact ⟨[u0, .bool bb], rfl, RelGL.cons hv (RelGL.cons (by simp only [RelG]) RelGL.nil)⟩
    split at hr
    · simp only [RelG] at hx; subst hx
      simp only [Option.some.injEq] at hr; subst hr
      refine ⟨_, ?_, out hz2⟩
      have hf : (Instr.findKey kt b []).run P w = .ok none w := by
        rcases fnd_of (E := E) (w := w) (es := []) (ents := []) hl hko hk RelGL.nil RelGL.nil rfl with ⟨_, g⟩ | ⟨_, _, _, _, e, _⟩
        · exact g
        · cases e
      simp only [Instr.lookup, Sem.run_bind, run_underlying ht, Result.andThen, Sem.run_pure, hik, hf, hz1]
    · rename_i i
      obtain ⟨rfl, hS, _⟩ := rel_mapVal rfl hx
      split at hr
      · rename_i ver es hi
        obtain ⟨ents, clock, hb, hst, r1, r2⟩ := mapObj_of h hi hS
        split at hr
        · rename_i j u hf
          simp only [Option.some.injEq] at hr; subst hr
          rcases fnd_of (w := w) hl hko hk r1 r2 hf with ⟨e, _⟩ | ⟨j', v', b', e', e, g1, g2, g3, _, hkey⟩
          · cases e
          · cases e
            refine ⟨_, ?_, out g2⟩
            simp only [Instr.lookup, Sem.run_bind, run_underlying ht, Result.andThen, Sem.run_pure, MapKept.run_getObj_map hb, hik, g1]
        · rename_i hf
          simp only [Option.some.injEq] at hr; subst hr
          rcases fnd_of (w := w) hl hko hk r1 r2 hf with ⟨_, g1⟩ | ⟨j', v', b', e', e, _⟩
          · refine ⟨_, ?_, out hz2⟩
            simp only [Instr.lookup, Sem.run_bind, run_underlying ht, Result.andThen, Sem.run_pure, MapKept.run_getObj_map hb, hik, g1, hz1]
          · cases e
        · cases hr
      · cases hr
    · cases hr

theorem eraseIdx_map {α β : Type} (f : α → β) : ∀ (l : List α) (j : Nat), (l.eraseIdx j).map f = (l.map f).eraseIdx j
  | [], _ => rfl
  | _ :: _, 0 => rfl
  | x :: l, j + 1 => by simp only [List.eraseIdx_cons_succ, List.map_cons, eraseIdx_map f l j]
theorem RelL.eraseIdx {xs : List AVal} {l : List Value} (h : RelL E xs l) (j : Nat) : RelL E (xs.eraseIdx j) (l.eraseIdx j) := by
  induction xs generalizing l j with
  | nil => simp only [RelGL] at h; subst h; exact RelGL.nil
  | cons x xs ih =>
    simp only [RelGL] at h; obtain ⟨y, ys, rfl, h2, h3⟩ := h
    cases j with
    | zero => simpa using h3
    | succ j => simp only [List.eraseIdx_cons_succ]; exact RelGL.cons h2 (ih h3 j)

/-- A map is written. -/
theorem map_put (h : RelW E w) {i v : Nat} {es es' : List (AVal × AVal)} (hi : E.H[i]? = some (.map v es)) (hS : E.S i) {ents ents' : Array MapEntry} {clock clock' : Nat} (hb : w.heap[E.m i]? = some (.map ents clock))
    (hst : StampsOk ents' clock') (h1 : RelL E (es'.map (·.1)) (ents'.toList.map (·.key))) (h2 : RelL E (es'.map (·.2)) (ents'.toList.map (·.val))) :
    ∃ E', E'.H = E.H.set i (.map (v + 1) es') ∧ RelW E' { w with heap := w.heap.setIfInBounds (E.m i) (.map ents' clock') } ∧ Ext E w E' { w with heap := w.heap.setIfInBounds (E.m i) (.map ents' clock') } := by
  have hlt := (Array.getElem?_eq_some_iff.1 hb).1
  have := rel_put (w' := { w with heap := w.heap.setIfInBounds (E.m i) (.map ents' clock') }) (o := .map (v + 1) es') h hS hi ⟨rfl, rfl, Nat.le_succ _, fun e => absurd e (by simp [AObj.ver]), fun _ => ⟨rfl, Nat.lt_succ_self _⟩⟩ (by simp) (fun k hk => by simp [Ne.symm hk]) rfl rfl rfl (fun x => ?_)
  · exact ⟨_, rfl, this.1, this.2⟩
  · exact ⟨ents', clock', by simp [Env.put, hlt], hst, RelL.ext x h1, RelL.ext x h2⟩

theorem born_modify (ents : Array MapEntry) (j : Nat) (key val : Value) : (ents.modify j fun e => { e with key := key, val := val }).toList.map (·.born) = ents.toList.map (·.born) := by
  apply List.ext_getElem?
  intro k
  simp only [List.getElem?_map, Array.getElem?_toList, Array.getElem?_modify]
  by_cases hij : j = k
  · subst hij
    cases he : ents[j]? with
    | none => simp
    | some e => simp
  · simp [hij]
theorem key_modify (ents : Array MapEntry) (j : Nat) (key val : Value) : (ents.modify j fun e => { e with key := key, val := val }).toList.map (·.key) = (ents.toList.map (·.key)).set j key := by
  apply List.ext_getElem?
  intro k
  simp only [List.getElem?_map, Array.getElem?_toList, Array.getElem?_modify, List.getElem?_set]
  by_cases hij : j = k
  · subst hij
    cases he : ents[j]? with
    | none => simp; exact Array.getElem?_eq_none_iff.1 he
    | some e => simp; exact (Array.getElem?_eq_some_iff.1 he).1
  · simp [hij]
theorem val_modify (ents : Array MapEntry) (j : Nat) (key val : Value) : (ents.modify j fun e => { e with key := key, val := val }).toList.map (·.val) = (ents.toList.map (·.val)).set j val := by
  apply List.ext_getElem?
  intro k
  simp only [List.getElem?_map, Array.getElem?_toList, Array.getElem?_modify, List.getElem?_set]
  by_cases hij : j = k
  · subst hij
    cases he : ents[j]? with
    | none => simp; exact Array.getElem?_eq_none_iff.1 he
    | some e => simp; exact (Array.getElem?_eq_some_iff.1 he).1
  · simp [hij]

theorem set_map {α β : Type} (f : α → β) (l : List α) (j : Nat) (x : α) : (l.set j x).map f = (l.map f).set j (f x) := List.map_set

theorem mapUpdate_sound (h : RelW E w) {t kt et : TypeId} {l : Kt} {x k y : AVal} {a b c : Value} {H' : AHeap} (ht : P.underlying t = some (.map kt et)) (hl : ktOf P kt = some l) (hx : RelV E x a) (hk : RelV E k b) (hy : RelV E y c)
    (hr : aMapUpdate E.H l x k y = some H') : ∃ w' E', (Instr.mapUpdate t a b c).run P w = .ok () w' ∧ E'.H = H' ∧ RelW E' w' ∧ Ext E w E' w' := by
  unfold aMapUpdate at hr
  cases hko : keyOk l k with
  | false => rw [hko] at hr; cases hr
  | true =>
    rw [hko, cond_true] at hr
    have hik := fun em => chk_of (w := w) hl hko hk em
    split at hr
    · rename_i i
      obtain ⟨rfl, hS, _⟩ := rel_mapVal rfl hx
      split at hr
      · rename_i ver es hi
        obtain ⟨ents, clock, hb, hst, r1, r2⟩ := mapObj_of h hi hS
        split at hr
        · rename_i j u hf
          simp only [Option.some.injEq] at hr; subst hr
          rcases fnd_of (w := w) hl hko hk r1 r2 hf with ⟨e, _⟩ | ⟨j', v', b', e', e, g1, g2, g3, _, hkey⟩
          · cases e
          · cases e
            have hj : ents[j]? = some e' := by simpa using g3
            obtain ⟨E', k1, k2, k3⟩ := map_put h hi hS (es' := es.set j (k, y)) (ents' := ents.modify j fun e => { e with key := b, val := c }) (clock' := clock) hb
              ⟨by rw [born_modify]; exact hst.1, fun z hz => by
                have : z.born ∈ ents.toList.map (·.born) := by rw [← born_modify ents j b c]; exact List.mem_map.2 ⟨z, hz, rfl⟩
                obtain ⟨z', hz', e⟩ := List.mem_map.1 this
                rw [← e]; exact hst.2 z' hz'⟩
              (by rw [key_modify, set_map]; exact RelGL.set r1 _ hk) (by rw [val_modify, set_map]; exact RelGL.set r2 _ hy)
            refine ⟨_, E', ?_, k1, k2, k3⟩
            simp only [Instr.mapUpdate, Sem.run_bind, run_underlying ht, Result.andThen, MapKept.run_getObj_map hb, hik, g1, hj, Option.map_some, Option.getD_some, hkey, stay_of (w := w) (P := P) hko hk, MapKept.run_setObj_map _ hb]
        · rename_i hf
          simp only [Option.some.injEq] at hr; subst hr
          rcases fnd_of (w := w) hl hko hk r1 r2 hf with ⟨_, g1⟩ | ⟨j', v', b', e', e, _⟩
          · obtain ⟨E', k1, k2, k3⟩ := map_put h hi hS (es' := es ++ [(k, y)]) (ents' := ents.push { key := b, val := c, born := clock }) (clock' := clock + 1) hb
              ⟨by
                simp only [Array.toList_push, List.map_append, List.map_cons, List.map_nil]
                refine List.pairwise_append.2 ⟨hst.1, by simp, ?_⟩
                intro p hp q hq
                simp only [List.mem_singleton] at hq; subst hq
                obtain ⟨z, hz, rfl⟩ := List.mem_map.1 hp
                exact hst.2 z hz, fun z hz => by
                simp only [Array.toList_push, List.mem_append, List.mem_singleton] at hz
                rcases hz with hz | rfl
                · exact Nat.lt_succ_of_lt (hst.2 z hz)
                · exact Nat.lt_succ_self _⟩
              (by simp only [Array.toList_push, List.map_append, List.map_cons, List.map_nil]; exact r1.append (RelGL.cons hk RelGL.nil)) (by simp only [Array.toList_push, List.map_append, List.map_cons, List.map_nil]; exact r2.append (RelGL.cons hy RelGL.nil))
            refine ⟨_, E', ?_, k1, k2, k3⟩
            simp only [Instr.mapUpdate, Sem.run_bind, run_underlying ht, Result.andThen, MapKept.run_getObj_map hb, hik, g1, MapKept.run_setObj_map _ hb]
          · cases e
        · cases hr
      · cases hr
    · cases hr

theorem erase_list (ents : Array MapEntry) (j : Nat) : (ents.eraseIdxIfInBounds j).toList = ents.toList.eraseIdx j := by
  unfold Array.eraseIdxIfInBounds
  split
  · simp only [Array.toList_eraseIdx]
  · rename_i hj; rw [List.eraseIdx_of_length_le (by simpa using hj)]

theorem delete_sound (h : RelW E w) {t kt et ty : TypeId} {l : Kt} {x k v : AVal} {a b : Value} {H' : AHeap} (ht : P.underlying t = some (.map kt et)) (hl : ktOf P kt = some l) (hx : RelV E x a) (hk : RelV E k b)
    (hr : aDelete E.H l x k = some (v, H')) (ts : Array TypeId) (hts : ts[0]? = some t) : Runs P E w (Builtin.delete_ ts ty #[a, b]) v H' := by
  unfold aDelete at hr
  cases hko : keyOk l k with
  | false => rw [hko] at hr; cases hr
  | true =>
    rw [hko, cond_true] at hr
    have hik := fun em => chk_of (w := w) hl hko hk em
    have htup : ∀ E' : Env, RelV E' (.tup []) (.tuple #[]) := fun E' => by simp only [RelG]; exact ⟨[], rfl, RelGL.nil⟩
    split at hr
    · simp only [RelG] at hx; subst hx
      simp only [Option.some.injEq, Prod.mk.injEq] at hr; obtain ⟨rfl, rfl⟩ := hr
      refine ⟨.tuple #[], w, E, ?_, htup E, h, rfl, Ext.refl E w⟩
      simp [Builtin.delete_, hts, run_underlying ht, hik, Result.andThen]
    · rename_i i
      obtain ⟨rfl, hS, _⟩ := rel_mapVal rfl hx
      split at hr
      · rename_i ver es hi
        obtain ⟨ents, clock, hb, hst, r1, r2⟩ := mapObj_of h hi hS
        split at hr
        · rename_i j u hf
          simp only [Option.some.injEq, Prod.mk.injEq] at hr; obtain ⟨rfl, rfl⟩ := hr
          rcases fnd_of (w := w) hl hko hk r1 r2 hf with ⟨e, _⟩ | ⟨j', v', b', e', e, g1, g2, g3, _, hkey⟩
          · cases e
          · cases e
            have hsub : (ents.eraseIdxIfInBounds j).toList.Sublist ents.toList := by rw [erase_list]; exact List.eraseIdx_sublist _ _
            obtain ⟨E', k1, k2, k3⟩ := map_put h hi hS (es' := es.eraseIdx j) (ents' := ents.eraseIdxIfInBounds j) (clock' := clock) hb
              ⟨List.Pairwise.sublist (hsub.map _) hst.1, fun z hz => hst.2 z (hsub.subset hz)⟩
              (by rw [erase_list, eraseIdx_map, eraseIdx_map]; exact RelL.eraseIdx r1 _) (by rw [erase_list, eraseIdx_map, eraseIdx_map]; exact RelL.eraseIdx r2 _)
            refine ⟨.tuple #[], _, E', ?_, htup E', k2, k1, k3⟩
            simp [Builtin.delete_, hts, run_underlying ht, MapKept.run_getObj_map hb, hik, g1, MapKept.run_setObj_map _ hb, Result.andThen]
        · rename_i hf
          simp only [Option.some.injEq, Prod.mk.injEq] at hr; obtain ⟨rfl, rfl⟩ := hr
          rcases fnd_of (w := w) hl hko hk r1 r2 hf with ⟨_, g1⟩ | ⟨j', v', b', e', e, _⟩
          · obtain ⟨E', k1, k2, k3⟩ := map_put h hi hS (es' := es) (ents' := ents) (clock' := clock) hb hst r1 r2
            refine ⟨.tuple #[], _, E', ?_, htup E', k2, k1, k3⟩
            simp [Builtin.delete_, hts, run_underlying ht, MapKept.run_getObj_map hb, hik, g1, MapKept.run_setObj_map _ hb, Result.andThen]
          · cases e
        · cases hr
      · cases hr
    · cases hr

theorem makeMap_sound (h : RelW E w) {v : AVal} {H' : AHeap} (hr : aMakeMap E.H = some (v, H')) (t : TypeId) : Runs P E w (Instr.makeMap t none) v H' := by
  simp only [aMakeMap, Option.some.injEq, Prod.mk.injEq] at hr
  obtain ⟨rfl, rfl⟩ := hr
  have hh : (w.alloc (.map #[] 0)).heap = w.heap.push (.map #[] 0) := rfl
  have x := ext_new (E := E) h (.map 0 []) 0 hh rfl rfl rfl
  have hm : (E.push (.map 0 []) w.heap.size 0).m E.H.length = w.heap.size := by simp [Env.push]
  refine ⟨.map (some w.heap.size), w.alloc (.map #[] 0), E.push (.map 0 []) w.heap.size 0, by simp [Instr.makeMap], ?_, rel_new h (.map 0 []) 0 hh rfl rfl rfl ?_, rfl, x⟩
  · simp only [RelG]
    refine ⟨_, rfl, .inr rfl, by simp [Env.push], ?_, hm.symm⟩
    simp [Env.push, isMapAt]
  · exact ⟨#[], 0, by rw [hm, hh]; simp, ⟨by simp, by simp⟩, RelGL.nil, RelGL.nil⟩

theorem mark_sound (h : RelW E w) {s d e e0 : TypeId} {x v : AVal} {a : Value} (hs : P.underlying s = some (.slice e0)) (hd : P.underlying d = some (.slice e)) (he : P.underlying e = some (.int .u8)) (hsd : s = d) (hx : RelV E x a) (hr : aMark E.H x = some v) :
    Runs P E w (convert s d a) v E.H := by
  unfold aMark at hr
  split at hr
  · rename_i r n c
    split at hr
    · rename_i ver kd cs hi
      split at hr
      · rename_i hc
        obtain ⟨hv, hkd, rfl⟩ := hc
        simp only [Option.some.injEq] at hr; subst hr
        have hx0 := hx
        simp only [RelG] at hx
        obtain ⟨p, c', rfl, h1, h2, h3, h4⟩ := hx
        obtain ⟨rfl, rfl⟩ := h4 (by rw [verOf_some hi]; exact hv.symm)
        obtain ⟨cc, el, fz, g1, g2, g3, g4, g5, g6⟩ := h.obj r.id _ h1 hi
        have hlt := (Array.getElem?_eq_some_iff.1 g1).1
        have hown : (AObj.cells ver kd cs).own = true := by cases kd <;> first | rfl | exact absurd rfl hkd
        have hfz := g6 hkd
        have hsh : w.shape? (E.m r.id) = some (el, cc.size) := by simp [World.shape?, g1]
        generalize hw2 : w.freeze ⟨E.m r.id, cc.size, none⟩ 1 = w2
        have hheap : ∃ fz', w2.heap = w.heap.setIfInBounds (E.m r.id) (.cells cc el fz') ∧ (fz'.1 = fz'.2 ∨ cc.size ≤ fz'.1) := by
          obtain ⟨lo, hi'⟩ := fz
          refine ⟨if lo == hi' then (cc.size, cc.size + 1) else (min lo cc.size, max hi' (cc.size + 1)), ?_, ?_⟩
          · rw [← hw2]
            unfold World.freeze
            rw [if_neg (by decide)]
            apply Array.ext_getElem?
            intro i
            simp only [Array.getElem?_modify, Array.getElem?_setIfInBounds]
            by_cases e : E.m r.id = i
            · subst e
              have hget := (Array.getElem?_eq_some_iff.1 g1).2
              simp [hlt, hget]
            · simp [e]
          · simp only at hfz
            by_cases e : lo = hi'
            · right; simp [e]
            · rcases hfz with hfz | hfz
              · exact absurd hfz e
              · right
                rw [if_neg (by simpa using e)]
                simp only; omega
        obtain ⟨fz', k1, k2⟩ := hheap
        have hrest : w2.tape = w.tape ∧ w2.os = w.os ∧ w2.output = w.output := by rw [← hw2]; exact ⟨rfl, rfl, rfl⟩
        have hset : E.H.set r.id (.cells ver kd cs) = E.H := by
          apply List.ext_getElem?
          intro i
          by_cases e : r.id = i
          · subst e; rw [List.getElem?_set_self h2, hi]
          · rw [List.getElem?_set_ne e]
        have hput : E.put r.id (.cells ver kd cs) = E := by unfold Env.put; rw [hset]
        have := rel_put (w' := w2) (o := .cells ver kd cs) h h1 hi ⟨hown, hown, Nat.le_refl _, fun _ h => h, fun e => by cases e⟩ (by rw [k1]; simp) (fun k hk => by rw [k1]; simp [Ne.symm hk]) hrest.1 hrest.2.1 hrest.2.2 (fun _ => ?_)
        · rw [hput] at this
          refine ⟨_, w2, E, ?_, hx0, this.1, rfl, this.2⟩
          have hb : (s == d) = true := by simpa using hsd
          simp only [convert, run_underlying hs, run_underlying hd, run_underlying he, Sem.run_bind, Result.andThen, hb, markStringish, hsh, run_shape, run_freeze, hw2, Sem.run_pure]
        · rw [hput]
          exact ⟨cc, el, fz', by rw [k1]; simp [hlt], g2, g3, g4, g5, fun _ => k2⟩
      · cases hr
    · cases hr
  · cases hr
end
end Go.Abs

/- Ranges over maps. -/
namespace Go.Abs
open Go Go.MapKept
section
variable {P : Program} {E : Env} {w : World}
theorem rangeMap_sound (h : RelW E w) {t kt et : TypeId} (ht : P.underlying t = some (.map kt et)) {x : AVal} {a : Value} (hx : RelV E x a) {v : AVal} {H' : AHeap} (hr : aRangeMap E.H x = some (v, H')) : Runs P E w (Instr.range t a) v H' := by
  unfold aRangeMap at hr
  split at hr
  · simp only [RelG] at hx
    subst hx
    simp only [Option.some.injEq, Prod.mk.injEq] at hr
    obtain ⟨rfl, rfl⟩ := hr
    have hh : (w.alloc (.mapIter none 0 #[] 0)).heap = w.heap.push (.mapIter none 0 #[] 0) := rfl
    have xx := ext_new (E := E) h (.mapIter none [] none) 0 hh rfl rfl rfl
    refine ⟨.pointer (some ⟨w.heap.size, 0, none⟩), w.alloc (.mapIter none 0 #[] 0), E.push (.mapIter none [] none) w.heap.size 0, by simp only [Instr.range, Sem.run_bind, run_under ht, Result.andThen, Sem.run_pure]; rfl, ?_, rel_new h (.mapIter none [] none) 0 hh rfl rfl rfl ?_, rfl, xx⟩
    · simp only [RelG]
      exact ⟨_, rfl, .inr rfl, by simp [Env.push], by simp [verOf, Env.push, AObj.ver], fun _ => by simp [Env.push]⟩
    · exact ⟨rfl, 0, #[], 0, by simp [Env.push, hh]⟩
  · rename_i i
    split at hr
    · rename_i v0 es hi
      simp only [Option.some.injEq, Prod.mk.injEq] at hr
      obtain ⟨rfl, rfl⟩ := hr
      simp only [RelG] at hx
      obtain ⟨b, rfl, hS, hlt, hmap, rfl⟩ := hx
      obtain ⟨ents, clock, hb, hst, h1, h2⟩ := mapObj_of h hi hS
      have hh : (w.alloc (.mapIter (some (E.m i)) clock #[] clock)).heap = w.heap.push (.mapIter (some (E.m i)) clock #[] clock) := rfl
      have xx := ext_new (E := E) h (.mapIter (some (i, v0)) es none) 0 hh rfl rfl rfl
      have hne : i ≠ E.H.length := by omega
      have hv0 : verOf E.H i = v0 := by simp [verOf, hi, AObj.ver]
      have hbs := (Array.getElem?_eq_some_iff.1 hb).1
      refine ⟨.pointer (some ⟨w.heap.size, 0, none⟩), w.alloc (.mapIter (some (E.m i)) clock #[] clock), E.push (.mapIter (some (i, v0)) es none) w.heap.size 0, by simp only [Instr.range, Sem.run_bind, run_under ht, Result.andThen, Sem.run_pure, getObj, Sem.run, hb]; rfl, ?_, rel_new h (.mapIter (some (i, v0)) es none) 0 hh rfl rfl rfl ?_, rfl, xx⟩
      · simp only [RelG]
        exact ⟨_, rfl, .inr rfl, by simp [Env.push], by simp [verOf, Env.push, AObj.ver], fun _ => by simp [Env.push]⟩
      · have hm1 : (E.push (.mapIter (some (i, v0)) es none) w.heap.size 0).m i = E.m i := by simp [Env.push, hne]
        refine ⟨.inl ⟨hS, hlt⟩, by simp [Env.push]; omega, ?_, ?_, clock, #[], ?_, fun _ => ⟨ents, ?_, hst, ?_, ?_, trivial⟩⟩
        · simp only [isMapAt, Env.push, List.getElem?_append_left hlt, hi]
        · simp only [Env.push]; rw [verOf_append hlt, hv0]; exact Nat.le_refl _
        · rw [hm1, hh]; simp [Env.push]
        · rw [hm1, hh, Array.getElem?_push_lt hbs, ← Array.getElem?_eq_getElem hbs]; exact hb
        · have e0 : (ents.toList.filter fun e => !(#[] : Array Nat).contains e.born) = ents.toList := by simp
          rw [e0]; exact RelL.ext xx h1
        · have e0 : (ents.toList.filter fun e => !(#[] : Array Nat).contains e.born) = ents.toList := by simp
          rw [e0]; exact RelL.ext xx h2
    · cases hr
  · cases hr

/-- An iterator's place. -/
theorem iter_at (h : RelW E w) {x : AVal} {a : Value} {r : Ref} (hx : RelV E x a) (hxr : x = .ptr r) (h0 : r.off = 0 ∧ r.ver = 0) {o : AObj} (hi : E.H[r.id]? = some o) (ho : o.ver = 0) :
    a = .pointer (some ⟨E.m r.id, 0, none⟩) ∧ E.S r.id ∧ r.id < E.H.length ∧ RelObj E w r.id o := by
  subst hxr
  simp only [RelG] at hx
  obtain ⟨p, rfl, hS, hlt, hle, he⟩ := hx
  have hv : r.ver = verOf E.H r.id := by simp [verOf, hi, ho, h0.2]
  rw [he hv, h0.1]
  exact ⟨rfl, hS, hlt, h.obj r.id o hS hi⟩
theorem stamp_one {ents : Array MapEntry} {clock : Nat} (hst : StampsOk ents clock) {e : MapEntry} (he : e ∈ ents.toList) : ents.find? (fun x => x.born == e.born) = some e := by
  rw [← Array.find?_toList]
  have key : ∀ (l : List MapEntry), (l.map (·.born)).Pairwise (· < ·) → e ∈ l → l.find? (fun x => x.born == e.born) = some e := by
    intro l
    induction l with
    | nil => intro _ h; cases h
    | cons x l ih =>
      intro hp h
      simp only [List.map_cons, List.pairwise_cons] at hp
      rcases List.mem_cons.1 h with rfl | h
      · simp
      · have := hp.1 e.born (List.mem_map.2 ⟨e, h, rfl⟩)
        rw [List.find?_cons_of_neg (by simp; omega)]
        exact ih hp.2 h
  exact key _ hst.1 he
theorem entry_sound (h : RelW E w) {x : AVal} {a : Value} (hx : RelV E x a) {v : AVal} (hr : aEntry E.H x = some v) : ∃ u, (Instr.entry a).run P w = .ok u w ∧ RelV E v u := by
  unfold aEntry at hr
  split at hr
  · rename_i r
    split at hr
    · rename_i j v0 left k y hi
      split at hr
      · rename_i hc
        cases hr
        obtain ⟨rfl, hS, hlt, ho⟩ := iter_at h hx rfl hc.2 hi rfl
        obtain ⟨h1, h2, h3, h4, since, seen, h5, h6⟩ := ho
        obtain ⟨ents, g1, g2, g3, g4, e, k1, k2, k3, k4⟩ := h6 hc.1
        refine ⟨.tuple #[e.key, e.val], ?_, ?_⟩
        · simp [Instr.entry, getObj, Sem.run, h5, g1, k2, Result.andThen, stamp_one g2 k1]
        · simp only [RelG]
          exact ⟨[e.key, e.val], rfl, RelGL.cons k3 (RelGL.cons k4 RelGL.nil)⟩
      · cases hr
    · cases hr
  · cases hr
theorem next_test {seen : Array Nat} {es : Array MapEntry} {since : Nat} (hold : ∀ x ∈ es.toList, x.born < since) : (!seen.isEmpty && !es.isEmpty && es.all (fun x => decide (x.born ≥ since))) = false := by
  cases he : es.isEmpty with
  | true => simp
  | false =>
    have hall : es.all (fun x => decide (x.born ≥ since)) = false := by
      rw [Bool.eq_false_iff]
      intro h
      rw [Array.all_eq_true_iff_forall_mem] at h
      have h0 : 0 < es.size := by
        rcases Nat.eq_zero_or_pos es.size with h0 | h0
        · simp [Array.isEmpty, h0] at he
        · exact h0
      have h1 := h _ (Array.getElem_mem h0)
      have h2 := hold es[0] (by simp)
      simp at h1
      omega
    simp [hall]
/-- 'next' at a map that nobody changes: an end, or any entry that is left. -/
theorem run_next {b bm since : Nat} {seen : Array Nat} {es : Array MapEntry} (ty : TypeId) (hi : w.heap[b]? = some (.mapIter (some bm) since seen since)) (hb : w.heap[bm]? = some (.map es since)) (hold : ∀ x ∈ es.toList, x.born < since) :
    ((es.toList.filter fun e => !seen.contains e.born) = [] ∧ (Instr.next (.pointer (some ⟨b, 0, none⟩)) false ty).run P w = .ok (.tuple #[.bool false]) w) ∨
    ∃ (m : Nat) (e : MapEntry) (w1 : World), (es.toList.filter fun e => !seen.contains e.born)[m]? = some e ∧ w1.heap = w.heap ∧ w1.tape = w.tape ∧ w1.os = w.os ∧ w1.output = w.output ∧
      (Instr.next (.pointer (some ⟨b, 0, none⟩)) false ty).run P w = .ok (.tuple #[.bool true, e.key, e.val]) { w1 with heap := w1.heap.setIfInBounds b (.mapIter (some bm) since (seen.push e.born) since) } := by
  simp only [Instr.next, getObj, Sem.run_bind, Sem.run, hi, hb, Result.andThen, next_test hold, Bool.false_eq_true, if_false]
  have hL : (es.toList.filter fun e => !seen.contains e.born) = (es.filter fun e => !seen.contains e.born).toList := by simp
  rw [hL]
  have hmem : ∀ x ∈ (Array.filter (fun e => !seen.contains e.born) es).toList, x.born < since := fun x hx => hold x (by simp at hx ⊢; exact hx.1)
  generalize Array.filter (fun e => !seen.contains e.born) es = L at hmem ⊢
  have e1 : L.filter (fun x => decide (x.born < since)) = L := Array.filter_eq_self.2 (fun x hx => by simpa using hmem x (by simpa using hx))
  have e2 : L.filter (fun x => decide (x.born ≥ since)) = #[] := by
    rw [Array.filter_eq_empty_iff]
    intro x hx
    have := hmem x (by simpa using hx)
    simp
    omega
  simp only [e1, e2, Array.append_empty]
  by_cases h0 : L.size = 0
  · left
    have : L = #[] := Array.eq_empty_of_size_eq_zero h0
    subst this
    refine ⟨rfl, ?_⟩
    simp [choose, Sem.run, Question.forced]
  · right
    have hne : L.isEmpty = false := by simp [Array.isEmpty, h0]
    simp only [hne, Bool.false_eq_true, if_false, Array.empty_append, Array.size_map]
    have hch : ∃ (j : Nat) (w1 : World), j < L.size ∧ w1.heap = w.heap ∧ w1.tape = w.tape ∧ w1.os = w.os ∧ w1.output = w.output ∧ (choose (Question.mapNext L.size)).run P w = .ok j w1 := by
      by_cases hf : L.size ≤ 1
      · exact ⟨0, w, by omega, rfl, rfl, rfl, rfl, by simp [choose, Sem.run, Question.forced, hf]⟩
      · refine ⟨w.tape w.drawn (Question.mapNext L.size) % L.size, { w with drawn := w.drawn + 1 }, Nat.mod_lt _ (by omega), rfl, rfl, rfl, rfl, ?_⟩
        simp only [choose, Sem.run, Question.forced, decide_eq_true_eq, hf, if_false, Question.cut]
    obtain ⟨j, w1, hj, a1, a2, a3, a4, hrun⟩ := hch
    refine ⟨j, L[j], w1, by simp [hj], a1, a2, a3, a4, ?_⟩
    simp only [hrun, Array.getElem?_map, Array.getElem?_eq_getElem hj, Option.map_some, Sem.run_bind, setObj, Sem.run, a1, hi, Result.andThen]
    rfl
theorem filter_drop {l : List MapEntry} (hp : (l.map (·.born)).Pairwise (· < ·)) {p q : MapEntry → Bool} : ∀ {m : Nat} {e : MapEntry}, (∀ y, q y = (p y && !(e.born == y.born))) → (l.filter p)[m]? = some e →
    l.filter q = (l.filter p).eraseIdx m := by
  induction l with
  | nil => intro m e _ h; simp at h
  | cons x l ih =>
    intro m e hq h
    simp only [List.map_cons, List.pairwise_cons] at hp
    cases hx : p x with
    | false =>
      have hqx : q x = false := by rw [hq, hx]; rfl
      have n1 : ¬ p x = true := by rw [hx]; exact Bool.false_ne_true
      have n2 : ¬ q x = true := by rw [hqx]; exact Bool.false_ne_true
      rw [List.filter_cons_of_neg n1] at h ⊢
      rw [List.filter_cons_of_neg n2]
      exact ih hp.2 hq h
    | true =>
      rw [List.filter_cons_of_pos hx] at h ⊢
      cases m with
      | zero =>
        simp only [List.getElem?_cons_zero, Option.some.injEq] at h
        subst h
        have hqx : q x = false := by rw [hq, hx]; simp
        have n2 : ¬ q x = true := by rw [hqx]; exact Bool.false_ne_true
        rw [List.filter_cons_of_neg n2, List.eraseIdx_cons_zero]
        apply List.filter_congr
        intro y hy
        have := hp.1 y.born (List.mem_map.2 ⟨y, hy, rfl⟩)
        have h0 : (x.born == y.born) = false := by rw [beq_eq_false_iff_ne]; omega
        rw [hq, h0]; simp
      | succ m =>
        simp only [List.getElem?_cons_succ] at h
        have he : e ∈ l := (List.mem_filter.1 (List.mem_of_getElem? h)).1
        have := hp.1 e.born (List.mem_map.2 ⟨e, he, rfl⟩)
        have h0 : (e.born == x.born) = false := by rw [beq_eq_false_iff_ne]; omega
        have hqx : q x = true := by rw [hq, hx, h0]; rfl
        rw [List.filter_cons_of_pos hqx, List.eraseIdx_cons_succ, ih hp.2 hq h]
theorem filter_push {l : List MapEntry} (hp : (l.map (·.born)).Pairwise (· < ·)) {seen : Array Nat} {m : Nat} {e : MapEntry} (h : (l.filter fun e => !seen.contains e.born)[m]? = some e) :
    (l.filter fun x => !(seen.push e.born).contains x.born) = (l.filter fun e => !seen.contains e.born).eraseIdx m := by
  refine filter_drop hp (fun y => ?_) h
  rw [Bool.eq_iff_iff]
  simp
  exact fun _ => ⟨fun h h1 => h h1.symm, fun h h1 => h h1.symm⟩
theorem next_sound (h : RelW E w) {x : AVal} {a : Value} (hx : RelV E x a) (ty : TypeId) {K : AVal → Bool → AHeap → Prop} (hk : nxP x E.H K) :
    ∃ v b u w' E', (Instr.next a false ty).run P w = .ok u w' ∧ RelV E' v u ∧ RelW E' w' ∧ Ext E w E' w' ∧ K v b E'.H ∧ ∃ rest, v = .tup (.bool b :: rest) := by
  unfold nxP at hk
  split at hk
  · rename_i r
    split at hk
    · rename_i left cur hi
      obtain ⟨hc, hk⟩ := hk
      obtain ⟨rfl, hS, hlt, h0, since, seen, st, ho⟩ := iter_at h hx rfl hc hi rfl
      refine ⟨_, false, .tuple #[.bool false], w, E, ?_, ?_, h, Ext.refl _ _, hk, [], rfl⟩
      · simp [Instr.next, getObj, Sem.run, ho, Result.andThen]
      · simp only [RelG]; exact ⟨[.bool false], rfl, RelGL.cons rel_bool RelGL.nil⟩
    · rename_i j v0 left cur hi
      obtain ⟨hc, hend, hgo⟩ := hk
      obtain ⟨rfl, hS, hlt, ho⟩ := iter_at h hx rfl hc.2 hi rfl
      obtain ⟨h1, h2, h3, h4, since, seen, h5, h6⟩ := ho
      obtain ⟨ents, g1, g2, g3, g4, g5⟩ := h6 hc.1
      have hlen := g3.length
      rw [List.length_map, List.length_map] at hlen
      rcases run_next (P := P) ty h5 g1 (fun x hx => g2.2 x hx) with ⟨n1, n2⟩ | ⟨m, e, w1, n1, n2, n3, n4, n5, n6⟩
      · rw [n1] at hlen
        have hl : left = [] := List.eq_nil_of_length_eq_zero (by simpa using hlen)
        refine ⟨_, false, .tuple #[.bool false], w, E, n2, ?_, h, Ext.refl _ _, hend hl, [], rfl⟩
        simp only [RelG]; exact ⟨[.bool false], rfl, RelGL.cons rel_bool RelGL.nil⟩
      · have hm : m < left.length := by rw [hlen]; exact (List.getElem?_eq_some_iff.1 n1).1
        have hl := List.getElem?_eq_getElem hm
        generalize left[m] = c at hl
        obtain ⟨k1, q1, r1⟩ := g3.get (i := m) (x := c.1) (by rw [List.getElem?_map, hl]; rfl)
        obtain ⟨k2, q2, r2⟩ := g4.get (i := m) (x := c.2) (by rw [List.getElem?_map, hl]; rfl)
        rw [List.getElem?_map, n1] at q1 q2
        cases q1
        cases q2
        have hbs : E.m r.id < w.heap.size := (Array.getElem?_eq_some_iff.1 h5).1
        have hne : E.m j ≠ E.m r.id := by
          intro he
          rw [he, h5] at g1
          cases g1
        have hem : e ∈ ents.toList := (List.mem_filter.1 (List.mem_of_getElem? n1)).1
        obtain ⟨p1, p2⟩ := rel_put (w' := { w1 with heap := w1.heap.setIfInBounds (E.m r.id) (.mapIter (some (E.m j)) since (seen.push e.born) since) }) (o := .mapIter (some (j, v0)) (left.eraseIdx m) (some c)) h hS hi
          ⟨rfl, rfl, Nat.le_refl _, (fun _ x => by cases x), (fun x => by cases x)⟩ (by simp [n2]) (fun k hk => by simp [n2, Ne.symm hk]) n3 n4 n5 (fun x => by
            have hjr : j ≠ r.id := by
              intro e1
              rw [e1] at hne; exact hne rfl
            have hmj : (E.put r.id (.mapIter (some (j, v0)) (left.eraseIdx m) (some c))).m j = E.m j := rfl
            refine ⟨x.S _ h2 h1, Nat.lt_of_lt_of_le h2 x.len, ?_, ?_, since, seen.push e.born, ?_, fun _ => ⟨ents, ?_, g2, ?_, ?_, e, hem, by simp, RelV.ext x r1, RelV.ext x r2⟩⟩
            · exact (x.mp j h2 h1 h3).1
            · exact Nat.le_trans h4 (x.ver j h2 h1)
            · show ({ w1 with heap := w1.heap.setIfInBounds (E.m r.id) (.mapIter (some (E.m j)) since (seen.push e.born) since) } : World).heap[E.m r.id]? = _
              simp [n2, hbs]
              rfl
            · rw [hmj]
              show (w1.heap.setIfInBounds (E.m r.id) _)[E.m j]? = _
              rw [Array.getElem?_setIfInBounds_ne (Ne.symm hne), n2]; exact g1
            · rw [filter_push g2.1 n1, eraseIdx_map, eraseIdx_map]
              exact RelL.ext x (RelL.eraseIdx g3 m)
            · rw [filter_push g2.1 n1, eraseIdx_map, eraseIdx_map]
              exact RelL.ext x (RelL.eraseIdx g4 m))
        refine ⟨_, true, _, _, _, n6, ?_, p1, p2, hgo m c hl, _, rfl⟩
        simp only [RelG]
        exact ⟨[.bool true, e.key, e.val], rfl, RelGL.cons rel_bool (RelGL.cons (RelV.ext p2 r1) (RelGL.cons (RelV.ext p2 r2) RelGL.nil))⟩
    · exact hk.elim
  · exact hk.elim
end
end Go.Abs
