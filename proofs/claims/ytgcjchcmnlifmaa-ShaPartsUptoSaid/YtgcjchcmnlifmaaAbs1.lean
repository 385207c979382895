/- Abstract values and heaps, and how they stand for the model's values and worlds. -/
import GoSem.Step
import Derived.Calls
import Derived.Orders
import Derived.Laws.World
import Derived.Laws.Sem
import Derived.Below
namespace Go.Abs
open Go

/-- A place: which block, which state of it, which cell. -/
structure Ref where
  id : Nat
  ver : Nat
  off : Nat
  deriving DecidableEq

/-- A slice's capacity: known, or open (elements of so many cells each). -/
inductive Cap where
  | ex (c : Nat)
  | op (es : Nat)
  deriving DecidableEq

inductive AVal where
  | undef
  | bool (b : Bool)
  | int (k : IntKind) (n : Int)
  | float (k : FloatKind) (bits : Nat)
  | cplx (k : FloatKind) (re im : Nat)
  | str (s : List UInt8)
  | nilp
  | ptr (r : Ref)
  | nils
  | slice (r : Ref) (len : Nat) (cap : Cap)
  | nilm
  | map (id : Nat)
  | func (fn : Fn) (first captured : List AVal)
  | nilf
  | iface (t : TypeId) (v : AVal)
  | nili
  | agg (cs : List AVal)
  | tup (vs : List AVal)
  deriving Inhabited

/-- ro: came in, may be looked at alone; exact: as many cells as told; opn: there may be more behind. -/
inductive Kd where
  | ro | exact | opn
  deriving DecidableEq

inductive AObj where
  | cells (ver : Nat) (kd : Kd) (cs : List AVal)
  | map (ver : Nat) (es : List (AVal × AVal))
  | strIter (s : List UInt8) (pos : Nat)
  | mapIter (mp : Option (Nat × Nat)) (left : List (AVal × AVal))

abbrev AHeap := List AObj

def AObj.ver : AObj → Nat
  | .cells v _ _ => v
  | .map v _ => v
  | _ => 0
def AObj.own : AObj → Bool
  | .cells _ .ro _ => false

  | _ => true
def AObj.opn : AObj → Bool
  | .cells _ .opn _ => true
  | _ => false

def verOf (H : AHeap) (i : Nat) : Nat := ((H[i]?).map AObj.ver).getD 0
def ownAt (H : AHeap) (i : Nat) : Bool := ((H[i]?).map AObj.own).getD false
def opnAt (H : AHeap) (i : Nat) : Bool := ((H[i]?).map AObj.opn).getD false

/-- The model's side: which block stands for which, how many cells it truly has, which ones count. -/
structure Env where
  m : Nat → Nat
  sz : Nat → Nat
  S : Nat → Prop
  H : AHeap

def RelRef (E : Env) (r : Ref) (a : Addr) : Prop :=
  E.S r.id ∧ r.id < E.H.length ∧ r.ver ≤ verOf E.H r.id ∧ (r.ver = verOf E.H r.id → a = ⟨E.m r.id, r.off, none⟩)

def RelSl (E : Env) (r : Ref) (len : Nat) (cap : Cap) (a : Addr) (c : Nat) : Prop :=
  E.S r.id ∧ r.id < E.H.length ∧ r.ver ≤ verOf E.H r.id ∧
  (r.ver = verOf E.H r.id →
    match cap with
    | .ex k => a = ⟨E.m r.id, r.off, none⟩ ∧ c = k
    | .op es => a.block = E.m r.id ∧ a.spot = none ∧ len ≤ c ∧
      ((a.off = r.off ∧ (opnAt E.H r.id = true → r.off + c * es = E.sz r.id)) ∨ (len = 0 ∧ c = 0 ∧ (opnAt E.H r.id = true → E.sz r.id = r.off))))

def isMapAt (H : AHeap) (i : Nat) : Bool := match H[i]? with | some (.map _ _) => true | _ => false
def RelMp (E : Env) (i b : Nat) : Prop := E.S i ∧ i < E.H.length ∧ isMapAt E.H i = true ∧ b = E.m i

mutual
def RelG (RP : Ref → Addr → Prop) (RS : Ref → Nat → Cap → Addr → Nat → Prop) (RM : Nat → Nat → Prop) : AVal → Value → Prop
  | .undef, _ => True
  | .bool b, v => v = .bool b
  | .int k n, v => v = .int k n
  | .float k n, v => v = .float k n
  | .cplx k a b, v => v = .complex k a b
  | .str s, v => v = .string ⟨s.toArray⟩
  | .nilp, v => v = .pointer none
  | .ptr r, v => ∃ a, v = .pointer (some a) ∧ RP r a
  | .nils, v => v = .slice none 0 0
  | .slice r len cap, v => ∃ a c, v = .slice (some a) len c ∧ RS r len cap a c
  | .nilm, v => v = .map none
  | .map i, v => ∃ b, v = .map (some b) ∧ RM i b
  | .func fn f c, v => ∃ f' c' : List Value, v = .func fn f'.toArray c'.toArray ∧ RelGL RP RS RM f f' ∧ RelGL RP RS RM c c'
  | .nilf, v => v = .nilFunc
  | .iface t x, v => ∃ y, v = .iface t y ∧ RelG RP RS RM x y
  | .nili, v => v = .nilIface
  | .agg cs, v => ∃ l : List Value, v = .agg l.toArray ∧ RelGL RP RS RM cs l
  | .tup cs, v => ∃ l : List Value, v = .tuple l.toArray ∧ RelGL RP RS RM cs l
def RelGL (RP : Ref → Addr → Prop) (RS : Ref → Nat → Cap → Addr → Nat → Prop) (RM : Nat → Nat → Prop) : List AVal → List Value → Prop
  | [], l => l = []
  | x :: xs, l => ∃ y ys, l = y :: ys ∧ RelG RP RS RM x y ∧ RelGL RP RS RM xs ys
end

abbrev RelV (E : Env) : AVal → Value → Prop := RelG (RelRef E) (RelSl E) (RelMp E)
abbrev RelL (E : Env) : List AVal → List Value → Prop := RelGL (RelRef E) (RelSl E) (RelMp E)

section mono
variable {RP RP' : Ref → Addr → Prop} {RS RS' : Ref → Nat → Cap → Addr → Nat → Prop} {RM RM' : Nat → Nat → Prop}
mutual
theorem RelG.mono (hp : ∀ r a, RP r a → RP' r a) (hs : ∀ r n c a k, RS r n c a k → RS' r n c a k) (hm : ∀ i b, RM i b → RM' i b) :
    ∀ (x : AVal) (v : Value), RelG RP RS RM x v → RelG RP' RS' RM' x v
  | .undef, _, _ => by simp only [RelG]
  | .bool _, _, h => by simpa only [RelG] using h
  | .int _ _, _, h => by simpa only [RelG] using h
  | .float _ _, _, h => by simpa only [RelG] using h
  | .cplx _ _ _, _, h => by simpa only [RelG] using h
  | .str _, _, h => by simpa only [RelG] using h
  | .nilp, _, h => by simpa only [RelG] using h
  | .ptr r, _, h => by simp only [RelG] at h ⊢; obtain ⟨a, h1, h2⟩ := h; exact ⟨a, h1, hp _ _ h2⟩
  | .nils, _, h => by simpa only [RelG] using h
  | .slice r n c, _, h => by simp only [RelG] at h ⊢; obtain ⟨a, k, h1, h2⟩ := h; exact ⟨a, k, h1, hs _ _ _ _ _ h2⟩
  | .nilm, _, h => by simpa only [RelG] using h
  | .map i, _, h => by simp only [RelG] at h ⊢; obtain ⟨a, h1, h2⟩ := h; exact ⟨a, h1, hm _ _ h2⟩
  | .func _ f c, _, h => by
    simp only [RelG] at h ⊢; obtain ⟨f', c', h1, h2, h3⟩ := h
    exact ⟨f', c', h1, RelGL.mono hp hs hm f f' h2, RelGL.mono hp hs hm c c' h3⟩
  | .nilf, _, h => by simpa only [RelG] using h
  | .iface _ x, _, h => by simp only [RelG] at h ⊢; obtain ⟨y, h1, h2⟩ := h; exact ⟨y, h1, RelG.mono hp hs hm x y h2⟩
  | .nili, _, h => by simpa only [RelG] using h
  | .agg cs, _, h => by simp only [RelG] at h ⊢; obtain ⟨l, h1, h2⟩ := h; exact ⟨l, h1, RelGL.mono hp hs hm cs l h2⟩
  | .tup cs, _, h => by simp only [RelG] at h ⊢; obtain ⟨l, h1, h2⟩ := h; exact ⟨l, h1, RelGL.mono hp hs hm cs l h2⟩
theorem RelGL.mono (hp : ∀ r a, RP r a → RP' r a) (hs : ∀ r n c a k, RS r n c a k → RS' r n c a k) (hm : ∀ i b, RM i b → RM' i b) :
    ∀ (xs : List AVal) (l : List Value), RelGL RP RS RM xs l → RelGL RP' RS' RM' xs l
  | [], _, h => by simpa only [RelGL] using h
  | x :: xs, _, h => by
    simp only [RelGL] at h ⊢; obtain ⟨y, ys, h1, h2, h3⟩ := h
    exact ⟨y, ys, h1, RelG.mono hp hs hm x y h2, RelGL.mono hp hs hm xs ys h3⟩
end
end mono

section lists
variable {RP : Ref → Addr → Prop} {RS : Ref → Nat → Cap → Addr → Nat → Prop} {RM : Nat → Nat → Prop}
theorem RelGL.length : ∀ {xs : List AVal} {l : List Value}, RelGL RP RS RM xs l → xs.length = l.length
  | [], _, h => by simp only [RelGL] at h; subst h; rfl
  | x :: xs, _, h => by
    simp only [RelGL] at h; obtain ⟨y, ys, rfl, _, h3⟩ := h
    simp [RelGL.length h3]
theorem RelGL.nil : RelGL RP RS RM [] [] := by simp only [RelGL]
theorem RelGL.cons {x : AVal} {xs : List AVal} {y : Value} {ys : List Value} (h : RelG RP RS RM x y) (h' : RelGL RP RS RM xs ys) :
    RelGL RP RS RM (x :: xs) (y :: ys) := by
  simp only [RelGL]; exact ⟨y, ys, rfl, h, h'⟩
theorem RelGL.cons_iff {x : AVal} {xs : List AVal} {y : Value} {ys : List Value} :
    RelGL RP RS RM (x :: xs) (y :: ys) ↔ RelG RP RS RM x y ∧ RelGL RP RS RM xs ys := by
  simp only [RelGL]; constructor
  · rintro ⟨_, _, h, h1, h2⟩; cases h; exact ⟨h1, h2⟩
  · rintro ⟨h1, h2⟩; exact ⟨_, _, rfl, h1, h2⟩
theorem RelGL.append {xs ys : List AVal} {l k : List Value} (h : RelGL RP RS RM xs l) (h' : RelGL RP RS RM ys k) :
    RelGL RP RS RM (xs ++ ys) (l ++ k) := by
  induction xs generalizing l with
  | nil => simp only [RelGL] at h; subst h; simpa using h'
  | cons x xs ih => simp only [RelGL] at h; obtain ⟨y, ys', rfl, h2, h3⟩ := h; exact RelGL.cons h2 (ih h3)
theorem RelGL.get {xs : List AVal} {l : List Value} (h : RelGL RP RS RM xs l) {i : Nat} {x : AVal} (hx : xs[i]? = some x) :
    ∃ y, l[i]? = some y ∧ RelG RP RS RM x y := by
  induction xs generalizing l i with
  | nil => simp at hx
  | cons z xs ih =>
    simp only [RelGL] at h; obtain ⟨y, ys, rfl, h2, h3⟩ := h
    cases i with
    | zero => simp at hx; subst hx; exact ⟨y, by simp, h2⟩
    | succ i => simp at hx; obtain ⟨y', hy, hr⟩ := ih h3 hx; exact ⟨y', by simpa using hy, hr⟩
theorem RelGL.getD {xs : List AVal} {l : List Value} (h : RelGL RP RS RM xs l) (i : Nat) (d : Value) :
    RelG RP RS RM (xs.getD i .undef) (l.getD i d) := by
  cases hx : xs[i]? with
  | none => simp only [List.getD, hx, Option.getD, RelG]
  | some x =>
    obtain ⟨y, hy, hr⟩ := h.get hx
    simpa only [List.getD, hx, hy, Option.getD] using hr
theorem RelGL.take {xs : List AVal} {l : List Value} (h : RelGL RP RS RM xs l) (n : Nat) : RelGL RP RS RM (xs.take n) (l.take n) := by
  induction xs generalizing l n with
  | nil => simp only [RelGL] at h; subst h; simp [RelGL]
  | cons z xs ih =>
    simp only [RelGL] at h; obtain ⟨y, ys, rfl, h2, h3⟩ := h
    cases n with
    | zero => simp [RelGL]
    | succ n => simpa using RelGL.cons h2 (ih h3 n)
theorem RelGL.drop {xs : List AVal} {l : List Value} (h : RelGL RP RS RM xs l) (n : Nat) : RelGL RP RS RM (xs.drop n) (l.drop n) := by
  induction xs generalizing l n with
  | nil => simp only [RelGL] at h; subst h; simp [RelGL]
  | cons z xs ih =>
    simp only [RelGL] at h; obtain ⟨y, ys, rfl, h2, h3⟩ := h
    cases n with
    | zero => simpa using RelGL.cons h2 h3
    | succ n => simpa using ih h3 n
theorem RelGL.set {xs : List AVal} {l : List Value} (h : RelGL RP RS RM xs l) (i : Nat) {x : AVal} {y : Value} (hx : RelG RP RS RM x y) :
    RelGL RP RS RM (xs.set i x) (l.set i y) := by
  induction xs generalizing l i with
  | nil => simp only [RelGL] at h; subst h; simp [RelGL]
  | cons z xs ih =>
    simp only [RelGL] at h; obtain ⟨y', ys, rfl, h2, h3⟩ := h
    cases i with
    | zero => simpa using RelGL.cons hx h3
    | succ i => simpa using RelGL.cons h2 (ih h3 i)
theorem RelGL.replicate_undef (n : Nat) (l : List Value) (h : l.length = n) : RelGL RP RS RM (List.replicate n .undef) l := by
  induction n generalizing l with
  | zero => simp at h; subst h; simp [RelGL]
  | succ n ih =>
    cases l with
    | nil => simp at h
    | cons y ys => simp only [List.replicate_succ]; exact RelGL.cons (by simp only [RelG]) (ih ys (by simpa using h))
end lists

/-- The cells of a value. -/
def AVal.cells : AVal → List AVal
  | .agg cs => cs
  | v => [v]

end Go.Abs
