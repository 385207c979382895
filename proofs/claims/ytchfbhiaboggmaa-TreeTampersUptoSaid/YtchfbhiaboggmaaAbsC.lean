/- A text of this proof. -/
import Derived.Test.YtchfbhiaboggmaaAbsB

/- The evaluator of the translation's code over abstract values. -/
namespace Go.Abs
open Go

inductive AExit where
  | normal
  | exit (id : Nat)
  | goto (l : Nat)
  | ret
  deriving DecidableEq

def putA (fr : List AVal) (dst : Option Tmp) (v : AVal) : List AVal :=
  match dst with
  | some d => fr.set d v
  | none => fr

/-- What an operation gives: at once; a value, or nothing; a value and a heap; a heap. -/
inductive Res where
  | now (v : AVal)
  | val (r : Option AVal)
  | eff (r : Option (AVal × AHeap))
  | sto (r : Option AHeap)

def isB (x : AVal) (K : Bool → Prop) : Prop :=
  match x with
  | .bool b => K b
  | _ => False

theorem isB_some {x : AVal} {K : Bool → Prop} (h : isB x K) : ∃ b, x = .bool b ∧ K b := by
  unfold isB at h
  split at h
  · rename_i b; exact ⟨b, rfl, h⟩
  · exact h.elim

def Res.toOpt (H : AHeap) : Res → Option (AVal × AHeap)
  | .now v => some (v, H)
  | .val r => keep H r
  | .eff r => r
  | .sto r => skip r

def rBuiltin (P : Program) (b : Builtin) (ts : Array TypeId) (args : List AVal) (H : AHeap) : Res :=
  match b, args with
  | .len, [x] =>
    match (ts[0]?).bind P.underlying with
    | some .string => .val (lenSt x)
    | some (.slice _) => .val (lenSl x)
    | some (.map _ _) => .val (lenMp H x)
    | _ => .eff none
  | .append, [s, x] =>
    match (ts[0]?).bind P.underlying with
    | some (.slice e) =>
      (match P.info? e with
       | some i =>
         (match i.zero with
          | some z =>
            bif z.cells.size == i.size then
              (match (ts[1]?).bind P.underlying with
               | some (.slice _) => .eff (aAppendS H i.size i.bytes s x)
               | some .string => bif i.size == 1 then .eff (aAppend H i.size i.bytes s x) else .eff none
               | _ => .eff none)
            else .eff none
          | none => .eff none)
       | none => .eff none)
    | _ => .eff none
  | .copy, [d, x] =>
    match (ts[0]?).bind P.underlying with
    | some (.slice e) =>
      (match P.info? e with
       | some i =>
         (match (ts[1]?).bind P.underlying with
          | some (.slice _) => .eff (aCopyS H i.size d x)
          | some .string => bif i.size == 1 then .eff (aCopy H i.size d x) else .eff none
          | _ => .eff none)
       | none => .eff none)
    | _ => .eff none
  | .delete, [m, k] =>
    match (ts[0]?).bind P.underlying with
    | some (.map kt _) => (match ktOf P kt with | some l => .eff (aDelete H l m k) | none => .eff none)
    | _ => .eff none
  | .clear, [x] =>
    match (ts[0]?).bind P.underlying with
    | some (.slice e) => (match zeroA P e with | some z => .eff (aClear H z x) | none => .eff none)
    | _ => .eff none
  | .min, x :: l => .val (aFold aMin2 x l)
  | .max, x :: l => .val (aFold aMax2 x l)
  | _, _ => .eff none

def aopR (P : Program) (op : Op) (ρ : Operand → AVal) (H : AHeap) : Res :=
  match op with
  | .move x => .now (ρ x)
  | .assign x => .now (ρ x)
  | .pick c a b => .val (aPick (ρ c) (ρ a) (ρ b))
  | .alloc t => match zeroA P t with | some z => .eff (aAlloc H z) | none => .eff none
  | .box _ x => .eff (aBox H (ρ x))
  | .build t ps =>
    match P.underlying t, zeroA P t with
    | some (.array _ e), some z =>
      (match P.info? e with
       | some i => .val (aBuild z (fun k => some (k * i.size, i.size)) (ps.toList.map fun p => (p.1, ρ p.2)))
       | none => .eff none)
    | some (.struct fs), some z =>
      (match fs.toList.mapM (fun f => (P.info? f.type).map fun i => (f.offset, i.size)) with
       | some pl => .val (aBuild z (fun k => pl[k]?) (ps.toList.map fun p => (p.1, ρ p.2)))
       | none => .eff none)
    | _, _ => .eff none
  | .buildSlice t n ps =>
    match P.underlying t with
    | some (.slice e) =>
      (match P.info? e, zeroA P e with
       | some i, some z => bif (z.length == i.size) && Nat.ble (n * i.size) (2 ^ 24) then .eff (aBuildSlice H i.size z n (ps.toList.map fun p => (p.1, ρ p.2))) else .eff none
       | _, _ => .eff none)
    | _ => .eff none
  | .load t a =>
    match P.info? t, P.underlying t with
    | some i, some d => .val (aLoad H (aggB d) i.size (ρ a))
    | _, _ => .eff none
  | .store t a x =>
    match P.info? t with
    | some i => .sto (aStore H i.size (ρ a) (ρ x))
    | none => .eff none
  | .nilCheck x => .val (aNilCheck (ρ x))
  | .binOp op t x y _ =>
    bif scalarT P t then .val (aBin op (ρ x) (ρ y)) else
    (match op with
     | .eql => (match ekOf P t with | some ek => .val (aEql false ek H (ρ x) (ρ y)) | none => .eff none)
     | .neq => (match ekOf P t with | some ek => .val (aEql true ek H (ρ x) (ρ y)) | none => .eff none)
     | _ => .eff none)
  | .unOp op _ x => .val (aUn op (ρ x))
  | .convert s d x =>
    match P.underlying s, P.underlying d with
    | some _, some (.int k) => .val (aInt2 k (ρ x))
    | some .string, some .string => .val (aStr2 (ρ x))
    | some (.slice e), some .string =>
      (match P.underlying e with
       | some (.int .u8) => .val (aBytes2Str H (ρ x))
       | _ => .eff none)
    | some .string, some (.slice e) =>
      (match P.underlying e with
       | some (.int .u8) => .eff (aStr2Bytes H (ρ x))
       | _ => .eff none)
    | some (.slice _), some (.slice e) =>
      bif Nat.beq s d then
        (match P.underlying e with
         | some (.int .u8) => .val (aMark H (ρ x))
         | _ => .eff none)
      else .eff none
    | _, _ => .eff none
  | .makeMap _ none => .eff (aMakeMap H)
  | .range t x => match P.underlying t with | some (.map _ _) => .eff (aRangeMap H (ρ x)) | _ => .eff none
  | .entry x => .val (aEntry H (ρ x))
  | .lookup t x k ok =>
    match P.underlying t with
    | some (.map kt et) => (match ktOf P kt, zeroV P et with | some l, some z => .val (aLookup H l z ok (ρ x) (ρ k)) | _, _ => .eff none)
    | _ => .eff none
  | .mapUpdate t m k x =>
    match P.underlying t with
    | some (.map kt _) => (match ktOf P kt with | some l => .sto (aMapUpdate H l (ρ m) (ρ k) (ρ x)) | none => .eff none)
    | _ => .eff none
  | .makeFunc fn first cap => .now (.func fn (first.toList.map ρ) (cap.toList.map ρ))
  | .makeSlice t l c =>
    match P.underlying t with
    | some (.slice e) =>
      (match P.info? e, zeroA P e with
       | some i, some z => bif z.length == i.size then .eff (aMakeSlice H i.bytes z (ρ l) (ρ c)) else .eff none
       | _, _ => .eff none)
    | _ => .eff none
  | .slice t x lo hi mx =>
    bif mx.isSome && !hi.isSome then .eff none else
    (match P.underlying t with
     | some .string => bif mx.isSome then .eff none else .val (aSliceStr (ρ x) (lo.map ρ) (hi.map ρ))
     | some (.slice e) => (match P.info? e with | some i => .val (aSlice H i.size (ρ x) (lo.map ρ) (hi.map ρ) (mx.map ρ)) | none => .eff none)
     | some (.array n e) => (match P.info? e with | some i => .val (aSliceArr n i.size (ρ x) (lo.map ρ) (hi.map ρ) (mx.map ρ)) | none => .eff none)
     | _ => .eff none)
  | .fieldAddr t x k =>
    match P.underlying t with
    | some (.struct fs) =>
      (match fs[k]? with
       | some f => (match P.info? f.type with | some i => bif i.size == 0 then .eff none else .val (aFieldAddr f.offset (ρ x)) | none => .eff none)
       | none => .eff none)
    | _ => .eff none
  | .field t x k =>
    match P.underlying t with
    | some (.struct fs) =>
      (match fs[k]? with
       | some f => (match P.info? f.type, P.underlying f.type with | some i, some d => .val (aField (aggB d) i.size f.offset (ρ x)) | _, _ => .eff none)
       | none => .eff none)
    | _ => .eff none
  | .indexAddr t x i =>
    match P.underlying t with
    | some (.slice e) => (match P.info? e with | some inf => .val (aIndexAddr inf.size (ρ x) (ρ i)) | none => .eff none)
    | some (.array n e) => (match P.info? e with | some inf => .val (aIndexAddrArr n inf.size (ρ x) (ρ i)) | none => .eff none)
    | _ => .eff none
  | .index t x i =>
    match P.underlying t with
    | some .string => .val (aIndexStr (ρ x) (ρ i))
    | some (.array n e) =>
      (match P.info? e, P.underlying e with
       | some inf, some d => .val (aIndexArr n (aggB d) inf.size (ρ x) (ρ i))
       | _, _ => .eff none)
    | _ => .eff none
  | .extract x i => .val (aExtract (ρ x) i)
  | .call c =>
    match c.callee with
    | .builtin b => rBuiltin P b c.argTypes (c.args.toList.map ρ) H
    | _ => .eff none
  | _ => .eff none

theorem toOpt_cond (H : AHeap) (b : Bool) (x y : Res) : (cond b x y).toOpt H = cond b (x.toOpt H) (y.toOpt H) := by cases b <;> rfl

theorem rBuiltin_ok (P : Program) (b : Builtin) (ts : Array TypeId) (args : List AVal) (H : AHeap) : (rBuiltin P b ts args H).toOpt H = aBuiltin P b ts args H := by
  unfold rBuiltin aBuiltin
  repeat' (split <;> try simp only [*])
  all_goals repeat' (first | rw [toOpt_cond] | (split <;> try simp only [*]))
  all_goals first | rfl | skip

set_option maxHeartbeats 4000000 in
theorem aopR_ok (P : Program) (op : Op) (ρ : Operand → AVal) (H : AHeap) : (aopR P op ρ H).toOpt H = aop P op ρ H := by
  by_cases hcall : ∃ c, op = .call c
  · obtain ⟨⟨callee, args, ts⟩, rfl⟩ := hcall
    cases callee with
    | invoke r m => rfl
    | builtin b => exact rBuiltin_ok P b ts _ H
    | value f => rfl
  · cases op <;> simp only [aopR, aop] <;> first | rfl | (exact absurd ⟨_, rfl⟩ hcall) | skip
    all_goals repeat' (first | rw [toOpt_cond] | (split <;> try simp only [*]))
    all_goals first | rfl | (rename_i h1 _ _ _ _ _; cases h1; done) | (exact absurd ⟨_, (by assumption)⟩ hcall)

def vb (r : Option AVal) (K : AVal → Prop) : Prop :=
  match r with
  | some v => K v
  | none => False
def hb (r : Option (AVal × AHeap)) (K : AVal → AHeap → Prop) : Prop :=
  match r with
  | some (v, H) => K v H
  | none => False
def sb (r : Option AHeap) (K : AHeap → Prop) : Prop :=
  match r with
  | some H => K H
  | none => False

/-- What a call comes to: what is told of it lets one pick. -/
def cb (R : AVal → AHeap → Prop) (K : AVal → AHeap → Prop) : Prop := ∃ v H, R v H ∧ K v H

/-- One operation, its guard decided. -/
def stepA (P : Program) (sp : Specs) (o : Oper) (fr : List AVal) (H : AHeap) (K : List AVal → AHeap → Prop) : Prop :=
  match o.op with
  | .call ⟨.value f, args, _⟩ => cb (callP sp (evalA fr f) (args.toList.map (evalA fr)) H) fun v H => K (putA fr o.dst v) H
  | op =>
    match aopR P op (evalA fr) H with
    | .now v => K (putA fr o.dst v) H
    | .val r => vb r fun v => K (putA fr o.dst v) H
    | .eff r => hb r fun v H => K (putA fr o.dst v) H
    | .sto r => sb r fun H => K (putA fr o.dst .undef) H

theorem stepA_some {P : Program} {sp : Specs} {o : Oper} {fr : List AVal} {H : AHeap} {K : List AVal → AHeap → Prop} (h : stepA P sp o fr H K) :
    ∃ v H', aopP P sp o.op (evalA fr) H v H' ∧ K (putA fr o.dst v) H' := by
  unfold stepA at h
  unfold aopP
  split at h
  · rename_i f args ts ho
    obtain ⟨v, H', h1, h2⟩ := h
    exact ⟨v, H', by rw [ho]; exact h1, h2⟩
  rename_i hno
  have key : ∀ v H', (aopR P o.op (evalA fr) H).toOpt H = some (v, H') → aopP P sp o.op (evalA fr) H v H' := by
    intro v H' hh
    rw [aopR_ok] at hh
    unfold aopP
    split
    · rename_i f args ts ho
      exact absurd ho (hno f args ts)
    · exact hh
  have fin : ∀ v H', (aopR P o.op (evalA fr) H).toOpt H = some (v, H') → K (putA fr o.dst v) H' → ∃ v H', aopP P sp o.op (evalA fr) H v H' ∧ K (putA fr o.dst v) H' := fun v H' a b => ⟨v, H', key v H' a, b⟩
  unfold aopP at fin
  split at h
  · rename_i v hv
    exact fin v H (by rw [hv]; rfl) h
  · rename_i r hv
    unfold vb at h
    split at h
    · rename_i v
      exact fin v H (by rw [hv]; rfl) h
    · exact h.elim
  · rename_i r hv
    unfold hb at h
    split at h
    · rename_i v H'
      exact fin v H' (by rw [hv]; rfl) h
    · exact h.elim
  · rename_i r hv
    unfold sb at h
    split at h
    · rename_i H'
      exact fin .undef H' (by rw [hv]; rfl) h
    · exact h.elim

/-- The slot that a guard looks at. -/
def guardSlot (ops : Array Oper) (o : Oper) : Option (Option (Nat × Bool)) :=
  match o.guard with
  | none => some none
  | some (j, want) =>
    match (ops[j]?).bind (·.dst) with
    | some t => some (some (t, want))
    | none => none

/-- What an operation that is not done leaves. -/
def isT (x : AVal) (K : Prop) : Prop :=
  match x with
  | .tup [] => K
  | _ => False
theorem isT_some {x : AVal} {K : Prop} (h : isT x K) : x = .tup [] ∧ K := by
  unfold isT at h
  split at h
  · exact ⟨rfl, h⟩
  · exact h.elim

def addSk (dst : Option Tmp) (sk : List Nat) : List Nat :=
  match dst with
  | some d => d :: sk
  | none => sk

/-- sk: the slots of operations that were not done. -/
def evOps (P : Program) (sp : Specs) (ops : Array Oper) : List Oper → List Nat → List AVal → AHeap → (List AVal → AHeap → Prop) → Prop
  | [], _, fr, H, K => K fr H
  | o :: rest, sk, fr, H, K =>
    match guardSlot ops o with
    | none => False
    | some none => stepA P sp o fr H fun fr H => evOps P sp ops rest sk fr H K
    | some (some (t, want)) =>
      cond (sk.any fun x => Nat.beq t x) (isT (fr.getD t .undef) (evOps P sp ops rest (addSk o.dst sk) (putA fr o.dst (.tup [])) H K))
      (isB (fr.getD t .undef) fun b =>
        cond b
          (cond want (stepA P sp o (fr.set t (.bool true)) H fun fr H => evOps P sp ops rest sk fr H K) (evOps P sp ops rest (addSk o.dst sk) (putA (fr.set t (.bool true)) o.dst (.tup [])) H K))
          (cond want (evOps P sp ops rest (addSk o.dst sk) (putA (fr.set t (.bool false)) o.dst (.tup [])) H K) (stepA P sp o (fr.set t (.bool false)) H fun fr H => evOps P sp ops rest sk fr H K)))

/-- How an operation meets the heap: not at all; it reads or makes; it may write. -/
def heapKind (P : Program) (sp : Specs) (op : Op) : Nat :=
  match op with
  | .move _ | .assign _ | .pick _ _ _ | .build _ _ | .nilCheck _ | .unOp _ _ _ | .makeFunc _ _ _ | .fieldAddr _ _ _ | .field _ _ _ | .indexAddr _ _ _ | .index _ _ _ | .extract _ _ => 0
  | .binOp _ t _ _ _ => bif scalarT P t then 0 else 1
  | .makeMap _ _ | .lookup _ _ _ _ | .load _ _ | .alloc _ | .box _ _ | .buildSlice _ _ _ | .makeSlice _ _ _ | .slice _ _ _ _ _ | .convert _ _ _ => 1
  | .call ⟨.builtin .len, _, _⟩ | .call ⟨.builtin .min, _, _⟩ | .call ⟨.builtin .max, _, _⟩ => 1
  | .call ⟨.value (.func k), _, _⟩ => match sp k with | some (true, _) => 1 | _ => 2
  | _ => 2

/-- The number itself, ahead of what is done with it. -/
def forceN {α : Type} (n : Nat) (k : Nat → α) : α :=
  match n with
  | 0 => k 0
  | m + 1 => k (m + 1)

def maskOf (acc : List Nat) : List Edge → Nat → Nat
  | [], s => s
  | e :: es, s => maskOf acc es (cond (Region.binds .any e) (Nat.lor s (Nat.lor (2 ^ e.on) (acc.getD e.on 0))) s)

/-- Of each operation: which ones are ahead of it at any rate (as bits). -/
def masks : List Oper → List Nat → List Nat
  | [], acc => acc
  | o :: os, acc => forceN (maskOf acc o.after.toList 0) fun m => masks os (acc ++ [m])

/-- Of each operation: its number, its slot, the slots that it names, how it meets the heap, what is ahead of it. -/
structure OpRow where
  idx : Nat
  dst : Option Nat
  names : List Nat
  hk : Nat
  mask : Nat

def clash (d : Option Nat) (names : List Nat) : Bool :=
  match d with
  | some d => names.any fun x => Nat.beq x d
  | none => false

def loudPair (a b : Nat) : Bool :=
  match a, b with
  | 2, 0 => false
  | 0, 2 => false
  | 2, _ => true
  | _, 2 => true
  | _, _ => false

/-- Two operations that may come in either order do not touch one another. -/
def pairOk (x y : OpRow) : Bool :=
  cond (Nat.testBit y.mask x.idx) true (!clash x.dst y.names && !clash y.dst x.names && !loudPair x.hk y.hk)

def namesOf (ops : Array Oper) (o : Oper) : List Nat := o.dst.toList ++ o.looksAt ops

def opRows (P : Program) (sp : Specs) (ops : Array Oper) : List Oper → List Nat → Nat → List OpRow
  | [], _, _ => []
  | o :: os, ms, i => ⟨i, o.dst, namesOf ops o, heapKind P sp o.op, ms.headD 0⟩ :: opRows P sp ops os ms.tail (i + 1)

def againstAll (y : OpRow) : List OpRow → Bool
  | [] => true
  | x :: xs => pairOk x y && againstAll y xs

/-- Each one against all that stand ahead of it in the text. -/
def rowsOk : List OpRow → List OpRow → Bool
  | _, [] => true
  | seen, y :: ys => againstAll y seen && rowsOk (y :: seen) ys

def edgesOk : List Oper → Nat → Bool
  | [], _ => true
  | o :: os, j => (o.after.toList.all fun e => !Region.binds .any e || Nat.blt e.on j) && edgesOk os (j + 1)

def drawOk (P : Program) (sp : Specs) (ops : Array Oper) : Bool :=
  edgesOk ops.toList 0 && rowsOk [] (opRows P sp ops ops.toList (masks ops.toList []) 0)

/-- The slots that a piece of code writes. -/
def writesOf : Code → List Nat
  | .region _ ops _ => ops.toList.filterMap (·.dst)
  | .seq a b => writesOf a ++ writesOf b
  | .cond _ a b => writesOf a ++ writesOf b
  | .block _ c => writesOf c
  | .loop c => writesOf c
  | .scope c => writesOf c
  | _ => []

/-- The number of the first region: a loop's name. -/
def keyOf : Code → Option Nat
  | .region id _ _ => some id
  | .seq a b => (keyOf a).or (keyOf b)
  | .cond _ a b => (keyOf a).or (keyOf b)
  | .block _ c => keyOf c
  | .loop c => keyOf c
  | .scope c => keyOf c
  | _ => none

/-- What is told of a loop (or of a piece where ways meet again): the slots that come in and matter, those that matter behind it, and its ends. -/
structure Cut where
  ins : List Nat
  outs : List Nat
  exits : List AExit

abbrev Cuts := Nat → Option Cut

/-- Slots forgotten. -/
def wipe (ws : List Nat) (fr : List AVal) : List AVal := ws.foldl (fun fr i => fr.set i .undef) fr
def pickSlots (is : List Nat) (fr : List AVal) : List AVal := is.map fun i => fr.getD i .undef
def laySlots : List Nat → Nat → List AVal → List AVal → List AVal
  | [], _, _, fr => fr
  | i :: is, k, vs, fr => laySlots is (k + 1) vs (fr.set i (vs.getD k .undef))

/-- Which end it was (a name of its own: simp goes twice into each 'if' of a row of them). -/
def onE (e x : AExit) (A B : Prop) : Prop := if e = x then A else B

def onExits (e : AExit) (K : AExit → Prop) : List AExit → Prop
  | [] => False
  | x :: l => onE e x (K x) (onExits e K l)

abbrev Body := List AVal → AHeap → (List AVal → AHeap → Prop) → (AExit → List AVal → AHeap → Prop) → Prop

def LoopN (B : Body) (K : AExit → List AVal → AHeap → Prop) : Nat → List AVal → AHeap → Prop
  | 0, _, _ => False
  | n + 1, vs, H => B vs H (LoopN B K n) K

def LoopP (B : Body) (vs : List AVal) (H : AHeap) (K : AExit → List AVal → AHeap → Prop) : Prop := ∃ n, LoopN B K n vs H

/-- A loop whose ways are told one by one. -/
theorem LoopP.step {B : Body} {K : AExit → List AVal → AHeap → Prop} {vs : List AVal} {H : AHeap} (h : ∃ n, B vs H (LoopN B K n) K) : LoopP B vs H K := by
  obtain ⟨n, h⟩ := h
  exact ⟨n + 1, h⟩

def exitA (K : AExit → List AVal → AHeap → Prop) (Kn : List AVal → AHeap → Prop) : AExit → List AVal → AHeap → Prop
  | .normal => Kn
  | e => K e

/-- A piece whose ways meet again behind it. -/
def JoinP (A : (AExit → List AVal → AHeap → Prop) → Prop) (K : AExit → List AVal → AHeap → Prop) : Prop :=
  ∃ Q : AExit → List AVal → AHeap → Prop, A Q ∧ ∀ e vs H, Q e vs H → K e vs H

def isIf : Code → Bool
  | .cond _ _ _ => true
  | .seq _ (.cond _ _ _) => true
  | _ => false

def joinKey (T : Cuts) (c : Code) : Option Cut :=
  cond (isIf c) ((keyOf c).bind fun k => T (k + 1000000)) none

/-- A region that asks a range of a map to go on. -/
def nextOf (ops : Array Oper) : Option (Operand × Nat × Nat) :=
  match ops.toList with
  | [⟨some d, .next x false, _, _, _, none⟩, ⟨some e, .extract (.tmp d') 0, _, _, _, none⟩] => bif Nat.beq d' d then some (x, d, e) else none
  | _ => none
/-- The place in a row. -/
def posIn (x : Nat) : List Nat → Nat
  | [] => 0
  | y :: l => cond (Nat.beq x y) 0 (posIn x l + 1)

def noTwice : List Nat → Bool
  | [] => true
  | x :: l => !l.any (fun y => Nat.beq x y) && noTwice l

def permOk (n : Nat) (perm : List Nat) : Bool :=
  Nat.beq perm.length n && perm.all (fun k => Nat.blt k n) && (List.range n).all (fun k => perm.any fun y => Nat.beq k y) && noTwice perm

/-- The operations in another order of the text, and the i-th of the old ones ahead of the j-th. -/
def relabel (perm : List Nat) (i j : Nat) (ops : Array Oper) : Array Oper :=
  (perm.map fun k =>
    match ops[k]? with
    | some o => { o with after := ((cond (Nat.beq k j) [(⟨i, .data⟩ : Edge)] [] ++ o.after.toList).map fun e => ⟨posIn e.on perm, e.ground⟩).toArray, guard := o.guard.map fun g => (posIn g.1 perm, g.2) }
    | none => default).toArray

/-- A region that draws its order: where the order may matter, the cuts say of two operations that either comes first; each of the two is gone through. -/
def evDraw (P : Program) (sp : Specs) (T : Cuts) (id : Nat) : Nat → Nat → Array Oper → List AVal → AHeap → (List AVal → AHeap → Prop) → Prop
  | 0, _, ops, fr, H, K => cond (drawOk P sp ops) (evOps P sp ops ops.toList [] fr H K) False
  | n + 1, p, ops, fr, H, K =>
    match T (id + 10000000 * p) with
    | none => cond (drawOk P sp ops) (evOps P sp ops ops.toList [] fr H K) False
    | some cut =>
      cond (permOk ops.size cut.outs && !Nat.beq (cut.ins.getD 0 0) (cut.ins.getD 1 0))
        (evDraw P sp T id n (2 * p) (relabel (List.range ops.size) (cut.ins.getD 0 0) (cut.ins.getD 1 0) ops) fr H K ∧
          evDraw P sp T id n (2 * p + 1) (relabel cut.outs (cut.ins.getD 1 0) (cut.ins.getD 0 0) ops) fr H K) False

def noGoto (e : AExit) (A : Prop) : Prop :=
  match e with
  | .goto _ => False
  | _ => A
/-- The first label of a row of pieces. -/
def firstLabel : Code → Option Nat
  | .seq a b => (firstLabel a).or (firstLabel b)
  | .label l => some l
  | _ => none
/-- By a goto to the one label: what comes behind it; to another one: nothing is told. -/
def gotoA (l : Option Nat) (J : Nat → List AVal → AHeap → Prop) (K : AExit → List AVal → AHeap → Prop) : AExit → List AVal → AHeap → Prop
  | .goto l', fr, H => match l with | some l => cond (Nat.beq l' l) (J l fr H) False | none => False
  | e, fr, H => K e fr H
def hasLabel (l : Nat) (c : Code) : Bool := match findLabel c l with | some _ => true | none => false
mutual
def evC (P : Program) (sp : Specs) (T : Cuts) : Code → List AVal → AHeap → (AExit → List AVal → AHeap → Prop) → Prop
  | .skip, fr, H, K => K .normal fr H
  | .region id ops draw, fr, H, K =>
    match nextOf ops with
    | some (x, d, e) => cond draw False (cond (Nat.blt d fr.length) (nxP (evalA fr x) H fun v b H => K .normal ((fr.set d v).set e (.bool b)) H) False)
    | none =>
    match T (id + 2000000) with
    | none => cond draw (evDraw P sp T id 4 1 ops fr H (K .normal)) (evOps P sp ops ops.toList [] fr H (K .normal))
    | some cut =>
      JoinP (fun Kj => cond draw (evDraw P sp T id 4 1 ops fr H fun fr H => Kj .normal (pickSlots cut.outs fr) H) (evOps P sp ops ops.toList [] fr H fun fr H => Kj .normal (pickSlots cut.outs fr) H))
        (fun e vs H => onExits e (fun e => K e (laySlots cut.outs 0 vs (wipe (ops.toList.filterMap (·.dst)) fr)) H) cut.exits)
  | .seq a b, fr, H, K =>
    match joinKey T a with
    | none => evC P sp T a fr H (exitA K fun fr H => evC P sp T b fr H K)
    | some cut =>
      JoinP (fun Kj => evC P sp T a fr H fun e fr H => Kj e (pickSlots cut.outs fr) H)
        (fun e vs H => onExits e (fun e => exitA K (fun fr H => evC P sp T b fr H K) e (laySlots cut.outs 0 vs (wipe (writesOf a) fr)) H) cut.exits)
  | .cond c a b, fr, H, K =>
    isB (evalA fr c) fun t => cond t (evC P sp T a fr H K) (evC P sp T b fr H K)
  | .block id c, fr, H, K => evC P sp T c fr H fun e fr H => onE e (.exit id) (K .normal fr H) (K e fr H)
  | .loop c, fr, H, K =>
    match (keyOf c).bind T with
    | some cut =>
      LoopP (fun vs H Kn Ke => evC P sp T c (laySlots cut.ins 0 vs (wipe (writesOf c) fr)) H (exitA (fun e fr H => Ke e (pickSlots cut.outs fr) H) (fun fr H => Kn (pickSlots cut.ins fr) H)))
        (pickSlots cut.ins fr) H (fun e vs H => onExits e (fun e => K e (laySlots cut.outs 0 vs (wipe (writesOf c) fr)) H) cut.exits)
    | none => False
  | .exit id, fr, H, K => K (.exit id) fr H
  | .label _, fr, H, K => K .normal fr H
  | .goto l, fr, H, K => K (.goto l) fr H
  | .ret, fr, H, K => K .ret fr H
  | .scope c, fr, H, K => evC P sp T c fr H (gotoA (firstLabel c) (fun l fr H => evL P sp T l c fr H fun e fr H => noGoto e (K e fr H)) K)
  | _, _, _, _ => False
/-- What stands behind a label. -/
def evL (P : Program) (sp : Specs) (T : Cuts) (l : Nat) : Code → List AVal → AHeap → (AExit → List AVal → AHeap → Prop) → Prop
  | .seq a b, fr, H, K => cond (hasLabel l a) (evL P sp T l a fr H (exitA K fun fr H => evC P sp T b fr H K)) (evL P sp T l b fr H K)
  | .label l', fr, H, K => cond (Nat.beq l' l) (K .normal fr H) False
  | _, _, _, _ => False
end

/-- A function's results. -/
def resultA (P : Program) (fr : List AVal) (H : AHeap) : ResultVar → Option AVal
  | .tmp t => some (fr.getD t .undef)
  | .cell a ty =>
    match P.info? ty, P.underlying ty with
    | some i, some d => aLoad H (aggB d) i.size (fr.getD a .undef)
    | _, _ => none

def resultsL (P : Program) (fr : List AVal) (H : AHeap) : List ResultVar → Option (List AVal)
  | [] => some []
  | r :: rs =>
    match resultA P fr H r, resultsL P fr H rs with
    | some v, some vs => some (v :: vs)
    | _, _ => none

def resultsA (P : Program) (fr : List AVal) (H : AHeap) (rs : List ResultVar) : Option AVal :=
  match resultsL P fr H rs with
  | some [v] => some v
  | some vs => some (.tup vs)
  | none => none

def frame0 (args : List AVal) (n : Nat) : List AVal := args ++ List.replicate (n - args.length) .undef

/-- A result, as it is told. -/
inductive Rv where
  | v (x : AVal)
  | c (agg : Bool) (n : Nat) (p : AVal)
  | bad

def rvOf (P : Program) (fr : List AVal) : ResultVar → Rv
  | .tmp t => .v (fr.getD t .undef)
  | .cell a ty =>
    match P.info? ty, P.underlying ty with
    | some i, some d => .c (aggB d) i.size (fr.getD a .undef)
    | _, _ => .bad

def Rv.get (H : AHeap) : Rv → Option AVal
  | .v x => some x
  | .c b n p => aLoad H b n p
  | .bad => none

def rvs (H : AHeap) : List Rv → Option (List AVal)
  | [] => some []
  | r :: rs =>
    match r.get H, rvs H rs with
    | some v, some vs => some (v :: vs)
    | _, _ => none

def tup1 : List AVal → AVal
  | [v] => v
  | vs => .tup vs

/-- A function's end. -/
def fin (e : AExit) (rs : List Rv) (H : AHeap) (K : AVal → AHeap → Prop) : Prop :=
  (e = .normal ∨ e = .ret) ∧ match rvs H rs with | some vs => K (tup1 vs) H | none => False

theorem rvs_ok (P : Program) (fr : List AVal) (H : AHeap) : ∀ rs : List ResultVar, rvs H (rs.map (rvOf P fr)) = resultsL P fr H rs
  | [] => rfl
  | r :: rs => by
    simp only [List.map_cons, rvs, resultsL, rvs_ok P fr H rs]
    have : (rvOf P fr r).get H = resultA P fr H r := by
      cases r with
      | tmp t => rfl
      | cell a ty =>
        simp only [rvOf, resultA]
        split <;> rename_i h
        · simp only [Rv.get]
        · simp only [Rv.get]
    rw [this]

def evFn (P : Program) (sp : Specs) (T : Cuts) (fn : Func) (args : List AVal) (H : AHeap) (K : AVal → AHeap → Prop) : Prop :=
  match fn.body with
  | some c => evC P sp T c (frame0 args fn.ntmps) H fun e fr H =>
      fin e (fn.results.toList.map (rvOf P fr)) H K
  | none => False

end Go.Abs
