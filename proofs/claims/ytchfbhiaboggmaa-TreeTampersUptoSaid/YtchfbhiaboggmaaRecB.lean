/- One text of these: RecP6, RecP7, RecP8, RecP9, RecPa, RecPb, RecW2, RecPc, RecPd, RecPe, RecPf, RecW3, RecPg, RecPh, RecPi. -/
import Derived.Test.YtchfbhiaboggmaaRecA

/- A record's blocks. -/
namespace Go.Sh
open Go Go.Abs

def rowsN (l : List Nat) : List (List Nat) := (List.range ((l.length + 31) / 32)).map fun k => (l.drop (32 * k)).take 32
def atsN (q : Rcd) : List Nat := q.puts.map fun p => p.pos.toNat
def hdR (q : Rcd) : List UInt8 := [114, 99] ++ beB 4 q.seq.toNat ++ beB 2 q.puts.length ++ q.root
def rowB (c : List Nat) : List UInt8 := full (c.map (beB 2)).flatten 64
def headsR (l : List Nat) : List (List UInt8) := (rowsN l).map rowB
def layR (q : Rcd) : List (List UInt8) := full (hdR q) 64 :: headsR (atsN q) ++ q.puts.map Pt.b
section
variable {B : AHeap}
end
end Go.Sh

/- The document's record: may it be; its blocks; the same. -/
namespace Go.Sh
open Go Go.Abs

section
variable {B : AHeap}
end
end Go.Sh

/- The document's records: the same, and their blocks. -/
namespace Go.Sh
open Go Go.Abs

section
variable {B : AHeap}
end
end Go.Sh

/- What blocks begin with: the head, and one Put. -/
namespace Go.Sh
open Go Go.Abs

def headOk (s : List UInt8) : Prop := s.length = 64 ∧ s.take 2 = [114, 99] ∧ s.drop 40 = zs 24
instance (s : List UInt8) : Decidable (headOk s) := by unfold headOk; infer_instance
def seqOf (s : List UInt8) : Nat := numB ((s.take 6).drop 2)
def cntOf (s : List UInt8) : Nat := numB ((s.take 8).drop 6)
def rootOf (s : List UInt8) : List UInt8 := (s.take 40).drop 8
def posOf (t : List UInt8) (i : Nat) : Nat := numB ((t.take (2 * (i % 32) + 2)).drop (2 * (i % 32)))
section
variable {H0 B : AHeap} {own : Nat → Prop} {R : List Part}
end
end Go.Sh

/- One Put that is read. -/
namespace Go.Sh
open Go Go.Abs

section
variable {H0 B : AHeap} {own : Nat → Prop} {R : List Part} {p bx bb i bodies : Nat} {q : Rcd} {y lv : AVal} {l : List (List UInt8)}
end
end Go.Sh

/- What blocks begin with. -/
namespace Go.Sh
open Go Go.Abs

def longN (n : Nat) : Nat := 1 + (n + 31) / 32 + n
def putsOf (l : List (List UInt8)) (n : Nat) : List Pt := (List.range n).map fun i => ⟨posOf (l.getD (1 + i / 32) []) i, l.getD (longN n - n + i) []⟩
def recOf (l : List (List UInt8)) : Rcd := ⟨seqOf (l.getD 0 []), rootOf (l.getD 0 []), putsOf l (cntOf (l.getD 0 []))⟩
def formOk (l : List (List UInt8)) (n : Nat) : Prop := (∀ i, i < n → (l.getD (1 + i / 32) []).length = 64) ∧ goodR (recOf l) = true ∧ layR (recOf l) = l.take (longN n)
instance (l : List (List UInt8)) (n : Nat) : Decidable (formOk l n) := by
  unfold formOk; infer_instance
section
variable {H0 B C : AHeap} {own : Nat → Prop} {R : List Part} {v3 : Nat}
end
end Go.Sh

/- What Go functions come to over abstract values, printed by a program (wx.py); of each function its own text is what is told of it. -/
namespace Go.Sh
open Go Go.Abs

end Go.Sh

/- What must come at any rate; any record's blocks. -/
namespace Go.Sh
open Go Go.Abs

def q0 : Rcd := ⟨7, zs 32, [⟨161, full [97] 64⟩, ⟨200, full [98] 64⟩]⟩
section
variable {B : AHeap}
end
end Go.Sh

/- What is parsed is laid as it was. -/
namespace Go.Sh
open Go Go.Abs

section
variable {B : AHeap}
end
end Go.Sh

/- What the document reads. -/
namespace Go.Sh
open Go Go.Abs

section
variable {B C : AHeap}
end
end Go.Sh

/- All records of a list of blocks. -/
namespace Go.Sh
open Go Go.Abs

section
variable {B : AHeap}
end
end Go.Sh

/- What Go functions come to over abstract values, printed by a program (wx.py); of each function its own text is what is told of it. -/
namespace Go.Sh
open Go Go.Abs

end Go.Sh

/- What any list of blocks begins with; and all of it. -/
namespace Go.Sh
open Go Go.Abs

section
variable {B : AHeap}
end
end Go.Sh

/- There and back. -/
namespace Go.Sh
open Go Go.Abs

theorem lay_len {q : Rcd} : (layR q).length = longN q.puts.length := by
  simp [layR, headsR, rowsN, atsN, longN]; omega
end Go.Sh

/- What was laid is parsed as it was. -/
namespace Go.Sh
open Go Go.Abs

section
variable {B : AHeap}
end
end Go.Sh
