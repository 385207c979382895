/- One text of these: Pair0, PairW1, PairP1, PairP2, PairQ. -/
import Derived.Test.YtchfbhiaboggmaaNode

/- Pairs of unlike texts of one sum. -/
namespace Go.Sh
open Go Go.Abs

abbrev D32 := { l : List UInt8 // l.length = 32 }
def d0 : D32 := ⟨List.replicate 32 0, rfl⟩
def dcell (d : D32) : List AVal := d.1.map ofByte
def dcells (dd : List D32) : List AVal := (dd.map dcell).flatten
def like (l : List (List UInt8)) (dd : List D32) (i k : Nat) : Bool := decide ((dd.getD i d0).1 = (dd.getD k d0).1) && decide (l.getD i [] ≠ l.getD k [])
def ahead (l : List (List UInt8)) (dd : List D32) (k : Nat) : Option Nat := (List.range k).find? fun i => like l dd i k
def pairs (l : List (List UInt8)) (dd : List D32) : Nat → Option (Nat × Nat)
  | 0 => none
  | n + 1 => match pairs l dd n with
    | some p => some p
    | none => (ahead l dd n).map fun i => (i, n)
def sumD (s : List UInt8) : D32 := ⟨sum s, sum_len s⟩
def sums (T : List (List UInt8)) : List D32 := T.map sumD
end Go.Sh

/- What Go functions come to over abstract values, printed by a program (wtext.py). -/
namespace Go.Sh
open Go Go.Abs

end Go.Sh

/- Pairs: the functions come to what is told. -/
namespace Go.Sh
open Go Go.Abs

end Go.Sh

/- The laws of pairs and of no oracle. -/
namespace Go.Sh
open Go Go.Abs

end Go.Sh

/- Functions that leave what was there as it was. -/
namespace Go.Sh
open Go Go.Abs

end Go.Sh
