/- One text of these: Nod0, NodW1, NodP1, NodP2, NodP3, NodQ. -/
import Derived.Test.YtchfbhiaboggmaaCol

/- Roots over leaves. -/
namespace Go.Sh
open Go Go.Abs

def nodeT (a b : D32) : List UInt8 := 1 :: (a.1 ++ b.1)
def nodeD (a b : D32) : D32 := ⟨sum (nodeT a b), sum_len _⟩
/-- The j-th sum, k levels above the leaves. -/
def val (dd : List D32) : Nat → Nat → D32
  | 0, j => dd.getD j d0
  | k + 1, j => nodeD (val dd k (2 * j)) (val dd k (2 * j + 1))
/-- How wide a level is. -/
def wd (k : Nat) : Nat := 2 ^ (6 - k)
theorem wd_step {k : Nat} (h : k < 6) : wd k = 2 * wd (k + 1) := by
  unfold wd
  rw [show 6 - k = (6 - (k + 1)) + 1 by omega, Nat.pow_succ, Nat.mul_comm]
def bareD : D32 := ⟨sum (0 :: zs 64), sum_len _⟩
def sums64 (dd : List D32) : List D32 := (List.range 64).map fun i => if i < dd.length then dd.getD i d0 else bareD
end Go.Sh

/- What Go functions come to over abstract values, printed by a program (wtext.py). -/
namespace Go.Sh
open Go Go.Abs

end Go.Sh

/- Roots over leaves: the program's. -/
namespace Go.Sh
open Go Go.Abs

end Go.Sh

/- Roots over leaves: the law's own. -/
namespace Go.Sh
open Go Go.Abs

end Go.Sh

/- Roots over leaves: the law. -/
namespace Go.Sh
open Go Go.Abs

end Go.Sh

/- Functions that leave what was there as it was. -/
namespace Go.Sh
open Go Go.Abs

end Go.Sh
