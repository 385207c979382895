/- One text of these: Col0, ColW1, ColP1, ColP2, ColQ. -/
import Derived.Test.YtchfbhiaboggmaaPair
import Derived.Test.YtchfbhiaboggmaaChain

/- Collisions among what was summed. -/
namespace Go.Sh
open Go Go.Abs

end Go.Sh

/- What Go functions come to over abstract values, printed by a program (wtext.py). -/
namespace Go.Sh
open Go Go.Abs

end Go.Sh

/- What Collide tells. -/
namespace Go.Sh
open Go Go.Abs

/-- The two slices that Collide makes. -/
structure Two (H C : AHeap) (T : List (List UInt8)) (i : Nat) (x y : AVal) : Prop where
  p : H <+: C
  ox : OwnO C x 1 i (strs (T.take i))
  oy : OwnO C y 32 i (dcells (sums (T.take i)))
  xi : ∀ a, slId x = some a → H.length ≤ a
  yi : ∀ a, slId y = some a → H.length ≤ a
  ne : ∀ a, slId x = some a → slId y ≠ some a
end Go.Sh

/- What is told has one sum. -/
namespace Go.Sh
open Go Go.Abs

end Go.Sh

/- Functions that leave what was there as it was. -/
namespace Go.Sh
open Go Go.Abs

end Go.Sh
