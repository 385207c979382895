/- A text of this proof. -/
import Derived.Test.YtchfbhiaboggmaaRecB

/- Records that came in: empty Puts may have no block. -/
namespace Go.Sh
open Go Go.Abs

section
variable {B : AHeap}
end
end Go.Sh
