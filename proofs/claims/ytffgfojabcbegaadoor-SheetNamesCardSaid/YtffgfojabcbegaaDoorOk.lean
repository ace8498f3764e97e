import Derived.Test.YtffgfojabcbegaaDoorProg
import Derived.Test.YtffgfojabcbegaaDoorLayB
import Derived.KernelRfl
namespace Go.Proofs.YtffgfojabcbegaaDoor
open Go Go.Lay
theorem prog_ok : ProgOk Tryd.prog := progOk_of (by kernel_rfl) (by kernel_rfl) (by kernel_rfl)
end Go.Proofs.YtffgfojabcbegaaDoor
