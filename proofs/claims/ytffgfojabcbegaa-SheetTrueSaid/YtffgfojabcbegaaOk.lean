
import Derived.Test.YtffgfojabcbegaaProg
import Derived.Test.YtffgfojabcbegaaLayB
import Derived.KernelRfl
namespace Go.Proofs.Ytffgfojabcbegaa
open Go Go.Lay
theorem zFU : ProgOk Try.prog := progOk_of (by kernel_rfl) (by kernel_rfl) (by kernel_rfl)
end Go.Proofs.Ytffgfojabcbegaa
