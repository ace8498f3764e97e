
import Derived.Test.YtffgfojabcbegaaProg
import Derived.Test.YtffgfojabcbegaaLayB
import Derived.KernelRfl
namespace Go.Proofs.Ytffgfojabcbegaa
open Go Go.Lay
theorem zGR : ProgOk Try.prog := ySZ (by kernel_rfl) (by kernel_rfl) (by kernel_rfl)
end Go.Proofs.Ytffgfojabcbegaa
