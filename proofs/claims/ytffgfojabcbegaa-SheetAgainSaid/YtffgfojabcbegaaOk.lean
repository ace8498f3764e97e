
import Derived.Test.YtffgfojabcbegaaProg
import Derived.Test.YtffgfojabcbegaaLayB
import Derived.KernelRfl
namespace Go.Proofs.Ytffgfojabcbegaa
open Go Go.Lay
theorem zHV : ProgOk Try.prog := yWC (by kernel_rfl) (by kernel_rfl) (by kernel_rfl)
end Go.Proofs.Ytffgfojabcbegaa
