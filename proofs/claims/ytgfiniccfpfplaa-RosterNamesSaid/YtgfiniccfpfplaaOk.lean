/- The program is fit for the abstract semantics. -/
import Derived.Test.YtgfiniccfpfplaaProg
import Derived.Test.YtgfiniccfpfplaaLayEnter
import Derived.KernelRfl
namespace Go.Proofs.Ytgfiniccfpfplaa
open Go Go.Lay
theorem prog_ok : ProgOk Try.prog := progOk_of (by kernel_rfl) (by kernel_rfl) (by kernel_rfl)
end Go.Proofs.Ytgfiniccfpfplaa
