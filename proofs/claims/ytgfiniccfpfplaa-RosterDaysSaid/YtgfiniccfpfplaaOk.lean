import Derived.Test.YtgfiniccfpfplaaProg
import Derived.Test.YtgfiniccfpfplaaLayB
import Derived.KernelRfl
namespace Go.Proofs.Ytgfiniccfpfplaa
open Go Go.Lay
theorem uE : ProgOk Try.prog := yTC (by kernel_rfl) (by kernel_rfl) (by kernel_rfl)
end Go.Proofs.Ytgfiniccfpfplaa
