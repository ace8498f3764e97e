import Derived.Test.YtgfiniccfpfplaaProg
import Derived.Test.YtgfiniccfpfplaaLayB
import Derived.KernelRfl
namespace Go.Proofs.Ytgfiniccfpfplaa
open Go Go.Lay
theorem zAZ:ProgOk Try.prog:=xBE (by kernel_rfl) (by kernel_rfl) (by kernel_rfl)
end Go.Proofs.Ytgfiniccfpfplaa
