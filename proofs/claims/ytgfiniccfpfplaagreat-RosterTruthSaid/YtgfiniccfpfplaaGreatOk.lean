import Derived.Test.YtgfiniccfpfplaaGreatProg
import Derived.Test.YtgfiniccfpfplaaGreatLayB
import Derived.KernelRfl
namespace Go.Proofs.YtgfiniccfpfplaaGreat
open Go Go.Lay
theorem zAZ:ProgOk Tryz.prog:=xGI (by kernel_rfl) (by kernel_rfl) (by kernel_rfl)
end Go.Proofs.YtgfiniccfpfplaaGreat
