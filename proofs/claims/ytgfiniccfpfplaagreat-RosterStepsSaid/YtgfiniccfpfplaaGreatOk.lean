import Derived.Test.YtgfiniccfpfplaaGreatProg
import Derived.Test.YtgfiniccfpfplaaGreatLayB
import Derived.KernelRfl
namespace Go.Proofs.YtgfiniccfpfplaaGreat
open Go Go.Lay
theorem zBA:ProgOk Tryz.prog:=xET (by kernel_rfl) (by kernel_rfl) (by kernel_rfl)
end Go.Proofs.YtgfiniccfpfplaaGreat
