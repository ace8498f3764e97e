
import Derived.Test.YthcdddbghldmiaaProg
import Derived.Test.YthcdddbghldmiaaLayB
import Derived.KernelRfl
namespace Go.Proofs.Ythcdddbghldmiaa
open Go Go.Lay
theorem prog_ok : ProgOk Try.prog := progOk_of (by kernel_rfl) (by kernel_rfl) (by kernel_rfl)
end Go.Proofs.Ythcdddbghldmiaa
