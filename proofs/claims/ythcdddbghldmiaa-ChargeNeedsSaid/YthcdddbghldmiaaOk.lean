/- The program is fit; the closed examples, run by the kernel over the abstract semantics. -/
import Derived.Test.YthcdddbghldmiaaProg
import Derived.Test.YthcdddbghldmiaaLayEnter
import Derived.KernelRfl
namespace Go.Proofs.Ythcdddbghldmiaa
open Go Go.Lay
theorem prog_ok : ProgOk Try.prog := progOk_of (by kernel_rfl) (by kernel_rfl) (by kernel_rfl)
end Go.Proofs.Ythcdddbghldmiaa
