
import Derived.Test.YtmdopblmkkameaaProg
import Derived.Test.YtmdopblmkkameaaLayB
import Derived.KernelRfl
namespace Go.Proofs.Ytmdopblmkkameaa
open Go Go.Lay
theorem zR : ProgOk Try.prog := progOk_of (by kernel_rfl) (by kernel_rfl) (by kernel_rfl)
end Go.Proofs.Ytmdopblmkkameaa
