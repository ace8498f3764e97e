import Derived.Test.YtflfajphjmajpaaGreatProg
import Derived.Test.YtflfajphjmajpaaGreatLayB
import Derived.KernelRfl
namespace Go.Proofs.YtflfajphjmajpaaGreat
open Go Go.Lay
theorem xNM:ProgOk Tryz.prog:=xTK (by kernel_rfl) (by kernel_rfl) (by kernel_rfl)
end Go.Proofs.YtflfajphjmajpaaGreat
