import Derived.Test.YtflfajphjmajpaaGreatOk
import Derived.Test.YtflfajphjmajpaaGreatLayC
namespace Go.Proofs.YtflfajphjmajpaaGreat.Aw
open Go Go.Lay
theorem shut:ShutF Tryz.prog 9:=xVM xNM wGJ (N:=100000) (by kernel_rfl)
end Go.Proofs.YtflfajphjmajpaaGreat.Aw
