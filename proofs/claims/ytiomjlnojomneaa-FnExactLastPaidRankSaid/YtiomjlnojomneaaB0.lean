/- The program that is spoken of draws its orders. -/
import Derived.Test.YtiomjlnojomneaaA15
import Derived.Test.YtiomjlnojomneaaProg
import Derived.KernelRfl
namespace Go.Proofs.Ytiomjlnojomneaa
theorem mixed : Try.prog.follows .mixedOrders = true := by kernel_rfl
end Go.Proofs.Ytiomjlnojomneaa
