/- The program that is spoken of draws its orders. -/
import Derived.Test.YtcbijbckbloadaaA15
import Derived.Test.YtcbijbckbloadaaProg
import Derived.KernelRfl
namespace Go.Proofs.Ytcbijbckbloadaa
theorem mixed : Try.prog.follows .mixedOrders = true := by kernel_rfl
end Go.Proofs.Ytcbijbckbloadaa
