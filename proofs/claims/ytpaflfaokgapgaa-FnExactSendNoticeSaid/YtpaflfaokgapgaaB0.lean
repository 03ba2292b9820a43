/- The program that is spoken of draws its orders. -/
import Derived.Test.YtpaflfaokgapgaaA15
import Derived.Test.YtpaflfaokgapgaaProg
import Derived.KernelRfl
namespace Go.Proofs.Ytpaflfaokgapgaa
theorem mixed : Try.prog.follows .mixedOrders = true := by kernel_rfl
end Go.Proofs.Ytpaflfaokgapgaa
