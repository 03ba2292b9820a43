/- The program that is spoken of draws its orders. -/
import Derived.Test.YtbgnlnlgjmipfaaA15
import Derived.Test.YtbgnlnlgjmipfaaProg
import Derived.KernelRfl
namespace Go.Proofs.Ytbgnlnlgjmipfaa
theorem mixed : Try.prog.follows .mixedOrders = true := by kernel_rfl
end Go.Proofs.Ytbgnlnlgjmipfaa
