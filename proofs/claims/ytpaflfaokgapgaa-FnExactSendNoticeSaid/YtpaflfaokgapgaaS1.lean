/- Contracts about securities. -/
import Derived.Test.YtpaflfaokgapgaaS0
import Derived.Test.YtpaflfaokgapgaaA20
set_option linter.unusedVariables false
set_option linter.unusedSimpArgs false
namespace Go.Proofs.Ytpaflfaokgapgaa
open Go.Abs
end Go.Proofs.Ytpaflfaokgapgaa
