/- Dawg: whether transducers are alike. -/
import Derived.Test.YtdkbgbdgmihlmaaDoorDAlike
import Derived.Test.YtdkbgbdgmihlmaaDoorTools
namespace Go.Proofs.YtdkbgbdgmihlmaaDoor
open Go.RowKit
set_option linter.unusedSimpArgs false
set_option linter.unusedVariables false
set_option linter.unnecessarySimpa false
namespace Dw

end Dw
end Go.Proofs.YtdkbgbdgmihlmaaDoor
