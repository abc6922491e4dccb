import Derived.Test.YtfclaacaphpoaaaQj
import Derived.Test.YtfclaacaphpoaaaFe
import Derived.Test.YtfclaacaphpoaaaFf
set_option linter.unusedSimpArgs false
set_option linter.unusedVariables false
namespace Go.Proofs.Ytfclaacaphpoaaa
open Go.RowKit

end Go.Proofs.Ytfclaacaphpoaaa
