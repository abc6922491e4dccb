import Derived.Test.YtpffcfiojjgnlaaFb
import Derived.Test.YtpffcfiojjgnlaaFc
import Derived.Test.YtpffcfiojjgnlaaFd
import Derived.Test.YtpffcfiojjgnlaaProg
set_option linter.unusedSimpArgs false
set_option linter.unusedVariables false
namespace Go.Proofs.Ytpffcfiojjgnlaa
open Go.RowKit

end Go.Proofs.Ytpffcfiojjgnlaa
