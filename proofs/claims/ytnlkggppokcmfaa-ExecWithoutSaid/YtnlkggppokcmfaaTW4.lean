import Derived.Test.YtnlkggppokcmfaaTW3
import Derived.Test.YtnlkggppokcmfaaProg
namespace Go.Proofs.YtnlkggppokcmfaaT
open Go Go.Proofs Go.Shelf Go.Proofs.YtnlkggppokcmfaaE
set_option linter.unusedVariables false
set_option linter.unusedSimpArgs false
set_option maxHeartbeats 0
set_option maxRecDepth 4096
end Go.Proofs.YtnlkggppokcmfaaT
