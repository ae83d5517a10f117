import Derived.Test.YtnlkggppokcmfaaGreatTD
import Derived.Test.YtnlkggppokcmfaaGreatY
namespace Go.Proofs.YtnlkggppokcmfaaGreatT
open Go Go.Proofs Go.Proofs.YtnlkggppokcmfaaGreatE
set_option linter.unusedVariables false
set_option linter.unusedSimpArgs false
set_option maxHeartbeats 0
set_option maxRecDepth 4096
theorem sP:lg=some true:=by decide +kernel
end Go.Proofs.YtnlkggppokcmfaaGreatT
