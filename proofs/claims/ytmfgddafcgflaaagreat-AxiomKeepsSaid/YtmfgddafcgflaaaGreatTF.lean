import Derived.Test.YtmfgddafcgflaaaGreatTD
import Derived.Test.YtmfgddafcgflaaaGreatXC
namespace Go.Proofs.YtmfgddafcgflaaaGreatT
open Go Go.Proofs Go.Proofs.YtmfgddafcgflaaaGreatE
set_option linter.unusedVariables false
set_option linter.unusedSimpArgs false
set_option maxHeartbeats 0
set_option maxRecDepth 4096
theorem sO:kN=some true:=by decide +kernel
end Go.Proofs.YtmfgddafcgflaaaGreatT
