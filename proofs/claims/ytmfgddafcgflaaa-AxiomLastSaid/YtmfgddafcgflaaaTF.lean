import Derived.Test.YtmfgddafcgflaaaTD
import Derived.Test.YtmfgddafcgflaaaI
namespace Go.Proofs.YtmfgddafcgflaaaT
open Go Go.Proofs Go.Proofs.YtmfgddafcgflaaaE
set_option linter.unusedVariables false
set_option linter.unusedSimpArgs false
set_option maxHeartbeats 0
set_option maxRecDepth 4096
theorem qx:jF=some true:=by decide +kernel
end Go.Proofs.YtmfgddafcgflaaaT
