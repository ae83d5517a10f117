import Derived.Test.YtfpeabnehpclnaaGreatDoorTD
import Derived.Test.YtfpeabnehpclnaaGreatDoorXB
namespace Go.Proofs.YtfpeabnehpclnaaGreatDoorT
open Go Go.Proofs Go.Proofs.YtfpeabnehpclnaaGreatDoorE
set_option linter.unusedVariables false
set_option linter.unusedSimpArgs false
set_option maxHeartbeats 0
set_option maxRecDepth 4096
theorem xY:nP=some true:=by decide +kernel
end Go.Proofs.YtfpeabnehpclnaaGreatDoorT
