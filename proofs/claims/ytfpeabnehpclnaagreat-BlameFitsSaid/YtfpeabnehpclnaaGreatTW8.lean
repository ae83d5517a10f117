import Derived.Test.YtfpeabnehpclnaaGreatTW7
import Derived.Test.YtfpeabnehpclnaaGreatProg
namespace Go.Proofs.YtfpeabnehpclnaaGreatT
open Go Go.Proofs Go.Proofs.YtfpeabnehpclnaaGreatE
set_option linter.unusedVariables false
set_option linter.unusedSimpArgs false
set_option maxHeartbeats 0
set_option maxRecDepth 4096
end Go.Proofs.YtfpeabnehpclnaaGreatT
