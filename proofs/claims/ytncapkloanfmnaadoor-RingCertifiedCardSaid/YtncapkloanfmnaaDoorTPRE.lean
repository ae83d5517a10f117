/- The document's distances, whole. -/
import Derived.Test.YtncapkloanfmnaaDoorTPRD
namespace Go.Proofs.YtncapkloanfmnaaDoorT
open Go Go.Proofs Go.Proofs.YtncapkloanfmnaaDoorE
set_option linter.unusedVariables false
set_option linter.unusedSimpArgs false
set_option linter.unusedSectionVars false
variable {t l : Int → Int → Bool} {s : Int} {n k : Nat} {f : Bool}
end Go.Proofs.YtncapkloanfmnaaDoorT
