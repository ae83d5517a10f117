/- The engine, part W: loops over functions: the record, the rounds, the function's return past the mark. -/
import Derived.Test.YtnlkggppokcmfaaV
import Derived.RangeFuncRecord
import Derived.RangeFuncIn
import Derived.RangeFuncLeaves
namespace Go.Proofs.YtnlkggppokcmfaaE
open Go
set_option linter.unusedVariables false
set_option linter.unusedSimpArgs false
set_option linter.unusedSectionVars false
section
variable {M : Mem} {w : World} {L : List Asrt} {P : Program}
theorem RoundC.mono {l : Nat} {g : FuncId} {tmps : Array Value} {assign body : Code} {R R' : Value → World → Prop} (h : RoundC P l g tmps assign body w R) (hR : ∀ v w, R v w → R' v w) : RoundC P l g tmps assign body w R' := by
  intro c cs
  obtain ⟨v, w', h1, h2⟩ := h c cs
  exact ⟨v, w', hR v w' h1, h2⟩
end
section
variable {E : Env} {k : List Item} {f : Nat → Value} {w : World} {M : Mem} {L : List Asrt} {ops : Array Oper}
end
end Go.Proofs.YtnlkggppokcmfaaE
