/- A row inside of a value: how it is taken out and put back. -/
import Derived.Test.YtnlkggppokcmfaaT
namespace Go.Proofs.YtnlkggppokcmfaaE
open Go
set_option linter.unusedVariables false
set_option linter.unusedSimpArgs false
structure Lens {α β : Type} (kt : Ty α) (e2 : TypeId) (k2 : Ty β) (fo : Nat) (get : α → List β) (set : α → List β → α) : Prop where
  split : ∀ {H : BM} {F : Nat → Prop} {x : α} {cs : List Value}, kt.own H F x cs → ∃ (A : Option Addr) (c : Nat) (F1 F2 : Nat → Prop), (∀ b, F1 b → F b) ∧ (∀ b, F2 b → F b) ∧ (∀ b, F1 b → ¬ F2 b) ∧
    cs[fo]? = some (.slice A (get x).length c) ∧ rowOwn k2 e2 H F1 A c (get x) ∧
    ∀ (H' : BM) (F1' F' : Nat → Prop) (A' : Option Addr) (c' : Nat) (y : List β), rowOwn k2 e2 H' F1' A' c' y → (∀ b, F2 b → H' b = H b) → (∀ b, F1' b → ¬ F2 b) → (∀ b, F1' b → F' b) → (∀ b, F2 b → F' b) →
      kt.own H' F' (set x y) (cs.set fo (.slice A' y.length c'))
section
variable {M : Mem} {w : World} {L : List Asrt}
variable {P : Program} {o : Oper} {ev_ : Operand → Value} {K : Value → World → Prop}
end
end Go.Proofs.YtnlkggppokcmfaaE
