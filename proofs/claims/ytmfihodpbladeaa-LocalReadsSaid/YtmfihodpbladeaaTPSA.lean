/- The laws StateApplies, StateFolds and StateKeeps: the plain functions answer true. -/
import Derived.Test.YtmfihodpbladeaaTPSB
import Derived.Test.YtmfihodpbladeaaTF
namespace Go.Proofs.YtmfihodpbladeaaT
open Go Go.Proofs Go.Proofs.YtmfihodpbladeaaE
set_option linter.unusedVariables false
set_option linter.unusedSimpArgs false
theorem fold_small (t : Int) (args : List Int) : (fold t args).1.length ≤ 64 := by
  have := (foldk t args args.length (Nat.le_refl _)).1
  rwa [List.take_length] at this
theorem idx_last (l : List Int) (v : Int) : idx (l ++ [v]) (l.length : Int) = v := by
  rw [idx_get (by simp), List.getElem_append_right (Nat.le_refl _)]
  simp
end Go.Proofs.YtmfihodpbladeaaT
