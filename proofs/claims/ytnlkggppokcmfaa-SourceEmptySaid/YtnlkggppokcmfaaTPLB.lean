/- Copies and comparisons of histories and of answers. -/
import Derived.Test.YtnlkggppokcmfaaTPLA
namespace Go.Proofs.YtnlkggppokcmfaaT
open Go Go.Proofs Go.Proofs.YtnlkggppokcmfaaE
set_option linter.unusedVariables false
set_option linter.unusedSimpArgs false
theorem SameVals_told {a b : List Int} (ha : a.length < 2 ^ 62) : assizeref03zSameVals a b = some (decide (a = b)) := by
  refine tri_dec.1 ?_
  unfold assizeref03zSameVals
  refine tri_if (fun h => ?_) (fun h => ?_)
  · refine tri_some ?_
    have : a ≠ b := by rintro rfl; exact h rfl
    simp [this]
  · have hl : a.length = b.length := by grind
    refine tri_all a.length (fun j => idx a (j : Int) = idx b (j : Int)) ?_
    intro k hk hJ
    have hw : w64 ((k : Int) + 1) = ((k + 1 : Nat) : Int) := w64zsucc (by omega)
    have hx : (∀ j : Nat, j < a.length → idx a (j : Int) = idx b (j : Int)) → a = b := fun h => list_ext hl h
    unfold assizeref03zSameVals.s1
    dsimp only
    rw [hw]
    repeat' (first | contradiction | with_reducible refine tri_if (fun hq => ?_) (fun hq => ?_) | with_reducible refine tri_must (by first | omega | grind [w64zin]) ?_ | with_reducible refine tri_out ?_ | with_reducible refine tri_sb ?_ | with_reducible refine tri_cb ?_ | with_reducible refine tri_mb ?_ | with_reducible refine tri_bb ?_ | with_reducible refine tri_some ?_)
    · show false = true ↔ a = b
      grind
    · exact ⟨rfl, by omega, by grind⟩
    · show true = true ↔ a = b
      grind
theorem SameAsks_told {a b : List Ask} (ha : a.length < 2 ^ 62) (hs : AllI a (fun x => x.Base.length < 2 ^ 62)) : Tri (assizeref09zSameAsks a b) (fun r => r = true ↔ a = b) := by
  unfold assizeref09zSameAsks
  refine tri_if (fun h => ?_) (fun h => ?_)
  · refine tri_some ?_
    have : a ≠ b := by rintro rfl; exact h rfl
    simp [this]
  · have hl : a.length = b.length := by grind
    refine tri_all a.length (fun j => idx a (j : Int) = idx b (j : Int)) ?_
    intro k hk hJ
    have hw : w64 ((k : Int) + 1) = ((k + 1 : Nat) : Int) := w64zsucc (by omega)
    have hx : (∀ j : Nat, j < a.length → idx a (j : Int) = idx b (j : Int)) → a = b := fun h => list_ext hl h
    have hv : k < a.length → _ := fun hk => SameVals_told (b := (idx b (k : Int)).Base) (hs k hk)
    have he : idx a (k : Int) = idx b (k : Int) ↔ (idx a (k : Int)).Txn = (idx b (k : Int)).Txn ∧ (idx a (k : Int)).Place = (idx b (k : Int)).Place ∧ (idx a (k : Int)).Key = (idx b (k : Int)).Key ∧ (idx a (k : Int)).Base = (idx b (k : Int)).Base := by
      generalize idx a (k : Int) = x
      generalize idx b (k : Int) = y
      obtain ⟨x1, x2, x3, x4⟩ := x
      obtain ⟨y1, y2, y3, y4⟩ := y
      simp
    unfold assizeref09zSameAsks.s1 assizeref09zSameAsks.j2
    simp only [cond_true, cond_false]
    rw [hw]
    refine tri_if (fun hk1 => ?_) (fun hk1 => ?_)
    · have hv := hv (by omega)
      repeat' (first | contradiction | with_reducible refine tri_if (fun hq => ?_) (fun hq => ?_) | with_reducible refine tri_must (by first | omega | grind [w64zin]) ?_ | with_reducible refine tri_out ?_ | with_reducible refine tri_sb ?_ | with_reducible refine tri_cb ?_ | with_reducible refine tri_mb ?_ | with_reducible refine tri_bb ?_ | with_reducible refine tri_some ?_ | refine tri_bnd hv ?_)
      all_goals grind [Nxt]
    · repeat' (first | contradiction | with_reducible refine tri_if (fun hq => ?_) (fun hq => ?_) | with_reducible refine tri_must (by first | omega | grind [w64zin]) ?_ | with_reducible refine tri_out ?_ | with_reducible refine tri_sb ?_ | with_reducible refine tri_cb ?_ | with_reducible refine tri_mb ?_ | with_reducible refine tri_bb ?_ | with_reducible refine tri_some ?_)
      show true = true ↔ a = b
      grind
end Go.Proofs.YtnlkggppokcmfaaT
