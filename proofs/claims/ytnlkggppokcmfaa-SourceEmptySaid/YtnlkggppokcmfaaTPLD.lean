/- The laws of layer 9 on all of a history. -/
import Derived.Test.YtnlkggppokcmfaaTPLC
namespace Go.Proofs.YtnlkggppokcmfaaT
open Go Go.Proofs Go.Proofs.YtnlkggppokcmfaaE
set_option linter.unusedVariables false
set_option linter.unusedSimpArgs false
def allAsks (h : History) (k : Nat) : List Ask := (List.range k).flatMap (fun t => asksOf h ((t : Nat) : Int))
def allSpots (h : History) (k : Nat) : List Spot := (List.range k).flatMap (fun t => spotsOf h ((t : Nat) : Int))
theorem allAsks_succ {h : History} {k : Nat} : allAsks h (k + 1) = allAsks h k ++ asksOf h (k : Int) := by
  unfold allAsks; rw [List.range_succ, List.flatMap_append]; simp
theorem allSpots_succ {h : History} {k : Nat} : allSpots h (k + 1) = allSpots h k ++ spotsOf h (k : Int) := by
  unfold allSpots; rw [List.range_succ, List.flatMap_append]; simp
theorem all_small {h : History} (hS : Sound h) : ∀ k : Nat, k ≤ h.Txns.length → (allAsks h k).length ≤ 16 * k ∧ (allSpots h k).length ≤ 16 * k ∧ AllI (allAsks h k) (fun x => x.Base.length < 2 ^ 62) := by
  intro k
  induction k with
  | zero => intro _; simp [allAsks, allSpots, AllI]
  | succ k ih =>
    intro hk
    obtain ⟨i1, i2, i3⟩ := ih (by omega)
    obtain ⟨b1, b2, b3⟩ := asksOf_small (hS.txn k (by omega)).ops
    rw [allAsks_succ, allSpots_succ, List.length_append, List.length_append]
    refine ⟨by omega, by omega, ?_⟩
    rw [alli_iff] at i3 b3 ⊢
    intro x hx
    rcases List.mem_append.1 hx with hx | hx
    · exact i3 x hx
    · exact b3 x hx
theorem all_told {h : History} (hs : HSmall h) (hS : Sound h) (hc : index_Check h = some 0) : local_all h = some (⟨allAsks h h.Txns.length, allSpots h h.Txns.length⟩, 0) := by
  have h32 := hS.len
  refine tri_eq.1 ?_
  unfold local_all
  refine tri_bnd hc ?_
  rw [bne_self_eq_false, cond_false]
  refine tri_upm (k0 := 0) h.Txns.length (fun k s => s = (allAsks h k, allSpots h k, (k : Int))) (Nat.zero_le _) rfl ?_
  rintro k s hk rfl
  have hw : w64 ((k : Int) + 1) = ((k + 1 : Nat) : Int) := w64zsucc (by omega)
  obtain ⟨i1, i2, i3⟩ := all_small hS k hk
  unfold local_all.s1
  dsimp only
  refine tri_if (fun hk1 => ?_) (fun hk1 => ?_)
  · have hk2 : k < h.Txns.length := by omega
    refine tri_bind (look_told hk2 (hS.txn k hk2).ops (by dsimp only; omega) (by dsimp only; omega)) (fun r hr => ?_)
    subst hr
    refine tri_some ⟨hk2, ?_⟩
    dsimp only
    rw [hw, allAsks_succ, allSpots_succ]
  · have : k = h.Txns.length := by omega
    subst this
    exact tri_out (tri_some rfl)
theorem refAll_told {h : History} (hs : HSmall h) (hS : Sound h) : assizeref09zAll h = some (allAsks h h.Txns.length, allSpots h h.Txns.length) := by
  have h32 := hS.len
  refine tri_eq.1 ?_
  unfold assizeref09zAll
  refine tri_upm (k0 := 0) h.Txns.length (fun k s => s = (allAsks h k, allSpots h k, (k : Int))) (Nat.zero_le _) rfl ?_
  rintro k s hk rfl
  have hw : w64 ((k : Int) + 1) = ((k + 1 : Nat) : Int) := w64zsucc (by omega)
  obtain ⟨i1, i2, i3⟩ := all_small hS k hk
  unfold assizeref09zAll.s1
  dsimp only
  refine tri_if (fun hk1 => ?_) (fun hk1 => ?_)
  · have hk2 : k < h.Txns.length := by omega
    have ho := (hS.txn k hk2).ops
    obtain ⟨b1, b2, b3⟩ := asksOf_small ho
    refine tri_bnd (ref_of_told hk2 ho) ?_
    dsimp only
    refine tri_must (by omega) (tri_must (by omega) (tri_some ⟨hk2, ?_⟩))
    dsimp only
    rw [hw, allAsks_succ, allSpots_succ]
  · have : k = h.Txns.length := by omega
    subst this
    exact tri_out (tri_some rfl)
end Go.Proofs.YtnlkggppokcmfaaT
