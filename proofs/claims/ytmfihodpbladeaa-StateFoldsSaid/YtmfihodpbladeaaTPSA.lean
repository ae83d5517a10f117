/- The laws StateApplies, StateFolds and StateKeeps: the plain functions answer true. -/
import Derived.Test.YtmfihodpbladeaaTPSB
import Derived.Test.YtmfihodpbladeaaTF
namespace Go.Proofs.YtmfihodpbladeaaT
open Go Go.Proofs Go.Proofs.YtmfihodpbladeaaE
set_option linter.unusedVariables false
set_option linter.unusedSimpArgs false
theorem StateApplies_law (t : Int) (s : List Int) (a : Int) {p q r : Prop} (_ : p) (g1 : q ∧ s.length * 8 ≤ 140737488351232) (_ : r) : assizelaw08zStateApplies t s a = some true := by
  unfold assizelaw08zStateApplies
  have hs : s.length < 2 ^ 62 := by omega
  have h1 := app_small t s a
  have h2 := start_small t
  rw [assizelaw08zalive_true, copied_told (by omega), ref_Apply_told t a hs, state_Start_told, ref_Start_told, state_Check_told t hs, ref_Check_told t hs]
  simp [state_Apply_told t a hs, same_vals (a := (app t s a).1) (by omega), same_vals (a := (start t).1) (by omega)]
theorem fold_small (t : Int) (args : List Int) : (fold t args).1.length ≤ 64 := by
  have := (foldk t args args.length (Nat.le_refl _)).1
  rwa [List.take_length] at this
theorem StateFolds_law (t : Int) (s args : List Int) {p q r : Prop} (_ : p) (g1 : q ∧ s.length * 8 ≤ 140737488351232) (g2 : r ∧ args.length * 8 ≤ 140737488351232) : assizelaw08zStateFolds t s args = some true := by
  unfold assizelaw08zStateFolds
  have hs : s.length < 2 ^ 62 := by omega
  have ha : args.length < 2 ^ 62 := by omega
  have h1 := fold_small t args
  have h2 := before_small t s args
  rw [assizelaw08zalive_true, copied_told (a := args) (by omega), copied_told (a := s) (by omega), ref_Fold_told t ha, ref_Before_told t hs ha]
  simp [state_Fold_told t ha, state_Before_told t hs ha, same_vals (a := (fold t args).1) (by omega), same_vals (a := (before t s args).1) (by omega)]
theorem idx_last (l : List Int) (v : Int) : idx (l ++ [v]) (l.length : Int) = v := by
  rw [idx_get (by simp), List.getElem_append_right (Nat.le_refl _)]
  simp
theorem keeps_end {s l m : List Int} {x : List Int × Int} {z : List Int × Int} (hs : s.length * 8 ≤ 140737488351232) (hl : l.length < 2 ^ 42) (hm : m.length * 8 ≤ 140737488351240) (hx : x.1 = z.1) (hxl : x.1.length < 2 ^ 62) :
    iter (assizelaw08zStateKeeps.s2 s s x z l) (m, 0) = some (.inr true) := by
  refine tri_eq.1 ?_
  refine tri_up2 m.length (fun k q => q.length = m.length) rfl (fun k q hk hJ => ?_)
  have hJ : q.length = m.length := hJ
  unfold assizelaw08zStateKeeps.s2
  refine tri_bif (fun h => ?_) (fun h => ?_)
  · have h : (k : Int) < q.length := of_decide_eq_true h
    refine tri_must (by omega) ⟨_, rfl, w64zsucc (by omega), by omega, by simpa using hJ⟩
  · have e0 : subl (s ++ ([7, 8] : List Int)) (0 : Int) (s.length : Int) = s := by simp [subl]
    have e1 : idx (s ++ ([7, 8] : List Int)) (s.length : Int) = 7 := by
      rw [idx_get (by simp), List.getElem_append_right (Nat.le_refl _)]; simp
    have e2 : w64 ((s.length : Int) + 1) = ((s.length + 1 : Nat) : Int) := w64zsucc (by omega)
    have e3 : idx (s ++ ([7, 8] : List Int)) ((s.length + 1 : Nat) : Int) = 8 := by
      rw [idx_get (by simp), List.getElem_append_right (by omega)]; simp
    have e4 : ∀ v : Int, w64 (((l ++ [v]).length : Int) - 1) = (l.length : Int) := fun v => by
      rw [List.length_append, w64zpred (by simp; omega) (by simp)]; simp
    have e5 : ∀ v : Int, w64 (((q ++ [v]).length : Int) - 1) = (q.length : Int) := fun v => by
      rw [List.length_append, w64zpred (by simp; omega) (by simp)]; simp
    refine tri_must ⟨by omega, by omega⟩ (tri_must ⟨by omega, by omega⟩ ?_)
    rw [e0, same_vals (by omega), same_vals (by omega), e1, e2, e3, e4, e5, idx_last, idx_last]
    simp only [Option.bind_some, decide_true, cond_true, hx]
    refine tri_must ⟨by omega, by simp <;> omega⟩ ?_
    rw [show ((7 : Int) == 7) = true from rfl, cond_true]
    refine tri_must ⟨by omega, by simp <;> omega⟩ ?_
    rw [show ((8 : Int) == 8) = true from rfl, cond_true]
    refine tri_must ⟨by omega, by simp <;> omega⟩ ?_
    rw [show ((5 : Int) == 5) = true from rfl, cond_true]
    refine tri_must ⟨by omega, by simp <;> omega⟩ ?_
    rw [show ((6 : Int) == 6) = true from rfl]
    exact ⟨_, rfl, rfl⟩
theorem StateKeeps_law (t : Int) (s : List Int) (a : Int) {p q r : Prop} (_ : p) (g1 : q ∧ s.length * 8 ≤ 140737488351232) (_ : r) : assizelaw08zStateKeeps t s a = some true := by
  unfold assizelaw08zStateKeeps
  have hs : s.length < 2 ^ 62 := by omega
  have h1 := app_small t s a
  have h2 := before_small t s [a]
  have e0 : subl (s ++ ([7, 8] : List Int)) (0 : Int) (s.length : Int) = s := by simp [subl]
  rw [assizelaw08zalive_true, copied_told (by omega), ref_Apply_told t a hs]
  simp only [Option.bind_some, Bool.not_true, cond_false]
  rw [must_pos _ ⟨by omega, by omega⟩, must_pos _ ⟨by omega, by omega, by simp <;> omega⟩, e0, state_Apply_told t a hs, state_Before_told t hs (by simp)]
  simp only [Option.bind_some]
  refine tri_eq.1 ?_
  refine tri_up2 (app t s a).1.length (fun k q => q.length = (app t s a).1.length) rfl (fun k q hk hJ => ?_)
  have hJ : q.length = (app t s a).1.length := hJ
  unfold assizelaw08zStateKeeps.s1
  refine tri_bif (fun h => ?_) (fun h => ?_)
  · have h : (k : Int) < q.length := of_decide_eq_true h
    refine tri_must (by omega) ⟨_, rfl, w64zsucc (by omega), by omega, by simpa using hJ⟩
  · rw [keeps_end (by omega) (by omega) (by omega) rfl (by omega)]
    exact ⟨_, rfl, rfl⟩
end Go.Proofs.YtmfihodpbladeaaT
