/- The law GraphKeeps: the plain function answers true. -/
import Derived.Test.YtncapkloanfmnaaDoorTPG
import Derived.Test.YtncapkloanfmnaaDoorTF
namespace Go.Proofs.YtncapkloanfmnaaDoorT
open Go Go.Proofs Go.Proofs.YtncapkloanfmnaaDoorE
set_option linter.unusedVariables false
set_option linter.unusedSimpArgs false
theorem idx_set_nat {α : Type} [Inhabited α] {xs : List α} {i j : Nat} {v : α} (h : i < xs.length) : idx (xs.set i v) (j : Int) = if j = i then v else idx xs (j : Int) := by
  have := idx_set (xs := xs) (i := (i : Int)) (j := j) (v := v) (by omega) (by omega)
  rw [Int.toNat_natCast] at this
  rw [this]
  by_cases e : j = i
  · subst e; simp
  · have : ¬ (j : Int) = (i : Int) := by omega
    simp [e, this]
theorem keeps_loop {a b c : List (List Bool)} {n : Nat} (hn : n ≤ 64) (la : a.length = n) (lb : c.length = n) (hac : ∀ k : Nat, k < n → idx a (k : Int) = idx c (k : Int)) (hrow : ∀ k : Nat, k < n → (idx c (k : Int)).length = n)
    (hbc : assizelaw06zsameAll b c = some true) (e1 e2 : Int) : Tri (iter (assizelaw06zGraphKeeps.s2 (b, e1) (c, e2)) (a, 0)) (fun r => r = true) := by
  refine tri_up2 n (fun k l => l.length = n ∧ ∀ j : Nat, k ≤ j → j < n → idx l (j : Int) = idx c (j : Int)) ⟨la, fun j _ hj => hac j hj⟩ (fun k l hk hJ => ?_)
  have hl := hJ.1
  show Tri (bif decide ((k : Int) < (l.length : Int)) then must (0 ≤ (k : Int) ∧ (k : Int) < (l.length : Int)) (must (0 ≤ (k : Int) ∧ (k : Int) < (c.length : Int)) ((assizeref06zSameBools (idx l (k : Int)) (idx c (k : Int))).bind fun y => assizelaw06zGraphKeeps.j3 l (k : Int) (!y))) else ((assizelaw06zsameAll b c).bind fun y => out (some y))) _
  refine tri_bif (fun h => ?_) (fun h => ?_)
  · have h : (k : Int) < l.length := of_decide_eq_true h
    have hkn : k < n := by omega
    have hr := hrow k hkn
    refine tri_must ⟨by omega, h⟩ (tri_must ⟨by omega, by omega⟩ ?_)
    rw [hJ.2 k (Nat.le_refl _) hkn, same_bools (by omega)]
    show Tri (assizelaw06zGraphKeeps.j3 l (k : Int) false) _
    unfold assizelaw06zGraphKeeps.j3
    show Tri (iter (assizelaw06zGraphKeeps.s4 (k : Int)) (l, 0)) _
    refine tri_up2 n (fun j m => m.length = n ∧ (idx m (k : Int)).length = n ∧ ∀ q : Nat, k + 1 ≤ q → q < n → idx m (q : Int) = idx c (q : Int)) ⟨hl, by rw [hJ.2 k (Nat.le_refl _) hkn]; exact hr, fun q h1 h2 => hJ.2 q (by omega) h2⟩ (fun j m hj hm => ?_)
    obtain ⟨hm1, hm2, hm3⟩ := hm
    show Tri (must (0 ≤ (k : Int) ∧ (k : Int) < (m.length : Int)) (bif decide ((j : Int) < ((idx m (k : Int)).length : Int)) then _ else _)) _
    refine tri_must ⟨by omega, by omega⟩ ?_
    refine tri_bif (fun h => ?_) (fun h => ?_)
    · have h : (j : Int) < (idx m (k : Int)).length := of_decide_eq_true h
      refine tri_must ⟨by omega, h⟩ ⟨_, rfl, w64zsucc (by omega), by omega, by simp [hm1], ?_, fun q h1 h2 => ?_⟩
      · rw [Int.toNat_natCast, Int.toNat_natCast, idx_set_nat (by omega), if_pos rfl, List.length_set]
        exact hm2
      · rw [Int.toNat_natCast, Int.toNat_natCast, idx_set_nat (by omega), if_neg (by omega)]
        exact hm3 q h1 h2
    · refine tri_must ⟨by omega, by omega⟩ (tri_out ⟨_, rfl, w64zsucc (by omega), hkn, by simp [hm1], fun q h1 h2 => ?_⟩)
      rw [Int.toNat_natCast, idx_set_nat (by omega), if_neg (by omega)]
      exact hm3 q h1 h2
  · rw [hbc]
    exact ⟨_, rfl, rfl⟩
theorem GraphKeeps_true (g : Graph) (mask : Int) : assizelaw06zGraphKeeps g mask = some true := by
  unfold assizelaw06zGraphKeeps
  rw [assizelaw06zalive_true]
  refine tri_eq.1 ?_
  by_cases hg : Good g
  · obtain ⟨⟨a, a1⟩, ha, ha1, ham⟩ := graph_Closure_told mask hg
    obtain ⟨⟨c, c1⟩, hc, hc1, hcm⟩ := ref_Closure_told mask hg
    have ha1 : a1 = 0 := ha1
    have hc1 : c1 = 0 := hc1
    have ham : Mx a g.N.toNat (Way (Sel g mask)) := ham
    have hcm : Mx c g.N.toNat (Way (Sel g mask)) := hcm
    subst ha1 hc1
    have e := ham.eq hcm
    subst e
    have hn := hg.n1
    show Tri ((graph_Closure g mask).bind fun y15 => (graph_Closure g mask).bind fun y23 => (assizeref06zClosure g mask).bind fun y31 => bif (y15.2 != y31.2) then assizelaw06zGraphKeeps.j1 y15 y23 y31 true else (bif (y23.2 != y31.2) then assizelaw06zGraphKeeps.j1 y15 y23 y31 true else (assizelaw06zGraphKeeps.j1 y15 y23 y31 ((y15.1.length : Int) != (y31.1.length : Int))))) _
    rw [ha, hc]
    show Tri (assizelaw06zGraphKeeps.j1 (a, 0) (a, 0) (a, 0) ((a.length : Int) != (a.length : Int))) _
    rw [show ((a.length : Int) != (a.length : Int)) = false by simp]
    unfold assizelaw06zGraphKeeps.j1
    exact keeps_loop (n := g.N.toNat) (by omega) ham.1 ham.1 (fun k hk => rfl) (fun k hk => (ham.2 k hk).1) (mx_same ham (by omega)) 0 0
  · have h1 : graph_Closure g mask = some ([], 60) := by unfold graph_Closure; rw [check_bad hg]; rfl
    have h3 : assizeref06zClosure g mask = some ([], 60) := by unfold assizeref06zClosure; rw [ref_bad hg]; rfl
    show Tri ((graph_Closure g mask).bind fun y15 => (graph_Closure g mask).bind fun y23 => (assizeref06zClosure g mask).bind fun y31 => bif (y15.2 != y31.2) then assizelaw06zGraphKeeps.j1 y15 y23 y31 true else (bif (y23.2 != y31.2) then assizelaw06zGraphKeeps.j1 y15 y23 y31 true else (assizelaw06zGraphKeeps.j1 y15 y23 y31 ((y15.1.length : Int) != (y31.1.length : Int))))) _
    rw [h1, h3]
    show Tri (assizelaw06zGraphKeeps.j1 ([], 60) ([], 60) ([], 60) false) _
    unfold assizelaw06zGraphKeeps.j1
    exact keeps_loop (n := 0) (by omega) rfl rfl (fun k hk => by omega) (fun k hk => by omega) (same_all (by decide) (fun k hk => by cases hk)) 60 60
theorem GraphKeeps_law (g : Graph) (mask : Int) {p q r : Prop} (_ : p ∧ (q ∧ g.Edges.length * 32 ≤ 140737488351232)) (_ : r) : assizelaw06zGraphKeeps g mask = some true :=
  GraphKeeps_true g mask
end Go.Proofs.YtncapkloanfmnaaDoorT
