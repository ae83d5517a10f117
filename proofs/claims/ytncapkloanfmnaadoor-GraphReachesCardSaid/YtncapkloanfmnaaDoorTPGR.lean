/- The law GraphReaches: the plain function answers true. -/
import Derived.Test.YtncapkloanfmnaaDoorTPG
import Derived.Test.YtncapkloanfmnaaDoorTF
namespace Go.Proofs.YtncapkloanfmnaaDoorT
open Go Go.Proofs Go.Proofs.YtncapkloanfmnaaDoorE
set_option linter.unusedVariables false
set_option linter.unusedSimpArgs false
theorem copy_eq {g : Graph} (h : g.Edges.length * 32 ≤ 140737488355328) : assizeref06zCopy g = some g := by
  unfold assizeref06zCopy
  rw [must_pos _ ⟨by omega, by omega⟩]
  rfl
theorem ref_Reach_told {g : Graph} (mask : Int) (hg : Good g) {x : Int} (h0 : 0 ≤ x) (h1 : x < g.N) : Tri (assizeref06zReach g mask x) (fun r => r.2 = 0 ∧ Row r.1 g.N.toNat (Way (Sel g mask) x.toNat)) := by
  obtain ⟨n, rfl⟩ : ∃ n : Nat, x = n := ⟨x.toNat, by omega⟩
  unfold assizeref06zReach
  refine tri_bind (ref_Closure_told mask hg) (fun r hr => ?_)
  obtain ⟨r, e⟩ := r
  obtain ⟨he, hr⟩ := hr
  have he : e = 0 := he
  have hr : Mx r g.N.toNat (Way (Sel g mask)) := hr
  subst he
  show Tri (bif decide ((n : Int) < 0) then assizeref06zReach.j1 n (r, 0) true else assizeref06zReach.j1 n (r, 0) (decide ((n : Int) ≥ g.N))) _
  refine tri_bif (fun h => by have := of_decide_eq_true h; omega) (fun _ => ?_)
  unfold assizeref06zReach.j1
  refine tri_bif (fun h => by have := of_decide_eq_true h; omega) (fun _ => ?_)
  have hl : r.length = g.N.toNat := hr.1
  have hl2 : (n : Int) < (r.length : Int) := by omega
  refine tri_must ⟨by omega, hl2⟩ ⟨_, rfl, rfl, hr.2 n (by omega)⟩
theorem GraphReaches_true (g : Graph) (mask x : Int) (hb : g.Edges.length * 32 ≤ 140737488355328) : assizelaw06zGraphReaches g mask x = some true := by
  unfold assizelaw06zGraphReaches
  rw [assizelaw06zalive_true, copy_eq hb]
  refine tri_eq.1 ?_
  by_cases hg : Good g
  · obtain ⟨⟨c, c1⟩, hc, hc1, hcm⟩ := graph_Closure_told mask hg
    obtain ⟨⟨d, d1⟩, hd, hd1, hdm⟩ := ref_Closure_told mask hg
    have hc1 : c1 = 0 := hc1
    have hd1 : d1 = 0 := hd1
    have hcm : Mx c g.N.toNat (Way (Sel g mask)) := hcm
    have hdm : Mx d g.N.toNat (Way (Sel g mask)) := hdm
    subst hc1 hd1
    have e := hcm.eq hdm
    subst e
    have hn : g.N.toNat < 2 ^ 62 := by have := hg.n1; omega
    obtain ⟨a, ha, b⟩ : ∃ a : List Bool × Int, graph_Reach g mask x = some a ∧ assizeref06zReach g mask x = some a ∧ a.1.length < 2 ^ 62 := by
      by_cases hx : 0 ≤ x ∧ x < g.N
      · obtain ⟨⟨a, a1⟩, ha, ha1, ham⟩ := graph_Reach_told mask hg hx.1 hx.2
        obtain ⟨⟨b, b1⟩, hb, hb1, hbm⟩ := ref_Reach_told mask hg hx.1 hx.2
        have ha1 : a1 = 0 := ha1
        have hb1 : b1 = 0 := hb1
        have ham : Row a g.N.toNat (Way (Sel g mask) x.toNat) := ham
        have hbm : Row b g.N.toNat (Way (Sel g mask) x.toNat) := hbm
        subst ha1 hb1
        have e := ham.eq hbm
        subst e
        exact ⟨_, ha, hb, by show a.length < _; rw [ham.1]; exact hn⟩
      · refine ⟨([], 1), ?_, ?_, by decide⟩
        · unfold graph_Reach
          rw [check_good hg]
          show (bif decide (x < 0) then graph_Reach.j1 g mask x true else graph_Reach.j1 g mask x (decide (x ≥ g.N))) = _
          by_cases h : x < 0
          · rw [decide_eq_true h]; rfl
          · rw [decide_eq_false h, decide_eq_true (show x ≥ g.N by omega)]; rfl
        · unfold assizeref06zReach
          rw [hd]
          show (bif decide (x < 0) then assizeref06zReach.j1 x (c, 0) true else assizeref06zReach.j1 x (c, 0) (decide (x ≥ g.N))) = _
          by_cases h : x < 0
          · rw [decide_eq_true h]; rfl
          · rw [decide_eq_false h, decide_eq_true (show x ≥ g.N by omega)]; rfl
    obtain ⟨a, a1⟩ := a
    have hal : a.length < 2 ^ 62 := b.2
    refine ⟨true, ?_, rfl⟩
    simp only [Option.bind_some, Bool.not_true, cond_false, ha, b.1, hc, hd, beq_self_eq_true, cond_true, same_bools hal, mx_same hcm hn, check_good hg, ref_good hg, same_edges (show g.Edges.length < 2 ^ 62 by omega)]
  · have h1 : graph_Reach g mask x = some ([], 60) := by unfold graph_Reach; rw [check_bad hg]; rfl
    have h2 : graph_Closure g mask = some ([], 60) := by unfold graph_Closure; rw [check_bad hg]; rfl
    have h3 : assizeref06zClosure g mask = some ([], 60) := by unfold assizeref06zClosure; rw [ref_bad hg]; rfl
    have h4 : assizeref06zReach g mask x = some ([], 60) := by unfold assizeref06zReach; rw [h3]; rfl
    have hs : assizeref06zSameBools [] [] = some true := same_bools (by decide)
    have hm : assizelaw06zsameAll [] [] = some true := same_all (by decide) (fun k hk => by cases hk)
    refine ⟨true, ?_, rfl⟩
    simp only [Option.bind_some, Bool.not_true, cond_false, h1, h2, h3, h4, beq_self_eq_true, cond_true, hs, hm, check_bad hg, ref_bad hg, same_edges (show g.Edges.length < 2 ^ 62 by omega)]
theorem GraphReaches_law (g : Graph) (mask x : Int) {p q r s : Prop} (g0 : p ∧ (q ∧ g.Edges.length * 32 ≤ 140737488351232)) (_ : r) (_ : s) : assizelaw06zGraphReaches g mask x = some true :=
  GraphReaches_true g mask x (by have := g0.2.2; omega)
end Go.Proofs.YtncapkloanfmnaaDoorT
