/- The law GraphOrders: the plain function answers true. -/
import Derived.Test.YtncapkloanfmnaaDoorTPGS
import Derived.Test.YtncapkloanfmnaaDoorTPGN
import Derived.Test.YtncapkloanfmnaaDoorTF
namespace Go.Proofs.YtncapkloanfmnaaDoorT
open Go Go.Proofs Go.Proofs.YtncapkloanfmnaaDoorE
set_option linter.unusedVariables false
set_option linter.unusedSimpArgs false
theorem copy_eq {g : Graph} (h : g.Edges.length * 32 ≤ 140737488355328) : assizeref06zCopy g = some g := by
  unfold assizeref06zCopy
  rw [must_pos _ ⟨by omega, by omega⟩]
  rfl
theorem same_ints {l : List Int} (h : l.length < 2 ^ 62) : assizeref05zSameInts l l = some true := by
  unfold assizeref05zSameInts
  rw [show ((l.length : Int) != (l.length : Int)) = false by simp]
  refine tri_eq.1 (tri_up l.length (fun _ => True) trivial (fun k hk _ => ?_))
  show Tri (bif decide ((k : Int) < (l.length : Int)) then _ else _) _
  refine tri_bif (fun h => ?_) (fun h => tri_out ⟨_, rfl, rfl⟩)
  have h : (k : Int) < l.length := of_decide_eq_true h
  refine tri_must ⟨by omega, h⟩ (tri_must ⟨by omega, h⟩ ?_)
  rw [show (idx l (k : Int) != idx l (k : Int)) = false by simp]
  exact ⟨_, rfl, w64zsucc (by omega), by omega, trivial⟩
theorem OrdOut.short {n : Nat} {S : Nat → Nat → Prop} {r : List Int × Bool × Int} (h : OrdOut n S r) : r.1.length ≤ n := by
  rcases h with ⟨l, _, h, rfl⟩ | ⟨l, _, _, _, rfl⟩
  · simp [h]
  · simp
theorem GraphOrders_true (g : Graph) (mask : Int) (hb : g.Edges.length * 32 ≤ 140737488351232) : assizelaw06zGraphOrders g mask = some true := by
  unfold assizelaw06zGraphOrders
  rw [assizelaw06zalive_true, copy_eq (by omega)]
  refine tri_eq.1 ?_
  by_cases hg : Good g
  · obtain ⟨a, ha, ha1⟩ := graph_Order_told mask hg
    obtain ⟨b, hb, hb1⟩ := ref_Order_told mask hg
    have e := ha1.eq hb1
    subst e
    obtain ⟨⟨c, c1⟩, hc, hc1, hcm⟩ := graph_Parts_told mask hg
    obtain ⟨⟨d, d1⟩, hd, hd1, hdm⟩ := ref_Parts_told mask hg
    have hc1 : c1 = 0 := hc1
    have hd1 : d1 = 0 := hd1
    have hcm : Canon g.N.toNat (Eqv (Sel g mask)) c := hcm
    have hdm : Canon g.N.toNat (Eqv (Sel g mask)) d := hdm
    subst hc1 hd1
    have e := hcm.eq hdm
    subst e
    have hn := hg.n1
    have l1 : a.1.length < 2 ^ 62 := by have := ha1.short; omega
    have l2 : c.length < 2 ^ 62 := by have h9 : c.length = g.N.toNat := hcm.len; omega
    refine ⟨true, ?_, rfl⟩
    simp only [Option.bind_some, Bool.not_true, cond_false, ha, hb, hc, hd, beq_self_eq_true, cond_true, same_ints l1, same_ints l2]
  · have h1 : graph_Order g mask = some ([], false, 60) := by unfold graph_Order; rw [check_bad hg]; rfl
    have h2 : assizeref06zOrder g mask = some ([], false, 60) := by unfold assizeref06zOrder; rw [ref_bad hg]; rfl
    have h3 : graph_Parts g mask = some ([], 60) := by unfold graph_Parts; rw [check_bad hg]; rfl
    have h0 : assizeref06zClosure g mask = some ([], 60) := by unfold assizeref06zClosure; rw [ref_bad hg]; rfl
    have h4 : assizeref06zParts g mask = some ([], 60) := by unfold assizeref06zParts; rw [h0]; rfl
    have hs : assizeref05zSameInts [] [] = some true := same_ints (by decide)
    refine ⟨true, ?_, rfl⟩
    simp only [Option.bind_some, Bool.not_true, cond_false, h1, h2, h3, h4, beq_self_eq_true, cond_true, hs]
theorem GraphOrders_law (g : Graph) (mask : Int) {p q r : Prop} (g0 : p ∧ (q ∧ g.Edges.length * 32 ≤ 140737488351232)) (_ : r) : assizelaw06zGraphOrders g mask = some true :=
  GraphOrders_true g mask g0.2.2
end Go.Proofs.YtncapkloanfmnaaDoorT
