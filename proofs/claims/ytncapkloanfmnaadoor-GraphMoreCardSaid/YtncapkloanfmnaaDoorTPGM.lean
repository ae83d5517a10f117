/- The law GraphMore: the plain function answers true. -/
import Derived.Test.YtncapkloanfmnaaDoorTPG
import Derived.Test.YtncapkloanfmnaaDoorTF
namespace Go.Proofs.YtncapkloanfmnaaDoorT
open Go Go.Proofs Go.Proofs.YtncapkloanfmnaaDoorE
set_option linter.unusedVariables false
set_option linter.unusedSimpArgs false
theorem copy_eq {g : Graph} (h : g.Edges.length * 32 ≤ 140737488355328) : assizeref06zCopy g = some g := by
  unfold assizeref06zCopy
  rw [must_pos _ ⟨by omega, by omega⟩]
  rfl
theorem idx_app {α : Type} [Inhabited α] {xs : List α} {y : α} {k : Nat} : idx (xs ++ [y]) (k : Int) = if k < xs.length then idx xs (k : Int) else if k = xs.length then y else default := by
  rw [idx_nat, idx_nat]
  simp only [List.getD_eq_getElem?_getD]
  by_cases h : k < xs.length
  · rw [List.getElem?_append_left h, if_pos h]
  · rw [if_neg h, List.getElem?_append_right (by omega)]
    by_cases e : k = xs.length
    · rw [if_pos e, e]; simp
    · rw [if_neg e, List.getElem?_eq_none (by simp; omega)]; rfl
def more (g : Graph) (e : Edge) : Graph := ⟨g.N, g.Edges ++ [e]⟩
theorem more_good {g : Graph} {e : Edge} (h : Good (more g e)) : Good g := by
  have hm : g.Edges.length + 1 ≤ 262144 := by have := h.m; unfold more at this; simpa using this
  refine ⟨h.n0, h.n1, by omega, fun k hk => ?_⟩
  have := h.e k (by unfold more; simp; omega)
  unfold more at this
  rwa [idx_app, if_pos hk] at this
theorem sel_more {g : Graph} {e : Edge} {mask : Int} {i j : Nat} : Sel (more g e) mask i j ↔ Sel g mask i j ∨ (bAnd .i64 e.Kind mask ≠ 0 ∧ e.From = i ∧ e.To = j) := by
  unfold Sel SelK more
  constructor
  · rintro ⟨k, hk, h⟩
    simp only [List.length_append, List.length_singleton] at hk
    rw [idx_app] at h
    by_cases hl : k < g.Edges.length
    · rw [if_pos hl] at h; exact Or.inl ⟨k, hl, h⟩
    · rw [if_neg hl, if_pos (by omega)] at h; exact Or.inr h
  · rintro (⟨k, hk, h⟩ | h)
    · exact ⟨k, by simp; omega, by rw [idx_app, if_pos hk]; exact h⟩
    · exact ⟨g.Edges.length, by simp, by rw [idx_app, if_neg (Nat.lt_irrefl _), if_pos rfl]; exact h⟩
theorem way_mono {S S' : Nat → Nat → Prop} (h : ∀ i j, S i j → S' i j) {i j : Nat} (w : Way S i j) : Way S' i j := by
  induction w with
  | single h' => exact .single (h _ _ h')
  | tail _ h' ih => exact .tail ih (h _ _ h')
theorem GraphMore_true (g : Graph) (e : Edge) (mask : Int) (hb : g.Edges.length * 32 ≤ 140737488351232) : assizelaw06zGraphMore g e mask = some true := by
  unfold assizelaw06zGraphMore
  rw [assizelaw06zalive_true, copy_eq (by omega)]
  refine tri_eq.1 ?_
  show Tri (must _ _) _
  refine tri_must ⟨by omega, by omega⟩ ?_
  show Tri ((graph_Closure g mask).bind fun y35 => (graph_Closure (more g e) mask).bind fun y43 => bif (y35.2 != 0) then assizelaw06zGraphMore.j1 g e mask y35 y43 true else (assizelaw06zGraphMore.j1 g e mask y35 y43 (y43.2 != 0))) _
  have bad : ∀ g : Graph, ¬ Good g → graph_Closure g mask = some ([], 60) := fun g hg => by unfold graph_Closure; rw [check_bad hg]; rfl
  by_cases hg : Good g
  · obtain ⟨⟨a, a1⟩, ha, ha1, ham⟩ := graph_Closure_told mask hg
    have ha1 : a1 = 0 := ha1
    have ham : Mx a g.N.toNat (Way (Sel g mask)) := ham
    subst ha1
    rw [ha]
    by_cases hc : Good (more g e)
    · obtain ⟨⟨b, b1⟩, hb, hb1, hbm⟩ := graph_Closure_told mask hc
      have hb1 : b1 = 0 := hb1
      have hbm : Mx b g.N.toNat (Way (Sel (more g e) mask)) := hbm
      subst hb1
      rw [hb]
      show Tri (assizelaw06zGraphMore.j1 g e mask (a, 0) (b, 0) false) _
      unfold assizelaw06zGraphMore.j1
      have la : a.length = g.N.toNat := ham.1
      have lb : b.length = g.N.toNat := hbm.1
      have hn := hg.n1
      rw [show (((a, (0 : Int)).1.length : Int) != ((b, (0 : Int)).1.length : Int)) = false by show ((a.length : Int) != (b.length : Int)) = false; rw [la, lb]; simp]
      refine tri_up a.length (fun _ => True) trivial (fun k hk _ => ?_)
      show Tri (bif decide ((k : Int) < (a.length : Int)) then must (0 ≤ (k : Int) ∧ (k : Int) < (a.length : Int)) (must (0 ≤ (k : Int) ∧ (k : Int) < (b.length : Int)) (bif (((idx a k).length : Int) != ((idx b k).length : Int)) then out (some false) else (iter (assizelaw06zGraphMore.s3 e mask (a, 0) (b, 0) k) 0))) else (out (some true))) _
      refine tri_bif (fun h => ?_) (fun h => tri_out ⟨_, rfl, rfl⟩)
      have h : (k : Int) < a.length := of_decide_eq_true h
      have hkn : k < g.N.toNat := by omega
      refine tri_must ⟨by omega, h⟩ (tri_must ⟨by omega, by omega⟩ ?_)
      have ra : Row (idx a (k : Int)) g.N.toNat (Way (Sel g mask) k) := ham.2 k hkn
      have rb : Row (idx b (k : Int)) g.N.toNat (Way (Sel (more g e) mask) k) := hbm.2 k hkn
      have lra := ra.1
      have lrb := rb.1
      rw [show (((idx a (k : Int)).length : Int) != ((idx b (k : Int)).length : Int)) = false by rw [lra, lrb]; simp]
      refine tri_up g.N.toNat (fun _ => True) trivial (fun j hj _ => ?_)
      unfold assizelaw06zGraphMore.s3
      show Tri (bif decide ((j : Int) < ((idx a (k : Int)).length : Int)) then _ else _) _
      refine tri_bif (fun h => ?_) (fun h => tri_out ⟨_, rfl, w64zsucc (by omega), by omega, trivial⟩)
      have h : (j : Int) < (idx a (k : Int)).length := of_decide_eq_true h
      have hjn : j < g.N.toNat := by omega
      have e1 := ra.2 j hjn
      have e2 := rb.2 j hjn
      have go : Tri (assizelaw06zGraphMore.j4 (j : Int) false) (Up g.N.toNat j (fun _ => True) (Rnd (fun s : Int => ∃ k : Nat, s = (k : Int) ∧ k ≤ a.length ∧ True) (fun s : Int => a.length - s.toNat) (fun b => b = true) (k : Int))) := ⟨_, rfl, w64zsucc (by omega), hjn, trivial⟩
      have go : Tri (assizelaw06zGraphMore.j4 (j : Int) false) (Up g.N.toNat j (fun _ => True) (Up a.length k (fun _ => True) (fun b => b = true))) := ⟨_, rfl, w64zsucc (by omega), hjn, trivial⟩
      refine tri_must ⟨by omega, h⟩ ?_
      have mono : idx (idx a (k : Int)) (j : Int) = true → idx (idx b (k : Int)) (j : Int) = true := fun hx => e2.2 (way_mono (fun i j h => sel_more.2 (Or.inl h)) (e1.1 hx))
      have same : bAnd .i64 e.Kind mask = 0 → idx (idx b (k : Int)) (j : Int) = true → idx (idx a (k : Int)) (j : Int) = true := fun hz hx => e1.2 (way_mono (fun i j h => (sel_more.1 h).elim id fun h => absurd hz h.1) (e2.1 hx))
      refine tri_bif (fun hx => ?_) (fun hx => ?_)
      · have hy := mono hx
        refine tri_must ⟨by omega, by show (j : Int) < (idx b (k : Int)).length; omega⟩ ?_
        refine tri_bif (fun h' => ?_) (fun _ => ?_)
        · have h' : (!idx (idx b (k : Int)) (j : Int)) = true := h'
          rw [hy] at h'; cases h'
        · refine tri_bif (fun _ => ?_) (fun _ => go)
          show Tri (assizelaw06zGraphMore.j4 (j : Int) (idx (idx a (k : Int)) (j : Int) != idx (idx b (k : Int)) (j : Int))) _
          have hx : idx (idx a (k : Int)) (j : Int) = true := hx
          rw [hx, hy]
          exact go
      · refine tri_bif (fun h0 => ?_) (fun _ => go)
        have h0 : bAnd .i64 e.Kind mask = 0 := by simpa using h0
        refine tri_must ⟨by omega, by show (j : Int) < (idx b (k : Int)).length; omega⟩ ?_
        show Tri (assizelaw06zGraphMore.j4 (j : Int) (idx (idx a (k : Int)) (j : Int) != idx (idx b (k : Int)) (j : Int))) _
        have hx : idx (idx a (k : Int)) (j : Int) = false := hx
        have hy : idx (idx b (k : Int)) (j : Int) = false := by
          cases hy : idx (idx b (k : Int)) (j : Int) with
          | false => rfl
          | true => rw [same h0 hy] at hx; cases hx
        rw [hx, hy]
        exact go
    · rw [bad _ hc]
      exact ⟨_, rfl, rfl⟩
  · rw [bad _ hg, bad _ (fun h => hg (more_good h))]
    exact ⟨_, rfl, rfl⟩
theorem GraphMore_law (g : Graph) (e : Edge) (mask : Int) {p q r s : Prop} (g0 : p ∧ (q ∧ g.Edges.length * 32 ≤ 140737488351232)) (_ : r) (_ : s) : assizelaw06zGraphMore g e mask = some true :=
  GraphMore_true g e mask g0.2.2
end Go.Proofs.YtncapkloanfmnaaDoorT
