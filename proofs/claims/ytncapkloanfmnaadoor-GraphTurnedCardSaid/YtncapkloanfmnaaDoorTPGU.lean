/- The law GraphTurned: the plain function answers true. -/
import Derived.Test.YtncapkloanfmnaaDoorTPGS
import Derived.Test.YtncapkloanfmnaaDoorTF
namespace Go.Proofs.YtncapkloanfmnaaDoorT
open Go Go.Proofs Go.Proofs.YtncapkloanfmnaaDoorE
set_option linter.unusedVariables false
set_option linter.unusedSimpArgs false
set_option maxRecDepth 4096
theorem same_ints {l : List Int} (h : l.length < 2 ^ 62) : assizeref05zSameInts l l = some true := by
  unfold assizeref05zSameInts
  rw [show ((l.length : Int) != (l.length : Int)) = false by simp]
  refine tri_eq.1 (tri_up l.length (fun _ => True) trivial (fun k hk _ => ?_))
  show Tri (bif decide ((k : Int) < (l.length : Int)) then _ else _) _
  refine tri_bif (fun h => ?_) (fun h => tri_out ⟨_, rfl, rfl⟩)
  have h : (k : Int) < l.length := of_decide_eq_true h
  refine tri_must ⟨by omega, h⟩ (tri_must ⟨by omega, h⟩ ?_)
  rw [show (idx l (k : Int) != idx l (k : Int)) = false by simp]
  exact ⟨_, rfl, w64zsucc (by omega), by omega, trivial⟩
def swap (e : Edge) : Edge := ⟨e.To, e.From, e.Kind, e.Key⟩
def turn (g : Graph) : Graph := ⟨g.N, g.Edges.map swap⟩
theorem idx_turn {g : Graph} {k : Nat} (h : k < g.Edges.length) : idx (turn g).Edges (k : Int) = swap (idx g.Edges (k : Int)) := by
  unfold turn
  rw [idx_eq (n := k) rfl (by simpa using h), idx_eq (n := k) rfl h]
  simp
theorem turn_len (g : Graph) : (turn g).Edges.length = g.Edges.length := by simp [turn]
theorem turn_good {g : Graph} : Good (turn g) ↔ Good g := by
  constructor
  · intro h
    refine ⟨h.n0, h.n1, by have := h.m; rw [turn_len] at this; exact this, fun k hk => ?_⟩
    have := h.e k (by rw [turn_len]; exact hk)
    rw [idx_turn hk] at this
    unfold okEdge swap at this
    unfold okEdge
    exact ⟨this.2.2.1, this.2.2.2.1, this.1, this.2.1, this.2.2.2.2⟩
  · intro h
    refine ⟨h.n0, h.n1, by rw [turn_len]; exact h.m, fun k hk => ?_⟩
    rw [turn_len] at hk
    have := h.e k hk
    rw [idx_turn hk]
    unfold okEdge at this
    unfold okEdge swap
    exact ⟨this.2.2.1, this.2.2.2.1, this.1, this.2.1, this.2.2.2.2⟩
theorem turn_sel {g : Graph} {mask : Int} {i j : Nat} : Sel (turn g) mask i j ↔ Sel g mask j i := by
  unfold Sel SelK
  rw [turn_len]
  constructor
  · rintro ⟨k, hk, h⟩
    rw [idx_turn hk] at h
    exact ⟨k, hk, h.1, h.2.2, h.2.1⟩
  · rintro ⟨k, hk, h⟩
    refine ⟨k, hk, ?_⟩
    rw [idx_turn hk]
    exact ⟨h.1, h.2.2, h.2.1⟩
theorem way_turn {S T : Nat → Nat → Prop} (h : ∀ i j, T i j → S j i) {i j : Nat} (w : Way T i j) : Way S j i := by
  induction w with
  | single e => exact .single (h _ _ e)
  | tail _ e ih => exact (Relation.TransGen.single (h _ _ e)).trans ih
theorem GraphTurned_true (g : Graph) (mask : Int) (hb : g.Edges.length * 32 ≤ 140737488351232) : assizelaw06zGraphTurned g mask = some true := by
  unfold assizelaw06zGraphTurned
  rw [assizelaw06zalive_true]
  refine tri_eq.1 ?_
  show Tri (iter (assizelaw06zGraphTurned.s1 g mask) ([], 0)) _
  refine tri_up2 g.Edges.length (fun k l => l = (g.Edges.take k).map swap) (by simp) (fun k l hk hJ => ?_)
  have hl : l.length = k := by rw [hJ]; simp; omega
  show Tri (bif decide ((k : Int) < (g.Edges.length : Int)) then must (0 ≤ (k : Int) ∧ (k : Int) < (g.Edges.length : Int)) (must ((l.length + 1) * 32 ≤ 140737488355328 ∧ l.length + 1 ≤ 9223372036854775807) (some (.inl (l ++ ([swap (idx g.Edges (k : Int))] : List Edge), w64 ((k : Int) + 1))))) else ((graph_Closure g mask).bind fun y191 => (graph_Closure (⟨g.N, l⟩ : Graph) mask).bind fun y199 => (graph_Parts g mask).bind fun y207 => (graph_Parts (⟨g.N, l⟩ : Graph) mask).bind fun y215 => bif (y191.2 != y199.2) then assizelaw06zGraphTurned.j2 y191 y199 true else (bif (y207.2 != y215.2) then assizelaw06zGraphTurned.j2 y191 y199 true else (bif ((y191.1.length : Int) != (y199.1.length : Int)) then assizelaw06zGraphTurned.j2 y191 y199 true else ((assizeref05zSameInts y207.1 y215.1).bind fun y2008 => assizelaw06zGraphTurned.j2 y191 y199 (!y2008)))))) _
  refine tri_bif (fun h => ?_) (fun h => ?_)
  · have h : (k : Int) < g.Edges.length := of_decide_eq_true h
    refine tri_must ⟨by omega, h⟩ (tri_must ⟨by omega, by omega⟩ ⟨_, rfl, w64zsucc (by omega), by omega, ?_⟩)
    have hk' : k < g.Edges.length := by omega
    show l ++ [swap (idx g.Edges (k : Int))] = (g.Edges.take (k + 1)).map swap
    rw [hJ, List.take_succ_eq_append_getElem hk', List.map_append, idx_eq (n := k) rfl hk']
    rfl
  · have h : ¬ (k : Int) < g.Edges.length := of_decide_eq_false h
    have e : k = g.Edges.length := by omega
    have hl2 : l = g.Edges.map swap := by rw [hJ, e, List.take_length]
    have ht : (⟨g.N, l⟩ : Graph) = turn g := by rw [hl2]; rfl
    rw [ht]
    by_cases hg : Good g
    · obtain ⟨⟨a, a1⟩, ha, i1, i2⟩ := graph_Closure_told mask hg
      obtain ⟨⟨b, b1⟩, hb', i3, i4⟩ := graph_Closure_told mask (turn_good.2 hg)
      obtain ⟨⟨p, p1⟩, hp, i5, i6⟩ := graph_Parts_told mask hg
      obtain ⟨⟨q, q1⟩, hq, i7, i8⟩ := graph_Parts_told mask (turn_good.2 hg)
      have e1 : a1 = 0 := i1
      have e2 : b1 = 0 := i3
      have e3 : p1 = 0 := i5
      have e4 : q1 = 0 := i7
      have ham : Mx a g.N.toNat (Way (Sel g mask)) := i2
      have hbm : Mx b g.N.toNat (Way (Sel (turn g) mask)) := i4
      have hpm : Canon g.N.toNat (Eqv (Sel g mask)) p := i6
      have hqm : Canon g.N.toNat (Eqv (Sel (turn g) mask)) q := i8
      clear i1 i2 i3 i4 i5 i6 i7 i8
      subst e1 e2 e3 e4
      have hw : ∀ i j, Way (Sel (turn g) mask) i j ↔ Way (Sel g mask) j i := fun i j => ⟨way_turn fun i j h => turn_sel.1 h, way_turn fun i j h => turn_sel.2 h⟩
      have hr : ∀ i j, Rch (Sel (turn g) mask) i j ↔ Rch (Sel g mask) j i := fun i j => by
        unfold Rch
        rw [hw]
        exact ⟨fun h => h.imp Eq.symm id, fun h => h.imp Eq.symm id⟩
      have hpq : p = q := hpm.eq (hqm.congr fun i j _ _ => by unfold Eqv; rw [hr, hr]; exact ⟨fun h => ⟨h.2, h.1⟩, fun h => ⟨h.2, h.1⟩⟩)
      subst hpq
      have hn := hg.n1
      have la : a.length = g.N.toNat := ham.1
      have lb : b.length = g.N.toNat := hbm.1
      have lp : p.length = g.N.toNat := hpm.len
      rw [ha, hb', hp, hq]
      show Tri (bif ((a.length : Int) != (b.length : Int)) then assizelaw06zGraphTurned.j2 (a, 0) (b, 0) true else ((assizeref05zSameInts p p).bind fun y2008 => assizelaw06zGraphTurned.j2 (a, 0) (b, 0) (!y2008))) _
      rw [show ((a.length : Int) != (b.length : Int)) = false by rw [la, lb]; simp, cond_false, same_ints (show p.length < 2 ^ 62 by omega)]
      show Tri (iter (assizelaw06zGraphTurned.s3 (a, 0) (b, 0)) 0) _
      refine tri_up g.N.toNat (fun _ => True) trivial (fun x hx _ => ?_)
      show Tri (bif decide ((x : Int) < (a.length : Int)) then iter (assizelaw06zGraphTurned.s4 (a, 0) (b, 0) (x : Int)) 0 else (out (out (some true)))) _
      refine tri_bif (fun h => ?_) (fun h => tri_out (tri_out ⟨_, rfl, rfl⟩))
      have h : (x : Int) < a.length := of_decide_eq_true h
      have hxn : x < g.N.toNat := by omega
      refine tri_up g.N.toNat (fun _ => True) trivial (fun y hy _ => ?_)
      show Tri (bif decide ((y : Int) < (a.length : Int)) then must (0 ≤ (x : Int) ∧ (x : Int) < (a.length : Int)) (bif (((idx a (x : Int)).length : Int) != (a.length : Int)) then assizelaw06zGraphTurned.j5 (y : Int) true else (must (0 ≤ (y : Int) ∧ (y : Int) < (b.length : Int)) (bif (((idx b (y : Int)).length : Int) != (a.length : Int)) then assizelaw06zGraphTurned.j5 (y : Int) true else (must (0 ≤ (y : Int) ∧ (y : Int) < ((idx a (x : Int)).length : Int)) (must (0 ≤ (x : Int) ∧ (x : Int) < ((idx b (y : Int)).length : Int)) (assizelaw06zGraphTurned.j5 (y : Int) (idx (idx a (x : Int)) (y : Int) != idx (idx b (y : Int)) (x : Int))))))) ) else (out (some (.inl (w64 ((x : Int) + 1)))))) _
      refine tri_bif (fun h2 => ?_) (fun h2 => tri_out ⟨_, rfl, w64zsucc (by omega), hxn, trivial⟩)
      have h2 : (y : Int) < a.length := of_decide_eq_true h2
      have hyn : y < g.N.toNat := by omega
      have ra : Row (idx a (x : Int)) g.N.toNat (Way (Sel g mask) x) := ham.2 x hxn
      have rb : Row (idx b (y : Int)) g.N.toNat (Way (Sel (turn g) mask) y) := hbm.2 y hyn
      have lra := ra.1
      have lrb := rb.1
      refine tri_must ⟨by omega, h⟩ ?_
      rw [show (((idx a (x : Int)).length : Int) != (a.length : Int)) = false by rw [lra, la]; simp, cond_false]
      refine tri_must ⟨by omega, by omega⟩ ?_
      rw [show (((idx b (y : Int)).length : Int) != (a.length : Int)) = false by rw [lrb, la]; simp, cond_false]
      refine tri_must ⟨by omega, by omega⟩ (tri_must ⟨by omega, by omega⟩ ?_)
      have hiff : idx (idx a (x : Int)) (y : Int) = idx (idx b (y : Int)) (x : Int) := by
        have h3 := (ra.2 y hyn).trans ((hw y x).symm.trans (rb.2 x hxn).symm)
        cases e1 : idx (idx a (x : Int)) (y : Int) <;> cases e2 : idx (idx b (y : Int)) (x : Int) <;> simp_all
      rw [hiff, show (idx (idx b (y : Int)) (x : Int) != idx (idx b (y : Int)) (x : Int)) = false by simp]
      exact ⟨_, rfl, w64zsucc (by omega), hyn, trivial⟩
    · have bad : ∀ g : Graph, ¬ Good g → graph_Closure g mask = some ([], 60) ∧ graph_Parts g mask = some ([], 60) := fun g hg => ⟨by unfold graph_Closure; rw [check_bad hg]; rfl, by unfold graph_Parts; rw [check_bad hg]; rfl⟩
      have hg' : ¬ Good (turn g) := fun h => hg (turn_good.1 h)
      rw [(bad _ hg).1, (bad _ hg).2, (bad _ hg').1, (bad _ hg').2]
      show Tri ((assizeref05zSameInts [] []).bind fun y2008 => assizelaw06zGraphTurned.j2 ([], 60) ([], 60) (!y2008)) _
      rw [same_ints (by decide)]
      show Tri (iter (assizelaw06zGraphTurned.s3 ([], 60) ([], 60)) 0) _
      refine tri_up 0 (fun _ => True) trivial (fun x hx _ => ?_)
      have hx0 : x = 0 := by omega
      subst hx0
      show Tri (out (out (some true))) _
      exact tri_out (tri_out ⟨_, rfl, rfl⟩)
theorem GraphTurned_law (g : Graph) (mask : Int) {p q r : Prop} (g0 : p ∧ (q ∧ g.Edges.length * 32 ≤ 140737488351232)) (_ : r) : assizelaw06zGraphTurned g mask = some true :=
  GraphTurned_true g mask g0.2.2
end Go.Proofs.YtncapkloanfmnaaDoorT
