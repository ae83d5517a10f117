/- Levels: what lies under marks. -/
import Derived.Test.YtohaphbogjigcaaTPL
import Derived.Test.YtohaphbogjigcaaTF
namespace Go.Proofs.YtohaphbogjigcaaT
open Go Go.Proofs Go.Proofs.YtohaphbogjigcaaE
set_option linter.unusedVariables false
set_option linter.unusedSimpArgs false
set_option maxRecDepth 100000

theorem same_bools {l : List Bool} (h : l.length < 2 ^ 62) : assizeref06zSameBools l l = some true := by
  unfold assizeref06zSameBools
  rw [show ((l.length : Int) != (l.length : Int)) = false by simp]
  refine tri_eq.1 (tri_up l.length (fun _ => True) trivial (fun k hk _ => ?_))
  show Tri (bif decide ((k : Int) < (l.length : Int)) then _ else _) _
  refine tri_bif (fun h => ?_) (fun h => tri_out ⟨_, rfl, rfl⟩)
  have h : (k : Int) < l.length := of_decide_eq_true h
  refine tri_must ⟨by omega, h⟩ (tri_must ⟨by omega, h⟩ ?_)
  rw [show (idx l (k : Int) != idx l (k : Int)) = false by simp]
  exact ⟨_, rfl, w64zsucc (by omega), by omega, trivial⟩
theorem nine {l : List Bool} (h : l.length = 9) : ∃ a b c d e f g i j, l = [a, b, c, d, e, f, g, i, j] := by
  match l, h with
  | [a, b, c, d, e, f, g, i, j], _ => exact ⟨a, b, c, d, e, f, g, i, j, rfl⟩
theorem not9 {l : List Bool} (h : l.length ≠ 9) : ((l.length : Int) != 9) = true := by
  rw [bne_iff_ne]; omega
theorem under_odd {l : List Bool} (h : l.length ≠ 9) : level_Under l = some [] := by
  unfold level_Under
  rw [not9 h]; rfl
theorem closed_odd {l : List Bool} (h : l.length ≠ 9) : level_Closed l = some false := by
  unfold level_Closed
  rw [under_odd h]
  show iter (level_Closed.s1 l []) 0 = _
  rw [iter_eq]
  rfl
theorem LevelMarks_law (l : List Bool) {p : Prop} (hg : p ∧ l.length * 1 ≤ 140737488351232) : assizelaw13zLevelMarks l = some true := by
  by_cases h : l.length = 9
  · obtain ⟨a, b, c, d, e, f, g, i, j, rfl⟩ := nine h
    exact assizelaw13zLevelMarks_le _ _ (marks9 a b c d e f g i j)
  · have g2 := hg.2
    unfold assizelaw13zLevelMarks
    rw [alive_is]
    simp only [Option.bind_some, Bool.not_true, cond_false, List.nil_append]
    rw [must_pos _ (by omega), under_odd h, closed_odd h, same_bools (l := l) (by omega)]
    have e1 : assizeref13zUnder l = some [] := by unfold assizeref13zUnder; rw [not9 h]; rfl
    have e2 : assizeref13zClosed l = some false := by unfold assizeref13zClosed; rw [not9 h]; rfl
    rw [e1, e2]
    simp only [Option.bind_some]
    rw [same_bools (l := []) (by decide)]
    rfl
theorem LevelUnder_law (l : List Bool) {p : Prop} (g : p) : assizelaw13zLevelUnder l = some true := by
  by_cases h : l.length = 9
  · obtain ⟨a, b, c, d, e, f, g, i, j, rfl⟩ := nine h
    exact assizelaw13zLevelUnder_le _ _ (under9 a b c d e f g i j)
  · unfold assizelaw13zLevelUnder
    rw [alive_is]
    simp only [Option.bind_some, Bool.not_true, cond_false]
    rw [under_odd h, closed_odd h]
    simp only [Option.bind_some, not9 h, cond_true]
    rfl

/-! ### an order of just the eight pairs -/
def zl (n : Nat) : List (Int × Int) := List.replicate n (0, 0) ++ level_Pairs_lit.drop n
def pr (a b : Int) (n : Nat) : Bool := ((level_Pairs_lit.getD n (0, 0)).1 == a) && bel (level_Pairs_lit.getD n (0, 0)).2 b
theorem order_step (a b : Int) (y s : Bool) (n : Nat) (h : n < 8) : assizelaw13zLevelOrder.s4 a b y (zl n, s, (n : Int)) = some (.inl (zl (n + 1), s || pr a b n, ((n + 1 : Nat) : Int))) := by
  have key : n = 0 ∨ n = 1 ∨ n = 2 ∨ n = 3 ∨ n = 4 ∨ n = 5 ∨ n = 6 ∨ n = 7 := by omega
  have hb : ∀ n : Fin 8, bel (level_Pairs_lit.getD n.1 (0, 0)).1 (level_Pairs_lit.getD n.1 (0, 0)).2 = true := by decide +kernel
  have main : ∀ (p : Int × Int), p = level_Pairs_lit.getD n (0, 0) → idx (zl n) (n : Int) = p → idx assizeref13zPairs_lit (n : Int) = p → (zl n).length = 8 → (zl n).set n (0, 0) = zl (n + 1) →
      assizelaw13zLevelOrder.s4 a b y (zl n, s, (n : Int)) = some (.inl (zl (n + 1), s || pr a b n, ((n + 1 : Nat) : Int))) := by
    intro p hp h1 h2 h3 h4
    have hbp : bel p.1 p.2 = true := by rw [hp]; exact hb ⟨n, h⟩
    have h5 : (assizeref13zPairs_lit.length : Int) = 8 := rfl
    have hj6 : ∀ c : Bool, assizelaw13zLevelOrder.j6 (zl n) (n : Int) c = some (.inl (zl (n + 1), c, ((n + 1 : Nat) : Int))) := by
      intro c
      unfold assizelaw13zLevelOrder.j6
      rw [must_pos _ (by rw [h3]; omega), Int.toNat_natCast, h4, w64zsucc (by omega)]
    have hj5 : assizelaw13zLevelOrder.j5 a b (zl n) s (n : Int) false = some (.inl (zl (n + 1), s || pr a b n, ((n + 1 : Nat) : Int))) := by
      unfold assizelaw13zLevelOrder.j5
      rw [must_pos _ (by rw [h3]; omega), h1]
      simp only [hj6, below_is, Option.bind_some, cond_false]
      unfold pr
      rw [← hp]
      cases s <;> cases (p.1 == a) <;> rfl
    show (bif decide ((n : Int) < ((zl n).length : Int)) then _ else _) = _
    rw [h3, show decide ((n : Int) < ((8 : Nat) : Int)) = true from decide_eq_true (by omega), cond_true, must_pos _ (by omega), must_pos _ (by rw [h5]; omega), h1, h2]
    simp only [beq_self_eq_true, Bool.and_self, Bool.not_true, cond_false, below_is, hbp, Option.bind_some]
    exact hj5
  rcases key with rfl | rfl | rfl | rfl | rfl | rfl | rfl | rfl <;> exact main _ rfl rfl rfl rfl rfl
theorem order_end (a b : Int) (y s : Bool) : assizelaw13zLevelOrder.s4 a b y (zl 8, s, 8) = some (.inr (s == y)) := by
  cases s <;> cases y <;> rfl
theorem order_from (a b : Int) (y : Bool) : ∀ (m n : Nat) (s : Bool), n + m = 8 → iter (assizelaw13zLevelOrder.s4 a b y) (zl n, s, (n : Int)) = some (((List.range' n m).foldl (fun s n => s || pr a b n) s) == y)
  | 0, n, s, h => by
    have : n = 8 := by omega
    subst this
    rw [iter_eq, show ((8 : Nat) : Int) = 8 from rfl, order_end]
    rfl
  | m + 1, n, s, h => by
    rw [iter_eq, order_step a b y s n (by omega)]
    exact order_from a b y m (n + 1) (s || pr a b n) (by omega)
theorem steps_are (a b : Int) : ((List.range' 0 8).foldl (fun s n => s || pr a b n) (bif a == b then (decide (1 ≤ a) && decide (a ≤ 8)) else false)) = bel a b := by
  by_cases ha : 1 ≤ a ∧ a ≤ 8
  · by_cases hb : 1 ≤ b ∧ b ≤ 8
    · have key : ∀ i j : Fin 9, 1 ≤ i.1 → 1 ≤ j.1 → ((List.range' 0 8).foldl (fun s n => s || pr (i.1 : Int) (j.1 : Int) n) (bif (i.1 : Int) == (j.1 : Int) then (decide (1 ≤ (i.1 : Int)) && decide ((i.1 : Int) ≤ 8)) else false)) = bel (i.1 : Int) (j.1 : Int) := by decide +kernel
      obtain ⟨i, rfl⟩ : ∃ n : Nat, a = n := ⟨a.toNat, by omega⟩
      obtain ⟨j, rfl⟩ : ∃ n : Nat, b = n := ⟨b.toNat, by omega⟩
      exact key ⟨i, by omega⟩ ⟨j, by omega⟩ (by simp; omega) (by simp; omega)
    · have hn : (a == b) = false := by rw [beq_eq_false_iff_ne]; rintro rfl; exact hb ha
      have hp : ∀ n, pr a b n = false := fun n => by unfold pr; rw [bel_out (.inr hb), Bool.and_false]
      rw [hn, bel_out (.inr hb)]
      simp [List.range', hp]
  · have hp : ∀ n, pr a b n = false := fun n => by
      unfold pr
      cases e : ((level_Pairs_lit.getD n (0, 0)).1 == a) with
      | false => rfl
      | true =>
        have e := beq_iff_eq.1 e
        rcases Nat.lt_or_ge n 8 with h | h
        · have key : ∀ n : Fin 8, 1 ≤ (level_Pairs_lit.getD n.1 (0, 0)).1 ∧ (level_Pairs_lit.getD n.1 (0, 0)).1 ≤ 8 := by decide +kernel
          exact absurd (e ▸ key ⟨n, h⟩) ha
        · have : level_Pairs_lit.getD n (0, 0) = (0, 0) := by rw [List.getD_eq_getElem?_getD, List.getElem?_eq_none (by exact h)]; rfl
          rw [this, Bool.true_and]
          exact bel_out (.inl (by decide))
    have hr : (decide (1 ≤ a) && decide (a ≤ 8)) = false := by rw [Bool.eq_false_iff]; intro e; simp only [Bool.and_eq_true, decide_eq_true_eq] at e; exact ha e
    rw [hr, bel_out (.inl ha)]
    cases (a == b) <;> simp [List.range', hp]
theorem bel_self (a : Int) : bel a a = (decide (1 ≤ a) && decide (a ≤ 8)) := by
  by_cases ha : 1 ≤ a ∧ a ≤ 8
  · have key : ∀ i : Fin 9, bel (i.1 : Int) (i.1 : Int) = (decide (1 ≤ (i.1 : Int)) && decide ((i.1 : Int) ≤ 8)) := by decide +kernel
    obtain ⟨i, rfl⟩ : ∃ n : Nat, a = n := ⟨a.toNat, by omega⟩
    exact key ⟨i, by omega⟩
  · rw [bel_out (.inl ha), eq_comm, Bool.eq_false_iff]; intro e; simp only [Bool.and_eq_true, decide_eq_true_eq] at e; exact ha e
theorem bel_in {a b : Int} (h : bel a b = true) : (1 ≤ a ∧ a ≤ 8) ∧ 1 ≤ b ∧ b ≤ 8 := by
  unfold bel at h
  simp only [Bool.and_eq_true, decide_eq_true_eq] at h
  exact ⟨⟨h.1.1.1.1, h.1.1.1.2⟩, h.1.1.2, h.1.2⟩
theorem bel_trans {a b c : Int} (h1 : bel a b = true) (h2 : bel b c = true) : bel a c = true := by
  have key : ∀ i j k : Fin 9, bel (i.1 : Int) (j.1 : Int) = true → bel (j.1 : Int) (k.1 : Int) = true → bel (i.1 : Int) (k.1 : Int) = true := by decide +kernel
  obtain ⟨ha, hb⟩ := bel_in h1
  obtain ⟨_, hc⟩ := bel_in h2
  obtain ⟨i, rfl⟩ : ∃ n : Nat, a = n := ⟨a.toNat, by omega⟩
  obtain ⟨j, rfl⟩ : ∃ n : Nat, b = n := ⟨b.toNat, by omega⟩
  obtain ⟨k, rfl⟩ : ∃ n : Nat, c = n := ⟨c.toNat, by omega⟩
  exact key ⟨i, by omega⟩ ⟨j, by omega⟩ ⟨k, by omega⟩ h1 h2
theorem bel_anti {a b : Int} (h1 : bel a b = true) (h2 : bel b a = true) : a = b := by
  have key : ∀ i j : Fin 9, bel (i.1 : Int) (j.1 : Int) = true → bel (j.1 : Int) (i.1 : Int) = true → i.1 = j.1 := by decide +kernel
  obtain ⟨ha, hb⟩ := bel_in h1
  obtain ⟨i, rfl⟩ : ∃ n : Nat, a = n := ⟨a.toNat, by omega⟩
  obtain ⟨j, rfl⟩ : ∃ n : Nat, b = n := ⟨b.toNat, by omega⟩
  have := key ⟨i, by omega⟩ ⟨j, by omega⟩ h1 h2
  simp only at this
  rw [this]
theorem order_tail (a b : Int) : assizelaw13zLevelOrder.j1 a b (bel a b) false = some true := by
  have hj : assizelaw13zLevelOrder.j2 a b (bel a b) (decide (1 ≤ a) && decide (a ≤ 8)) = some true := by
    unfold assizelaw13zLevelOrder.j2
    rw [below_is, bel_self]
    simp only [Option.bind_some, bne_self_eq_false, cond_false]
    show (bif (a == b) then assizelaw13zLevelOrder.j3 a b (bel a b) (decide (1 ≤ a) && decide (a ≤ 8)) else assizelaw13zLevelOrder.j3 a b (bel a b) false) = _
    have h := order_from a b (bel a b) 8 0 (bif a == b then (decide (1 ≤ a) && decide (a ≤ 8)) else false) rfl
    rw [steps_are] at h
    simp only [beq_self_eq_true] at h
    unfold assizelaw13zLevelOrder.j3
    cases e : (a == b) with
    | true => rw [e] at h; exact h
    | false => rw [e] at h; exact h
  unfold assizelaw13zLevelOrder.j1
  by_cases h1 : a ≥ 1
  · have h1' : (1 : Int) ≤ a := h1
    simp only [h1', decide_true, Bool.true_and] at hj
    simp only [cond_false, h1, decide_true, cond_true]
    exact hj
  · have h1' : ¬ (1 : Int) ≤ a := h1
    simp only [h1', decide_false, Bool.false_and] at hj
    simp only [cond_false, h1, decide_false]
    exact hj
theorem LevelOrder_law (a b c : Int) {p q r : Prop} (_ : p) (_ : q) (_ : r) : assizelaw13zLevelOrder a b c = some true := by
  unfold assizelaw13zLevelOrder
  rw [alive_is]
  simp only [Option.bind_some, Bool.not_true, cond_false, below_is]
  have anti : bel a b = true → bel b a = true → (a != b) = false := fun h1 h2 => by rw [bel_anti h1 h2]; simp
  have ht := order_tail a b
  cases hab : bel a b with
  | false => rw [hab] at ht; simpa using ht
  | true =>
    rw [hab] at ht
    have h4 : (bif bel b a then assizelaw13zLevelOrder.j1 a b true (a != b) else assizelaw13zLevelOrder.j1 a b true false) = some true := by
      cases hba : bel b a with
      | false => exact ht
      | true => rw [anti hab hba]; exact ht
    cases hbc : bel b c with
    | false => exact h4
    | true => rw [bel_trans hab hbc]; exact h4
end Go.Proofs.YtohaphbogjigcaaT
