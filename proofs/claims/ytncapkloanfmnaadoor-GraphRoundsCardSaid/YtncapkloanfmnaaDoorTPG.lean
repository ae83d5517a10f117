/- Graphs: the program's answers and the document's, both as the ways of one and more edges. -/
import Derived.Test.YtncapkloanfmnaaDoorTD
import Derived.Test.YtncapkloanfmnaaDoorP
namespace Go.Proofs.YtncapkloanfmnaaDoorT
open Go Go.Proofs Go.Proofs.YtncapkloanfmnaaDoorE
set_option linter.unusedVariables false
set_option linter.unusedSimpArgs false
set_option maxRecDepth 4096

/-! ### right graphs -/
def okEdge (N : Int) (e : Edge) : Prop := 0 ≤ e.From ∧ e.From < N ∧ 0 ≤ e.To ∧ e.To < N ∧ 1 ≤ e.Kind ∧ e.Kind ≤ 16 ∧ bAnd .i64 e.Kind (w64 (e.Kind - 1)) = 0
structure Good (g : Graph) : Prop where
  n0 : 0 ≤ g.N
  n1 : g.N ≤ 64
  m : g.Edges.length ≤ 262144
  e : ∀ k : Nat, k < g.Edges.length → okEdge g.N (idx g.Edges k)
theorem ones (k : Int) (h1 : 1 ≤ k) (h2 : k ≤ 16) : Tri (bits_OnesCount (IntKind.wrap .u64 k)) (fun c => (c != 1) = (bAnd .i64 k (w64 (k - 1)) != 0)) := by
  have h : k = 1 ∨ k = 2 ∨ k = 3 ∨ k = 4 ∨ k = 5 ∨ k = 6 ∨ k = 7 ∨ k = 8 ∨ k = 9 ∨ k = 10 ∨ k = 11 ∨ k = 12 ∨ k = 13 ∨ k = 14 ∨ k = 15 ∨ k = 16 := by omega
  have key : ∀ n : Fin 17, 1 ≤ n.1 → (bits_OnesCount (IntKind.wrap .u64 (n.1 : Int))).map (fun c => (c != 1)) = some (bAnd .i64 (n.1 : Int) (w64 ((n.1 : Int) - 1)) != 0) := by decide +kernel
  obtain ⟨n, rfl⟩ : ∃ n : Nat, k = n := ⟨k.toNat, by omega⟩
  have := key ⟨n, by omega⟩ (by simp; omega)
  simp only at this
  cases hb : bits_OnesCount (IntKind.wrap .u64 (n : Int)) with
  | none => rw [hb] at this; cases this
  | some c => rw [hb] at this; exact ⟨c, rfl, Option.some.inj this⟩
theorem Check_1 (x : Int) (g : Graph) : graph_Check_1 x g = some (decide (0 ≤ x) && decide (x < g.N)) := by
  unfold graph_Check_1
  by_cases h : x ≥ 0
  · have h' : 0 ≤ x := h
    simp [h']
  · have h' : ¬ 0 ≤ x := h
    simp [h']
theorem check_tail {g : Graph} {c : Bool} (hc : ¬ Good g ∨ c = false) (h : c = false → ∀ k : Nat, k < g.Edges.length → False) : True := trivial
def Told (g : Graph) (r : Int) : Prop := (r = 0 ∧ Good g) ∨ (r = 60 ∧ ¬ Good g)
theorem j3ztold {g : Graph} {k : Nat} (b : Bool) (hk : k < g.Edges.length) (hm : g.Edges.length ≤ 262144) (hb : b = true → ¬ okEdge g.N (idx g.Edges k)) (hb' : b = false → okEdge g.N (idx g.Edges k))
    (hJ : ∀ i : Nat, i < k → okEdge g.N (idx g.Edges i)) : Tri (graph_Check.j3 (k : Int) b) (Up g.Edges.length k (fun k => ∀ i : Nat, i < k → okEdge g.N (idx g.Edges i)) (Told g)) := by
  unfold graph_Check.j3
  cases b with
  | true => exact ⟨_, rfl, Or.inr ⟨rfl, fun hg => hb rfl (hg.e k hk)⟩⟩
  | false =>
    refine ⟨_, rfl, w64zsucc (by omega), hk, fun i hi => ?_⟩
    by_cases e : i = k
    · subst e; exact hb' rfl
    · exact hJ i (by omega)
theorem graph_Check_told (g : Graph) : Tri (graph_Check g) (Told g) := by
  have hj : ∀ b : Bool, 0 ≤ g.N → g.N ≤ 64 → b = decide ((g.Edges.length : Int) > 262144) → Tri (graph_Check.j1 g b) (Told g) := by
    intro b h0 h1 hb
    unfold graph_Check.j1
    refine tri_bif (fun h => ?_) (fun h => ?_)
    · subst hb
      have : (g.Edges.length : Int) > 262144 := of_decide_eq_true h
      exact ⟨_, rfl, Or.inr ⟨rfl, fun hg => by have := hg.m; omega⟩⟩
    · subst hb
      have hm : ¬ (g.Edges.length : Int) > 262144 := of_decide_eq_false h
      refine tri_up g.Edges.length (fun k => ∀ i : Nat, i < k → okEdge g.N (idx g.Edges i)) (fun i hi => by omega) (fun k hk hJ => ?_)
      show Tri (bif decide ((k : Int) < (g.Edges.length : Int)) then _ else _) _
      refine tri_bif (fun h => ?_) (fun h => ?_)
      · have h : (k : Int) < g.Edges.length := of_decide_eq_true h
        have hk' : k < g.Edges.length := by omega
        refine tri_must ⟨by omega, h⟩ ?_
        rw [Check_1, Check_1]
        refine tri_bif (fun h => ?_) (fun h => ?_)
        · refine j3ztold true hk' (by omega) (fun _ ho => ?_) (fun h => by cases h) hJ
          simp [ho.1, ho.2.1] at h
        · simp only [Bool.not_eq_false', Bool.and_eq_true, decide_eq_true_eq] at h
          refine tri_bif (fun h' => ?_) (fun h' => ?_)
          · refine j3ztold true hk' (by omega) (fun _ ho => ?_) (fun h => by cases h) hJ
            simp [ho.2.2.1, ho.2.2.2.1] at h'
          · simp only [Bool.not_eq_false', Bool.and_eq_true, decide_eq_true_eq] at h'
            refine tri_bif (fun h1 => ?_) (fun h1 => ?_)
            · refine j3ztold true hk' (by omega) (fun _ ho => ?_) (fun h => by cases h) hJ
              have := of_decide_eq_true h1
              have := ho.2.2.2.2.1
              omega
            · refine tri_bif (fun h2 => ?_) (fun h2 => ?_)
              · refine j3ztold true hk' (by omega) (fun _ ho => ?_) (fun h => by cases h) hJ
                have := of_decide_eq_true h2
                have := ho.2.2.2.2.2.1
                omega
              · have h1 := of_decide_eq_false h1
                have h2 := of_decide_eq_false h2
                refine tri_bind (ones _ (by omega) (by omega)) (fun c hc => ?_)
                rw [hc]
                refine j3ztold _ hk' (by omega) (fun hx ho => ?_) (fun hx => ?_) hJ
                · have := ho.2.2.2.2.2.2
                  rw [this] at hx
                  cases hx
                · refine ⟨h.1, h.2, h'.1, h'.2, by omega, by omega, ?_⟩
                  simpa using hx
      · have h : ¬ (k : Int) < g.Edges.length := of_decide_eq_false h
        exact tri_out ⟨_, rfl, Or.inl ⟨rfl, h0, h1, by omega, fun i hi => hJ i (by omega)⟩⟩
  unfold graph_Check
  refine tri_bif (fun h => ?_) (fun h => ?_)
  · exact ⟨_, rfl, Or.inr ⟨rfl, fun hg => by have := of_decide_eq_true h; have := hg.n0; omega⟩⟩
  · have h := of_decide_eq_false h
    refine tri_bif (fun h' => ?_) (fun h' => ?_)
    · exact ⟨_, rfl, Or.inr ⟨rfl, fun hg => by have := of_decide_eq_true h'; have := hg.n1; omega⟩⟩
    · have h' := of_decide_eq_false h'
      exact hj _ (by omega) (by omega) rfl
theorem rj3ztold {g : Graph} {k : Nat} (b : Bool) (hk : k < g.Edges.length) (hm : g.Edges.length ≤ 262144) (hb : b = true → ¬ okEdge g.N (idx g.Edges k)) (hb' : b = false → okEdge g.N (idx g.Edges k))
    (hJ : ∀ i : Nat, i < k → okEdge g.N (idx g.Edges i)) : Tri (assizeref06zCheck.j3 (k : Int) b) (Up g.Edges.length k (fun k => ∀ i : Nat, i < k → okEdge g.N (idx g.Edges i)) (Told g)) := by
  unfold assizeref06zCheck.j3
  cases b with
  | true => exact ⟨_, rfl, Or.inr ⟨rfl, fun hg => hb rfl (hg.e k hk)⟩⟩
  | false =>
    refine ⟨_, rfl, w64zsucc (by omega), hk, fun i hi => ?_⟩
    by_cases e : i = k
    · subst e; exact hb' rfl
    · exact hJ i (by omega)
theorem ref_Check_told (g : Graph) : Tri (assizeref06zCheck g) (Told g) := by
  have hj : ∀ b : Bool, 0 ≤ g.N → g.N ≤ 64 → b = decide ((g.Edges.length : Int) > 262144) → Tri (assizeref06zCheck.j1 g b) (Told g) := by
    intro b h0 h1 hb
    unfold assizeref06zCheck.j1
    refine tri_bif (fun h => ?_) (fun h => ?_)
    · subst hb
      have : (g.Edges.length : Int) > 262144 := of_decide_eq_true h
      exact ⟨_, rfl, Or.inr ⟨rfl, fun hg => by have := hg.m; omega⟩⟩
    · subst hb
      have hm : ¬ (g.Edges.length : Int) > 262144 := of_decide_eq_false h
      refine tri_up g.Edges.length (fun k => ∀ i : Nat, i < k → okEdge g.N (idx g.Edges i)) (fun i hi => by omega) (fun k hk hJ => ?_)
      show Tri (bif decide ((k : Int) < (g.Edges.length : Int)) then _ else _) _
      refine tri_bif (fun h => ?_) (fun h => ?_)
      · have h : (k : Int) < g.Edges.length := of_decide_eq_true h
        have hk' : k < g.Edges.length := by omega
        refine tri_must ⟨by omega, h⟩ ?_
        have bad : (okEdge g.N (idx g.Edges (k : Int)) → False) → Tri (assizeref06zCheck.j3 (k : Int) true) (Up g.Edges.length k (fun k => ∀ i : Nat, i < k → okEdge g.N (idx g.Edges i)) (Told g)) :=
          fun hn => rj3ztold true hk' (by omega) (fun _ => hn) (fun h => by cases h) hJ
        refine tri_bif (fun h1 => bad fun ho => ?_) (fun h1 => ?_)
        · have := of_decide_eq_true h1; have := ho.1; omega
        refine tri_bif (fun h2 => bad fun ho => ?_) (fun h2 => ?_)
        · have := of_decide_eq_true h2; have := ho.2.1; omega
        refine tri_bif (fun h3 => bad fun ho => ?_) (fun h3 => ?_)
        · have := of_decide_eq_true h3; have := ho.2.2.1; omega
        refine tri_bif (fun h4 => bad fun ho => ?_) (fun h4 => ?_)
        · have := of_decide_eq_true h4; have := ho.2.2.2.1; omega
        refine tri_bif (fun h5 => bad fun ho => ?_) (fun h5 => ?_)
        · have := of_decide_eq_true h5; have := ho.2.2.2.2.1; omega
        refine tri_bif (fun h6 => bad fun ho => ?_) (fun h6 => ?_)
        · have := of_decide_eq_true h6; have := ho.2.2.2.2.2.1; omega
        have h1 := of_decide_eq_false h1
        have h2 := of_decide_eq_false h2
        have h3 := of_decide_eq_false h3
        have h4 := of_decide_eq_false h4
        have h5 := of_decide_eq_false h5
        have h6 := of_decide_eq_false h6
        refine rj3ztold _ hk' (by omega) (fun hx ho => ?_) (fun hx => ?_) hJ
        · have := ho.2.2.2.2.2.2
          rw [this] at hx
          cases hx
        · refine ⟨by omega, by omega, by omega, by omega, by omega, by omega, ?_⟩
          simpa using hx
      · have h : ¬ (k : Int) < g.Edges.length := of_decide_eq_false h
        exact tri_out ⟨_, rfl, Or.inl ⟨rfl, h0, h1, by omega, fun i hi => hJ i (by omega)⟩⟩
  unfold assizeref06zCheck
  refine tri_bif (fun h => ?_) (fun h => ?_)
  · exact ⟨_, rfl, Or.inr ⟨rfl, fun hg => by have := of_decide_eq_true h; have := hg.n0; omega⟩⟩
  · have h := of_decide_eq_false h
    refine tri_bif (fun h' => ?_) (fun h' => ?_)
    · exact ⟨_, rfl, Or.inr ⟨rfl, fun hg => by have := of_decide_eq_true h'; have := hg.n1; omega⟩⟩
    · have h' := of_decide_eq_false h'
      exact hj _ (by omega) (by omega) rfl
theorem graph_Check_eq (g : Graph) : (Good g ∧ graph_Check g = some 0) ∨ (¬ Good g ∧ graph_Check g = some 60) := by
  obtain ⟨r, h, h' | h'⟩ := graph_Check_told g
  · exact Or.inl ⟨h'.2, h'.1 ▸ h⟩
  · exact Or.inr ⟨h'.2, h'.1 ▸ h⟩
theorem ref_Check_eq (g : Graph) : (Good g ∧ assizeref06zCheck g = some 0) ∨ (¬ Good g ∧ assizeref06zCheck g = some 60) := by
  obtain ⟨r, h, h' | h'⟩ := ref_Check_told g
  · exact Or.inl ⟨h'.2, h'.1 ▸ h⟩
  · exact Or.inr ⟨h'.2, h'.1 ▸ h⟩
theorem check_good {g : Graph} (hg : Good g) : graph_Check g = some 0 := by
  rcases graph_Check_eq g with h | h
  · exact h.2
  · exact absurd hg h.1
theorem check_bad {g : Graph} (hg : ¬ Good g) : graph_Check g = some 60 := by
  rcases graph_Check_eq g with h | h
  · exact absurd h.1 hg
  · exact h.2
theorem ref_good {g : Graph} (hg : Good g) : assizeref06zCheck g = some 0 := by
  rcases ref_Check_eq g with h | h
  · exact h.2
  · exact absurd hg h.1
theorem ref_bad {g : Graph} (hg : ¬ Good g) : assizeref06zCheck g = some 60 := by
  rcases ref_Check_eq g with h | h
  · exact absurd h.1 hg
  · exact h.2

/-! ### the edges of a mask -/
def SelK (g : Graph) (mask : Int) (x i j : Nat) : Prop := ∃ k : Nat, k < x ∧ bAnd .i64 (idx g.Edges (k : Int)).Kind mask ≠ 0 ∧ (idx g.Edges (k : Int)).From = i ∧ (idx g.Edges (k : Int)).To = j
def Sel (g : Graph) (mask : Int) (i j : Nat) : Prop := SelK g mask g.Edges.length i j
theorem sel_lt {g : Graph} {mask : Int} (hg : Good g) {i j : Nat} (h : Sel g mask i j) : i < g.N.toNat ∧ j < g.N.toNat := by
  obtain ⟨k, hk, _, h1, h2⟩ := h
  have := hg.e k hk
  unfold okEdge at this
  omega
/-- words: a row for each node -/
def Rows (ws : List Int) (n : Nat) (p : Nat → Nat → Prop) : Prop := ws.length = n ∧ ∀ i : Nat, i < n → Wd (idx ws (i : Int)) (p i)
theorem graph_rows_told {g : Graph} (mask : Int) (hg : Good g) : Tri (graph_rows g mask) (fun ws => Rows ws g.N.toNat (Sel g mask)) := by
  have := hg.n0
  have := hg.n1
  have := hg.m
  unfold graph_rows
  refine tri_must ⟨by omega, by omega, by omega⟩ ?_
  refine tri_up2 g.Edges.length (fun k ws => Rows ws g.N.toNat (SelK g mask k)) ⟨by simp, fun i hi => ?_⟩ (fun k ws hk hJ => ?_)
  · rw [idx_rep]
    exact Wd.zero.congr fun j => ⟨fun h => h.elim, fun ⟨k, h, _⟩ => by omega⟩
  show Tri (bif decide ((k : Int) < (g.Edges.length : Int)) then _ else _) _
  refine tri_bif (fun h => ?_) (fun h => ?_)
  · have h : (k : Int) < g.Edges.length := of_decide_eq_true h
    have hk' : k < g.Edges.length := by omega
    have ho := hg.e k hk'
    unfold okEdge at ho
    refine tri_must ⟨by omega, h⟩ ?_
    have hlen := hJ.1
    refine tri_bif (fun h => ?_) (fun h => ?_)
    · refine tri_must ⟨by omega, by omega⟩ (tri_must ⟨by omega, by unfold far; omega⟩ ?_)
      refine ⟨_, rfl, w64zsucc (by omega), hk', by simp [hJ.1], fun i hi => ?_⟩
      rw [idx_set ho.1 (by omega)]
      obtain ⟨t, ht⟩ : ∃ t : Nat, (idx g.Edges (k : Int)).To = t := ⟨(idx g.Edges (k : Int)).To.toNat, by omega⟩
      split
      · rename_i e
        rw [← e]
        refine ((hJ.2 i hi).or (Wd.bit ht (by omega))).congr fun j => ⟨?_, ?_⟩
        · rintro (⟨q, h1, h2⟩ | rfl)
          · exact ⟨q, by omega, h2⟩
          · exact ⟨k, by omega, by simpa using h, e.symm, ht⟩
        · rintro ⟨q, h1, h2, h3, h4⟩
          by_cases e' : q = k
          · subst e'
            right
            omega
          · exact Or.inl ⟨q, by omega, h2, h3, h4⟩
      · rename_i e
        refine (hJ.2 i hi).congr fun j => ⟨fun ⟨q, h1, h2⟩ => ⟨q, by omega, h2⟩, ?_⟩
        rintro ⟨q, h1, h2, h3, h4⟩
        by_cases e' : q = k
        · subst e'; exact absurd h3.symm e
        · exact ⟨q, by omega, h2, h3, h4⟩
    · refine ⟨_, rfl, w64zsucc (by omega), hk', hJ.1, fun i hi => ?_⟩
      refine (hJ.2 i hi).congr fun j => ⟨fun ⟨q, h1, h2⟩ => ⟨q, by omega, h2⟩, ?_⟩
      rintro ⟨q, h1, h2, h3, h4⟩
      by_cases e' : q = k
      · subst e'
        exact absurd (by simpa using h) h2
      · exact ⟨q, by omega, h2, h3, h4⟩
  · have h : ¬ (k : Int) < g.Edges.length := of_decide_eq_false h
    have e : k = g.Edges.length := by omega
    subst e
    exact tri_out ⟨_, rfl, hJ⟩

/-! ### what is reached -/
open Relation in
abbrev Way (S : Nat → Nat → Prop) : Nat → Nat → Prop := TransGen S
theorem from_told {S : Nat → Nat → Prop} {ws : List Int} {n : Nat} (hr : Rows ws n S) (hn : n ≤ 64) (hS : ∀ i j, S i j → j < n) {x : Nat} (hx : x < n) :
    Tri (graph_from ws (x : Int)) (fun w => Wd w (Way S x)) := by
  have hl := hr.1
  unfold graph_from
  refine tri_must ⟨by omega, by omega⟩ ?_
  refine tri_iter (fun s : Int × Int => ∃ A F : Nat → Prop, Wd s.1 A ∧ Wd s.2 F ∧ (∀ j, F j → A j) ∧ (∀ j, A j → Way S x j) ∧ (∀ j, S x j → A j) ∧ (∀ a, A a → ¬ F a → ∀ j, S a j → A j))
    (fun s => 2 * (2 ^ 64 - s.1.toNat) + (if s.2 = 0 then 0 else 1)) ?_ ?_
  · exact ⟨S x, S x, hr.2 x hx, hr.2 x hx, fun j h => h, fun j h => .single h, fun j h => h, fun a h h' => absurd h h'⟩
  rintro ⟨seen, front⟩ ⟨A, F, wA, wF, hFA, hAW, hSA, hcl⟩
  show Tri (bif (front != 0) then _ else _) _
  refine tri_bif (fun h => ?_) (fun h => ?_)
  · have hf0 : front ≠ 0 := by simpa using h
    refine tri_iter (fun s : Int × Int => ∃ F' X : Nat → Prop, Wd s.1 F' ∧ Wd s.2 X ∧ (∀ j, F' j → F j) ∧ (∀ j, X j ↔ ∃ f, F f ∧ ¬ F' f ∧ S f j)) (fun s => s.1.toNat) ?_ ?_
    · exact ⟨F, fun _ => False, wF, Wd.zero, fun j h => h, fun j => ⟨fun h => h.elim, fun ⟨f, h1, h2, _⟩ => h2 h1⟩⟩
    rintro ⟨fr, nx⟩ ⟨F', X, wF', wX, hF', hX⟩
    show Tri (bif (fr != 0) then _ else _) _
    refine tri_bif (fun h => ?_) (fun h => ?_)
    · have h0 : fr ≠ 0 := by simpa using h
      obtain ⟨k, hk, k64, f0, f1, pk, wk, dec⟩ := wF'.low h0
      have hkn : k < n := by
        have := hAW k (hFA k (hF' k pk))
        cases this with
        | single h => exact hS _ _ h
        | tail _ h => exact hS _ _ h
      refine tri_bind (R := fun y => y = (k : Int)) ?_ ?_
      · unfold bits_TrailingZeros64
        refine tri_must ⟨f0, f1⟩ ⟨_, rfl, by rw [hk]⟩
      · rintro y rfl
        refine tri_must ⟨by omega, by omega⟩ ⟨_, rfl, ⟨_, _, wk, wX.or (hr.2 k hkn), fun j h => hF' j h.1, fun j => ⟨?_, ?_⟩⟩, dec⟩
        · rintro (h | h)
          · obtain ⟨f, h1, h2, h3⟩ := (hX j).1 h
            exact ⟨f, h1, fun h => h2 h.1, h3⟩
          · exact ⟨k, hF' k pk, fun h => h.2 rfl, h⟩
        · rintro ⟨f, h1, h2, h3⟩
          by_cases e : f = k
          · subst e; exact Or.inr h3
          · exact Or.inl ((hX j).2 ⟨f, h1, fun h => h2 ⟨h, e⟩, h3⟩)
    · have h0 : fr = 0 := by simpa using h
      have hno := wF'.none.1 h0
      have hX' : ∀ j, X j ↔ ∃ f, F f ∧ S f j := fun j => (hX j).trans ⟨fun ⟨f, h1, _, h3⟩ => ⟨f, h1, h3⟩, fun ⟨f, h1, h3⟩ => ⟨f, h1, hno f, h3⟩⟩
      have hle : seen.toNat ≤ (bOr .u64 seen nx).toNat ∧ ((∃ j, X j ∧ ¬ A j) → seen.toNat < (bOr .u64 seen nx).toNat) := wA.toNat_le wX
      have hb : 0 ≤ bOr .u64 seen nx ∧ bOr .u64 seen nx < 2 ^ 64 := (wA.or wX).big
      refine tri_out ⟨_, rfl, ⟨_, _, wA.or wX, wX.andNot wA, fun j h => Or.inr h.1, ?_, fun j h => Or.inl (hSA j h), ?_⟩, ?_⟩
      · rintro j (h | h)
        · exact hAW j h
        · obtain ⟨f, h1, h3⟩ := (hX' j).1 h
          exact .tail (hAW f (hFA f h1)) h3
      · intro a ha hna j hj
        by_cases hA : A a
        · by_cases hF : F a
          · exact Or.inr ((hX' j).2 ⟨a, hF, hj⟩)
          · exact Or.inl (hcl a hA hF j hj)
        · rcases ha with ha | ha
          · exact absurd ha hA
          · exact absurd ⟨ha, hA⟩ hna
      · show 2 * (2 ^ 64 - (bOr .u64 seen nx).toNat) + (if bAndNot .u64 nx seen = 0 then 0 else 1) < 2 * (2 ^ 64 - seen.toNat) + (if front = 0 then 0 else 1)
        rw [if_neg hf0]
        by_cases e : bAndNot .u64 nx seen = 0
        · rw [if_pos e]; omega
        · rw [if_neg e]
          have hex : ∃ j, X j ∧ ¬ A j := by
            apply Classical.byContradiction
            intro hn
            exact e ((wX.andNot wA).none.2 fun j hj => hn ⟨j, hj⟩)
          have := hle.2 hex
          omega
  · have h0 : front = 0 := by simpa using h
    have hno := wF.none.1 h0
    refine tri_out ⟨_, rfl, wA.congr fun j => ⟨hAW j, fun h => ?_⟩⟩
    induction h with
    | single h => exact hSA _ h
    | tail _ h ih => exact hcl _ ih (hno _) _ h
/-- a row of bools -/
def Row (l : List Bool) (n : Nat) (p : Nat → Prop) : Prop := l.length = n ∧ ∀ j : Nat, j < n → (idx l (j : Int) = true ↔ p j)
theorem Row.eq {l l' : List Bool} {n : Nat} {p : Nat → Prop} (h : Row l n p) (h' : Row l' n p) : l = l' := by
  refine list_ext (h.1.trans h'.1.symm) fun j hj => ?_
  have := (h.2 j (h.1 ▸ hj)).trans (h'.2 j (h.1 ▸ hj)).symm
  cases hx : idx l (j : Int) <;> cases hy : idx l' (j : Int) <;> simp_all
def Mx (m : List (List Bool)) (n : Nat) (p : Nat → Nat → Prop) : Prop := m.length = n ∧ ∀ i : Nat, i < n → Row (idx m (i : Int)) n (p i)
theorem Mx.eq {m m' : List (List Bool)} {n : Nat} {p : Nat → Nat → Prop} (h : Mx m n p) (h' : Mx m' n p) : m = m' :=
  list_ext (h.1.trans h'.1.symm) fun j hj => (h.2 j (h.1 ▸ hj)).eq (h'.2 j (h.1 ▸ hj))
theorem spread_told {w : Int} {p : Nat → Prop} (hw : Wd w p) {n : Int} (h0 : 0 ≤ n) (h1 : n ≤ 64) : Tri (graph_spread w n) (fun l => Row l n.toNat p) := by
  unfold graph_spread
  refine tri_must ⟨by omega, by omega, by omega⟩ ?_
  refine tri_up2 n.toNat (fun k l => l.length = n.toNat ∧ ∀ j : Nat, j < k → (idx l (j : Int) = true ↔ p j)) ⟨by simp, fun j hj => by omega⟩ (fun k l hk hJ => ?_)
  show Tri (bif decide ((k : Int) < (n.toNat : Int)) then _ else _) _
  refine tri_bif (fun h => ?_) (fun h => ?_)
  · have h : (k : Int) < (n.toNat : Int) := of_decide_eq_true h
    have hl := hJ.1
    refine tri_must ⟨by omega, by unfold far; omega⟩ (tri_must ⟨by omega, by omega⟩ ⟨_, rfl, w64zsucc (by omega), by omega, by simp [hJ.1], fun j hj => ?_⟩)
    rw [idx_set (by omega) (by omega)]
    split
    · rename_i e
      have e : j = k := by omega
      subst e
      rcases hw.look (n := j) rfl (by omega) with ⟨h1, h2⟩ | ⟨h1, h2⟩
      · rw [h1]; simp [h2]
      · rw [h1]; simp [h2]
    · rename_i e
      exact hJ.2 j (by omega)
  · have h : ¬ (k : Int) < (n.toNat : Int) := of_decide_eq_false h
    refine tri_out ⟨_, rfl, hJ.1, fun j hj => hJ.2 j (by omega)⟩
theorem graph_Reach_told {g : Graph} (mask : Int) (hg : Good g) {x : Int} (h0 : 0 ≤ x) (h1 : x < g.N) : Tri (graph_Reach g mask x) (fun r => r.2 = 0 ∧ Row r.1 g.N.toNat (Way (Sel g mask) x.toNat)) := by
  obtain ⟨n, rfl⟩ : ∃ n : Nat, x = n := ⟨x.toNat, by omega⟩
  unfold graph_Reach
  rw [check_good hg]
  show Tri (bif decide ((n : Int) < 0) then graph_Reach.j1 g mask n true else graph_Reach.j1 g mask n (decide ((n : Int) ≥ g.N))) _
  refine tri_bif (fun h => by have := of_decide_eq_true h; omega) (fun _ => ?_)
  unfold graph_Reach.j1
  refine tri_bif (fun h => by have := of_decide_eq_true h; omega) (fun _ => ?_)
  have := hg.n1
  refine tri_bind (graph_rows_told mask hg) (fun ws hws => ?_)
  refine tri_bind (from_told hws (by omega) (fun i j h => (sel_lt hg h).2) (x := n) (by omega)) (fun w hw => ?_)
  refine tri_bind (spread_told hw hg.n0 hg.n1) (fun l hl => ⟨_, rfl, rfl, hl⟩)
theorem graph_Closure_told {g : Graph} (mask : Int) (hg : Good g) : Tri (graph_Closure g mask) (fun r => r.2 = 0 ∧ Mx r.1 g.N.toNat (Way (Sel g mask))) := by
  have := hg.n0
  have := hg.n1
  unfold graph_Closure
  rw [check_good hg]
  show Tri ((graph_rows g mask).bind _) _
  refine tri_bind (graph_rows_told mask hg) (fun ws hws => ?_)
  refine tri_must ⟨by omega, by omega, by omega⟩ ?_
  refine tri_up2 g.N.toNat (fun k l => l.length = g.N.toNat ∧ ∀ j : Nat, j < k → Row (idx l (j : Int)) g.N.toNat (Way (Sel g mask) j)) ⟨by simp, fun j hj => by omega⟩ (fun k l hk hJ => ?_)
  show Tri (bif decide ((k : Int) < (g.N.toNat : Int)) then _ else _) _
  refine tri_bif (fun h => ?_) (fun h => ?_)
  · have h : (k : Int) < (g.N.toNat : Int) := of_decide_eq_true h
    have hl := hJ.1
    refine tri_bind (from_told hws (by omega) (fun i j h => (sel_lt hg h).2) (x := k) (by omega)) (fun w hw => ?_)
    refine tri_bind (spread_told hw hg.n0 hg.n1) (fun r hr => ?_)
    refine tri_must ⟨by omega, by omega⟩ ⟨_, rfl, w64zsucc (by omega), by omega, by simp [hJ.1], fun j hj => ?_⟩
    rw [idx_set (by omega) (by omega)]
    split
    · rename_i e
      have e : j = k := by omega
      subst e
      exact hr
    · rename_i e
      exact hJ.2 j (by omega)
  · have h : ¬ (k : Int) < (g.N.toNat : Int) := of_decide_eq_false h
    refine tri_out ⟨_, rfl, rfl, hJ.1, fun j hj => hJ.2 j (by omega)⟩

/-! ### the document's way -/
theorem mx_set {m : List (List Bool)} {n : Nat} {p q : Nat → Nat → Prop} (h : Mx m n p) {a b : Int} {x y : Nat} (ha : a = x) (hb : b = y) (hx : x < n) (hy : y < n)
    (hq : ∀ i j, i < n → j < n → (q i j ↔ p i j ∨ (i = x ∧ j = y))) : Mx (m.set a.toNat ((idx m a).set b.toNat true)) n q := by
  subst ha hb
  have hl := h.1
  refine ⟨by simp [h.1], fun i hi => ?_⟩
  rw [idx_set (by omega) (by omega)]
  split
  · rename_i e
    have e : i = x := by omega
    subst e
    have hr := h.2 i hi
    have hrl := hr.1
    refine ⟨by simp [hr.1], fun j hj => ?_⟩
    rw [idx_set (by omega) (by omega)]
    split
    · rename_i e
      have e : j = y := by omega
      subst e
      simp [hq i j hi hj]
    · rename_i e
      rw [hr.2 j hj, hq i j hi hj]
      exact ⟨Or.inl, fun h => h.elim id fun h => absurd (by rw [h.2]) e⟩
  · rename_i e
    have hr := h.2 i hi
    refine ⟨hr.1, fun j hj => ?_⟩
    rw [hr.2 j hj, hq i j hi hj]
    exact ⟨Or.inl, fun h => h.elim id fun h => absurd (by rw [h.1]) e⟩
theorem Mx.congr {m : List (List Bool)} {n : Nat} {p q : Nat → Nat → Prop} (h : Mx m n p) (e : ∀ i j, i < n → j < n → (p i j ↔ q i j)) : Mx m n q :=
  ⟨h.1, fun i hi => ⟨(h.2 i hi).1, fun j hj => ((h.2 i hi).2 j hj).trans (e i j hi hj)⟩⟩
theorem Steps_told {g : Graph} (mask : Int) (hg : Good g) : Tri (assizeref06zSteps g mask) (fun m => Mx m g.N.toNat (Sel g mask)) := by
  have := hg.n0
  have := hg.n1
  have := hg.m
  unfold assizeref06zSteps
  refine tri_must ⟨by omega, by omega, by omega⟩ ?_
  refine tri_up2 g.N.toNat (fun k m => m.length = g.N.toNat ∧ ∀ i : Nat, i < k → Row (idx m (i : Int)) g.N.toNat (fun _ => False)) ⟨by simp, fun j hj => by omega⟩ (fun k m hk hJ => ?_)
  show Tri (bif decide ((k : Int) < g.N) then _ else _) _
  refine tri_bif (fun h => ?_) (fun h => ?_)
  · have h : (k : Int) < g.N := of_decide_eq_true h
    have hl := hJ.1
    refine tri_must ⟨by omega, by omega, by omega⟩ (tri_must ⟨by omega, by omega⟩ ⟨_, rfl, w64zsucc (by omega), by omega, by simp [hJ.1], fun j hj => ?_⟩)
    rw [idx_set (by omega) (by omega)]
    split
    · refine ⟨by simp, fun j hj => ?_⟩
      rw [idx_rep]
      simp
    · exact hJ.2 j (by omega)
  · have h : ¬ (k : Int) < g.N := of_decide_eq_false h
    refine tri_up2 g.Edges.length (fun k m => Mx m g.N.toNat (SelK g mask k)) ?_ (fun k m hk hJ => ?_)
    · refine ⟨hJ.1, fun i hi => ⟨(hJ.2 i (by omega)).1, fun j hj => ?_⟩⟩
      rw [(hJ.2 i (by omega)).2 j hj]
      exact ⟨fun h => h.elim, fun ⟨k, h, _⟩ => by omega⟩
    show Tri (bif decide ((k : Int) < (g.Edges.length : Int)) then _ else _) _
    have skip : k < g.Edges.length → ∀ i j : Nat, ¬ (bAnd .i64 (idx g.Edges (k : Int)).Kind mask ≠ 0 ∧ (idx g.Edges (k : Int)).From = i ∧ (idx g.Edges (k : Int)).To = j) → (SelK g mask k i j ↔ SelK g mask (k + 1) i j) := by
      intro hk i j hn
      constructor
      · rintro ⟨q, h1, h2⟩; exact ⟨q, by omega, h2⟩
      · rintro ⟨q, h1, h2⟩
        by_cases e : q = k
        · subst e; exact absurd h2 hn
        · exact ⟨q, by omega, h2⟩
    refine tri_bif (fun h => ?_) (fun h => ?_)
    · have h : (k : Int) < g.Edges.length := of_decide_eq_true h
      have hk' : k < g.Edges.length := by omega
      have ho := hg.e k hk'
      unfold okEdge at ho
      refine tri_must ⟨by omega, h⟩ ?_
      have hlen := hJ.1
      refine tri_bif (fun h => ?_) (fun h => ?_)
      · obtain ⟨x, hx⟩ : ∃ t : Nat, (idx g.Edges (k : Int)).From = t := ⟨(idx g.Edges (k : Int)).From.toNat, by omega⟩
        obtain ⟨y, hy⟩ : ∃ t : Nat, (idx g.Edges (k : Int)).To = t := ⟨(idx g.Edges (k : Int)).To.toNat, by omega⟩
        have hrl := (hJ.2 x (by omega)).1
        refine tri_must ⟨by omega, by omega⟩ (tri_must ⟨by omega, by rw [hx]; omega⟩ ?_)
        refine ⟨_, rfl, w64zsucc (by omega), hk', mx_set hJ hx hy (by omega) (by omega) fun i j hi hj => ?_⟩
        constructor
        · rintro ⟨q, h1, h2, h3, h4⟩
          by_cases e : q = k
          · subst e
            right
            omega
          · exact Or.inl ⟨q, by omega, h2, h3, h4⟩
        · rintro (⟨q, h1, h2⟩ | ⟨rfl, rfl⟩)
          · exact ⟨q, by omega, h2⟩
          · exact ⟨k, by omega, by simpa using h, hx, hy⟩
      · refine ⟨_, rfl, w64zsucc (by omega), hk', hJ.congr fun i j _ _ => skip hk' i j fun hn => absurd (by simpa using h) hn.1⟩
    · have h : ¬ (k : Int) < g.Edges.length := of_decide_eq_false h
      have e : k = g.Edges.length := by omega
      subst e
      exact tri_out (tri_out ⟨_, rfl, hJ⟩)
/-- ways through nodes below k -/
def Thru (S : Nat → Nat → Prop) : Nat → Nat → Nat → Prop
  | 0, i, j => S i j
  | k + 1, i, j => Thru S k i j ∨ (Thru S k i k ∧ Thru S k k j)
theorem thru_to {S : Nat → Nat → Prop} {k i : Nat} : Thru S (k + 1) i k ↔ Thru S k i k := ⟨fun h => h.elim id (·.1), Or.inl⟩
theorem thru_of {S : Nat → Nat → Prop} {k j : Nat} : Thru S (k + 1) k j ↔ Thru S k k j := ⟨fun h => h.elim id (·.2), Or.inl⟩
theorem thru_way {S : Nat → Nat → Prop} : ∀ {k i j : Nat}, Thru S k i j → Way S i j
  | 0, _, _, h => .single h
  | k + 1, _, _, h => h.elim thru_way fun ⟨h1, h2⟩ => (thru_way h1).trans (thru_way h2)
theorem thru_base {S : Nat → Nat → Prop} : ∀ {k i j : Nat}, S i j → Thru S k i j
  | 0, _, _, h => h
  | k + 1, _, _, h => Or.inl (thru_base h)
theorem thru_trans {S : Nat → Nat → Prop} : ∀ {k a b c : Nat}, c < k → Thru S k a c → Thru S k c b → Thru S k a b
  | 0, _, _, _, h, _, _ => by omega
  | k + 1, a, b, c, h, h1, h2 => by
    by_cases e : c = k
    · subst e
      exact Or.inr ⟨thru_to.1 h1, thru_of.1 h2⟩
    · have hc : c < k := by omega
      rcases h1 with h1 | ⟨h1, h1'⟩ <;> rcases h2 with h2 | ⟨h2, h2'⟩
      · exact Or.inl (thru_trans hc h1 h2)
      · exact Or.inr ⟨thru_trans hc h1 h2, h2'⟩
      · exact Or.inr ⟨h1, thru_trans hc h1' h2⟩
      · exact Or.inr ⟨h1, h2'⟩
theorem thru_iff {S : Nat → Nat → Prop} {n : Nat} (hS : ∀ i j, S i j → i < n) (i j : Nat) : Thru S n i j ↔ Way S i j := by
  refine ⟨thru_way, fun h => ?_⟩
  induction h with
  | single h => exact thru_base h
  | tail _ h ih => exact thru_trans (hS _ _ h) ih (thru_base h)
def Mid (S : Nat → Nat → Prop) (k x y i j : Nat) : Prop := (i < x ∨ (i = x ∧ j < y) → Thru S (k + 1) i j) ∧ (¬ (i < x ∨ (i = x ∧ j < y)) → Thru S k i j)
theorem mid_done {S : Nat → Nat → Prop} {k x y i j : Nat} (h : i < x ∨ (i = x ∧ j < y)) : Mid S k x y i j ↔ Thru S (k + 1) i j := ⟨fun hm => hm.1 h, fun hm => ⟨fun _ => hm, fun hn => absurd h hn⟩⟩
theorem mid_todo {S : Nat → Nat → Prop} {k x y i j : Nat} (h : ¬ (i < x ∨ (i = x ∧ j < y))) : Mid S k x y i j ↔ Thru S k i j := ⟨fun hm => hm.2 h, fun hm => ⟨fun hn => absurd hn h, fun _ => hm⟩⟩
theorem mid_to {S : Nat → Nat → Prop} {k x y i : Nat} : Mid S k x y i k ↔ Thru S k i k := by
  by_cases h : i < x ∨ (i = x ∧ k < y)
  · rw [mid_done h, thru_to]
  · rw [mid_todo h]
theorem mid_of {S : Nat → Nat → Prop} {k x y j : Nat} : Mid S k x y k j ↔ Thru S k k j := by
  by_cases h : k < x ∨ (k = x ∧ j < y)
  · rw [mid_done h, thru_of]
  · rw [mid_todo h]
theorem mid_next {S : Nat → Nat → Prop} {k x y i j : Nat} : Mid S k x (y + 1) i j ↔ Mid S k x y i j ∨ ((i = x ∧ j = y) ∧ Thru S k x k ∧ Thru S k k y) := by
  by_cases e : i = x ∧ j = y
  · obtain ⟨rfl, rfl⟩ := e
    rw [mid_done (by omega), mid_todo (by omega)]
    simp [Thru]
  · by_cases h : i < x ∨ (i = x ∧ j < y)
    · rw [mid_done h, mid_done (by omega)]; simp [e]
    · rw [mid_todo h, mid_todo (by omega)]; simp [e]
theorem ref_Closure_told {g : Graph} (mask : Int) (hg : Good g) : Tri (assizeref06zClosure g mask) (fun r => r.2 = 0 ∧ Mx r.1 g.N.toNat (Way (Sel g mask))) := by
  have := hg.n0
  have := hg.n1
  generalize hn : g.N.toNat = n
  have hN : g.N = n := by omega
  generalize hSdef : Sel g mask = S
  have hS : ∀ i j, S i j → i < n ∧ j < n := fun i j h => by subst hSdef hn; exact sel_lt hg h
  unfold assizeref06zClosure
  rw [ref_good hg]
  show Tri ((assizeref06zSteps g mask).bind _) _
  have hst := Steps_told mask hg
  rw [hn, hSdef] at hst
  refine tri_bind hst (fun m hm => ?_)
  refine tri_up2 n (fun k m => Mx m n (Thru S k)) hm (fun k m hk hJ => ?_)
  show Tri (bif decide ((k : Int) < g.N) then _ else _) _
  refine tri_bif (fun h => ?_) (fun h => ?_)
  · have h : (k : Int) < g.N := of_decide_eq_true h
    have hkn : k < n := by omega
    refine tri_up2 n (fun i m => Mx m n (Mid S k i 0)) (hJ.congr fun i j hi hj => by rw [mid_todo (by omega)]) (fun i m hi hJ => ?_)
    show Tri (bif decide ((i : Int) < g.N) then _ else _) _
    refine tri_bif (fun h => ?_) (fun h => ?_)
    · have h : (i : Int) < g.N := of_decide_eq_true h
      have hin : i < n := by omega
      refine tri_up2 n (fun j m => Mx m n (Mid S k i j)) hJ (fun j m hj hJ => ?_)
      show Tri (bif decide ((j : Int) < g.N) then _ else _) _
      refine tri_bif (fun h => ?_) (fun h => ?_)
      · have h : (j : Int) < g.N := of_decide_eq_true h
        have hjn : j < n := by omega
        have l0 := hJ.1
        have l1 := (hJ.2 i hin).1
        have l2 := (hJ.2 k hkn).1
        refine tri_must ⟨by omega, by omega⟩ (tri_must ⟨by omega, by omega⟩ ?_)
        have skip : ¬ (Thru S k i k ∧ Thru S k k j) → Mx m n (Mid S k i (j + 1)) := fun hn => hJ.congr fun a b _ _ => by
          rw [mid_next]; exact ⟨Or.inl, fun h => h.elim id fun h => absurd h.2 hn⟩
        refine tri_bif (fun h => ?_) (fun h => ?_)
        · have hik := mid_to.1 (((hJ.2 i hin).2 k hkn).1 h)
          refine tri_must ⟨by omega, by omega⟩ (tri_must ⟨by omega, by omega⟩ ?_)
          unfold assizeref06zClosure.j5
          refine tri_bif (fun h => ?_) (fun h => ?_)
          · have hkj := mid_of.1 (((hJ.2 k hkn).2 j hjn).1 h)
            refine tri_must ⟨by omega, by omega⟩ (tri_must ⟨by omega, by omega⟩ ⟨_, rfl, w64zsucc (by omega), hjn, mx_set hJ rfl rfl hin hjn fun a b ha hb => ?_⟩)
            rw [mid_next]
            simp [hik, hkj]
          · refine ⟨_, rfl, w64zsucc (by omega), hjn, skip fun hh => ?_⟩
            have := ((hJ.2 k hkn).2 j hjn).2 (mid_of.2 hh.2)
            rw [this] at h
            cases h
        · refine ⟨_, rfl, w64zsucc (by omega), hjn, skip fun hh => ?_⟩
          have := ((hJ.2 i hin).2 k hkn).2 (mid_to.2 hh.1)
          rw [this] at h
          cases h
      · have h : ¬ (j : Int) < g.N := of_decide_eq_false h
        refine tri_out ⟨_, rfl, w64zsucc (by omega), hin, hJ.congr fun a b ha hb => ?_⟩
        by_cases h : a < i + 1
        · rw [mid_done (by omega), mid_done (by omega)]
        · rw [mid_todo (by omega), mid_todo (by omega)]
    · have h : ¬ (i : Int) < g.N := of_decide_eq_false h
      refine tri_out ⟨_, rfl, w64zsucc (by omega), hkn, hJ.congr fun a b ha hb => by rw [mid_done (by omega)]⟩
  · have h : ¬ (k : Int) < g.N := of_decide_eq_false h
    have e : k = n := by omega
    subst e
    exact tri_out ⟨_, rfl, rfl, hJ.congr fun i j _ _ => thru_iff (fun i j h => (hS i j h).1) i j⟩

/-! ### alike -/
theorem same_bools {l : List Bool} (h : l.length < 2 ^ 62) : assizeref06zSameBools l l = some true := by
  unfold assizeref06zSameBools
  rw [show ((l.length : Int) != (l.length : Int)) = false by simp]
  refine tri_eq.1 (tri_up l.length (fun _ => True) trivial (fun k hk _ => ?_))
  show Tri (bif decide ((k : Int) < (l.length : Int)) then _ else _) _
  refine tri_bif (fun h => ?_) (fun h => tri_out ⟨_, rfl, rfl⟩)
  have h : (k : Int) < l.length := of_decide_eq_true h
  refine tri_must ⟨by omega, h⟩ (tri_must ⟨by omega, h⟩ ?_)
  rw [show (idx l (k : Int) != idx l (k : Int)) = false by simp]
  exact ⟨_, rfl, w64zsucc (by omega), by omega, trivial⟩
theorem same_all {m : List (List Bool)} (h : m.length < 2 ^ 62) (hr : ∀ k : Nat, k < m.length → (idx m (k : Int)).length < 2 ^ 62) : assizelaw06zsameAll m m = some true := by
  unfold assizelaw06zsameAll
  rw [show ((m.length : Int) != (m.length : Int)) = false by simp]
  refine tri_eq.1 (tri_up m.length (fun _ => True) trivial (fun k hk _ => ?_))
  show Tri (bif decide ((k : Int) < (m.length : Int)) then _ else _) _
  refine tri_bif (fun h => ?_) (fun h => tri_out ⟨_, rfl, rfl⟩)
  have h : (k : Int) < m.length := of_decide_eq_true h
  refine tri_must ⟨by omega, h⟩ (tri_must ⟨by omega, h⟩ ?_)
  rw [same_bools (hr k (by omega))]
  exact ⟨_, rfl, w64zsucc (by omega), by omega, trivial⟩
theorem same_edges {l : List Edge} (h : l.length < 2 ^ 62) : assizeref06zSameEdges l l = some true := by
  unfold assizeref06zSameEdges
  rw [show ((l.length : Int) != (l.length : Int)) = false by simp]
  refine tri_eq.1 (tri_up l.length (fun _ => True) trivial (fun k hk _ => ?_))
  show Tri (bif decide ((k : Int) < (l.length : Int)) then _ else _) _
  refine tri_bif (fun h => ?_) (fun h => tri_out ⟨_, rfl, rfl⟩)
  have h : (k : Int) < l.length := of_decide_eq_true h
  refine tri_must ⟨by omega, h⟩ (tri_must ⟨by omega, h⟩ ?_)
  simp only [beq_self_eq_true, Bool.and_true, Bool.not_true, cond_false]
  exact ⟨_, rfl, w64zsucc (by omega), by omega, trivial⟩
theorem mx_same {m : List (List Bool)} {n : Nat} {p : Nat → Nat → Prop} (h : Mx m n p) (hn : n < 2 ^ 62) : assizelaw06zsameAll m m = some true :=
  same_all (by rw [h.1]; exact hn) (fun k hk => by rw [(h.2 k (h.1 ▸ hk)).1]; exact hn)
end Go.Proofs.YtncapkloanfmnaaDoorT
