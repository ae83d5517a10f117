/- RingLeastAll, RingSorts, RingTurned. -/
import Derived.Test.YtncapkloanfmnaaDoorTPRN
import Derived.Test.YtncapkloanfmnaaDoorTF
namespace Go.Proofs.YtncapkloanfmnaaDoorT
open Go Go.Proofs Go.Proofs.YtncapkloanfmnaaDoorE
set_option linter.unusedVariables false
set_option linter.unusedSimpArgs false
set_option linter.unusedSectionVars false
theorem told_bad {g : Graph} (hg : ¬ Good g) (d r rule : Int) : assizelaw07ztold g d r rule = some ([], 60) := by
  have h1 : ∀ r, ring_Spaced g d r = some ([], 60) := fun r => by unfold ring_Spaced; rw [check_bad hg]; rfl
  have h2 : ring_Single g d r = some ([], 60) := by unfold ring_Single; rw [check_bad hg]; rfl
  unfold assizelaw07ztold ring_Plain
  rw [h1, h1, h2]
  cases (rule == 1) <;> cases (rule == 2) <;> rfl
/-- each once, among some -/
theorem fitsI : ∀ {a b : List Int}, a.Nodup → (∀ v ∈ a, v ∈ b) → a.length ≤ b.length
  | [], _, _, _ => Nat.zero_le _
  | x :: a, b, hn, hs => by
    obtain ⟨h1, h2⟩ := List.nodup_cons.1 hn
    have hx : x ∈ b := hs x (by simp)
    have := fitsI (a := a) (b := b.erase x) h2 fun v hv => (List.mem_erase_of_ne (fun e => h1 (by rw [← e]; exact hv))).2 (hs v (by simp [hv]))
    rw [List.length_erase_of_mem hx] at this
    have : 0 < b.length := List.length_pos_of_mem hx
    simp only [List.length_cons]
    omega
theorem idx_getG {α : Type} [Inhabited α] {c : List α} {i : Nat} (h : i < c.length) : idx c (i : Int) = c[i] := by rw [idx_nat, List.getD_eq_getElem?_getD, List.getElem?_eq_getElem h]; rfl
theorem Told3.ends {g : Graph} {d r : Int} {s : Sot} {es : List Edge} {c : List Int} (h : Told3 g d r s es c) {i : Nat} (hi : i < c.length) : (idx es (i : Int)).From = at3 c i ∧ (idx es (i : Int)).To = at3 c (i + 1) ∧ ∃ k : Nat, k < g.Edges.length ∧ idx g.Edges (k : Int) = idx es (i : Int) := by
  have h1 := h.at_ i hi
  cases s with
  | plain => exact ⟨h1.from_, h1.to, h1.here⟩
  | single => exact ⟨h1.from_, h1.to, h1.here⟩
  | spaced => rcases h1 with ⟨_, h1⟩ | ⟨_, _, _, h1⟩ <;> exact ⟨h1.from_, h1.to, h1.here⟩
theorem Told3.node {g : Graph} (hg : Good g) {d r : Int} {s : Sot} {es : List Edge} {c : List Int} (h : Told3 g d r s es c) {i : Nat} (hi : i < c.length) : 0 ≤ (idx es (i : Int)).From ∧ (idx es (i : Int)).From < g.N := by
  obtain ⟨_, _, k, hk, e⟩ := h.ends hi
  have := hg.e k hk
  rw [e] at this
  exact ⟨this.1, this.2.1⟩
theorem haslen_mono {g g' : Graph} {d r d' r' : Int} (hN : g.N = g'.N) (h : ∀ a b, hasE g d a b = true → hasE g' d' a b = true) (h' : ∀ a b, hasE g r a b = true → hasE g' r' a b = true) {s : Sot} {k : Nat} (hk : HasLen g d r s k) : HasLen g' d' r' s k := by
  cases s with
  | plain =>
    obtain ⟨c, hc⟩ := hk
    refine ⟨c, hc.pos, hc.per, by rw [← hN]; exact hc.node, fun i => ?_⟩
    rcases hc.edge i with h1 | h1
    · exact .inl (h _ _ h1)
    · rw [hasE_zero] at h1; cases h1.1
  | single =>
    obtain ⟨c, hc⟩ := hk
    exact ⟨c, hc.pos, hc.per, by rw [← hN]; exact hc.node, h' _ _ hc.one, fun i h1 h2 => h _ _ (hc.rest i h1 h2)⟩
  | spaced =>
    obtain ⟨c, hc⟩ := hk
    refine ⟨c, hc.pos, hc.per, by rw [← hN]; exact hc.node, fun i => ?_⟩
    rcases hc.edge i with h1 | h1
    · exact .inl (h _ _ h1)
    · exact .inr ⟨h' _ _ h1.1, h _ _ h1.2⟩
theorem mem_idx {g : Graph} {e : Edge} : (∃ k : Nat, k < g.Edges.length ∧ idx g.Edges (k : Int) = e) ↔ e ∈ g.Edges := by
  constructor
  · rintro ⟨k, hk, rfl⟩
    rw [idx_getG hk]
    exact List.getElem_mem hk
  · intro h
    obtain ⟨k, hk, e2⟩ := List.mem_iff_getElem.1 h
    exact ⟨k, hk, by rw [idx_getG hk, e2]⟩
theorem hasE_mem {g : Graph} {m a b : Int} : hasE g m a b = true ↔ ∃ e ∈ g.Edges, e.From = a ∧ e.To = b ∧ bAnd .i64 e.Kind m ≠ 0 := by
  rw [hasE_iff]
  constructor
  · rintro ⟨k, hk, h⟩; exact ⟨_, mem_idx.1 ⟨k, hk, rfl⟩, h⟩
  · rintro ⟨e, he, h⟩
    obtain ⟨k, hk, rfl⟩ := mem_idx.2 he
    exact ⟨k, hk, h⟩
theorem good_mem {g : Graph} : Good g ↔ 0 ≤ g.N ∧ g.N ≤ 64 ∧ g.Edges.length ≤ 262144 ∧ ∀ e ∈ g.Edges, okEdge g.N e := by
  constructor
  · intro h
    refine ⟨h.n0, h.n1, h.m, fun e he => ?_⟩
    obtain ⟨k, hk, rfl⟩ := mem_idx.2 he
    exact h.e k hk
  · rintro ⟨h1, h2, h3, h4⟩
    exact ⟨h1, h2, h3, fun k hk => h4 _ (mem_idx.1 ⟨k, hk, rfl⟩)⟩
/-- a part of a graph with a node of its shortest cycle left out has none -/
theorem part_none {g : Graph} (hg : Good g) {d r : Int} {s : Sot} {es : List Edge} {c : List Int} (h : Told3 g d r s es c) {x : Nat} (hx : x < es.length) {sub : Graph} (hN : sub.N = g.N) (hsub : ∀ e ∈ sub.Edges, e ∈ g.Edges ∧ ∃ j : Nat, j < es.length ∧ j ≠ x ∧ (idx es (j : Int)).From = e.From) {es' : List Edge} {c' : List Int} (h' : Told3 sub d r s es' c') : es'.length = 0 := by
  have hmono : ∀ m a b, hasE sub m a b = true → hasE g m a b = true := by
    intro m a b hh
    obtain ⟨e, he, h1⟩ := hasE_mem.1 hh
    exact hasE_mem.2 ⟨e, (hsub e he).1, h1⟩
  rcases h'.least with ⟨h1, _⟩ | ⟨h1, _⟩
  · exact h1
  · exfalso
    have h2 := haslen_mono hN (hmono d) (hmono r) h1
    have h3 : es.length ≤ es'.length := by
      rcases h.least with ⟨h3, h4⟩ | ⟨_, h4⟩
      · omega
      · exact h4 _ h2
    have hfit := fitsI (a := (List.range c'.length).map (at3 c')) (b := ((List.range es.length).filter (· ≠ x)).map fun j : Nat => (idx es (j : Int)).From) ?_ ?_
    · have hlt : ((List.range es.length).filter (· ≠ x)).length < es.length := by
        have := (List.length_filter_lt_length_iff_exists (p := fun y => decide (y ≠ x)) (l := List.range es.length)).2 ⟨x, List.mem_range.2 hx, by simp⟩
        simpa using this
      rw [List.length_map, List.length_map, List.length_range, ← h'.len] at hfit
      omega
    · unfold List.Nodup
      rw [List.pairwise_map]
      refine List.pairwise_lt_range.imp_of_mem fun {a b} ha hb h4 e => ?_
      have := h'.nd a b (List.mem_range.1 ha) (List.mem_range.1 hb) e
      omega
    · intro v hv
      obtain ⟨i, hi, rfl⟩ := List.mem_map.1 hv
      obtain ⟨e1, _, e3⟩ := h'.ends (List.mem_range.1 hi)
      obtain ⟨_, j, hj, hjx, e4⟩ := hsub _ (mem_idx.1 e3)
      refine List.mem_map.2 ⟨j, List.mem_filter.2 ⟨List.mem_range.2 hj, by simpa using hjx⟩, ?_⟩
      rw [e4, e1]
end Go.Proofs.YtncapkloanfmnaaDoorT
