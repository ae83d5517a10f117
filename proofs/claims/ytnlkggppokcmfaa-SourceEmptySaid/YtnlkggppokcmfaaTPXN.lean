/- Layer 10: the law of the reads without a source. -/
import Derived.Test.YtnlkggppokcmfaaTPXM
namespace Go.Proofs.YtnlkggppokcmfaaT
open Go Go.Proofs Go.Proofs.YtnlkggppokcmfaaE
set_option linter.unusedVariables false
set_option linter.unusedSimpArgs false
theorem known1ztold {b a : Ask} (ha : a.Base.length < 2 ^ 60) : Tri (source_known_1 b a) (fun r => r = true ↔ a = b) := by
  unfold source_known_1
  rw [equal_told (by omega)]
  obtain ⟨a1, a2, a3, a4⟩ := a
  obtain ⟨b1, b2, b3, b4⟩ := b
  dsimp only
  refine tri_if (fun e1 => ?_) (fun e1 => tri_some ?_)
  · refine tri_if (fun e2 => ?_) (fun e2 => tri_some ?_)
    · refine tri_if (fun e3 => tri_some ?_) (fun e3 => tri_some ?_)
      · simp [e1, e2, e3]
      · simp [e3]
    · simp [e2]
  · simp [e1]
theorem Contains_told {l : List Ask} {a : Ask} (ha : a.Base.length < 2 ^ 60) (hl : l.length < 2 ^ 60) : Tri (slices_ContainsFunc_Ask_source_known_1 l a) (fun r => r = true ↔ a ∈ l) := by
  have h1 : Tri (slices_IndexFunc_Ask_source_known_1 l a) (fun r => 0 ≤ r ↔ a ∈ l) := by
    unfold slices_IndexFunc_Ask_source_known_1
    refine tri_upm (k0 := 0) l.length (fun k s => s = (k : Int) ∧ ∀ j : Nat, j < k → a ≠ idx l (j : Int)) (Nat.zero_le _) ⟨rfl, fun j h => absurd h (Nat.not_lt_zero _)⟩ ?_
    rintro k s hk ⟨rfl, hno⟩
    have hw : w64 ((k : Int) + 1) = ((k + 1 : Nat) : Int) := w64zsucc (by omega)
    unfold slices_IndexFunc_Ask_source_known_1.s1
    dsimp only
    rw [hw]
    refine tri_if (fun h1 => ?_) (fun h1 => ?_)
    · have hk2 : k < l.length := by omega
      refine tri_must (by omega) (tri_bind (known1ztold ha) (fun r hr => ?_))
      refine tri_if (fun h2 => ?_) (fun h2 => ?_)
      · refine tri_out (tri_some ⟨fun _ => ?_, fun _ => by omega⟩)
        rw [hr.1 h2]
        exact aidx_mem hk2
      · refine tri_some ⟨hk2, rfl, fun j hj => ?_⟩
        rcases Nat.lt_or_ge j k with h3 | h3
        · exact hno j h3
        · have : j = k := by omega
          subst this
          exact fun e => h2 (hr.2 e)
    · have : k = l.length := by omega
      subst this
      refine tri_out (tri_some ⟨fun h => absurd h (by decide), fun h => ?_⟩)
      obtain ⟨j, hj, e⟩ := List.getElem_of_mem h
      exact absurd (e.symm.trans (idx_eq rfl hj).symm) (hno j hj)
  unfold slices_ContainsFunc_Ask_source_known_1
  refine tri_bind h1 (fun r hr => tri_some ?_)
  rw [decide_eq_true_iff]
  exact hr
theorem known_told {h : History} (hs : HSmall h) (hS : Sound h) (hc : index_Check h = some 0) {a : Ask} (ha : a.Base.length < 2 ^ 60) :
    Tri (source_known h a) (fun r => (r = 0 ∧ a ∈ allAsks h h.Txns.length) ∨ (r = 1 ∧ a ∉ allAsks h h.Txns.length)) := by
  have h32 := hS.len
  obtain ⟨i1, _, _⟩ := all_small hS h.Txns.length (Nat.le_refl _)
  have hA : local_Asks h = some (allAsks h h.Txns.length, 0) := by unfold local_Asks; rw [all_told hs hS hc]; rfl
  unfold source_known
  refine tri_bnd hA ?_
  refine tri_if (fun h1 => absurd rfl h1) (fun _ => ?_)
  refine tri_bind (Contains_told ha (by dsimp only; omega)) (fun r hr => ?_)
  refine tri_if (fun h1 => ?_) (fun h1 => ?_)
  · exact tri_some (.inl ⟨rfl, hr.1 h1⟩)
  · exact tri_some (.inr ⟨rfl, fun h2 => h1 (hr.2 h2)⟩)
theorem ask_base {h : History} (hS : Sound h) {a : Ask} (ha : a ∈ allAsks h h.Txns.length) : a.Base.length < 2 ^ 60 := by
  obtain ⟨t, p, hk⟩ := ask_ok hS ha
  have := hk.b64
  omega
theorem Sources_told {h : History} (hs : HSmall h) (hS : Sound h) (hc : index_Check h = some 0) {a : Ask} (ha : a ∈ allAsks h h.Txns.length) : source_Sources h a = some (srcs h a, 0) := by
  refine tri_eq.1 ?_
  unfold source_Sources
  refine tri_bind (known_told hs hS hc (ask_base hS ha)) (fun r hr => ?_)
  rcases hr with ⟨rfl, _⟩ | ⟨_, h1⟩
  · refine tri_if (fun h1 => absurd rfl h1) (fun _ => ?_)
    exact tri_bnd (srcs_told hS hc ha).1 (tri_some rfl)
  · exact absurd ha h1
theorem SourceEmpty_law (h : History) {K : ByteArray → Prop} (g : HG K h) : assizelaw10zSourceEmpty h = some true := by
  have hs := g.small
  refine tri_eq.1 ?_
  unfold assizelaw10zSourceEmpty
  rw [assizelaw10zalive_true]
  refine tri_sb ?_
  rw [Bool.not_true, cond_false]
  obtain ⟨v, hv, hv', h01, hSv⟩ := Check_told hs
  rcases h01 with rfl | rfl
  · have hS := hSv.1 rfl
    have h32 := hS.len
    obtain ⟨i1, _, _⟩ := all_small hS h.Txns.length (Nat.le_refl _)
    have hA : local_Asks h = some (allAsks h h.Txns.length, 0) := by unfold local_Asks; rw [all_told hs hS hv]; rfl
    have hE : source_Empty h = some (empties h (allAsks h h.Txns.length), 0) := by
      unfold source_Empty
      rw [hA]
      show (slices_DeleteFunc_Ask_source_Empty_1 _ h).bind _ = _
      rw [Delete_told hS hv (fun a ha => ha) (by omega)]
      rfl
    have hF : assizeref10zEmpty h = some (empties h (allAsks h h.Txns.length), 0) := by
      unfold assizeref10zEmpty
      rw [hv']
      show (assizeref09zAll h).bind _ = _
      rw [refAll_told hs hS]
      exact Empty_ref hS hv (fun a ha => ha) (by omega)
    have hm : ∀ a ∈ empties h (allAsks h h.Txns.length), a ∈ allAsks h h.Txns.length ∧ isEmpty h a := fun a ha => by
      have := List.mem_filter.1 ha
      exact ⟨this.1, by simpa using this.2⟩
    have hel : (empties h (allAsks h h.Txns.length)).length ≤ 512 := Nat.le_trans (List.length_filter_le _ _) (by omega)
    generalize empties h (allAsks h h.Txns.length) = E at hE hF hm hel
    refine tri_bnd hE (tri_bnd hF ?_)
    refine tri_if (fun h1 => absurd rfl h1) (fun _ => ?_)
    refine tri_bind (SameAsks_told (by dsimp only; omega) (alli_iff.2 fun a ha => by have := ask_base hS (hm a ha).1; omega)) (fun r hr => ?_)
    rw [hr.2 rfl]
    unfold assizelaw10zSourceEmpty.j1
    rw [Bool.not_true, cond_false]
    refine tri_upm (k0 := 0) E.length (fun k s => s = (k : Int)) (Nat.zero_le _) rfl ?_
    rintro k s hk rfl
    have hw : w64 ((k : Int) + 1) = ((k + 1 : Nat) : Int) := w64zsucc (by omega)
    unfold assizelaw10zSourceEmpty.s2 assizelaw10zSourceEmpty.j3
    dsimp only
    rw [hw]
    refine tri_if (fun h1 => ?_) (fun h1 => ?_)
    · have hk2 : k < E.length := by omega
      have hme := hm _ (aidx_mem hk2)
      refine tri_must (by omega) (tri_bnd (Sources_told hs hS hv hme.1) ?_)
      rw [show srcs h (idx E (k : Int)) = [] from hme.2]
      refine tri_if (fun h2 => absurd rfl h2) (fun _ => ?_)
      exact tri_some ⟨hk2, rfl⟩
    · exact tri_out (tri_some rfl)
  · have hE : source_Empty h = some ([], 1) := by
      unfold source_Empty local_Asks local_all
      rw [hv]
      rfl
    have hF : assizeref10zEmpty h = some ([], 1) := by
      unfold assizeref10zEmpty
      rw [hv']
      rfl
    refine tri_bnd hE (tri_bnd hF ?_)
    refine tri_if (fun h1 => absurd rfl h1) (fun _ => ?_)
    refine tri_bind (SameAsks_told (a := []) (b := []) (by simp) (fun j hj => by simp at hj)) (fun r hr => ?_)
    rw [hr.2 rfl]
    unfold assizelaw10zSourceEmpty.j1
    rw [Bool.not_true, cond_false]
    refine tri_eq.2 ?_
    rw [iter_eq]
    rfl
end Go.Proofs.YtnlkggppokcmfaaT
