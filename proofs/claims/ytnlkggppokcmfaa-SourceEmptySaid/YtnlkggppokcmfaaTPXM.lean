/- Layer 10: the asks without a source. -/
import Derived.Test.YtnlkggppokcmfaaTPXL
namespace Go.Proofs.YtnlkggppokcmfaaT
open Go Go.Proofs Go.Proofs.YtnlkggppokcmfaaE
set_option linter.unusedVariables false
set_option linter.unusedSimpArgs false
noncomputable def srcs (h : History) (a : Ask) : List Int := (source_sources h a).getD []
theorem srcs_told {h : History} (hS : Sound h) (hc : index_Check h = some 0) {a : Ask} (ha : a ∈ allAsks h h.Txns.length) : source_sources h a = some (srcs h a) ∧ assizeref10zOf h a = some (srcs h a) := by
  obtain ⟨t, p, hk⟩ := ask_ok hS ha
  obtain ⟨s, h1, h2, _⟩ := sources_told hS hc hk
  unfold srcs
  rw [h1, h2]
  exact ⟨rfl, rfl⟩
def isEmpty (h : History) (a : Ask) : Prop := srcs h a = []
open Classical in
noncomputable def empties (h : History) (l : List Ask) : List Ask := l.filter (fun a => decide (isEmpty h a))
theorem aidx_mem {l : List Ask} {j : Nat} (hj : j < l.length) : idx l (j : Int) ∈ l := by rw [idx_eq (n := j) rfl hj]; exact List.getElem_mem _
theorem empties_succ {h : History} {l : List Ask} {k : Nat} (hk : k < l.length) : (isEmpty h (idx l (k : Int)) → empties h (l.take (k + 1)) = empties h (l.take k) ++ [idx l (k : Int)]) ∧ (¬ isEmpty h (idx l (k : Int)) → empties h (l.take (k + 1)) = empties h (l.take k)) := by
  unfold empties
  rw [List.take_succ_eq_append_getElem hk, List.filter_append, (idx_eq (n := k) rfl hk : idx l (k : Int) = l[k])]
  constructor <;> intro h1 <;> simp [h1]
theorem empties_len {h : History} {l : List Ask} {k : Nat} : (empties h (l.take k)).length ≤ k := Nat.le_trans (List.length_filter_le _ _) (by rw [List.length_take]; omega)
section
variable {h : History}
theorem Empty1ztold (hS : Sound h) (hc : index_Check h = some 0) {a : Ask} (ha : a ∈ allAsks h h.Txns.length) : Tri (source_Empty_1 a h) (fun r => r = true ↔ ¬ isEmpty h a) := by
  unfold source_Empty_1
  refine tri_bnd (srcs_told hS hc ha).1 (tri_some ?_)
  rw [decide_eq_true_iff]
  unfold isEmpty
  constructor
  · intro h1 h2
    rw [h2] at h1
    simp at h1
  · intro h1
    have := List.length_pos_iff.2 h1
    omega
theorem Index_told (hS : Sound h) (hc : index_Check h = some 0) {l : List Ask} (hl : ∀ a ∈ l, a ∈ allAsks h h.Txns.length) (hb : l.length < 2 ^ 60) :
    Tri (slices_IndexFunc_Ask_source_Empty_1 l h) (fun r => (r = -1 ∧ ∀ j : Nat, j < l.length → isEmpty h (idx l (j : Int))) ∨ ∃ k : Nat, r = (k : Int) ∧ k < l.length ∧ ¬ isEmpty h (idx l (k : Int)) ∧ ∀ j : Nat, j < k → isEmpty h (idx l (j : Int))) := by
  unfold slices_IndexFunc_Ask_source_Empty_1
  refine tri_upm (k0 := 0) l.length (fun k s => s = (k : Int) ∧ ∀ j : Nat, j < k → isEmpty h (idx l (j : Int))) (Nat.zero_le _) ⟨rfl, fun j h => absurd h (Nat.not_lt_zero _)⟩ ?_
  rintro k s hk ⟨rfl, hno⟩
  have hw : w64 ((k : Int) + 1) = ((k + 1 : Nat) : Int) := w64zsucc (by omega)
  unfold slices_IndexFunc_Ask_source_Empty_1.s1
  dsimp only
  rw [hw]
  refine tri_if (fun h1 => ?_) (fun h1 => ?_)
  · have hk2 : k < l.length := by omega
    refine tri_must (by omega) ?_
    refine tri_bind (Empty1ztold hS hc (hl _ (aidx_mem hk2))) (fun r hr => ?_)
    refine tri_if (fun h2 => ?_) (fun h2 => ?_)
    · exact tri_out (tri_some (.inr ⟨k, rfl, hk2, hr.1 h2, hno⟩))
    · refine tri_some ⟨hk2, rfl, fun j hj => ?_⟩
      rcases Nat.lt_or_ge j k with h3 | h3
      · exact hno j h3
      · have : j = k := by omega
        subst this
        exact Classical.byContradiction fun h4 => h2 (hr.2 h4)
  · have : k = l.length := by omega
    subst this
    exact tri_out (tri_some (.inl ⟨rfl, hno⟩))
theorem all_empties {l : List Ask} : ∀ k : Nat, k ≤ l.length → (∀ j : Nat, j < k → isEmpty h (idx l (j : Int))) → empties h (l.take k) = l.take k
  | 0, _, _ => by simp [empties]
  | k + 1, hk, hj => by
    rw [(empties_succ (by omega)).1 (hj k (by omega)), all_empties k (by omega) (fun j h => hj j (by omega)), List.take_succ_eq_append_getElem (by omega), (idx_eq (n := k) rfl (by omega) : idx l (k : Int) = l[k])]
theorem Delete_told (hS : Sound h) (hc : index_Check h = some 0) {l : List Ask} (hl : ∀ a ∈ l, a ∈ allAsks h h.Txns.length) (hb : l.length < 2 ^ 60) : slices_DeleteFunc_Ask_source_Empty_1 l h = some (empties h l) := by
  refine tri_eq.1 ?_
  unfold slices_DeleteFunc_Ask_source_Empty_1
  refine tri_bind (Index_told hS hc hl hb) (fun r hr => ?_)
  rcases hr with ⟨rfl, hr⟩ | ⟨k0, rfl, hk0, hne, hr⟩
  · refine tri_some ?_
    have := all_empties (h := h) (l := l) l.length (Nat.le_refl _) hr
    rw [List.take_length] at this
    exact this.symm
  · have hw0 : w64 ((k0 : Int) + 1) = ((k0 + 1 : Nat) : Int) := w64zsucc (by omega)
    refine tri_if (fun h1 => absurd h1 (by omega)) (fun _ => ?_)
    refine tri_must (by omega) ?_
    rw [hw0, Int.toNat_natCast]
    refine tri_upm (k0 := k0 + 1) l.length (fun k s => s.1 = empties h (l.take k) ∧ s.2 = (k : Int)) (by omega) ⟨?_, rfl⟩ ?_
    · dsimp only
      rw [(empties_succ hk0).2 hne, all_empties k0 (by omega) hr]
    rintro k ⟨m, x⟩ hk ⟨e1, e2⟩
    dsimp only at e1 e2
    subst e1 e2
    have hw : w64 ((k : Int) + 1) = ((k + 1 : Nat) : Int) := w64zsucc (by omega)
    unfold slices_DeleteFunc_Ask_source_Empty_1.s1
    dsimp only
    rw [hw]
    refine tri_if (fun h1 => ?_) (fun h1 => ?_)
    · have hk2 : k < l.length := by omega
      refine tri_must (by omega) ?_
      refine tri_bind (Empty1ztold hS hc (hl _ (aidx_mem hk2))) (fun r hr => ?_)
      cases r
      · refine tri_some ⟨hk2, ?_, rfl⟩
        dsimp only
        rw [(empties_succ hk2).1 (Classical.byContradiction fun h4 => by have := hr.2 h4; cases this)]
      · refine tri_some ⟨hk2, ?_, rfl⟩
        dsimp only
        rw [(empties_succ hk2).2 (hr.1 rfl)]
    · have : k = l.length := by omega
      subst this
      exact tri_out (tri_some (by rw [List.take_length]; rfl))
theorem Empty_ref (hS : Sound h) (hc : index_Check h = some 0) {l : List Ask} {b : List Spot} (hl : ∀ a ∈ l, a ∈ allAsks h h.Txns.length) (hb : l.length ≤ 512) : iter (assizeref10zEmpty.s1 h (l, b)) ([], 0) = some (empties h l, 0) := by
  refine tri_eq.1 ?_
  refine tri_upm (k0 := 0) l.length (fun k s => s.1 = empties h (l.take k) ∧ s.2 = (k : Int)) (Nat.zero_le _) ⟨by simp [empties], rfl⟩ ?_
  rintro k ⟨m, x⟩ hk ⟨e1, e2⟩
  dsimp only at e1 e2
  subst e1 e2
  have hw : w64 ((k : Int) + 1) = ((k + 1 : Nat) : Int) := w64zsucc (by omega)
  have hel := empties_len (h := h) (l := l) (k := k)
  unfold assizeref10zEmpty.s1 assizeref10zEmpty.j2
  dsimp only
  rw [hw]
  refine tri_if (fun h1 => ?_) (fun h1 => ?_)
  · have hk2 : k < l.length := by omega
    refine tri_must (by omega) ?_
    refine tri_bnd (srcs_told hS hc (hl _ (aidx_mem hk2))).2 ?_
    refine tri_if (fun h2 => ?_) (fun h2 => ?_)
    · refine tri_must (by omega) (tri_some ⟨hk2, ?_, rfl⟩)
      dsimp only
      rw [(empties_succ hk2).1 (List.length_eq_zero_iff.1 (by omega))]
    · refine tri_some ⟨hk2, ?_, rfl⟩
      dsimp only
      rw [(empties_succ hk2).2 (fun h3 => h2 (by rw [show srcs h (idx l (k : Int)) = [] from h3]; rfl))]
  · have : k = l.length := by omega
    subst this
    exact tri_out (tri_some (by rw [List.take_length]; rfl))
end
end Go.Proofs.YtnlkggppokcmfaaT
