/- Layer 10: the parts of a list, of the code and of the document, are the same. -/
import Derived.Test.YtnlkggppokcmfaaTPXD
namespace Go.Proofs.YtnlkggppokcmfaaT
open Go Go.Proofs Go.Proofs.YtnlkggppokcmfaaE
set_option linter.unusedVariables false
set_option linter.unusedSimpArgs false
def Stp (O : List Int) (W : Int → List Int) (rest l : List Int) : Option (Option Int) → Prop
  | none => rest.length = 0
  | some none => 0 < rest.length ∧ ∀ t ∈ O, W t <+: rest → t ∈ l
  | some (some t) => 0 < rest.length ∧ t ∈ O ∧ W t <+: rest ∧ t ∉ l
section
variable {O : List Int} {W : Int → List Int} {rest l : List Int}
theorem Stp.det (hP : Parts O W) {x y : Option (Option Int)} (hx : Stp O W rest l x) (hy : Stp O W rest l y) : x = y := by
  match x, y, hx, hy with
  | none, none, _, _ => rfl
  | none, some none, h1, h2 => exact absurd (show rest.length = 0 from h1) (by have : 0 < rest.length := h2.1; omega)
  | none, some (some t), h1, h2 => exact absurd (show rest.length = 0 from h1) (by have : 0 < rest.length := h2.1; omega)
  | some none, none, h1, h2 => exact absurd (show rest.length = 0 from h2) (by have : 0 < rest.length := h1.1; omega)
  | some (some t), none, h1, h2 => exact absurd (show rest.length = 0 from h2) (by have : 0 < rest.length := h1.1; omega)
  | some none, some none, _, _ => rfl
  | some none, some (some t), h1, h2 => exact absurd (h1.2 t h2.2.1 h2.2.2.1) h2.2.2.2
  | some (some t), some none, h1, h2 => exact absurd (h2.2 t h1.2.1 h1.2.2.1) h1.2.2.2
  | some (some t), some (some u), h1, h2 =>
    rw [pre_unique hP h1.2.1 h2.2.1 (pre_head h1.2.2.1 (hP.ne t h1.2.1)) (pre_head h2.2.2.1 (hP.ne u h2.2.1))]
def cxOf (W : Int → List Int) (rest l : List Int) : Option (Option Int) → (List Int × List Int) ⊕ (List Int × Bool)
  | none => .inr (l, true)
  | some none => .inr ([], false)
  | some (some t) => .inl (rest.drop (W t).length, l ++ [t])
def rxOf (W : Int → List Int) (rest l : List Int) : Option (Option Int) → (List Int × List Int) ⊕ (List Int × Bool)
  | none => .inr (l, true)
  | some none => .inr ([], false)
  | some (some t) => .inl (l ++ [t], rest.drop (W t).length)
theorem code_step (hP : Parts O W) (hr : rest.length ≤ 64) (hl : l.length ≤ 64) : Tri (source_list.s1 (finL O W) (rest, l)) (fun x => ∃ o, Stp O W rest l o ∧ x = cxOf W rest l o) := by
  have hol := hP.ol
  unfold source_list.s1
  dsimp only
  refine tri_if (fun h0 => ?_) (fun h0 => ?_)
  · have h0 : 0 < rest.length := by omega
    refine tri_bind (next_code hP h0) (fun y hy => ?_)
    unfold source_list.j2
    rw [finL_len]
    rcases hy with ⟨j, hj, rfl, hh⟩ | ⟨rfl, hno⟩
    · have hw16 := hP.wl _ (idx_mem hj)
      refine tri_if (fun h1 => absurd h1 (by omega)) (fun _ => ?_)
      refine tri_must (by omega) ?_
      rw [finL_at hj]
      dsimp only
      generalize hg : idx O (j : Int) = t at *
      have ht : t ∈ O := hg ▸ idx_mem hj
      refine tri_if (fun h2 => ?_) (fun h2 => ?_)
      · refine tri_out (tri_some ⟨some none, ⟨h0, fun u hu hp => ?_⟩, rfl⟩)
        have := pre_unique hP hu ht (pre_head hp (hP.ne u hu)) hh
        subst this
        have := hp.length_le
        omega
      · have h2 : (W t).length ≤ rest.length := by omega
        refine tri_must (by omega) ?_
        refine tri_bnd (equal_told (by omega)) ?_
        rw [subl_front h2]
        refine tri_if (fun h3 => ?_) (fun h3 => ?_)
        · refine tri_out (tri_some ⟨some none, ⟨h0, fun u hu hp => ?_⟩, rfl⟩)
          have := pre_unique hP hu ht (pre_head hp (hP.ne u hu)) hh
          subst this
          have := List.prefix_iff_eq_take.1 hp
          exact absurd this (by simpa using h3)
        · have h3 : W t = rest.take (W t).length := by simpa using h3
          refine tri_bnd (cont_told (by omega)) ?_
          refine tri_if (fun h4 => ?_) (fun h4 => ?_)
          · refine tri_out (tri_some ⟨some none, ⟨h0, fun u hu hp => ?_⟩, rfl⟩)
            have := pre_unique hP hu ht (pre_head hp (hP.ne u hu)) hh
            subst this
            exact h4
          · refine tri_must (by omega) (tri_must (by omega) (tri_must (by omega) ?_))
            rw [subl_back]
            exact tri_some ⟨some (some t), ⟨h0, ht, List.prefix_iff_eq_take.2 h3, h4⟩, rfl⟩
    · refine tri_if (fun h1 => ?_) (fun h1 => absurd h1 (by omega))
      exact tri_out (tri_some ⟨some none, ⟨h0, fun u hu hp => absurd (pre_head hp (hP.ne u hu)) (hno u hu)⟩, rfl⟩)
  · exact tri_out (tri_some ⟨none, by show rest.length = 0; omega, rfl⟩)
theorem ref_step {h : History} {a : Ask} (hP : Parts O W) (hW : ∀ t ∈ O, assizeref05zWrote h t a.Key = some (W t)) (hr : rest.length ≤ 64) (hl : l.length ≤ 64) :
    Tri (assizeref10zlist.s1 h a O (l, rest)) (fun x => ∃ o, Stp O W rest l o ∧ x = rxOf W rest l o) := by
  have hol := hP.ol
  unfold assizeref10zlist.s1
  dsimp only
  refine tri_if (fun h0 => ?_) (fun h0 => ?_)
  · have h0 : 0 < rest.length := by omega
    refine tri_upm (k0 := 0) O.length (fun k s => s.2 = (k : Int) ∧ ((s.1 = -1 ∧ ∀ j : Nat, j < k → ¬ W (idx O (j : Int)) <+: rest) ∨ (s.1 ∈ O ∧ W s.1 <+: rest))) (Nat.zero_le _) ⟨rfl, .inl ⟨rfl, fun j h => absurd h (Nat.not_lt_zero _)⟩⟩ ?_
    rintro k ⟨x, y⟩ hk ⟨e, hx⟩
    dsimp only at e hx
    subst e
    have hw : w64 ((k : Int) + 1) = ((k + 1 : Nat) : Int) := w64zsucc (by omega)
    unfold assizeref10zlist.s2 assizeref10zlist.j3
    dsimp only
    rw [hw]
    refine tri_if (fun hk1 => ?_) (fun hk1 => ?_)
    · have hk2 : k < O.length := by omega
      refine tri_must (by omega) ?_
      refine tri_bnd (hW _ (idx_mem hk2)) ?_
      refine tri_bnd (begins_told (by omega)) ?_
      refine tri_if (fun h1 => ?_) (fun h1 => ?_)
      · exact tri_some ⟨hk2, rfl, .inr ⟨idx_mem hk2, h1⟩⟩
      · refine tri_some ⟨hk2, rfl, ?_⟩
        rcases hx with ⟨e, hx⟩ | hx
        · refine .inl ⟨e, fun j hj => ?_⟩
          rcases Nat.lt_or_ge j k with h2 | h2
          · exact hx j h2
          · have : j = k := by omega
            subst this
            exact h1
        · exact .inr hx
    · have : k = O.length := by omega
      subst this
      rcases hx with ⟨rfl, hx⟩ | ⟨hx, hp⟩
      · refine tri_if (fun _ => ?_) (fun h1 => absurd h1 (by omega))
        refine tri_out (tri_out (tri_some ⟨some none, ⟨h0, fun t ht hp => ?_⟩, rfl⟩))
        obtain ⟨j, hj, rfl⟩ := mem_idx ht
        exact absurd hp (hx j hj)
      · have h2 := hP.pos x hx
        have h3 := hp.length_le
        refine tri_if (fun h1 => absurd h1 (by omega)) (fun _ => ?_)
        refine tri_upm (k0 := 0) l.length (fun k s => s = (k : Int) ∧ ∀ j : Nat, j < k → idx l (j : Int) ≠ x) (Nat.zero_le _) ⟨rfl, fun j h => absurd h (Nat.not_lt_zero _)⟩ ?_
        rintro m s hm ⟨rfl, hno⟩
        have hw2 : w64 ((m : Int) + 1) = ((m + 1 : Nat) : Int) := w64zsucc (by omega)
        unfold assizeref10zlist.s4
        dsimp only
        rw [hw2]
        refine tri_if (fun hm1 => ?_) (fun hm1 => ?_)
        · have hm2 : m < l.length := by omega
          refine tri_must (by omega) ?_
          refine tri_if (fun h4 => ?_) (fun h4 => ?_)
          · refine tri_out (tri_out (tri_out (tri_some ⟨some none, ⟨h0, fun u hu hq => ?_⟩, rfl⟩)))
            rw [pre_unique hP hu hx (pre_head hq (hP.ne u hu)) (pre_head hp (hP.ne x hx)), ← h4]
            exact idx_mem hm2
          · refine tri_some ⟨hm2, rfl, fun j hj => ?_⟩
            rcases Nat.lt_or_ge j m with h5 | h5
            · exact hno j h5
            · have : j = m := by omega
              subst this
              exact h4
        · have : m = l.length := by omega
          subst this
          refine tri_must (by omega) ?_
          refine tri_bnd (hW x hx) ?_
          refine tri_must (by omega) ?_
          rw [subl_back]
          refine tri_out (tri_out (tri_some ⟨some (some x), ⟨h0, hx, hp, fun hmem => ?_⟩, rfl⟩))
          obtain ⟨j, hj, e⟩ := mem_idx hmem
          exact hno j hj e
  · exact tri_out (tri_some ⟨none, by show rest.length = 0; omega, rfl⟩)
end
end Go.Proofs.YtnlkggppokcmfaaT
