/- Copies and comparisons of histories and of answers. -/
import Derived.Test.YtmfihodpbladeaaTPLA
namespace Go.Proofs.YtmfihodpbladeaaT
open Go Go.Proofs Go.Proofs.YtmfihodpbladeaaE
set_option linter.unusedVariables false
set_option linter.unusedSimpArgs false

theorem SameVals_told {a b : List Int} (ha : a.length < 2 ^ 62) : assizeref03zSameVals a b = some (decide (a = b)) := by
  refine tri_dec.1 ?_
  unfold assizeref03zSameVals
  refine tri_if (fun h => ?_) (fun h => ?_)
  · refine tri_some ?_
    have : a ≠ b := by rintro rfl; exact h rfl
    simp [this]
  · have hl : a.length = b.length := by grind
    refine tri_all a.length (fun j => idx a (j : Int) = idx b (j : Int)) ?_
    intro k hk hJ
    have hw : w64 ((k : Int) + 1) = ((k + 1 : Nat) : Int) := w64zsucc (by omega)
    have hx : (∀ j : Nat, j < a.length → idx a (j : Int) = idx b (j : Int)) → a = b := fun h => list_ext hl h
    unfold assizeref03zSameVals.s1
    dsimp only
    rw [hw]
    repeat' (first | contradiction | with_reducible refine tri_if (fun hq => ?_) (fun hq => ?_) | with_reducible refine tri_must (by first | omega | grind [w64zin]) ?_ | with_reducible refine tri_out ?_ | with_reducible refine tri_sb ?_ | with_reducible refine tri_cb ?_ | with_reducible refine tri_mb ?_ | with_reducible refine tri_bb ?_ | with_reducible refine tri_some ?_)
    · show false = true ↔ a = b
      grind
    · exact ⟨rfl, by omega, by grind⟩
    · show true = true ↔ a = b
      grind
theorem SameAsks_told {a b : List Ask} (ha : a.length < 2 ^ 62) (hs : AllI a (fun x => x.Base.length < 2 ^ 62)) : Tri (assizeref09zSameAsks a b) (fun r => r = true ↔ a = b) := by
  unfold assizeref09zSameAsks
  refine tri_if (fun h => ?_) (fun h => ?_)
  · refine tri_some ?_
    have : a ≠ b := by rintro rfl; exact h rfl
    simp [this]
  · have hl : a.length = b.length := by grind
    refine tri_all a.length (fun j => idx a (j : Int) = idx b (j : Int)) ?_
    intro k hk hJ
    have hw : w64 ((k : Int) + 1) = ((k + 1 : Nat) : Int) := w64zsucc (by omega)
    have hx : (∀ j : Nat, j < a.length → idx a (j : Int) = idx b (j : Int)) → a = b := fun h => list_ext hl h
    have hv : k < a.length → _ := fun hk => SameVals_told (b := (idx b (k : Int)).Base) (hs k hk)
    have he : idx a (k : Int) = idx b (k : Int) ↔ (idx a (k : Int)).Txn = (idx b (k : Int)).Txn ∧ (idx a (k : Int)).Place = (idx b (k : Int)).Place ∧ (idx a (k : Int)).Key = (idx b (k : Int)).Key ∧ (idx a (k : Int)).Base = (idx b (k : Int)).Base := by
      generalize idx a (k : Int) = x
      generalize idx b (k : Int) = y
      obtain ⟨x1, x2, x3, x4⟩ := x
      obtain ⟨y1, y2, y3, y4⟩ := y
      simp
    unfold assizeref09zSameAsks.s1 assizeref09zSameAsks.j2
    simp only [cond_true, cond_false]
    rw [hw]
    refine tri_if (fun hk1 => ?_) (fun hk1 => ?_)
    · have hv := hv (by omega)
      repeat' (first | contradiction | with_reducible refine tri_if (fun hq => ?_) (fun hq => ?_) | with_reducible refine tri_must (by first | omega | grind [w64zin]) ?_ | with_reducible refine tri_out ?_ | with_reducible refine tri_sb ?_ | with_reducible refine tri_cb ?_ | with_reducible refine tri_mb ?_ | with_reducible refine tri_bb ?_ | with_reducible refine tri_some ?_ | refine tri_bnd hv ?_)
      all_goals grind [Nxt]
    · repeat' (first | contradiction | with_reducible refine tri_if (fun hq => ?_) (fun hq => ?_) | with_reducible refine tri_must (by first | omega | grind [w64zin]) ?_ | with_reducible refine tri_out ?_ | with_reducible refine tri_sb ?_ | with_reducible refine tri_cb ?_ | with_reducible refine tri_mb ?_ | with_reducible refine tri_bb ?_ | with_reducible refine tri_some ?_)
      show true = true ↔ a = b
      grind
/-! ### copies -/
theorem Copy_told {h : History} (hs : HSmall h) : assizeref05zCopy h = some h := by
  obtain ⟨h1, h2, h3⟩ := hs
  refine tri_eq.1 ?_
  unfold assizeref05zCopy
  refine tri_must (by omega) ?_
  refine tri_upm (k0 := 0) h.Txns.length (fun k s => s = (h.Txns.take k, (k : Int))) (Nat.zero_le _) rfl ?_
  rintro k s hk rfl
  unfold assizeref05zCopy.s1
  dsimp only
  refine tri_if (fun hk1 => ?_) (fun hk1 => ?_)
  · have hk2 : k < h.Txns.length := by omega
    obtain ⟨t1, t2⟩ := h3 k hk2
    have hT := take_succ hk2
    generalize hx : idx h.Txns (k : Int) = t at t1 t2 hT
    have hl : (h.Txns.take k).length = k := by simp; omega
    refine tri_must (by omega) ?_
    refine tri_upm (k0 := 0) t.Ops.length (fun j s => s = (t.Ops.take j, (j : Int))) (Nat.zero_le _) rfl ?_
    rintro j s hj rfl
    have hwj : w64 ((j : Int) + 1) = ((j + 1 : Nat) : Int) := w64zsucc (by omega)
    have hwk : w64 ((k : Int) + 1) = ((k + 1 : Nat) : Int) := w64zsucc (by omega)
    have hl2 : (t.Ops.take j).length = j := by simp; omega
    unfold assizeref05zCopy.s2
    simp only [hx, hl, hl2, hwj, hwk, List.nil_append]
    refine tri_if (fun hj1 => ?_) (fun hj1 => ?_)
    · have hj2 : j < t.Ops.length := by omega
      have t3 := t2 j hj2
      refine tri_must (by omega) (tri_must (by omega) (tri_must (by omega) (tri_some ⟨hj2, ?_⟩)))
      dsimp only
      rw [take_succ hj2]
    · refine tri_must (by omega) (tri_out (tri_some ⟨hk2, ?_⟩))
      dsimp only
      rw [hT, List.take_of_length_le (show t.Ops.length ≤ j by omega)]
  · refine tri_out (tri_some ?_)
    rw [List.take_of_length_le (show h.Txns.length ≤ k by omega)]
    rfl
/-- a history is the same as itself -/
theorem Same_self {h : History} (hs : HSmall h) : assizeref05zSame h h = some true := by
  obtain ⟨h1, h2, h3⟩ := hs
  refine tri_eq.1 ?_
  unfold assizeref05zSame assizeref05zSame.j1
  simp only [cond_true, cond_false, bne_self_eq_false]
  refine tri_all h.Keys.length (fun _ => True) ?_
  intro k hk hJ
  have hw : w64 ((k : Int) + 1) = ((k + 1 : Nat) : Int) := w64zsucc (by omega)
  unfold assizeref05zSame.s2
  dsimp only
  refine tri_if (fun hk1 => ?_) (fun hk1 => ?_)
  · repeat' (first | contradiction | with_reducible refine tri_if (fun hq => ?_) (fun hq => ?_) | with_reducible refine tri_must (by first | omega | grind [w64zin]) ?_ | with_reducible refine tri_out ?_ | with_reducible refine tri_sb ?_ | with_reducible refine tri_cb ?_ | with_reducible refine tri_mb ?_ | with_reducible refine tri_bb ?_ | with_reducible refine tri_some ?_)
    exact ⟨hw, by omega, trivial⟩
  · refine tri_all h.Txns.length (fun _ => True) ?_
    intro i hi hJ
    have hwi : w64 ((i : Int) + 1) = ((i + 1 : Nat) : Int) := w64zsucc (by omega)
    unfold assizeref05zSame.s3 assizeref05zSame.j4 assizeref05zSame.j5
    simp only [cond_true, cond_false, bne_self_eq_false]
    refine tri_if (fun hi1 => ?_) (fun hi1 => ?_)
    · obtain ⟨t1, t2⟩ := h3 i (by omega)
      refine tri_must (by omega) (tri_must (by omega) ?_)
      refine tri_all (idx h.Txns (i : Int)).Ops.length (fun _ => True) ?_
      intro j hj hJ
      have hwj : w64 ((j : Int) + 1) = ((j + 1 : Nat) : Int) := w64zsucc (by omega)
      unfold assizeref05zSame.s6 assizeref05zSame.j7 assizeref05zSame.j8
      simp only [cond_true, cond_false, bne_self_eq_false]
      refine tri_if (fun hj1 => ?_) (fun hj1 => ?_)
      · have t3 := t2 j (by omega)
        have hv := SameVals_told (a := (idx (idx h.Txns (i : Int)).Ops (j : Int)).Vals) (b := (idx (idx h.Txns (i : Int)).Ops (j : Int)).Vals) (by omega)
        repeat' (first | contradiction | with_reducible refine tri_if (fun hq => ?_) (fun hq => ?_) | with_reducible refine tri_must (by first | omega | grind [w64zin]) ?_ | with_reducible refine tri_out ?_ | with_reducible refine tri_sb ?_ | with_reducible refine tri_cb ?_ | with_reducible refine tri_mb ?_ | with_reducible refine tri_bb ?_ | with_reducible refine tri_some ?_ | refine tri_bnd hv ?_)
        all_goals grind [Nxt]
      · repeat' (first | contradiction | with_reducible refine tri_if (fun hq => ?_) (fun hq => ?_) | with_reducible refine tri_must (by first | omega | grind [w64zin]) ?_ | with_reducible refine tri_out ?_ | with_reducible refine tri_sb ?_ | with_reducible refine tri_cb ?_ | with_reducible refine tri_mb ?_ | with_reducible refine tri_bb ?_ | with_reducible refine tri_some ?_)
        exact ⟨hwi, by omega, trivial⟩
    · repeat' (first | contradiction | with_reducible refine tri_if (fun hq => ?_) (fun hq => ?_) | with_reducible refine tri_must (by first | omega | grind [w64zin]) ?_ | with_reducible refine tri_out ?_ | with_reducible refine tri_sb ?_ | with_reducible refine tri_cb ?_ | with_reducible refine tri_mb ?_ | with_reducible refine tri_bb ?_ | with_reducible refine tri_some ?_)
      rfl
end Go.Proofs.YtmfihodpbladeaaT
