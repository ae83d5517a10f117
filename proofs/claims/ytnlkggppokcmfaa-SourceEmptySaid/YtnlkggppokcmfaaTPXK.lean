/- Layer 10: the sources of a counter, of the document. -/
import Derived.Test.YtnlkggppokcmfaaTPXJ
namespace Go.Proofs.YtnlkggppokcmfaaT
open Go Go.Proofs Go.Proofs.YtnlkggppokcmfaaE
set_option linter.unusedVariables false
set_option linter.unusedSimpArgs false
theorem Sum_told {h : History} {t key : Int} {w : List Int} (hW : assizeref05zWrote h t key = some w) (hl : w.length ≤ 16) : assizeref10zSum h t key = some (sumW 0 w) := by
  refine tri_eq.1 ?_
  unfold assizeref10zSum
  refine tri_bnd hW ?_
  refine tri_upm (k0 := 0) w.length (fun m s => s.1 = sumW 0 (w.take m) ∧ s.2 = (m : Int)) (Nat.zero_le _) ⟨by simp [sumW], rfl⟩ ?_
  rintro m ⟨s, x⟩ hm ⟨f1, f2⟩
  dsimp only at f1 f2
  subst f1 f2
  have hw2 : w64 ((m : Int) + 1) = ((m + 1 : Nat) : Int) := w64zsucc (by omega)
  unfold assizeref10zSum.s1
  dsimp only
  rw [hw2]
  refine tri_if (fun h2 => ?_) (fun h2 => ?_)
  · have hm2 : m < w.length := by omega
    refine tri_must (by omega) (tri_some ⟨hm2, ?_, rfl⟩)
    dsimp only
    rw [sumW_take hm2]
  · have : m = w.length := by omega
    subst this
    exact tri_out (tri_some (by rw [List.take_length]; rfl))
section
variable {O : List Int} {W : Int → List Int}
open Classical in
theorem counts_told (hol : O.length ≤ 32) (hwl : ∀ t ∈ O, (W t).length ≤ 16) {h : History} {a : Ask} (hW : ∀ t ∈ O, assizeref05zWrote h t a.Key = some (W t)) (ho : assizeref10zothers h a = some O) (hb : 0 < a.Base.length) :
    assizeref10zcounts h a = some (picks O (Win (idx a.Base 0) (O.map W) 0 (fun _ => False) 0) O.length) := by
  refine tri_eq.1 ?_
  have h232 : 2 ^ O.length ≤ 2 ^ 32 := Nat.pow_le_pow_right (by decide) hol
  have hN0 : 0 < 2 ^ O.length := Nat.two_pow_pos _
  unfold assizeref10zcounts
  refine tri_bnd ho ?_
  refine tri_must (by omega) ?_
  have hfin : ∀ j, j < O.length → (Win (idx a.Base 0) (O.map W) 0 (fun _ => False) 0 j ↔ ∃ m : Nat, 1 ≤ m ∧ m < 2 ^ O.length ∧ Msk O W (idx a.Base 0) m j) := fun j hj => win_mask hj
  generalize Win (idx a.Base 0) (O.map W) 0 (fun _ => False) 0 = f at hfin ⊢
  have hshl := shl_i64 hol
  generalize 2 ^ O.length = N at h232 hN0 hfin hshl
  refine tri_upm (k0 := 1) N (fun m s => s.1.length = O.length ∧ s.2 = (m : Int) ∧ ∀ j, j < O.length → (idx s.1 (j : Int) = true ↔ ∃ m' : Nat, 1 ≤ m' ∧ m' < m ∧ Msk O W (idx a.Base 0) m' j)) hN0 ⟨by simp, rfl, fun j hj => ?_⟩ ?_
  · dsimp only
    rw [Int.toNat_natCast, idx_eq (n := j) rfl (by simpa using hj)]
    simp
    intro m' h1 h2
    omega
  rintro m ⟨ok, x⟩ hm ⟨e1, e2, e3⟩
  dsimp only at e1 e2 e3
  subst e2
  unfold assizeref10zcounts.s1
  dsimp only
  rw [hshl]
  refine tri_must (by unfold far; omega) ?_
  refine tri_if (fun h1 => ?_) (fun h1 => ?_)
  · have hm2 : m < N := by omega
    have hwm : w64 ((m : Int) + 1) = ((m + 1 : Nat) : Int) := w64zsucc (by omega)
    refine tri_upm (k0 := 0) O.length (fun i s => s.1 = SmUp O W m.testBit i ∧ s.2 = (i : Int)) (Nat.zero_le _) ⟨rfl, rfl⟩ ?_
    rintro i ⟨s, x⟩ hi ⟨f1, f2⟩
    dsimp only at f1 f2
    subst f1 f2
    have hwi : w64 ((i : Int) + 1) = ((i + 1 : Nat) : Int) := w64zsucc (by omega)
    unfold assizeref10zcounts.s2 assizeref10zcounts.j3
    dsimp only
    rw [hwi]
    refine tri_if (fun h2 => ?_) (fun h2 => ?_)
    · have hi2 : i < O.length := by omega
      refine tri_must (by unfold far; omega) ?_
      rw [bit_i64 (by omega) (by omega)]
      cases hbit : m.testBit i
      · refine tri_if (fun h3 => absurd h3 (by simp)) (fun _ => ?_)
        refine tri_some ⟨hi2, ?_, rfl⟩
        dsimp only
        rw [SmUp_succ, hbit]
        rfl
      · refine tri_if (fun _ => ?_) (fun h3 => absurd (by simp) h3)
        refine tri_must (by omega) ?_
        refine tri_bnd (Sum_told (hW _ (idx_mem hi2)) (hwl _ (idx_mem hi2))) (tri_some ⟨hi2, ?_, rfl⟩)
        dsimp only
        rw [SmUp_succ, hbit]
        rfl
    · have : i = O.length := by omega
      subst this
      have fin : ∀ l : List Bool, l.length = O.length → (∀ j, j < O.length → (idx l (j : Int) = true ↔ idx ok (j : Int) = true ∨ Msk O W (idx a.Base 0) m j)) →
          Upm N m (fun m s => s.1.length = O.length ∧ s.2 = (m : Int) ∧ ∀ j, j < O.length → (idx s.1 (j : Int) = true ↔ ∃ m' : Nat, 1 ≤ m' ∧ m' < m ∧ Msk O W (idx a.Base 0) m' j)) (fun b => b = picks O f O.length) (.inl (l, ((m + 1 : Nat) : Int))) := by
        intro l hl hj
        refine ⟨hm2, hl, rfl, fun j hj2 => ?_⟩
        dsimp only
        rw [hj j hj2, e3 j hj2]
        constructor
        · rintro (⟨m', h1, h2, h3⟩ | h3)
          · exact ⟨m', h1, by omega, h3⟩
          · refine ⟨m, ?_, by omega, h3⟩
            apply Nat.lt_of_not_le
            intro h0
            have : m = 0 := by omega
            subst this
            have := h3.2
            rw [Nat.zero_testBit] at this
            cases this
        · rintro ⟨m', h1, h2, h3⟩
          rcases Nat.lt_or_ge m' m with h4 | h4
          · exact .inl ⟨m', h1, h4, h3⟩
          · have : m' = m := by omega
            subst this
            exact .inr h3
      refine tri_upm (k0 := 0) O.length (fun i s => s.1.length = O.length ∧ s.2 = (i : Int) ∧ ∀ j, j < O.length → (idx s.1 (j : Int) = true ↔ idx ok (j : Int) = true ∨ (SmUp O W m.testBit O.length = idx a.Base 0 ∧ j < i ∧ m.testBit j = true))) (Nat.zero_le _)
        ⟨e1, rfl, fun j hj => ⟨fun h => .inl h, fun h => h.elim id (fun h => absurd h.2.1 (Nat.not_lt_zero _))⟩⟩ ?_
      rintro i ⟨l, x⟩ hi ⟨f1, f2, f3⟩
      dsimp only at f1 f2 f3
      subst f2
      have hwi : w64 ((i : Int) + 1) = ((i + 1 : Nat) : Int) := w64zsucc (by omega)
      unfold assizeref10zcounts.s4 assizeref10zcounts.j5 assizeref10zcounts.j6
      dsimp only
      rw [hwi, hwm]
      refine tri_if (fun h3 => ?_) (fun h3 => ?_)
      · have hi2 : i < O.length := by omega
        refine tri_must (by omega) ?_
        refine tri_if (fun h4 => ?_) (fun h4 => ?_)
        · refine tri_must (by omega) ?_
          rw [Int.toNat_natCast, bit_i64 (by omega) (by omega)]
          have step : ∀ v : Bool, (v = true ↔ idx l (i : Int) = true ∨ m.testBit i = true) → ∀ j, j < O.length → (idx (l.set i v) (j : Int) = true ↔ idx ok (j : Int) = true ∨ (SmUp O W m.testBit O.length = idx a.Base 0 ∧ j < i + 1 ∧ m.testBit j = true)) := by
            intro v hv j hj
            rw [idx_setN (by omega)]
            by_cases e : j = i
            · subst e
              rw [if_pos rfl, hv, f3 j hj]
              constructor
              · rintro ((h | ⟨_, h, _⟩) | h)
                · exact .inl h
                · omega
                · exact .inr ⟨h4, by omega, h⟩
              · rintro (h | ⟨_, _, h⟩)
                · exact .inl (.inl h)
                · exact .inr h
            · rw [if_neg e, f3 j hj]
              constructor
              · rintro (h | ⟨h, h', h''⟩)
                · exact .inl h
                · exact .inr ⟨h, by omega, h''⟩
              · rintro (h | ⟨h, h', h''⟩)
                · exact .inl h
                · exact .inr ⟨h, by omega, h''⟩
          cases hli : idx l (i : Int)
          · rw [cond_false]
            refine tri_must (by unfold far; omega) (tri_some ⟨hi2, by simp [f1], rfl, step _ ?_⟩)
            rw [hli]
            cases m.testBit i <;> simp
          · rw [cond_true]
            refine tri_some ⟨hi2, by simp [f1], rfl, step _ ?_⟩
            rw [hli]
            simp
        · refine tri_out (tri_out (tri_some (fin l f1 fun j hj => ?_)))
          rw [f3 j hj]
          unfold Msk
          exact or_congr Iff.rfl ⟨fun h => absurd h.1 h4, fun h => absurd h.1 h4⟩
      · have : i = O.length := by omega
        subst this
        rw [cond_false]
        refine tri_out (tri_out (tri_some (fin l f1 fun j hj => ?_)))
        rw [f3 j hj]
        unfold Msk
        exact or_congr Iff.rfl ⟨fun h => ⟨h.1, h.2.2⟩, fun h => ⟨h.1, hj, h.2⟩⟩
  · have hmN : m = N := by omega
    subst hmN
    have e4 : ∀ j, j < O.length → (idx ok (j : Int) = true ↔ f j) := fun j hj => (e3 j hj).trans (hfin j hj).symm
    refine tri_upm (k0 := 0) O.length (fun k s => s = (picks O f k, (k : Int))) (Nat.zero_le _) (by simp [picks]) ?_
    rintro k s hk rfl
    have hw : w64 ((k : Int) + 1) = ((k + 1 : Nat) : Int) := w64zsucc (by omega)
    have hl := picks_len (O := O) (f := f) (k := k)
    have hs := picks_succ (O := O) (f := f) (k := k)
    unfold assizeref10zcounts.s7 assizeref10zcounts.j8
    dsimp only
    rw [hw]
    refine tri_if (fun h1 => ?_) (fun h1 => ?_)
    · have hk2 : k < O.length := by omega
      refine tri_must (by omega) ?_
      cases hok : idx ok (k : Int)
      · rw [cond_false]
        refine tri_some ⟨hk2, ?_⟩
        dsimp only
        rw [hs, if_neg (fun hf => by rw [(e4 k hk2).2 hf] at hok; cases hok)]
      · rw [cond_true]
        refine tri_must (by omega) (tri_must (by omega) (tri_some ⟨hk2, ?_⟩))
        dsimp only
        rw [hs, if_pos ((e4 k hk2).1 hok)]
    · have : k = O.length := by omega
      subst this
      exact tri_out (tri_out (tri_some rfl))
end
end Go.Proofs.YtnlkggppokcmfaaT
