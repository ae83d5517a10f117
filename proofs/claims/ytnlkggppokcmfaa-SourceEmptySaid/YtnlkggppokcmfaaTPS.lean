/- States: what the plain functions of layer 8 compute, and that the document's compute the same. -/
import Derived.Test.YtnlkggppokcmfaaTD
import Derived.Test.YtnlkggppokcmfaaP
namespace Go.Proofs.YtnlkggppokcmfaaT
open Go Go.Proofs Go.Proofs.YtnlkggppokcmfaaE
set_option linter.unusedVariables false
set_option linter.unusedSimpArgs false
def Upm {S Ω : Type} (n k : Nat) (J : Nat → S → Prop) (Q : Ω → Prop) : S ⊕ Ω → Prop
  | .inl s' => k < n ∧ J (k + 1) s'
  | .inr o => Q o
theorem tri_upm {S Ω : Type} {step : S → Option (S ⊕ Ω)} {Q : Ω → Prop} (n : Nat) (J : Nat → S → Prop) {s0 : S} {k0 : Nat} (hk0 : k0 ≤ n) (h0 : J k0 s0)
    (hs : ∀ (k : Nat) (s : S), k ≤ n → J k s → Tri (step s) (Upm n k J Q)) : Tri (iter step s0) Q := by
  generalize hd : n - k0 = d
  induction d using Nat.strongRecOn generalizing k0 s0 with
  | ind d ih =>
    obtain ⟨x, hx, hr⟩ := hs k0 s0 hk0 h0
    rw [iter_eq, hx]
    cases x with
    | inl s' => exact ih (n - (k0 + 1)) (by have := hr.1; omega) (k0 := k0 + 1) (by have := hr.1; omega) hr.2 rfl
    | inr o => exact ⟨o, rfl, hr⟩
def Asc (s : List Int) : Prop := ∀ k : Nat, k + 1 < s.length → idx s (k : Int) < idx s ((k + 1 : Nat) : Int)
instance (s : List Int) : Decidable (Asc s) := by
  unfold Asc
  exact decidable_of_iff (∀ k, k < s.length → k + 1 < s.length → idx s (k : Int) < idx s ((k + 1 : Nat) : Int)) ⟨fun h k hk => h k (by omega) hk, fun h k _ hk => h k hk⟩
theorem idx_get {s : List Int} {k : Nat} (h : k < s.length) : idx s (k : Int) = s[k] := idx_eq rfl h
theorem asc_iff {s : List Int} : Asc s ↔ s.Pairwise (· < ·) := by
  rw [List.pairwise_iff_getElem]
  constructor
  · intro h i j hi hj hij
    induction j with
    | zero => omega
    | succ j ih =>
      have h1 := h j hj
      rw [idx_get (by omega), idx_get hj] at h1
      rcases Nat.lt_or_ge i j with h2 | h2
      · exact Int.lt_trans (ih (by omega) h2) h1
      · have : i = j := by omega
        subst this
        exact h1
  · intro h k hk
    rw [idx_get (by omega), idx_get hk]
    exact h k (k + 1) (by omega) hk (by omega)
def SOk (t : Int) (s : List Int) : Bool := (t == 1 && decide (s.length ≤ 1)) || (t == 2 && decide (s.length ≤ 64)) || (t == 3 && decide (Asc s) && decide (s.length ≤ 64)) || (t == 4 && s.length == 1)
def chk (t : Int) (s : List Int) : Int := if 1 ≤ t ∧ t ≤ 4 then (if SOk t s then 0 else 80) else 1
theorem w64zpred {k : Nat} (h : k < 2 ^ 62) (h1 : 1 ≤ k) : w64 ((k : Int) - 1) = ((k - 1 : Nat) : Int) := by
  rw [w64zid (by omega) (by omega)]; omega
theorem set_sound_told {s : List Int} (hs : s.length < 2 ^ 62) : state_set_sound () s = some (decide (Asc s) && decide (s.length ≤ 64)) := by
  unfold state_set_sound
  refine tri_eq.1 ?_
  refine tri_upm (k0 := 1) (s.length + 1) (fun k x => x = (k : Int) ∧ 1 ≤ k ∧ ∀ j : Nat, j + 1 < k → j + 1 < s.length → idx s (j : Int) < idx s ((j + 1 : Nat) : Int)) (by omega) ⟨rfl, Nat.le_refl _, fun j h => by omega⟩ ?_
  rintro k x hk ⟨rfl, hk1, hJ⟩
  unfold state_set_sound.s1
  refine tri_bif (fun h => ?_) (fun h => ?_)
  · have h : (k : Int) < s.length := of_decide_eq_true h
    have e := w64zpred (k := k) (by omega) hk1
    refine tri_must (by rw [e]; omega) (tri_must (by omega) (tri_bif (fun h2 => ?_) (fun h2 => ?_)))
    · have h2 : idx s (k : Int) ≤ idx s (w64 ((k : Int) - 1)) := of_decide_eq_true h2
      rw [e] at h2
      refine tri_out (tri_some ?_)
      show false = _
      have hn : ¬ Asc s := by
        intro hA
        have := hA (k - 1) (by omega)
        rw [show k - 1 + 1 = k by omega] at this
        omega
      simp [hn]
    · have h2 : ¬ idx s (k : Int) ≤ idx s (w64 ((k : Int) - 1)) := of_decide_eq_false h2
      rw [e] at h2
      refine ⟨_, rfl, by omega, w64zsucc (by omega), by omega, fun j hj hl => ?_⟩
      rcases Nat.lt_or_ge (j + 1) k with h3 | h3
      · exact hJ j h3 hl
      · have : j = k - 1 := by omega
        subst this
        rw [show k - 1 + 1 = k by omega]
        omega
  · have h : ¬ (k : Int) < s.length := of_decide_eq_false h
    refine tri_out (tri_some ?_)
    show decide ((s.length : Int) ≤ 64) = _
    have hA : Asc s := fun j hj => hJ j (by omega) hj
    simp only [hA, decide_true, Bool.true_and]
    congr 1
    exact propext ⟨fun h => by omega, fun h => by omega⟩
theorem chk_range {t : Int} {s : List Int} (h : 1 ≤ t ∧ t ≤ 4) : chk t s = if SOk t s then 0 else 80 := if_pos h
theorem four {t : Int} (h : 1 ≤ t ∧ t ≤ 4) : t = 1 ∨ t = 2 ∨ t = 3 ∨ t = 4 := by omega
theorem len1 {s : List Int} {n : Nat} : decide ((s.length : Int) ≤ (n : Int)) = decide (s.length ≤ n) := by
  congr 1
  exact propext ⟨fun h => by omega, fun h => by omega⟩
theorem state_of_out {t : Int} (h : ¬ (1 ≤ t ∧ t ≤ 4)) : state_of t = some (-1) := by
  have e1 : (t == 1) = false := by rw [beq_eq_false_iff_ne]; omega
  have e2 : (t == 2) = false := by rw [beq_eq_false_iff_ne]; omega
  have e3 : (t == 3) = false := by rw [beq_eq_false_iff_ne]; omega
  have e4 : (t == 4) = false := by rw [beq_eq_false_iff_ne]; omega
  simp [state_of, e1, e2, e3, e4]
theorem state_Check_told (t : Int) {s : List Int} (hs : s.length < 2 ^ 62) : state_Check t s = some (chk t s) := by
  by_cases ht : 1 ≤ t ∧ t ≤ 4
  · rw [chk_range ht]
    rcases four ht with rfl | rfl | rfl | rfl
    · have := len1 (s := s) (n := 1)
      simp only [Int.cast_ofNat_Int] at this
      simp [state_Check, state_of, state_register_sound, SOk]
      by_cases h : s.length ≤ 1
      · have h' : (s.length : Int) ≤ 1 := by omega
        simp [h, h']
      · have h' : ¬ (s.length : Int) ≤ 1 := by omega
        simp [h, h']
    · simp [state_Check, state_of, state_list_sound, SOk]
      by_cases h : s.length ≤ 64
      · have h' : (s.length : Int) ≤ 64 := by omega
        simp [h, h']
      · have h' : ¬ (s.length : Int) ≤ 64 := by omega
        simp [h, h']
    · simp [state_Check, state_of, set_sound_told hs, SOk]
      by_cases h : Asc s <;> by_cases h' : s.length ≤ 64 <;> simp [h, h']
    · simp [state_Check, state_of, state_counter_sound, SOk]
      by_cases h : s.length = 1
      · have h' : (s.length : Int) = 1 := by omega
        simp [h, h']
      · have h' : ((s.length : Int) == 1) = false := by rw [beq_eq_false_iff_ne]; omega
        simp [h, h']
  · rw [chk, if_neg ht]
    simp [state_Check, state_of_out ht]
theorem ref_asc_told {s : List Int} (hs : s.length < 2 ^ 62) : iter (assizeref08zCheck.s3 s) (decide ((s.length : Int) ≤ 64), 1) = some (if decide (Asc s) && decide (s.length ≤ 64) then 0 else 80) := by
  refine tri_eq.1 ?_
  refine tri_upm (k0 := 1) (s.length + 1) (fun k x => x.2 = (k : Int) ∧ 1 ≤ k ∧ (x.1 = true ↔ s.length ≤ 64 ∧ ∀ j : Nat, j + 1 < k → j + 1 < s.length → idx s (j : Int) < idx s ((j + 1 : Nat) : Int))) (by omega)
    ⟨rfl, Nat.le_refl _, ⟨fun h => ⟨by have := of_decide_eq_true h; omega, fun j hj => by omega⟩, fun h => decide_eq_true (by omega)⟩⟩ ?_
  rintro k ⟨b, x⟩ hk ⟨hx, hk1, hJ⟩
  have hx : x = (k : Int) := hx
  subst hx
  unfold assizeref08zCheck.s3
  refine tri_bif (fun h => ?_) (fun h => ?_)
  · have h : (k : Int) < s.length := of_decide_eq_true h
    have e := w64zpred (k := k) (by omega) hk1
    refine tri_bif (fun hb => ?_) (fun hb => ?_)
    · have hb' := hJ.1 hb
      refine tri_must (by rw [e]; omega) (tri_must (by omega) ⟨_, rfl, by omega, w64zsucc (by omega), by omega, ?_⟩)
      show decide _ = true ↔ _
      rw [e, decide_eq_true_iff]
      constructor
      · intro h2
        refine ⟨hb'.1, fun j hj hl => ?_⟩
        rcases Nat.lt_or_ge (j + 1) k with h3 | h3
        · exact hb'.2 j h3 hl
        · have : j = k - 1 := by omega
          subst this
          rw [show k - 1 + 1 = k by omega]
          omega
      · rintro ⟨_, h2⟩
        have := h2 (k - 1) (by omega) (by omega)
        rw [show k - 1 + 1 = k by omega] at this
        omega
    · refine ⟨_, rfl, by omega, w64zsucc (by omega), by omega, ?_⟩
      show false = true ↔ _
      constructor
      · intro h; cases h
      · rintro ⟨h1, h2⟩
        have := hJ.2 ⟨h1, fun j hj => h2 j (by omega)⟩
        have hb : b = false := hb
        rw [hb] at this
        cases this
  · have h : ¬ (k : Int) < s.length := of_decide_eq_false h
    refine tri_out ?_
    have hb : b = (decide (Asc s) && decide (s.length ≤ 64)) := by
      rw [Bool.eq_iff_iff, hJ]
      simp only [Bool.and_eq_true, decide_eq_true_eq]
      exact ⟨fun h => ⟨fun j hj => h.2 j (by omega) hj, h.1⟩, fun h => ⟨h.2, fun j _ hj => h.1 j hj⟩⟩
    unfold assizeref08zCheck.j2
    rw [← hb]
    cases b
    · exact ⟨_, rfl, rfl⟩
    · exact ⟨_, rfl, rfl⟩
theorem ref_Check_told (t : Int) {s : List Int} (hs : s.length < 2 ^ 62) : assizeref08zCheck t s = some (chk t s) := by
  by_cases ht : 1 ≤ t ∧ t ≤ 4
  · rw [chk_range ht]
    rcases four ht with rfl | rfl | rfl | rfl
    · simp [assizeref08zCheck, assizeref08zCheck.j1, assizeref08zCheck.j2, SOk]
      by_cases h : s.length ≤ 1
      · have h' : (s.length : Int) ≤ 1 := by omega
        simp [h, h']
      · have h' : ¬ (s.length : Int) ≤ 1 := by omega
        simp [h, h']
    · simp [assizeref08zCheck, assizeref08zCheck.j1, assizeref08zCheck.j2, SOk]
      by_cases h : s.length ≤ 64
      · have h' : (s.length : Int) ≤ 64 := by omega
        simp [h, h']
      · have h' : ¬ (s.length : Int) ≤ 64 := by omega
        simp [h, h']
    · simp [assizeref08zCheck, assizeref08zCheck.j1]
      have := ref_asc_told hs
      simp at this
      rw [this]
      simp [SOk]
    · simp [assizeref08zCheck, assizeref08zCheck.j1, assizeref08zCheck.j2, SOk]
      by_cases h : s.length = 1
      · have h' : (s.length : Int) = 1 := by omega
        simp [h, h']
      · have h' : ((s.length : Int) == 1) = false := by rw [beq_eq_false_iff_ne]; omega
        simp [h, h']
  · rw [chk, if_neg ht]
    by_cases h1 : t < 1
    · simp [assizeref08zCheck, assizeref08zCheck.j1, h1]
    · have : t > 4 := by omega
      simp [assizeref08zCheck, assizeref08zCheck.j1, h1, this]
def lb (s : List Int) (a : Int) : Nat := s.findIdx (fun x => decide (a ≤ x))
def hit (s : List Int) (a : Int) : Bool := decide (lb s a < s.length) && (idx s (lb s a : Int) == a)
def ins (s : List Int) (a : Int) : List Int := s.take (lb s a) ++ ((if hit s a then [] else [a]) ++ s.drop (lb s a))
theorem lb_le (s : List Int) (a : Int) : lb s a ≤ s.length := List.findIdx_le_length
theorem lb_lt {s : List Int} {a : Int} {k : Nat} (h : k < lb s a) : idx s (k : Int) < a := by
  have h1 : k < s.length := Nat.lt_of_lt_of_le h (lb_le s a)
  rw [idx_get h1]
  have := List.not_of_lt_findIdx (p := fun x => decide (a ≤ x)) (xs := s) h
  simpa using this
theorem lb_at {s : List Int} {a : Int} (h : lb s a < s.length) : a ≤ idx s (lb s a : Int) := by
  rw [idx_get h]
  have := List.findIdx_getElem (p := fun x => decide (a ≤ x)) (xs := s) (w := h)
  exact of_decide_eq_true this
theorem lb_is {s : List Int} {a : Int} {i : Nat} (hi : i ≤ s.length) (h1 : ∀ k : Nat, k < i → idx s (k : Int) < a) (h2 : i < s.length → a ≤ idx s (i : Int)) : lb s a = i := by
  rcases Nat.lt_trichotomy (lb s a) i with h | h | h
  · have := lb_at (s := s) (a := a) (by omega)
    have := h1 _ h
    omega
  · exact h
  · have h3 := lb_lt h
    have := h2 (by have := lb_le s a; omega)
    omega
theorem mid_u64 {i j : Nat} (hi : i < 2 ^ 62) (hj : j < 2 ^ 62) : w64 (sShr .u64 (IntKind.wrap .u64 (w64 ((i : Int) + (j : Int)))) (1 : Int)) = (((i + j) / 2 : Nat) : Int) := by
  have e1 : w64 ((i : Int) + (j : Int)) = ((i + j : Nat) : Int) := by rw [w64zid (by omega) (by omega)]; omega
  rw [e1, wrap_u64 (by omega), sShr_u64 (n := 1) (i := (1 : Int)) rfl (by omega), w64zid (by omega) (by omega)]
  simp [Nat.shiftRight_eq_div_pow]
theorem less_told (a b : Int) : cmp_Less_int64 a b = some (decide (a < b)) := by simp [cmp_Less_int64, cmp_isNaN_int64]
theorem search_told {s : List Int} (a : Int) (hA : Asc s) (hs : s.length < 2 ^ 62) : slices_BinarySearch_int64 s a = some ((lb s a : Int), hit s a) := by
  unfold slices_BinarySearch_int64
  refine tri_eq.1 ?_
  have hP := List.pairwise_iff_getElem.1 (asc_iff.1 hA)
  have hmono : ∀ p q : Nat, p ≤ q → q < s.length → idx s (p : Int) ≤ idx s (q : Int) := by
    intro p q hpq hq
    rcases Nat.lt_or_ge p q with h | h
    · rw [idx_get (by omega), idx_get hq]
      exact Int.le_of_lt (hP p q (by omega) hq h)
    · have : p = q := by omega
      subst this
      exact Int.le_refl _
  refine tri_iter (fun x : Int × Int => ∃ i j : Nat, x = ((i : Int), (j : Int)) ∧ i ≤ j ∧ j ≤ s.length ∧ (∀ k : Nat, k < i → idx s (k : Int) < a) ∧ (j < s.length → a ≤ idx s (j : Int))) (fun x => x.2.toNat - x.1.toNat)
    ⟨0, s.length, rfl, by omega, by omega, fun k h => by omega, fun h => by omega⟩ ?_
  rintro _ ⟨i, j, rfl, hij, hj, h1, h2⟩
  unfold slices_BinarySearch_int64.s1
  refine tri_bif (fun h => ?_) (fun h => ?_)
  · have h : (i : Int) < j := of_decide_eq_true h
    have e := mid_u64 (i := i) (j := j) (by omega) (by omega)
    rw [e]
    refine tri_must (by decide) (tri_must (by omega) ?_)
    rw [less_told]
    show Tri (bif decide _ then _ else _) _
    have hm : (i + j) / 2 < j := by omega
    have hm2 : i ≤ (i + j) / 2 := by omega
    generalize (i + j) / 2 = m at hm hm2
    refine tri_bif (fun h3 => ?_) (fun h3 => ?_)
    · have h3 : idx s (m : Int) < a := of_decide_eq_true h3
      refine ⟨_, rfl, ⟨m + 1, j, by rw [w64zsucc (by omega)], by omega, hj, fun k hk => ?_, h2⟩, ?_⟩
      · exact Int.lt_of_le_of_lt (hmono k m (by omega) (by omega)) h3
      · rw [w64zsucc (by omega)]; simp only [Int.toNat_natCast]; omega
    · have h3 : ¬ idx s (m : Int) < a := of_decide_eq_false h3
      refine ⟨_, rfl, ⟨i, m, rfl, hm2, by omega, h1, fun _ => by omega⟩, ?_⟩
      simp only [Int.toNat_natCast]; omega
  · have h : ¬ (i : Int) < j := of_decide_eq_false h
    have hji : j = i := by omega
    subst hji
    have hl : lb s a = j := lb_is hj h1 h2
    refine tri_bif (fun h3 => ?_) (fun h3 => ?_)
    · have h3 : (j : Int) < s.length := of_decide_eq_true h3
      have hlt : j < s.length := by omega
      refine tri_must (by omega) (tri_bif (fun h4 => ?_) (fun h4 => ?_))
      · refine tri_out (tri_some ?_)
        simp [Rnd, hl, hit, hlt, h4]
      · simp only [slices_isNaN_int64, Option.bind_some, bne_self_eq_false, cond_false]
        refine tri_out (tri_some ?_)
        simp [Rnd, hl, hit, hlt, h4]
    · have h3 : ¬ (j : Int) < s.length := of_decide_eq_false h3
      have hlt : ¬ j < s.length := by omega
      refine tri_out (tri_some ?_)
      simp [Rnd, hl, hit, hlt]
theorem hit_mem {s : List Int} {a : Int} (hA : Asc s) : hit s a = true ↔ a ∈ s := by
  unfold hit
  simp only [Bool.and_eq_true, decide_eq_true_eq, beq_iff_eq]
  constructor
  · rintro ⟨h1, h2⟩
    rw [idx_get h1] at h2
    exact h2 ▸ List.getElem_mem h1
  · intro h
    obtain ⟨k, hk, e⟩ := List.getElem_of_mem h
    have hP := List.pairwise_iff_getElem.1 (asc_iff.1 hA)
    have : lb s a = k := by
      refine lb_is (by omega) (fun j hj => ?_) (fun _ => ?_)
      · rw [idx_get (by omega), ← e]; exact hP j k (by omega) hk hj
      · rw [idx_get hk, e]; exact Int.le_refl _
    rw [this]
    exact ⟨hk, by rw [idx_get hk, e]⟩
def next (t : Int) (s : List Int) (a : Int) : List Int := if t = 1 then [a] else if t = 2 then s ++ [a] else if t = 3 then ins s a else [w64 (idx s 0 + a)]
def app (t : Int) (s : List Int) (a : Int) : List Int × Int :=
  if chk t s ≠ 0 then ([], chk t s) else if (next t s a).length > 64 then ([], 2) else (next t s a, 0)
theorem chk_ok {t : Int} {s : List Int} (h : chk t s = 0) : 1 ≤ t ∧ t ≤ 4 ∧ SOk t s = true := by
  unfold chk at h
  split at h
  · rename_i h1
    split at h
    · exact ⟨h1.1, h1.2, by assumption⟩
    · cases h
  · cases h
theorem ok_len {t : Int} {s : List Int} (h : SOk t s = true) : s.length ≤ 64 := by
  simp only [SOk, Bool.or_eq_true, Bool.and_eq_true, decide_eq_true_eq, beq_iff_eq] at h
  omega
theorem ok_asc {s : List Int} (h : SOk 3 s = true) : Asc s := by
  simp [SOk] at h
  exact h.1
theorem ok_one {s : List Int} (h : SOk 4 s = true) : s.length = 1 := by
  simp [SOk] at h
  exact h
def start (t : Int) : List Int × Int := if 1 ≤ t ∧ t ≤ 4 then (if t = 4 then [0] else [], 0) else ([], 1)
def step (t : Int) (x : List Int × Int) (a : Int) : List Int × Int := if x.2 = 0 then app t x.1 a else x
theorem same_vals {a b : List Int} (ha : a.length < 2 ^ 62) : assizeref03zSameVals a b = some (decide (a = b)) := by
  unfold assizeref03zSameVals
  by_cases hl : a.length = b.length
  · have : ((a.length : Int) != (b.length : Int)) = false := by simp; omega
    rw [this, cond_false]
    refine tri_eq.1 ?_
    refine tri_up a.length (fun k => ∀ j : Nat, j < k → idx a (j : Int) = idx b (j : Int)) (fun j h => by omega) (fun k hk hJ => ?_)
    unfold assizeref03zSameVals.s1
    refine tri_bif (fun h => ?_) (fun h => ?_)
    · have h : (k : Int) < a.length := of_decide_eq_true h
      refine tri_must (by omega) (tri_must (by omega) (tri_bif (fun h2 => ?_) (fun h2 => ?_)))
      · have h2 : idx a (k : Int) ≠ idx b (k : Int) := by simpa using h2
        refine tri_out (tri_some ?_)
        show false = _
        have : a ≠ b := fun e => h2 (by rw [e])
        simp [this]
      · have h2 : idx a (k : Int) = idx b (k : Int) := by simpa using h2
        refine ⟨_, rfl, w64zsucc (by omega), by omega, fun j hj => ?_⟩
        rcases Nat.lt_or_ge j k with h3 | h3
        · exact hJ j h3
        · have : j = k := by omega
          subst this
          exact h2
    · have h : ¬ (k : Int) < a.length := of_decide_eq_false h
      refine tri_out (tri_some ?_)
      show true = _
      have : a = b := list_ext hl (fun j hj => hJ j (by omega))
      simp [this]
  · have : ((a.length : Int) != (b.length : Int)) = true := by simp; omega
    rw [this, cond_true]
    have : a ≠ b := fun e => hl (by rw [e])
    simp [this]
end Go.Proofs.YtnlkggppokcmfaaT
