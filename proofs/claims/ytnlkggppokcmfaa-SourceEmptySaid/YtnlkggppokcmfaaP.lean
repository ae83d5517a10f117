/- Rules for plain functions that may fail to answer: that they answer, and as told; loops by a measure; the same functions with fuel; words as numbers. -/
import Derived.Test.YtnlkggppokcmfaaH
import Derived.Lib.TrailingZeros
namespace Go.Proofs.YtnlkggppokcmfaaE
open Go Go.Proofs
set_option linter.unusedVariables false
set_option linter.unusedSimpArgs false
def Tri {α : Type} (x : Option α) (Q : α → Prop) : Prop := ∃ a, x = some a ∧ Q a
theorem tri_some {α : Type} {a : α} {Q : α → Prop} (h : Q a) : Tri (some a) Q := ⟨a, rfl, h⟩
theorem tri_must {α : Type} {c : Prop} [Decidable c] {x : Option α} {Q : α → Prop} (hc : c) (h : Tri x Q) : Tri (must c x) Q := by rw [must_pos _ hc]; exact h
theorem tri_bind {α β : Type} {x : Option α} {k : α → Option β} {R : α → Prop} {Q : β → Prop} (h : Tri x R) (hk : ∀ a, R a → Tri (k a) Q) : Tri (x.bind k) Q := by
  obtain ⟨a, rfl, ha⟩ := h
  exact hk a ha
theorem tri_mono {α : Type} {x : Option α} {R Q : α → Prop} (h : Tri x R) (hq : ∀ a, R a → Q a) : Tri x Q := by
  obtain ⟨a, ha, hr⟩ := h
  exact ⟨a, ha, hq a hr⟩
theorem tri_out {σ Ω : Type} {x : Option Ω} {Q : σ ⊕ Ω → Prop} (h : Tri x (fun a => Q (.inr a))) : Tri (out x) Q := by
  obtain ⟨a, rfl, ha⟩ := h
  exact ⟨_, rfl, ha⟩
theorem tri_eq {α : Type} {x : Option α} {a : α} : Tri x (fun b => b = a) ↔ x = some a := by
  constructor
  · rintro ⟨b, h, rfl⟩; exact h
  · intro h; exact ⟨a, h, rfl⟩
def Rnd {σ Ω : Type} (I : σ → Prop) (m : σ → Nat) (Q : Ω → Prop) (s : σ) : σ ⊕ Ω → Prop
  | .inl s' => I s' ∧ m s' < m s
  | .inr o => Q o
theorem tri_iter {σ Ω : Type} {step : σ → Option (σ ⊕ Ω)} {Q : Ω → Prop} (I : σ → Prop) (m : σ → Nat) {s : σ} (h0 : I s)
    (hs : ∀ s, I s → Tri (step s) (Rnd I m Q s)) : Tri (iter step s) Q := by
  generalize hn : m s = n
  induction n using Nat.strongRecOn generalizing s with
  | ind n ih =>
    obtain ⟨x, hx, hr⟩ := hs s h0
    rw [iter_eq, hx]
    cases x with
    | inl s' => exact ih (m s') (hn ▸ hr.2) hr.1 rfl
    | inr o => exact ⟨o, rfl, hr⟩
theorem tri_bif {α : Type} {c : Bool} {x y : Option α} {Q : α → Prop} (h1 : c = true → Tri x Q) (h2 : c = false → Tri y Q) : Tri (bif c then x else y) Q := by
  cases c
  · exact h2 rfl
  · exact h1 rfl
def Up {Ω : Type} (n k : Nat) (J : Nat → Prop) (Q : Ω → Prop) : Int ⊕ Ω → Prop
  | .inl s' => s' = ((k + 1 : Nat) : Int) ∧ k < n ∧ J (k + 1)
  | .inr o => Q o
theorem tri_up {Ω : Type} {step : Int → Option (Int ⊕ Ω)} {Q : Ω → Prop} (n : Nat) (J : Nat → Prop) (h0 : J 0)
    (hs : ∀ k : Nat, k ≤ n → J k → Tri (step (k : Int)) (Up n k J Q)) : Tri (iter step 0) Q := by
  refine tri_iter (fun s : Int => ∃ k : Nat, s = (k : Int) ∧ k ≤ n ∧ J k) (fun s : Int => n - s.toNat) ⟨0, rfl, Nat.zero_le _, h0⟩ ?_
  rintro s ⟨k, rfl, hk, hJ⟩
  refine tri_mono (hs k hk hJ) ?_
  rintro (s' | o) h
  · obtain ⟨rfl, h1, h2⟩ := h
    exact ⟨⟨k + 1, rfl, h1, h2⟩, by simp; omega⟩
  · exact h
def Up2 {σ Ω : Type} (n k : Nat) (J : Nat → σ → Prop) (Q : Ω → Prop) : (σ × Int) ⊕ Ω → Prop
  | .inl (s', x) => x = ((k + 1 : Nat) : Int) ∧ k < n ∧ J (k + 1) s'
  | .inr o => Q o
theorem tri_up2 {σ Ω : Type} {step : σ × Int → Option ((σ × Int) ⊕ Ω)} {Q : Ω → Prop} {s : σ} (n : Nat) (J : Nat → σ → Prop) (h0 : J 0 s)
    (hs : ∀ (k : Nat) (s : σ), k ≤ n → J k s → Tri (step (s, (k : Int))) (Up2 n k J Q)) : Tri (iter step (s, 0)) Q := by
  refine tri_iter (fun s : σ × Int => ∃ k : Nat, s.2 = (k : Int) ∧ k ≤ n ∧ J k s.1) (fun s : σ × Int => n - s.2.toNat) ⟨0, rfl, Nat.zero_le _, h0⟩ ?_
  rintro ⟨s, x⟩ ⟨k, hx, hk, hJ⟩
  subst hx
  refine tri_mono (hs k s hk hJ) ?_
  rintro (⟨s', x⟩ | o) h
  · obtain ⟨rfl, h1, h2⟩ := h
    exact ⟨⟨k + 1, rfl, h1, h2⟩, by simp; omega⟩
  · exact h
def Le {α : Type} (x y : Option α) : Prop := ∀ r, x = some r → y = some r
theorem le_refl {α : Type} (x : Option α) : Le x x := fun _ h => h
theorem le_must {α : Type} {c : Prop} [Decidable c] {x y : Option α} (h : Le x y) : Le (must c x) (must c y) := by
  intro r hr
  obtain ⟨hc, hx⟩ := must_some hr
  rw [must_pos _ hc]
  exact h r hx
theorem le_bind {α β : Type} {x y : Option α} {k l : α → Option β} (h : Le x y) (hk : ∀ a, Le (k a) (l a)) : Le (x.bind k) (y.bind l) := by
  intro r hr
  obtain ⟨a, ha, hb⟩ := bind_some hr
  rw [h a ha]
  exact hk a r hb
theorem le_out {σ Ω : Type} {x y : Option Ω} (h : Le x y) : Le (out (σ := σ) x) (out y) := by
  intro r hr
  obtain ⟨a, ha, rfl⟩ := out_some hr
  rw [h a ha]
  rfl
theorem le_cond {α : Type} {c : Bool} {x y x' y' : Option α} (h1 : Le x x') (h2 : Le y y') : Le (bif c then x else y) (bif c then x' else y') := by
  cases c
  · exact h2
  · exact h1
theorem le_iter {σ Ω : Type} {f g : σ → Option (σ ⊕ Ω)} {n : Nat} {s : σ} (h : ∀ s, Le (f s) (g s)) : Le (iterN f n s) (iter g s) := by
  intro r hr
  refine iter_iff.2 ⟨n, ?_⟩
  induction n generalizing s with
  | zero => cases hr
  | succ n ih =>
    simp only [iterN] at hr ⊢
    cases hf : f s with
    | none => rw [hf] at hr; cases hr
    | some x =>
      rw [hf] at hr
      rw [h s x hf]
      cases x with
      | inl s' => exact ih hr
      | inr o => exact hr
theorem idx_eq {α : Type} [Inhabited α] {xs : List α} {j : Int} {n : Nat} (hj : j = n) (h : n < xs.length) : idx xs j = xs[n] := by
  subst hj
  unfold idx
  simp [h]
theorem idx_set {α : Type} [Inhabited α] {xs : List α} {i : Int} {j : Nat} {v : α} (h0 : 0 ≤ i) (h1 : i < xs.length) : idx (xs.set i.toNat v) (j : Int) = if (j : Int) = i then v else idx xs (j : Int) := by
  unfold idx
  simp only [Int.toNat_natCast, List.getD_eq_getElem?_getD, List.getElem?_set]
  by_cases e : (j : Int) = i
  · subst e
    have : j < xs.length := by omega
    simp [this]
  · have : ¬ (i.toNat = j) := by omega
    rw [if_neg this, if_neg e]
theorem list_ext {α : Type} [Inhabited α] {xs ys : List α} (hl : xs.length = ys.length) (h : ∀ j : Nat, j < xs.length → idx xs (j : Int) = idx ys (j : Int)) : xs = ys := by
  apply List.ext_getElem hl
  intro j h1 h2
  have := h j h1
  rwa [idx_eq rfl h1, idx_eq rfl h2] at this
theorem wrap_u64 {n : Nat} (h : n < 2 ^ 64) : IntKind.wrap .u64 (n : Int) = n := by
  unfold IntKind.wrap
  simp only [IntKind.bits, IntKind.signed, Bool.false_and]
  have : ((n : Int) % (2 ^ 64 : Int)) = n := Int.emod_eq_of_lt (by omega) (by omega)
  simp only [this]
  simp
theorem w64zid {x : Int} (h0 : -(2 ^ 63) ≤ x) (h1 : x < 2 ^ 63) : w64 x = x := by
  unfold w64 IntKind.wrap
  simp only [IntKind.bits, IntKind.signed, Bool.true_and]
  by_cases hx : 0 ≤ x
  · have : x % (2 ^ 64 : Int) = x := Int.emod_eq_of_lt hx (by omega)
    simp only [this]
    rw [if_neg]
    simp
    omega
  · have : x % (2 ^ 64 : Int) = x + 2 ^ 64 := by
      rw [← Int.add_emod_right]
      exact Int.emod_eq_of_lt (by omega) (by omega)
    simp only [this]
    rw [if_pos]
    · omega
    · simp
      omega
theorem bAnd_u64 {a b : Nat} (ha : a < 2 ^ 64) (hb : b < 2 ^ 64) : bAnd .u64 (a : Int) (b : Int) = ((a &&& b : Nat) : Int) := by
  unfold bAnd
  have h : a &&& b < 2 ^ 64 := Nat.and_lt_two_pow _ hb
  rw [show IntKind.bits .u64 = 64 from rfl, BitVec.ofInt_natCast, BitVec.ofInt_natCast, BitVec.toNat_and, BitVec.toNat_ofNat, BitVec.toNat_ofNat, Nat.mod_eq_of_lt ha, Nat.mod_eq_of_lt hb]
  exact wrap_u64 h
theorem bOr_u64 {a b : Nat} (ha : a < 2 ^ 64) (hb : b < 2 ^ 64) : bOr .u64 (a : Int) (b : Int) = ((a ||| b : Nat) : Int) := by
  unfold bOr
  have h : a ||| b < 2 ^ 64 := Nat.or_lt_two_pow ha hb
  rw [show IntKind.bits .u64 = 64 from rfl, BitVec.ofInt_natCast, BitVec.ofInt_natCast, BitVec.toNat_or, BitVec.toNat_ofNat, BitVec.toNat_ofNat, Nat.mod_eq_of_lt ha, Nat.mod_eq_of_lt hb]
  exact wrap_u64 h
theorem sShl_u64 {i : Int} {n : Nat} (hi : i = n) (h : n < 64) : sShl .u64 1 i = ((2 ^ n : Nat) : Int) := by
  subst hi
  unfold sShl
  rw [show IntKind.bits .u64 = 64 from rfl, Int.toNat_natCast, Nat.min_eq_left (by omega)]
  have : (1 : Int) * 2 ^ n = ((2 ^ n : Nat) : Int) := by rw [Int.one_mul]; exact (Int.natCast_pow 2 n).symm
  rw [this]
  exact wrap_u64 (Nat.pow_lt_pow_right (by decide) h)
theorem sShr_u64 {a n : Nat} {i : Int} (hi : i = n) (h : n < 64) : sShr .u64 (a : Int) i = ((a >>> n : Nat) : Int) := by
  subst hi
  unfold sShr
  rw [show IntKind.bits .u64 = 64 from rfl, Int.toNat_natCast, Nat.min_eq_left (by omega), Nat.shiftRight_eq_div_pow]
  have : (2 : Int) ^ n = ((2 ^ n : Nat) : Int) := (Int.natCast_pow 2 n).symm
  rw [this, Int.fdiv_eq_ediv_of_nonneg _ (Int.natCast_nonneg _)]
  exact (Int.natCast_ediv a (2 ^ n)).symm
theorem bit_one {a n : Nat} : (a >>> n) &&& 1 = (a.testBit n).toNat := by
  rw [Nat.and_one_is_mod, Nat.testBit_eq_decide_div_mod_eq, Nat.shiftRight_eq_div_pow]
  rcases Nat.mod_two_eq_zero_or_one (a / 2 ^ n) with h | h <;> simp [h]
theorem w64zsucc {k : Nat} (h : k < 2 ^ 62) : w64 ((k : Int) + 1) = ((k + 1 : Nat) : Int) := by
  rw [w64zid (by omega) (by omega)]
  rfl
theorem low_bit {a : Nat} (h0 : a ≠ 0) (h : a < 2 ^ 64) : Lib.ctz 64 a < 64 ∧ a.testBit (Lib.ctz 64 a) = true ∧ ∀ i, (a &&& (a - 1)).testBit i = (a.testBit i && !decide (i = Lib.ctz 64 a)) := by
  unfold Lib.ctz
  rw [if_neg h0]
  obtain ⟨m, hm, hk⟩ := Lib.ctzFrom_spec 64 a (by omega) h
  generalize Lib.ctzFrom 64 a = k at hm hk
  have bits : ∀ i, a.testBit i = (decide (k ≤ i) && (2 * m + 1).testBit (i - k)) := by
    intro i; rw [hm, Nat.mul_comm, Nat.testBit_mul_two_pow]
  have hm1 : a - 1 = 2 ^ k * (2 * m) + (2 ^ k - 1) := by
    rw [hm, Nat.mul_add, Nat.mul_one]
    have := Nat.two_pow_pos k
    omega
  have bits1 : ∀ i, (a - 1).testBit i = if i < k then true else (2 * m).testBit (i - k) := by
    intro i
    rw [hm1, Nat.testBit_two_pow_mul_add _ (by have := Nat.two_pow_pos k; omega)]
    split
    · rw [Nat.testBit_two_pow_sub_one]; simp [*]
    · rfl
  refine ⟨hk, ?_, ?_⟩
  · rw [bits]; simp
  · intro i
    rw [Nat.testBit_and, bits, bits1]
    by_cases hik : i < k
    · simp [hik, Nat.not_le.2 hik]
    · simp only [hik, if_false]
      by_cases he : i = k
      · subst he; simp
      · obtain ⟨j, rfl⟩ : ∃ j, i = k + (j + 1) := ⟨i - k - 1, by omega⟩
        have e3 : k + (j + 1) - k = j + 1 := by omega
        rw [e3, Nat.testBit_succ, Nat.testBit_succ]
        have d1 : (2 * m + 1) / 2 = m := by omega
        have d2 : (2 * m) / 2 = m := by omega
        rw [d1, d2]
        have d3 : ¬ (k + (j + 1) = k) := by omega
        simp [d3]
def Wd (x : Int) (p : Nat → Prop) : Prop := ∃ a : Nat, x = a ∧ a < 2 ^ 64 ∧ ∀ j, a.testBit j = true ↔ p j
theorem Wd.zero : Wd 0 (fun _ => False) := ⟨0, rfl, by decide, by simp⟩
theorem Wd.congr {x : Int} {p q : Nat → Prop} (h : Wd x p) (e : ∀ j, p j ↔ q j) : Wd x q := by
  obtain ⟨a, rfl, h1, h2⟩ := h
  exact ⟨a, rfl, h1, fun j => (h2 j).trans (e j)⟩
theorem Wd.lt {x : Int} {p : Nat → Prop} (h : Wd x p) {j : Nat} (hj : p j) : j < 64 := by
  obtain ⟨a, rfl, h1, h2⟩ := h
  apply Nat.lt_of_not_le
  intro hle
  have := (h2 j).2 hj
  rw [Nat.testBit_lt_two_pow (Nat.lt_of_lt_of_le h1 (Nat.pow_le_pow_right (by decide) hle))] at this
  cases this
theorem Wd.or {x y : Int} {p q : Nat → Prop} (h : Wd x p) (h' : Wd y q) : Wd (bOr .u64 x y) (fun j => p j ∨ q j) := by
  obtain ⟨a, rfl, h1, h2⟩ := h
  obtain ⟨b, rfl, h3, h4⟩ := h'
  refine ⟨a ||| b, bOr_u64 h1 h3, Nat.or_lt_two_pow h1 h3, fun j => ?_⟩
  rw [Nat.testBit_or, Bool.or_eq_true, h2, h4]
theorem Wd.bit {i : Int} {n : Nat} (hi : i = n) (h : n < 64) : Wd (sShl .u64 1 i) (fun j => j = n) := by
  refine ⟨_, sShl_u64 hi h, Nat.pow_lt_pow_right (by decide) h, fun j => ?_⟩
  rw [Nat.testBit_two_pow]
  simp [eq_comm]
theorem Wd.low {x : Int} {p : Nat → Prop} (h : Wd x p) (h0 : x ≠ 0) : ∃ k : Nat, Lib.ctz 64 x.toNat = k ∧ k < 64 ∧ 0 ≤ x ∧ x < 18446744073709551616 ∧ p k ∧
    Wd (bAnd .u64 x (IntKind.wrap .u64 (x - 1))) (fun j => p j ∧ j ≠ k) ∧ (bAnd .u64 x (IntKind.wrap .u64 (x - 1))).toNat < x.toNat := by
  obtain ⟨a, rfl, h1, h2⟩ := h
  have ha : a ≠ 0 := by intro e; exact h0 (by rw [e]; rfl)
  obtain ⟨l1, l2, l3⟩ := low_bit ha h1
  have e : ((a : Int) - 1) = ((a - 1 : Nat) : Int) := by omega
  rw [e, wrap_u64 (by omega), bAnd_u64 h1 (by omega), Int.toNat_natCast]
  refine ⟨_, rfl, l1, by omega, by omega, (h2 _).1 l2, ⟨_, rfl, Nat.and_lt_two_pow _ (by omega), fun j => ?_⟩, ?_⟩
  · rw [l3, Bool.and_eq_true, h2]; simp
  · rw [Int.toNat_natCast]
    have : a &&& (a - 1) ≤ a - 1 := Nat.and_le_right
    omega
theorem Wd.none {x : Int} {p : Nat → Prop} (h : Wd x p) : x = 0 ↔ ∀ j, ¬ p j := by
  obtain ⟨a, rfl, h1, h2⟩ := h
  constructor
  · intro e j hj
    have : a = 0 := by omega
    subst this
    have := (h2 j).2 hj
    simp at this
  · intro hn
    have : a = 0 := by
      apply Nat.eq_of_testBit_eq
      intro i
      rw [Nat.zero_testBit]
      cases hb : a.testBit i
      · rfl
      · exact absurd ((h2 i).1 hb) (hn i)
    subst this
    rfl
theorem Wd.look {x i : Int} {p : Nat → Prop} {n : Nat} (h : Wd x p) (hi : i = n) (hn : n < 64) : (bAnd .u64 (sShr .u64 x i) 1 = 1 ∧ p n) ∨ (bAnd .u64 (sShr .u64 x i) 1 = 0 ∧ ¬ p n) := by
  obtain ⟨a, rfl, h1, h2⟩ := h
  rw [sShr_u64 hi hn, show (1 : Int) = ((1 : Nat) : Int) from rfl, bAnd_u64 (Nat.lt_of_le_of_lt (Nat.shiftRight_le _ _) h1) (by decide), bit_one, ← h2 n]
  cases a.testBit n
  · right; simp
  · left; simp
end Go.Proofs.YtnlkggppokcmfaaE
