/- Layer 10: the ways of takes and leaves of a counter, as masks. -/
import Derived.Test.YtnlkggppokcmfaaTPXI
namespace Go.Proofs.YtnlkggppokcmfaaT
open Go Go.Proofs Go.Proofs.YtnlkggppokcmfaaE
set_option linter.unusedVariables false
set_option linter.unusedSimpArgs false
theorem wbm (x : Int) : w64 x = Int.bmod x 18446744073709551616 := by
  unfold w64 IntKind.wrap
  simp only [IntKind.bits, IntKind.signed, Bool.true_and, Int.bmod_def]
  have h1 : (2 ^ 64 : Int) = 18446744073709551616 := by decide
  have h2 := Int.emod_nonneg x (show (18446744073709551616 : Int) ≠ 0 by decide)
  have h3 := Int.emod_lt_of_pos x (show (0 : Int) < 18446744073709551616 by decide)
  simp only [h1]
  by_cases h : x % 18446744073709551616 < 9223372036854775808
  · rw [if_neg (by simp; omega), if_pos (by simp; omega)]
    rfl
  · rw [if_pos (by simp; omega), if_neg (by simp; omega)]
    rfl
theorem wadd (x y : Int) : w64 (w64 x + y) = w64 (x + y) := by rw [wbm, wbm, wbm, Int.bmod_add_bmod]
theorem wadd' (x y : Int) : w64 (x + w64 y) = w64 (x + y) := by rw [Int.add_comm, wadd, Int.add_comm]
theorem sumW_told : ∀ (w : List Int) (s : Int), sumW (w64 s) w = w64 (s + w.sum)
  | [], s => by simp [sumW]
  | v :: w, s => by
    show sumW (w64 (w64 s + v)) w = _
    rw [wadd, sumW_told w, List.sum_cons, Int.add_assoc]
theorem sumW_zero (w : List Int) : sumW 0 w = w64 w.sum := by
  have h := sumW_told w 0
  rw [Int.zero_add] at h
  exact h
theorem bit_i64 {m i : Nat} (hm : m < 2 ^ 62) (hi : i < 62) : bAnd .i64 (sShr .i64 (m : Int) (i : Int)) 1 = if m.testBit i then 1 else 0 := by
  have h1 : sShr .i64 (m : Int) (i : Int) = ((m >>> i : Nat) : Int) := by
    unfold sShr
    rw [show IntKind.bits .i64 = 64 from rfl, Int.toNat_natCast, Nat.min_eq_left (by omega), Nat.shiftRight_eq_div_pow]
    have : (2 : Int) ^ i = ((2 ^ i : Nat) : Int) := (Int.natCast_pow 2 i).symm
    rw [this, Int.fdiv_eq_ediv_of_nonneg _ (Int.natCast_nonneg _)]
    exact (Int.natCast_ediv m (2 ^ i)).symm
  have h2 : m >>> i < 2 ^ 62 := Nat.lt_of_le_of_lt (Nat.shiftRight_le _ _) hm
  have h3 : bAnd .i64 ((m >>> i : Nat) : Int) ((1 : Nat) : Int) = (((m >>> i) &&& 1 : Nat) : Int) := by
    unfold bAnd
    rw [show IntKind.bits .i64 = 64 from rfl, BitVec.ofInt_natCast, BitVec.ofInt_natCast, BitVec.toNat_and, BitVec.toNat_ofNat, BitVec.toNat_ofNat, Nat.mod_eq_of_lt (by omega), Nat.mod_eq_of_lt (by decide)]
    have h4 : (m >>> i) &&& 1 ≤ 1 := Nat.and_le_right
    exact w64zid (by omega) (by omega)
  rw [h1, show (1 : Int) = ((1 : Nat) : Int) from rfl, h3, bit_one]
  cases m.testBit i <;> rfl
theorem shl_i64 {n : Nat} (hn : n ≤ 32) : sShl .i64 1 (n : Int) = ((2 ^ n : Nat) : Int) := by
  unfold sShl
  rw [show IntKind.bits .i64 = 64 from rfl, Int.toNat_natCast, Nat.min_eq_left (by omega)]
  have h1 : (1 : Int) * 2 ^ n = ((2 ^ n : Nat) : Int) := by rw [Int.one_mul]; exact (Int.natCast_pow 2 n).symm
  rw [h1]
  have h2 : 2 ^ n ≤ 2 ^ 32 := Nat.pow_le_pow_right (by decide) hn
  generalize 2 ^ n = q at h2
  exact w64zid (by omega) (by omega)
section
variable {O : List Int} {W : Int → List Int} {want : Int}
def SmUp (O : List Int) (W : Int → List Int) (f : Nat → Bool) : Nat → Int
  | 0 => 0
  | k + 1 => if f k then w64 (SmUp O W f k + sumW 0 (W (idx O (k : Int)))) else SmUp O W f k
theorem SmUp_succ {f : Nat → Bool} {k : Nat} : SmUp O W f (k + 1) = if f k then w64 (SmUp O W f k + sumW 0 (W (idx O (k : Int)))) else SmUp O W f k := rfl
theorem SmUp_w {f : Nat → Bool} : ∀ k, w64 (SmUp O W f k) = SmUp O W f k
  | 0 => rfl
  | k + 1 => by
    unfold SmUp
    split
    · have h := wadd (SmUp O W f k + sumW 0 (W (idx O (k : Int)))) 0
      rw [Int.add_zero, Int.add_zero] at h
      exact h
    · exact SmUp_w k
theorem SmUp_congr {f g : Nat → Bool} : ∀ k, (∀ a, a < k → f a = g a) → SmUp O W f k = SmUp O W g k
  | 0, _ => rfl
  | k + 1, h => by
    unfold SmUp
    rw [h k (by omega), SmUp_congr k (fun a ha => h a (by omega))]
theorem win_iff (f : Nat → Bool) : ∀ (d i j : Nat) (f : Nat → Bool) (p : Nat → Prop), i + d = O.length → (∀ a, p a ↔ a < i ∧ f a = true) →
    (Win want ((O.drop i).map W) (SmUp O W f i) p i j ↔ ∃ g : Nat → Bool, (∀ a, a < i → g a = f a) ∧ SmUp O W g O.length = want ∧ j < O.length ∧ g j = true)
  | 0, i, j, f, p, e, hp => by
    have : i = O.length := by omega
    subst this
    rw [List.drop_length, List.map_nil]
    show (SmUp O W f O.length = want ∧ p j) ↔ _
    rw [hp j]
    constructor
    · rintro ⟨h1, h2, h3⟩; exact ⟨f, fun a _ => rfl, h1, h2, h3⟩
    · rintro ⟨g, h1, h2, h3, h4⟩
      rw [SmUp_congr O.length h1] at h2
      exact ⟨h2, h3, (h1 j h3) ▸ h4⟩
  | d + 1, i, j, f, p, e, hp => by
    have hi : i < O.length := by omega
    have hd : (O.drop i).map W = W (idx O (i : Int)) :: (O.drop (i + 1)).map W := by
      rw [List.drop_eq_getElem_cons hi, List.map_cons, (idx_eq (n := i) rfl hi : idx O (i : Int) = O[i])]
    rw [hd]
    show Win want _ (SmUp O W f i) p (i + 1) j ∨ Win want _ (sumW (SmUp O W f i) (W (idx O (i : Int)))) (fun j => p j ∨ j = i) (i + 1) j ↔ _
    have hag : ∀ b : Bool, SmUp O W (fun a => if a = i then b else f a) i = SmUp O W f i := fun b => SmUp_congr i (fun a ha => if_neg (by omega))
    have e0 : SmUp O W (fun a => if a = i then false else f a) (i + 1) = SmUp O W f i := by
      rw [SmUp_succ, hag]
      simp
    have e1 : SmUp O W (fun a => if a = i then true else f a) (i + 1) = sumW (SmUp O W f i) (W (idx O (i : Int))) := by
      rw [SmUp_succ, hag, if_pos (if_pos rfl), ← SmUp_w i, sumW_told, sumW_zero, wadd', wadd]
    have i0 := win_iff f d (i + 1) j (fun a => if a = i then false else f a) p (by omega) (fun a => by
      rw [hp a]
      by_cases h : a = i
      · subst h; simp
      · simp only [if_neg h]
        constructor
        · rintro ⟨h1, h2⟩; exact ⟨by omega, h2⟩
        · rintro ⟨h1, h2⟩; exact ⟨by omega, h2⟩)
    have i1 := win_iff f d (i + 1) j (fun a => if a = i then true else f a) (fun j => p j ∨ j = i) (by omega) (fun a => by
      rw [hp a]
      by_cases h : a = i
      · subst h; simp
      · simp only [if_neg h, or_iff_left h]
        constructor
        · rintro ⟨h1, h2⟩; exact ⟨by omega, h2⟩
        · rintro ⟨h1, h2⟩; exact ⟨by omega, h2⟩)
    rw [e0] at i0
    rw [e1] at i1
    rw [i0, i1]
    constructor
    · rintro (⟨g, h1, h2⟩ | ⟨g, h1, h2⟩)
      · exact ⟨g, fun a ha => by rw [h1 a (by omega), if_neg (by omega)], h2⟩
      · exact ⟨g, fun a ha => by rw [h1 a (by omega), if_neg (by omega)], h2⟩
    · rintro ⟨g, h1, h2⟩
      cases hgi : g i
      · refine .inl ⟨g, fun a ha => ?_, h2⟩
        by_cases h : a = i
        · subst h; rw [if_pos rfl, hgi]
        · rw [if_neg h, h1 a (by omega)]
      · refine .inr ⟨g, fun a ha => ?_, h2⟩
        by_cases h : a = i
        · subst h; rw [if_pos rfl, hgi]
        · rw [if_neg h, h1 a (by omega)]
theorem mask_of (g : Nat → Bool) : ∀ n : Nat, ∃ m : Nat, m < 2 ^ n ∧ ∀ a, a < n → m.testBit a = g a
  | 0 => ⟨0, by decide, fun a h => absurd h (Nat.not_lt_zero _)⟩
  | n + 1 => by
    obtain ⟨m, h1, h2⟩ := mask_of g n
    have hp : 2 ^ (n + 1) = 2 ^ n + 2 ^ n := by rw [Nat.pow_succ]; omega
    cases hg : g n
    · refine ⟨m, by omega, fun a ha => ?_⟩
      by_cases h : a = n
      · subst h; rw [hg]; exact Nat.testBit_lt_two_pow h1
      · exact h2 a (by omega)
    · refine ⟨2 ^ n + m, by omega, fun a ha => ?_⟩
      by_cases h : a = n
      · subst h
        rw [Nat.testBit_two_pow_add_eq, hg, Nat.testBit_lt_two_pow h1]
        rfl
      · rw [Nat.testBit_two_pow_add_gt (by omega)]
        exact h2 a (by omega)
def Msk (O : List Int) (W : Int → List Int) (want : Int) (m j : Nat) : Prop := SmUp O W m.testBit O.length = want ∧ m.testBit j = true
theorem win_mask {j : Nat} (hj : j < O.length) : Win want (O.map W) 0 (fun _ => False) 0 j ↔ ∃ m : Nat, 1 ≤ m ∧ m < 2 ^ O.length ∧ Msk O W want m j := by
  have h := win_iff (O := O) (W := W) (want := want) (fun _ => false) O.length 0 j (fun _ => false) (fun _ => False) (by omega) (fun a => by simp)
  rw [List.drop_zero] at h
  refine Iff.trans h ?_
  constructor
  · rintro ⟨g, _, h2, h3, h4⟩
    obtain ⟨m, m1, m2⟩ := mask_of g O.length
    refine ⟨m, ?_, m1, ?_, ?_⟩
    · apply Nat.lt_of_not_le
      intro h0
      have : m = 0 := by omega
      subst this
      rw [← m2 j hj, Nat.zero_testBit] at h4
      cases h4
    · rw [SmUp_congr O.length m2]; exact h2
    · rw [m2 j hj]; exact h4
  · rintro ⟨m, _, m1, m2, m3⟩
    exact ⟨m.testBit, fun a ha => absurd ha (Nat.not_lt_zero _), m2, hj, m3⟩
end
end Go.Proofs.YtnlkggppokcmfaaT
