/- Levels: the program's answers and the document's, told plainly. -/
import Derived.Test.YtohaphbogjigcaaTD
import Derived.Test.YtohaphbogjigcaaP
namespace Go.Proofs.YtohaphbogjigcaaT
open Go Go.Proofs Go.Proofs.YtohaphbogjigcaaE
set_option linter.unusedVariables false
set_option linter.unusedSimpArgs false
set_option maxRecDepth 100000

theorem sEq_data (a b : ByteArray) : sEq a b = (a.data.toList == b.data.toList) := by
  unfold sEq
  rw [toList_eq, toList_eq]
/-- is one level below another? -/
def bel (a b : Int) : Bool := decide (1 ≤ a) && decide (a ≤ 8) && decide (1 ≤ b) && decide (b ≤ 8) && (([0, 510, 452, 504, 496, 480, 448, 384, 256] : List Nat).getD a.toNat 0).testBit b.toNat
theorem bel_out {a b : Int} (h : ¬ (1 ≤ a ∧ a ≤ 8) ∨ ¬ (1 ≤ b ∧ b ≤ 8)) : bel a b = false := by
  unfold bel
  rw [Bool.eq_false_iff]
  intro e
  simp only [Bool.and_eq_true, decide_eq_true_eq] at e
  omega
theorem right_is (a : Int) : level_right a = some (decide (1 ≤ a) && decide (a ≤ 8)) := by
  unfold level_right
  by_cases h : a ≥ 1
  · simp [h, show (1 : Int) ≤ a from h]
  · simp [h, show ¬ (1 : Int) ≤ a from h]
theorem below_is (a b : Int) : level_Below a b = some (bel a b) := by
  by_cases ha : 1 ≤ a ∧ a ≤ 8
  · by_cases hb : 1 ≤ b ∧ b ≤ 8
    · have key : ∀ i j : Fin 9, level_Below (i.1 : Int) (j.1 : Int) = some (bel (i.1 : Int) (j.1 : Int)) := by decide +kernel
      obtain ⟨i, rfl⟩ : ∃ n : Nat, a = n := ⟨a.toNat, by omega⟩
      obtain ⟨j, rfl⟩ : ∃ n : Nat, b = n := ⟨b.toNat, by omega⟩
      exact key ⟨i, by omega⟩ ⟨j, by omega⟩
    · rw [bel_out (.inr hb)]
      unfold level_Below
      rw [right_is, right_is]
      have : (decide (1 ≤ b) && decide (b ≤ 8)) = false := by
        rw [Bool.eq_false_iff]; intro e; simp only [Bool.and_eq_true, decide_eq_true_eq] at e; exact hb e
      simp [this, ha.1, ha.2]
  · rw [bel_out (.inl ha)]
    unfold level_Below
    rw [right_is]
    have : (decide (1 ≤ a) && decide (a ≤ 8)) = false := by
      rw [Bool.eq_false_iff]; intro e; simp only [Bool.and_eq_true, decide_eq_true_eq] at e; exact ha e
    simp [this]

/-! ### the document's -/
namespace Fuel0
noncomputable def s2 (rec : Int → Int → Option Bool) (a0 : Int) (a1 : Int) : Int → Option (Int ⊕ Bool)
  | x => bif decide (x < (assizeref13zPairs_lit.length : Int)) then must (0 ≤ x ∧ x < (assizeref13zPairs_lit.length : Int)) (bif ((idx assizeref13zPairs_lit x).1 == a0) then (rec ((idx assizeref13zPairs_lit x).2) a1).bind fun y => assizeref13zBelow.j3 x y else (assizeref13zBelow.j3 x false)) else (out (some false))
noncomputable def j1 (rec : Int → Int → Option Bool) (a0 : Int) (a1 : Int) (b9 : Bool) : Option Bool :=
  bif b9 then some false else (bif (a0 == a1) then some true else ((assizeref13zPairs).bind fun _ => iterN (s2 rec a0 a1) 12 0))
noncomputable def body (rec : Int → Int → Option Bool) (a0 : Int) (a1 : Int) : Option Bool :=
  bif decide (a0 < 1) then j1 rec a0 a1 true else (bif decide (a0 > 8) then j1 rec a0 a1 true else (bif decide (a1 < 1) then j1 rec a0 a1 true else (j1 rec a0 a1 (decide (a1 > 8)))))
noncomputable def fuel : Nat → Int → Int → Option Bool
  | 0 => fun _ _ => none
  | k + 1 => body (fuel k)
theorem s2zle {r r' : Int → Int → Option Bool} (h : ∀ a b, Le (r a b) (r' a b)) (a0 a1 x : Int) : Le (s2 r a0 a1 x) (assizeref13zBelow.s2 r' a0 a1 x) := by
  unfold s2 assizeref13zBelow.s2
  exact le_cond (le_must (le_cond (le_bind (h _ _) (fun _ => le_refl _)) (le_refl _))) (le_refl _)
theorem j1zle {r r' : Int → Int → Option Bool} (h : ∀ a b, Le (r a b) (r' a b)) (a0 a1 : Int) (b : Bool) : Le (j1 r a0 a1 b) (assizeref13zBelow.j1 r' a0 a1 b) :=
  le_cond (le_refl _) (le_cond (le_refl _) (le_bind (le_refl _) (fun _ => le_iter (fun s => s2zle h a0 a1 s))))
theorem body_le {r r' : Int → Int → Option Bool} (h : ∀ a b, Le (r a b) (r' a b)) (a0 a1 : Int) : Le (body r a0 a1) (assizeref13zBelow.body r' a0 a1) :=
  le_cond (j1zle h _ _ _) (le_cond (j1zle h _ _ _) (le_cond (j1zle h _ _ _) (j1zle h _ _ _)))
theorem fuel_le : ∀ (k : Nat) (a0 a1 : Int), Le (fuel k a0 a1) (assizeref13zBelow.fuel k a0 a1)
  | 0, _, _ => le_refl _
  | k + 1, a0, a1 => body_le (fuel_le k) a0 a1
end Fuel0
theorem refBelow_is (a b : Int) : assizeref13zBelow a b = some (bel a b) := by
  by_cases ha : 1 ≤ a ∧ a ≤ 8
  · by_cases hb : 1 ≤ b ∧ b ≤ 8
    · have key : ∀ i j : Fin 9, Fuel0.fuel 64 (i.1 : Int) (j.1 : Int) = some (bel (i.1 : Int) (j.1 : Int)) := by decide +kernel
      obtain ⟨i, rfl⟩ : ∃ n : Nat, a = n := ⟨a.toNat, by omega⟩
      obtain ⟨j, rfl⟩ : ∃ n : Nat, b = n := ⟨b.toNat, by omega⟩
      exact Fuel0.fuel_le _ _ _ _ (key ⟨i, by omega⟩ ⟨j, by omega⟩)
    · rw [bel_out (.inr hb)]
      show assizeref13zBelow.body _ a b = _
      unfold assizeref13zBelow.body
      have : (decide (b < 1) = true) ∨ (decide (b > 8) = true) := by simp only [decide_eq_true_eq]; omega
      simp only [show decide (a < 1) = false from decide_eq_false (by omega), show decide (a > 8) = false from decide_eq_false (by omega), cond_false]
      rcases this with h | h
      · simp [h, assizeref13zBelow.j1]
      · cases decide (b < 1) <;> simp [h, assizeref13zBelow.j1]
  · rw [bel_out (.inl ha)]
    show assizeref13zBelow.body _ a b = _
    unfold assizeref13zBelow.body
    have : (decide (a < 1) = true) ∨ (decide (a > 8) = true) := by simp only [decide_eq_true_eq]; omega
    rcases this with h | h
    · simp [h, assizeref13zBelow.j1]
    · cases decide (a < 1) <;> simp [h, assizeref13zBelow.j1]

/-! ### names -/
def nm (i : Int) : ByteArray := ([⟨#[]⟩, ⟨#[114, 101, 97, 100, 45, 99, 111, 109, 109, 105, 116, 116, 101, 100]⟩, ⟨#[99, 117, 114, 115, 111, 114, 45, 115, 116, 97, 98, 108, 101]⟩, ⟨#[114, 101, 97, 100, 45, 97, 116, 111, 109, 105, 99]⟩, ⟨#[99, 97, 117, 115, 97, 108]⟩, ⟨#[112, 114, 101, 102, 105, 120]⟩, ⟨#[115, 110, 97, 112, 115, 104, 111, 116]⟩, ⟨#[115, 101, 114, 105, 97, 108, 105, 122, 97, 98, 108, 101]⟩, ⟨#[115, 116, 114, 105, 99, 116]⟩] : List ByteArray).getD i.toNat ⟨#[]⟩
def nameR (a : Int) : ByteArray × Int := if 1 ≤ a ∧ a ≤ 8 then (nm a, 0) else (⟨#[]⟩, 1)
theorem of_eight {p : Int → Prop} (h1 : p 1) (h2 : p 2) (h3 : p 3) (h4 : p 4) (h5 : p 5) (h6 : p 6) (h7 : p 7) (h8 : p 8) {a : Int} (ha : 1 ≤ a ∧ a ≤ 8) : p a := by
  have : a = 1 ∨ a = 2 ∨ a = 3 ∨ a = 4 ∨ a = 5 ∨ a = 6 ∨ a = 7 ∨ a = 8 := by omega
  rcases this with rfl | rfl | rfl | rfl | rfl | rfl | rfl | rfl <;> assumption
theorem name_is (a : Int) : level_Name a = some (nameR a) := by
  by_cases ha : 1 ≤ a ∧ a ≤ 8
  · exact of_eight (p := fun a => level_Name a = some (nameR a)) rfl rfl rfl rfl rfl rfl rfl rfl ha
  · have e : ∀ i : Int, 1 ≤ i → i ≤ 8 → (i == a) = false := fun i h1 h2 => by
      rw [beq_eq_false_iff_ne]; rintro rfl; exact ha ⟨h1, h2⟩
    unfold level_Name level_each nameR
    rw [if_neg ha]
    simp only [level_Name.y1, e 1 (by decide) (by decide), e 2 (by decide) (by decide), e 3 (by decide) (by decide), e 4 (by decide) (by decide), e 5 (by decide) (by decide), e 6 (by decide) (by decide), e 7 (by decide) (by decide), e 8 (by decide) (by decide), cond_false, cond_true, Bool.not_true, Bool.not_false, Option.bind_some, level_Name.k1]
theorem rname_is (a : Int) : assizeref13zname a = some (nameR a).1 := by
  by_cases ha : 1 ≤ a ∧ a ≤ 8
  · exact of_eight (p := fun a => assizeref13zname a = some (nameR a).1) rfl rfl rfl rfl rfl rfl rfl rfl ha
  · have e : ∀ i : Int, 1 ≤ i → i ≤ 8 → (a == i) = false := fun i h1 h2 => by
      rw [beq_eq_false_iff_ne]; rintro rfl; exact ha ⟨h1, h2⟩
    unfold assizeref13zname nameR
    rw [if_neg ha]
    simp only [e 1 (by decide) (by decide), e 2 (by decide) (by decide), e 3 (by decide) (by decide), e 4 (by decide) (by decide), e 5 (by decide) (by decide), e 6 (by decide) (by decide), e 7 (by decide) (by decide), e 8 (by decide) (by decide), cond_false]
theorem refName_is (a : Int) : assizeref13zName a = some (nameR a) := by
  unfold assizeref13zName
  rw [rname_is]
  simp only [Option.bind_some, sEq_data]
  by_cases ha : 1 ≤ a ∧ a ≤ 8
  · exact of_eight (p := fun a => (bif (nameR a).1.data.toList == (⟨#[]⟩ : ByteArray).data.toList then some ((⟨#[]⟩ : ByteArray), 1) else some ((nameR a).1, 0)) = some (nameR a)) rfl rfl rfl rfl rfl rfl rfl rfl ha
  · unfold nameR
    rw [if_neg ha]
    rfl
/-- the level of a name, from number i on -/
def parseR (s : ByteArray) : Nat → Int → Int × Int
  | 0, _ => (0, 1)
  | n + 1, i => if sEq (nm i) s = true then (i, 0) else parseR s n (i + 1)
theorem parse_is (s : ByteArray) : level_Parse s = some (parseR s 8 1) := by
  unfold level_Parse level_each
  simp only [parseR]
  have e : ∀ i : Int, nm i = nm i := fun _ => rfl
  show ((level_Parse.y1 s (.inl ()) (1, nm 1)).bind _).bind _ = _
  simp only [level_Parse.y1]
  cases h1 : sEq (nm 1) s with
  | true => simp [level_Parse.k1]
  | false =>
  simp only [cond_false, Option.bind_some, Bool.not_true, Bool.false_eq_true, if_false, show (1 : Int) + 1 = 2 from rfl]
  rw [show sEq (⟨#[99, 117, 114, 115, 111, 114, 45, 115, 116, 97, 98, 108, 101]⟩ : ByteArray) s = sEq (nm 2) s from rfl]
  cases h2 : sEq (nm 2) s with
  | true => simp [level_Parse.k1]
  | false =>
  simp only [cond_false, Option.bind_some, Bool.not_true, Bool.false_eq_true, if_false, show (2 : Int) + 1 = 3 from rfl]
  rw [show sEq (⟨#[114, 101, 97, 100, 45, 97, 116, 111, 109, 105, 99]⟩ : ByteArray) s = sEq (nm 3) s from rfl]
  cases h3 : sEq (nm 3) s with
  | true => simp [level_Parse.k1]
  | false =>
  simp only [cond_false, Option.bind_some, Bool.not_true, Bool.false_eq_true, if_false, show (3 : Int) + 1 = 4 from rfl]
  rw [show sEq (⟨#[99, 97, 117, 115, 97, 108]⟩ : ByteArray) s = sEq (nm 4) s from rfl]
  cases h4 : sEq (nm 4) s with
  | true => simp [level_Parse.k1]
  | false =>
  simp only [cond_false, Option.bind_some, Bool.not_true, Bool.false_eq_true, if_false, show (4 : Int) + 1 = 5 from rfl]
  rw [show sEq (⟨#[112, 114, 101, 102, 105, 120]⟩ : ByteArray) s = sEq (nm 5) s from rfl]
  cases h5 : sEq (nm 5) s with
  | true => simp [level_Parse.k1]
  | false =>
  simp only [cond_false, Option.bind_some, Bool.not_true, Bool.false_eq_true, if_false, show (5 : Int) + 1 = 6 from rfl]
  rw [show sEq (⟨#[115, 110, 97, 112, 115, 104, 111, 116]⟩ : ByteArray) s = sEq (nm 6) s from rfl]
  cases h6 : sEq (nm 6) s with
  | true => simp [level_Parse.k1]
  | false =>
  simp only [cond_false, Option.bind_some, Bool.not_true, Bool.false_eq_true, if_false, show (6 : Int) + 1 = 7 from rfl]
  rw [show sEq (⟨#[115, 101, 114, 105, 97, 108, 105, 122, 97, 98, 108, 101]⟩ : ByteArray) s = sEq (nm 7) s from rfl]
  cases h7 : sEq (nm 7) s with
  | true => simp [level_Parse.k1]
  | false =>
  simp only [cond_false, Option.bind_some, Bool.not_true, Bool.false_eq_true, if_false, show (7 : Int) + 1 = 8 from rfl]
  rw [show sEq (⟨#[115, 116, 114, 105, 99, 116]⟩ : ByteArray) s = sEq (nm 8) s from rfl]
  cases h8 : sEq (nm 8) s <;> simp [level_Parse.k1]
theorem refParse_from (s : ByteArray) : ∀ (n : Nat) (i : Int), 1 ≤ i → i + n = 9 → iter (assizeref13zParse.s1 s) i = some (parseR s n i)
  | 0, i, h1, h => by
    rw [iter_eq]
    unfold assizeref13zParse.s1
    simp only [show decide (i ≤ 8) = false from decide_eq_false (by omega), cond_false]
    rfl
  | n + 1, i, h1, h => by
    have ih := refParse_from s n (i + 1) (by omega) (by omega)
    rw [iter_eq]
    have hn : (nameR i).1 = nm i := by unfold nameR; rw [if_pos ⟨h1, by omega⟩]
    have hs : assizeref13zParse.s1 s i = bif sEq (nm i) s then out (some (i, 0)) else some (.inl (i + 1)) := by
      unfold assizeref13zParse.s1
      simp only [show decide (i ≤ 8) = true from decide_eq_true (by omega), cond_true, rname_is, hn, Option.bind_some]
      rw [show w64 (i + 1) = i + 1 from w64zid (by omega) (by omega)]
    rw [hs]
    cases he : sEq (nm i) s with
    | true => simp only [parseR, he, if_true]; rfl
    | false => simp only [parseR, he, Bool.false_eq_true, if_false, cond_false]; exact ih
theorem refParse_is (s : ByteArray) : assizeref13zParse s = some (parseR s 8 1) := refParse_from s 8 1 (by decide) (by decide)
theorem parse_name {a : Int} (ha : 1 ≤ a ∧ a ≤ 8) : parseR (nm a) 8 1 = (a, 0) := by
  refine of_eight (p := fun a => parseR (nm a) 8 1 = (a, 0)) ?_ ?_ ?_ ?_ ?_ ?_ ?_ ?_ ha <;> (simp only [parseR, sEq_data]; decide +kernel)
theorem alive_is : assizelaw13zalive = some true := by
  unfold assizelaw13zalive
  simp only [name_is, parse_is, below_is, Option.bind_some, show (⟨#[115, 116, 114, 105, 99, 116]⟩ : ByteArray) = nm 8 from rfl, parse_name (a := 8) (by decide), show (nameR 4).1 = nm 4 from rfl, show (nameR 4).2 = 0 from rfl, sEq_data]
  rfl
theorem LevelTells_law (a b : Int) (s : ByteArray) {p q r : Prop} (_ : p) (_ : q) (_ : r) : assizelaw13zLevelTells a b s = some true := by
  have hs : ∀ x, sEq x x = true := fun x => sEq_iff.2 rfl
  unfold assizelaw13zLevelTells
  simp only [alive_is, name_is, refName_is, parse_is, refParse_is, below_is, refBelow_is, Option.bind_some, Bool.not_true, cond_false, hs, bne_self_eq_false]
  unfold assizelaw13zLevelTells.j1
  simp only [cond_false, parse_is, Option.bind_some]
  by_cases ha : 1 ≤ a ∧ a ≤ 8
  · have h : nameR a = (nm a, 0) := if_pos ha
    rw [h]
    simp only [parse_name ha]
    simp
  · have h : nameR a = (⟨#[]⟩, 1) := if_neg ha
    rw [h]
    rfl
end Go.Proofs.YtohaphbogjigcaaT
