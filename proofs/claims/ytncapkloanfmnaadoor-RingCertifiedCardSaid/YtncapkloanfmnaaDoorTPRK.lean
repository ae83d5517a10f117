/- Ways back along tight steps: the document's, by distances. -/
import Derived.Test.YtncapkloanfmnaaDoorTPRJ
namespace Go.Proofs.YtncapkloanfmnaaDoorT
open Go Go.Proofs Go.Proofs.YtncapkloanfmnaaDoorE
set_option linter.unusedVariables false
set_option linter.unusedSimpArgs false
set_option linter.unusedSectionVars false
variable {t l : Int → Int → Bool} {n k : Nat} {e : Int}
abbrev CloB (t : Int → Int → Bool) (e : Int) (n : Nat) (i : Int) (p : List Int) : Prop := Clo (ex1 t n) (· = e) i p
structure WB (t : Int → Int → Bool) (e : Int) (n : Nat) (w : List Int) : Prop where
  len : w.length = n
  lo : ∀ i : Int, 0 ≤ i → i < n → 0 ≤ idx w i ∧ idx w i ≤ 1048576
  rem : ∀ i : Int, 0 ≤ i → i < n → idx w i < 1048576 → ∃ p, CloB t e n i p ∧ (p.length : Int) = idx w i
  zero : idx w e = 0
def FixB (t : Int → Int → Bool) (w : List Int) (i j : Int) : Prop := t i j = true → idx w i ≤ idx w j + 1
structure DistB (t : Int → Int → Bool) (e : Int) (n : Nat) (w : List Int) : Prop extends WB t e n w where
  fix : ∀ i j : Int, 0 ≤ i → i < n → 0 ≤ j → j < n → FixB t w i j
def smB (w : List Int) : Nat := (w.map Int.toNat).sum
theorem smB_set : ∀ (w : List Int) (i : Nat) (q : Int), i < w.length → smB (w.set i q) + (w.getD i default).toNat = smB w + q.toNat
  | [], i, q, h => by simp at h
  | x :: w, 0, q, h => by simp [smB]; omega
  | x :: w, i + 1, q, h => by
    have := smB_set w i q (by simpa using h)
    simp only [smB, List.set_cons_succ, List.map_cons, List.sum_cons, List.getD_cons_succ] at this ⊢
    omega
structure PassB (t : Int → Int → Bool) (e : Int) (n : Nat) (w0 : List Int) (did : Int → Int → Prop) (w : List Int) (turned : Bool) : Prop where
  wi : WB t e n w
  no : turned = false → w = w0 ∧ ∀ i j : Int, 0 ≤ i → i < n → 0 ≤ j → j < n → did i j → FixB t w0 i j
  yes : turned = true → smB w < smB w0
theorem PassB.mono {w0 w : List Int} {did did' : Int → Int → Prop} {turned : Bool} (h : PassB t e n w0 did w turned) (hd : ∀ i j : Int, 0 ≤ i → i < n → 0 ≤ j → j < n → did' i j → did i j ∨ FixB t w0 i j) : PassB t e n w0 did' w turned :=
  ⟨h.wi, fun x => ⟨(h.no x).1, fun i j h1 h2 h3 h4 h5 => (hd i j h1 h2 h3 h4 h5).elim ((h.no x).2 i j h1 h2 h3 h4) id⟩, h.yes⟩
theorem DistB.le {w : List Int} (h : DistB t e n w) : ∀ (p : List Int) (i : Int), 0 ≤ i → i < n → CloB t e n i p → idx w i ≤ p.length
  | [], i, h0, h1, hc => by
    have : i = e := by
      obtain ⟨y, hy, hye⟩ := hc
      have : i = y := Option.some.inj hy
      rw [this]; exact hye
    rw [this, h.zero]
    simp
  | j :: p, i, h0, h1, hc => by
    obtain ⟨y, hy, hp⟩ := clo_cons.1 hc
    obtain ⟨h2, rfl⟩ := ex1zsome.1 hy
    have h3 := DistB.le h p y h2.1 h2.2.1 hp
    have h4 := h.fix i y h0 h1 h2.1 h2.2.1 h2.2.2
    simp only [List.length_cons]
    omega
def BackRef (t : Int → Int → Bool) (s e : Int) (n : Nat) (r : List Int × Bool) : Prop :=
  (r = ([], false) ∧ ∀ p, CloB t e n s p → 1048576 ≤ p.length) ∨ ∃ p, r = (butLast s p, true) ∧ First (ex1 t n) (· = e) s p
end Go.Proofs.YtncapkloanfmnaaDoorT
