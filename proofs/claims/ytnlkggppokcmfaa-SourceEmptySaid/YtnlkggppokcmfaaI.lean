/- Plain functions: rules that read a condition as a proposition, so that a text can be gone through by a few tactics. -/
import Derived.Test.YtnlkggppokcmfaaT
import Derived.Test.YtnlkggppokcmfaaP
namespace Go.Proofs.YtnlkggppokcmfaaE
open Go Go.Proofs
set_option linter.unusedVariables false
set_option linter.unusedSimpArgs false
class Rf (b : Bool) (p : outParam Prop) : Prop where
  iff : b = true ↔ p
instance rfTrue : Rf true True := ⟨by simp⟩
instance rfFalse : Rf false False := ⟨by simp⟩
instance rfDec {p : Prop} [Decidable p] : Rf (decide p) p := ⟨decide_eq_true_iff⟩
instance rfBeq {α : Type} [BEq α] [LawfulBEq α] {x y : α} : Rf (x == y) (x = y) := ⟨beq_iff_eq⟩
instance rfBne {α : Type} [BEq α] [LawfulBEq α] {x y : α} : Rf (x != y) (x ≠ y) := ⟨bne_iff_ne⟩
instance rfNot {b : Bool} {p : Prop} [h : Rf b p] : Rf (!b) (¬ p) := ⟨by rw [Bool.not_eq_true', ← h.iff, Bool.not_eq_true]⟩
instance rfAnd {a b : Bool} {p q : Prop} [h : Rf a p] [h' : Rf b q] : Rf (a && b) (p ∧ q) := ⟨by rw [Bool.and_eq_true, h.iff, h'.iff]⟩
instance rfOr {a b : Bool} {p q : Prop} [h : Rf a p] [h' : Rf b q] : Rf (a || b) (p ∨ q) := ⟨by rw [Bool.or_eq_true, h.iff, h'.iff]⟩
instance rfStr {a b : ByteArray} : Rf (sEq a b) (a = b) := ⟨sEq_iff⟩
instance (priority := low) rfVar {b : Bool} : Rf b (b = true) := ⟨Iff.rfl⟩
theorem tri_if {α : Type} {c : Bool} {x y : Option α} {p : Prop} {Q : α → Prop} [r : Rf c p] (h1 : p → Tri x Q) (h2 : ¬ p → Tri y Q) : Tri (bif c then x else y) Q := by
  cases hc : c
  · exact h2 (fun h => by rw [← r.iff, hc] at h; cases h)
  · exact h1 (r.iff.1 hc)
theorem tri_bnd {α β : Type} {x : Option α} {a : α} {k : α → Option β} {Q : β → Prop} (h : x = some a) (hk : Tri (k a) Q) : Tri (x.bind k) Q := by
  rw [h]; exact hk
theorem tri_dec {x : Option Bool} {p : Prop} [Decidable p] : Tri x (fun r => r = true ↔ p) ↔ x = some (decide p) := by
  constructor
  · rintro ⟨b, h, hb⟩; rw [h]; congr 1; rw [Bool.eq_iff_iff, hb]; simp
  · intro h; exact ⟨_, h, by simp⟩
theorem tri_cb {α β : Type} {c : Bool} {x y : Option α} {k : α → Option β} {Q : β → Prop} (h : Tri (bif c then x.bind k else y.bind k) Q) : Tri ((bif c then x else y).bind k) Q := by
  cases c <;> exact h
theorem tri_sb {α β : Type} {a : α} {k : α → Option β} {Q : β → Prop} (h : Tri (k a) Q) : Tri ((some a).bind k) Q := h
theorem tri_mb {α β : Type} {c : Prop} [Decidable c] {x : Option α} {k : α → Option β} {Q : β → Prop} (h : Tri (must c (x.bind k)) Q) : Tri ((must c x).bind k) Q := by
  obtain ⟨a, h, hq⟩ := h
  obtain ⟨hc, hx⟩ := must_some h
  rw [must_pos _ hc]
  exact ⟨a, hx, hq⟩
theorem tri_bb {α β γ : Type} {x : Option α} {j : α → Option β} {k : β → Option γ} {Q : γ → Prop} (h : Tri (x.bind fun a => (j a).bind k) Q) : Tri ((x.bind j).bind k) Q := by
  cases x with
  | none => exact h
  | some a => exact h
theorem w64zin {x : Int} (h0 : -9223372036854775808 ≤ x) (h1 : x ≤ 9223372036854775807) : w64 x = x := w64zid (by omega) (by omega)
def Nxt {Ω : Type} (n k : Nat) (p : Nat → Prop) (Q : Ω → Prop) : Int ⊕ Ω → Prop
  | .inl s' => s' = ((k + 1 : Nat) : Int) ∧ k < n ∧ p k
  | .inr o => Q o
theorem tri_all {Ω : Type} {step : Int → Option (Int ⊕ Ω)} {Q : Ω → Prop} (n : Nat) (p : Nat → Prop) 
    (hs : ∀ k : Nat, k ≤ n → (∀ j, j < k → p j) → Tri (step (k : Int)) (Nxt n k p Q)) : Tri (iter step 0) Q := by
  refine tri_up n (fun k => ∀ j, j < k → p j) (fun j h => absurd h (Nat.not_lt_zero _)) (fun k hk hJ => tri_mono (hs k hk hJ) ?_)
  rintro (s | o) h
  · refine ⟨h.1, h.2.1, fun j hj => ?_⟩
    rcases Nat.lt_or_ge j k with h1 | h1
    · exact hJ j h1
    · rw [show j = k by omega]; exact h.2.2
  · exact h
def AllI {α : Type} [Inhabited α] (l : List α) (p : α → Prop) : Prop := ∀ j : Nat, j < l.length → p (idx l (j : Int))
theorem alli_iff {α : Type} [Inhabited α] {l : List α} {p : α → Prop} : AllI l p ↔ ∀ x ∈ l, p x := by
  constructor
  · intro h x hx
    obtain ⟨j, hj, rfl⟩ := List.getElem_of_mem hx
    have := h j hj
    rwa [idx_eq rfl hj] at this
  · intro h j hj
    rw [idx_eq rfl hj]
    exact h _ (List.getElem_mem hj)
theorem subl_front {α : Type} [Inhabited α] {l : List α} {k : Nat} (hk : k ≤ l.length) : subl l 0 (k : Int) = l.take k := by
  unfold subl
  simp
theorem idx_take {α : Type} [Inhabited α] {l : List α} {k j : Nat} (h : j < k) : idx (l.take k) (j : Int) = idx l (j : Int) := by
  unfold idx
  simp only [Int.toNat_natCast, List.getD_eq_getElem?_getD, List.getElem?_take]
  rw [if_pos h]
theorem idx_app {α : Type} [Inhabited α] {l m : List α} {j : Nat} (h : j < l.length) : idx (l ++ m) (j : Int) = idx l (j : Int) := by
  unfold idx
  simp only [Int.toNat_natCast, List.getD_eq_getElem?_getD, List.getElem?_append_left h]
theorem idx_end {α : Type} [Inhabited α] {l : List α} {x : α} {j : Nat} (h : j = l.length) : idx (l ++ [x]) (j : Int) = x := by
  subst h
  unfold idx
  simp
theorem idx_setN {α : Type} [Inhabited α] {l : List α} {k j : Nat} {v : α} (h : k < l.length) : idx (l.set k v) (j : Int) = if j = k then v else idx l (j : Int) := by
  have := idx_set (xs := l) (i := (k : Int)) (j := j) (v := v) (by omega) (by omega)
  simp only [Int.toNat_natCast] at this
  rw [this]
  by_cases e : j = k
  · simp [e]
  · rw [if_neg e, if_neg (by omega)]
theorem idx_map {α β : Type} [Inhabited α] [Inhabited β] {f : α → β} {l : List α} {k : Nat} (h : k < l.length) : idx (l.map f) (k : Int) = f (idx l (k : Int)) := by
  rw [idx_eq rfl (by simpa using h), idx_eq rfl h, List.getElem_map]
theorem take_succ {α : Type} [Inhabited α] {l : List α} {k : Nat} (h : k < l.length) : l.take (k + 1) = l.take k ++ [idx l (k : Int)] := by
  rw [idx_eq rfl h, List.take_succ_eq_append_getElem h]
theorem mhas_put {κ ν : Type} [DecidableEq κ] {m : List (κ × ν)} {k x : κ} {v : ν} : mhas (mput m k v) x = true ↔ x = k ∨ mhas m x = true := by
  induction m with
  | nil => simp [mput, mhas, eq_comm]
  | cons p m ih =>
    unfold mput
    by_cases e : p.1 = k
    · rw [if_pos e]
      simp only [mhas, List.any_cons, Bool.or_eq_true, decide_eq_true_eq]
      constructor
      · rintro (h | h)
        · exact .inl h.symm
        · exact .inr (.inr h)
      · rintro (h | h | h)
        · exact .inl h.symm
        · exact .inl (e ▸ h)
        · exact .inr h
    · rw [if_neg e]
      simp only [mhas, List.any_cons, Bool.or_eq_true, decide_eq_true_eq] at ih ⊢
      rw [ih]
      constructor
      · rintro (h | h | h)
        · exact .inr (.inl h)
        · exact .inl h
        · exact .inr (.inr h)
      · rintro (h | h | h)
        · exact .inr (.inl h)
        · exact .inl h
        · exact .inr (.inr h)
theorem mat_put {κ ν : Type} [DecidableEq κ] [Inhabited ν] {m : List (κ × ν)} {k x : κ} {v : ν} : mat (mput m k v) x = if x = k then v else mat m x := by
  induction m with
  | nil =>
    by_cases e : x = k
    · simp [mput, mat, e]
    · have e' : ¬ k = x := fun h => e h.symm
      simp [mput, mat, e, e']
  | cons p m ih =>
    unfold mput
    by_cases e : p.1 = k
    · rw [if_pos e]
      by_cases e2 : x = k
      · simp [mat, e2]
      · have e' : ¬ k = x := fun h => e2 h.symm
        have e3 : ¬ p.1 = x := fun h => e2 (h.symm.trans e)
        simp [mat, e2, e', e3]
    · rw [if_neg e]
      by_cases e2 : p.1 = x
      · have e3 : ¬ x = k := fun h => e (e2.trans h)
        simp [mat, e2, e3]
      · simp [mat, e2, ih]
theorem mhas_nil {κ ν : Type} [DecidableEq κ] {x : κ} : mhas ([] : List (κ × ν)) x = false := rfl
theorem mat_nil {κ ν : Type} [DecidableEq κ] [Inhabited ν] {x : κ} : mat ([] : List (κ × ν)) x = default := rfl
def Lock {σ τ Ω Ψ : Type} (n k : Nat) (I : Nat → σ → τ → Prop) (Q : Ω → Ψ → Prop) : σ ⊕ Ω → τ ⊕ Ψ → Prop
  | .inl s, .inl t => k < n ∧ I (k + 1) s t
  | .inr o, .inr p => Q o p
  | _, _ => False
theorem tri_iter2 {σ τ Ω Ψ : Type} {f : σ → Option (σ ⊕ Ω)} {g : τ → Option (τ ⊕ Ψ)} {Q : Ω → Ψ → Prop} (n : Nat) (I : Nat → σ → τ → Prop) {s : σ} {t : τ} {k0 : Nat} (hk0 : k0 ≤ n) (h0 : I k0 s t)
    (hs : ∀ (k : Nat) (s : σ) (t : τ), k ≤ n → I k s t → Tri (f s) (fun x => Tri (g t) (Lock n k I Q x))) : Tri (iter f s) (fun o => Tri (iter g t) (Q o)) := by
  generalize hd : n - k0 = d
  induction d using Nat.strongRecOn generalizing k0 s t with
  | ind d ih =>
    obtain ⟨x, hx, y, hy, hr⟩ := hs k0 s t hk0 h0
    rw [iter_eq, hx, iter_eq, hy]
    cases x with
    | inl s' =>
      cases y with
      | inl t' => exact ih (n - (k0 + 1)) (by have := hr.1; omega) (k0 := k0 + 1) (by have := hr.1; omega) hr.2 rfl
      | inr p => exact hr.elim
    | inr o =>
      cases y with
      | inl t' => exact hr.elim
      | inr p => exact ⟨o, rfl, p, rfl, hr⟩
end Go.Proofs.YtnlkggppokcmfaaE
