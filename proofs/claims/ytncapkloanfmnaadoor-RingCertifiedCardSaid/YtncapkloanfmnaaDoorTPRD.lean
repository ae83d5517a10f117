/- The document's shortest cycles from a node on: by distances. -/
import Derived.Test.YtncapkloanfmnaaDoorTPRC
namespace Go.Proofs.YtncapkloanfmnaaDoorT
open Go Go.Proofs Go.Proofs.YtncapkloanfmnaaDoorE
set_option linter.unusedVariables false
set_option linter.unusedSimpArgs false
set_option linter.unusedSectionVars false
variable {t l : Int → Int → Bool} {s : Int} {n k : Nat}
/-- what is told of a node and of whether the step into it was loose -/
def gt (w : List (Int × Int)) (i : Int) (b : Bool) : Int := if b then (idx w i).2 else (idx w i).1
def upw (w : List (Int × Int)) (i : Int) (b : Bool) (v : Int) : List (Int × Int) := w.set i.toNat (if b then ((idx w i).1, v) else (v, (idx w i).2))
theorem idx_setI {α : Type} [Inhabited α] {xs : List α} {i j : Int} {v : α} (h0 : 0 ≤ i) (h1 : i < xs.length) (hj : 0 ≤ j) : idx (xs.set i.toNat v) j = if j = i then v else idx xs j := by
  have := idx_set (xs := xs) (v := v) (j := j.toNat) h0 h1
  rw [Int.toNat_of_nonneg hj] at this
  exact this
theorem gt_upw {w : List (Int × Int)} {i j : Int} {b c : Bool} {v : Int} (h0 : 0 ≤ i) (h1 : i < w.length) (hj : 0 ≤ j) : gt (upw w i b v) j c = if j = i ∧ c = b then v else gt w j c := by
  unfold gt upw
  rw [idx_setI h0 h1 hj]
  by_cases e : j = i
  · subst e
    cases b <;> cases c <;> simp
  · simp [e]
theorem len_upw (w : List (Int × Int)) (i : Int) (b : Bool) (v : Int) : (upw w i b v).length = w.length := by simp [upw]
def sm (w : List (Int × Int)) : Nat := (w.map fun q => q.1.toNat + q.2.toNat).sum
theorem sm_set : ∀ (w : List (Int × Int)) (i : Nat) (q : Int × Int), i < w.length → sm (w.set i q) + ((w.getD i default).1.toNat + (w.getD i default).2.toNat) = sm w + (q.1.toNat + q.2.toNat)
  | [], i, q, h => by simp at h
  | x :: w, 0, q, h => by simp [sm]; omega
  | x :: w, i + 1, q, h => by
    have := sm_set w i q (by simpa using h)
    simp only [sm, List.set_cons_succ, List.map_cons, List.sum_cons, List.getD_cons_succ] at this ⊢
    omega
theorem sm_upw {w : List (Int × Int)} {i : Int} {b : Bool} {v : Int} (h0 : 0 ≤ i) (h1 : i < w.length) (hv : 0 ≤ v) (hlt : v < gt w i b) : sm (upw w i b v) < sm w := by
  have := sm_set w i.toNat (if b then ((idx w i).1, v) else (v, (idx w i).2)) (by omega)
  unfold upw
  unfold gt at hlt
  have e : w.getD i.toNat default = idx w i := rfl
  rw [e] at this
  cases b <;> simp at this hlt ⊢ <;> omega
def home (s : Int) (x : RingSpot) : Prop := x.node = s ∧ ¬ (x.last_ = true ∧ x.first_ = true)
abbrev CloS (t l : Int → Int → Bool) (s : Int) (n : Nat) (x : RingSpot) (p : List Int) : Prop := Clo (ext t l s n) (clo t l s) x p
def Rem (t l : Int → Int → Bool) (s : Int) (n : Nat) (x : RingSpot) (v : Int) : Prop := (v = 0 ∧ home s x) ∨ ∃ p, CloS t l s n x p ∧ (p.length : Int) + 1 = v
theorem clo_of {x y : RingSpot} (hx : 0 ≤ x.node) (hy : stp t l s n x s = some y) (hh : home s y) : clo t l s x := by
  obtain ⟨h1, h2⟩ := stp_some.1 hy
  unfold clo
  rw [if_neg (by omega)]
  rcases h1.2.2 with h | h
  · exact .inl h
  · cases ht : t x.node s with
    | true => exact .inl rfl
    | false =>
      refine .inr ⟨h.1, h.2, ?_⟩
      have := hh.2
      rw [h2] at this
      simpa [ht] using this
theorem of_clo {x : RingSpot} (hx : 0 ≤ x.node) (hs : s < n) (hc : clo t l s x) : ∃ y, stp t l s n x s = some y ∧ home s y ∧ y.first_ = x.first_ := by
  unfold clo at hc
  rw [if_neg (by omega)] at hc
  refine ⟨⟨s, !t x.node s, x.first_⟩, stp_some.2 ⟨⟨Int.le_refl _, hs, hc.imp id fun h => ⟨h.1, h.2.1⟩⟩, rfl⟩, ⟨rfl, ?_⟩, rfl⟩
  dsimp only
  rcases hc with h | h
  · simp [h]
  · simp [h.2.2]
theorem ext_stp {x : RingSpot} {j : Int} (hx : 0 ≤ x.node) : ext t l s n x j = stp t l s n x j := by unfold ext; rw [if_neg (by omega)]
theorem rem_step {x y : RingSpot} {j v : Int} (hs : 0 ≤ s) (hx : 0 ≤ x.node) (hy : stp t l s n x j = some y) (h : Rem t l s n y v) : Rem t l s n x (v + 1) := by
  right
  obtain ⟨h1, h2⟩ := stp_some.1 hy
  rcases h with ⟨rfl, hh⟩ | ⟨p, hp, rfl⟩
  · have : j = s := by have := hh.1; rw [h2] at this; exact this
    subst this
    exact ⟨[], clo_nil.2 (clo_of hx hy hh), rfl⟩
  · exact ⟨j :: p, clo_cons.2 ⟨y, (ext_stp hx).trans hy, hp⟩, by simp⟩
/-- what distances must say, under way -/
structure WI (t l : Int → Int → Bool) (s : Int) (n : Nat) (f : Bool) (w : List (Int × Int)) : Prop where
  len : w.length = n
  lo : ∀ (i : Int) b, 0 ≤ i → i < n → 0 ≤ gt w i b ∧ gt w i b ≤ 1048576
  rem : ∀ (i : Int) b, s ≤ i → i < n → gt w i b < 1048576 → Rem t l s n ⟨i, b, f⟩ (gt w i b)
  zero : ∀ b, ¬ (b = true ∧ f = true) → gt w s b = 0
def Fix1 (t l : Int → Int → Bool) (s : Int) (n : Nat) (f : Bool) (w : List (Int × Int)) (i : Int) (b : Bool) (j : Int) : Prop := ∀ y, stp t l s n ⟨i, b, f⟩ j = some y → gt w i b ≤ gt w j y.last_ + 1
structure Dist (t l : Int → Int → Bool) (s : Int) (n : Nat) (f : Bool) (w : List (Int × Int)) : Prop extends WI t l s n f w where
  fix : ∀ (i : Int) b (j : Int), s ≤ i → i < n → s ≤ j → j < n → Fix1 t l s n f w i b j
theorem Dist.le {f : Bool} {w : List (Int × Int)} (hs : 0 ≤ s ∧ s < n) (h : Dist t l s n f w) : ∀ (p : List Int) (x : RingSpot), s ≤ x.node → x.node < n → x.first_ = f → CloS t l s n x p → gt w x.node x.last_ ≤ p.length + 1
  | [], x, hx, hn, hf, hc => by
    obtain ⟨y, hy, hh, hyf⟩ := of_clo (by omega) hs.2 (clo_nil.1 hc)
    subst hf
    have h1 := h.fix x.node x.last_ s hx hn (Int.le_refl _) hs.2 y hy
    rw [h.zero y.last_ (by rw [← hyf]; exact hh.2)] at h1
    simpa using h1
  | j :: p, x, hx, hn, hf, hc => by
    obtain ⟨y, hy, hp⟩ := clo_cons.1 hc
    rw [ext_stp (by omega)] at hy
    obtain ⟨h1, h2⟩ := stp_some.1 hy
    have hj : y.node = j := by rw [h2]
    have hyf : y.first_ = f := by rw [h2]; exact hf
    have h3 := Dist.le hs h p y (by omega) (by omega) hyf hp
    subst hf
    have h4 := h.fix x.node x.last_ j hx hn h1.1 h1.2.1 y hy
    rw [hj] at h3
    simp only [List.length_cons]
    omega
section
variable {f : Bool}
/-- a pass under way -/
structure Pass (t l : Int → Int → Bool) (s : Int) (n : Nat) (f : Bool) (w0 : List (Int × Int)) (did : Int → Bool → Int → Prop) (w : List (Int × Int)) (turned : Bool) : Prop where
  wi : WI t l s n f w
  no : turned = false → w = w0 ∧ ∀ (i : Int) b (j : Int), s ≤ i → i < n → s ≤ j → j < n → did i b j → Fix1 t l s n f w0 i b j
  yes : turned = true → sm w < sm w0
theorem Pass.mono {w0 w : List (Int × Int)} {did did' : Int → Bool → Int → Prop} {turned : Bool} (h : Pass t l s n f w0 did w turned) (hd : ∀ (i : Int) b (j : Int), s ≤ i → i < n → s ≤ j → j < n → did' i b j → did i b j ∨ Fix1 t l s n f w0 i b j) : Pass t l s n f w0 did' w turned :=
  ⟨h.wi, fun e => ⟨(h.no e).1, fun i b j h1 h2 h3 h4 h5 => (hd i b j h1 h2 h3 h4 h5).elim ((h.no e).2 i b j h1 h2 h3 h4) id⟩, h.yes⟩
end
end Go.Proofs.YtncapkloanfmnaaDoorT
