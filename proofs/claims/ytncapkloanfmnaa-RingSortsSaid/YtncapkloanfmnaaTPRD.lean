/- The document's shortest cycles from a node on: by distances. -/
import Derived.Test.YtncapkloanfmnaaTPRC
namespace Go.Proofs.YtncapkloanfmnaaT
open Go Go.Proofs Go.Proofs.YtncapkloanfmnaaE
set_option linter.unusedVariables false
set_option linter.unusedSimpArgs false
set_option linter.unusedSectionVars false
variable {t l : Int → Int → Bool} {s : Int} {n k : Nat}
structure TabOk (a : Assizeref07Table) (n : Nat) (t l : Int → Int → Bool) : Prop where
  N : a.n = n
  le : n ≤ 64
  dlen : a.d.length = n
  rlen : a.r.length = n
  drow : ∀ i : Int, 0 ≤ i → i < n → (idx a.d i).length = n
  rrow : ∀ i : Int, 0 ≤ i → i < n → (idx a.r i).length = n
  d : ∀ i j : Int, 0 ≤ i → i < n → 0 ≤ j → j < n → idx (idx a.d i) j = t i j
  r : ∀ i j : Int, 0 ≤ i → i < n → 0 ≤ j → j < n → idx (idx a.r i) j = l i j
theorem step_told {a : Assizeref07Table} (hA : TabOk a n t l) {i j : Int} (hi : 0 ≤ i ∧ i < n) (hj : 0 ≤ j ∧ j < n) : assizeref07ztable_step a i j = some (t i j || l i j, !t i j && l i j) := by
  unfold assizeref07ztable_step
  rw [must_pos _ (by rw [hA.dlen]; exact hi), must_pos _ (by rw [hA.drow i hi.1 hi.2]; exact hj), hA.d i j hi.1 hi.2 hj.1 hj.2]
  cases t i j with
  | true => rfl
  | false =>
    rw [cond_false, must_pos _ (by rw [hA.rlen]; exact hi), must_pos _ (by rw [hA.rrow i hi.1 hi.2]; exact hj), hA.r i j hi.1 hi.2 hj.1 hj.2]
    simp
/-- what is told of a node and of whether the step into it was loose -/
def gt (w : List (Int × Int)) (i : Int) (b : Bool) : Int := if b then (idx w i).2 else (idx w i).1
def upw (w : List (Int × Int)) (i : Int) (b : Bool) (v : Int) : List (Int × Int) := w.set i.toNat (if b then ((idx w i).1, v) else (v, (idx w i).2))
theorem idx_setI {α : Type} [Inhabited α] {xs : List α} {i j : Int} {v : α} (h0 : 0 ≤ i) (h1 : i < xs.length) (hj : 0 ≤ j) : idx (xs.set i.toNat v) j = if j = i then v else idx xs j := by
  have := idx_set (xs := xs) (v := v) (j := j.toNat) h0 h1
  rw [Int.toNat_of_nonneg hj] at this
  exact this
theorem gt_upw {w : List (Int × Int)} {i j : Int} {b c : Bool} {v : Int} (h0 : 0 ≤ i) (h1 : i < w.length) (hj : 0 ≤ j) : gt (upw w i b v) j c = if j = i ∧ c = b then v else gt w j c := by
  unfold gt upw
  rw [idx_setI h0 h1 hj]
  by_cases e : j = i
  · subst e
    cases b <;> cases c <;> simp
  · simp [e]
theorem len_upw (w : List (Int × Int)) (i : Int) (b : Bool) (v : Int) : (upw w i b v).length = w.length := by simp [upw]
def sm (w : List (Int × Int)) : Nat := (w.map fun q => q.1.toNat + q.2.toNat).sum
theorem sm_set : ∀ (w : List (Int × Int)) (i : Nat) (q : Int × Int), i < w.length → sm (w.set i q) + ((w.getD i default).1.toNat + (w.getD i default).2.toNat) = sm w + (q.1.toNat + q.2.toNat)
  | [], i, q, h => by simp at h
  | x :: w, 0, q, h => by simp [sm]; omega
  | x :: w, i + 1, q, h => by
    have := sm_set w i q (by simpa using h)
    simp only [sm, List.set_cons_succ, List.map_cons, List.sum_cons, List.getD_cons_succ] at this ⊢
    omega
theorem sm_upw {w : List (Int × Int)} {i : Int} {b : Bool} {v : Int} (h0 : 0 ≤ i) (h1 : i < w.length) (hv : 0 ≤ v) (hlt : v < gt w i b) : sm (upw w i b v) < sm w := by
  have := sm_set w i.toNat (if b then ((idx w i).1, v) else (v, (idx w i).2)) (by omega)
  unfold upw
  unfold gt at hlt
  have e : w.getD i.toNat default = idx w i := rfl
  rw [e] at this
  cases b <;> simp at this hlt ⊢ <;> omega
def home (s : Int) (x : RingSpot) : Prop := x.node = s ∧ ¬ (x.last_ = true ∧ x.first_ = true)
abbrev CloS (t l : Int → Int → Bool) (s : Int) (n : Nat) (x : RingSpot) (p : List Int) : Prop := Clo (ext t l s n) (clo t l s) x p
def Rem (t l : Int → Int → Bool) (s : Int) (n : Nat) (x : RingSpot) (v : Int) : Prop := (v = 0 ∧ home s x) ∨ ∃ p, CloS t l s n x p ∧ (p.length : Int) + 1 = v
theorem clo_of {x y : RingSpot} (hx : 0 ≤ x.node) (hy : stp t l s n x s = some y) (hh : home s y) : clo t l s x := by
  obtain ⟨h1, h2⟩ := stp_some.1 hy
  unfold clo
  rw [if_neg (by omega)]
  rcases h1.2.2 with h | h
  · exact .inl h
  · cases ht : t x.node s with
    | true => exact .inl rfl
    | false =>
      refine .inr ⟨h.1, h.2, ?_⟩
      have := hh.2
      rw [h2] at this
      simpa [ht] using this
theorem of_clo {x : RingSpot} (hx : 0 ≤ x.node) (hs : s < n) (hc : clo t l s x) : ∃ y, stp t l s n x s = some y ∧ home s y ∧ y.first_ = x.first_ := by
  unfold clo at hc
  rw [if_neg (by omega)] at hc
  refine ⟨⟨s, !t x.node s, x.first_⟩, stp_some.2 ⟨⟨Int.le_refl _, hs, hc.imp id fun h => ⟨h.1, h.2.1⟩⟩, rfl⟩, ⟨rfl, ?_⟩, rfl⟩
  dsimp only
  rcases hc with h | h
  · simp [h]
  · simp [h.2.2]
theorem ext_stp {x : RingSpot} {j : Int} (hx : 0 ≤ x.node) : ext t l s n x j = stp t l s n x j := by unfold ext; rw [if_neg (by omega)]
theorem rem_step {x y : RingSpot} {j v : Int} (hs : 0 ≤ s) (hx : 0 ≤ x.node) (hy : stp t l s n x j = some y) (h : Rem t l s n y v) : Rem t l s n x (v + 1) := by
  right
  obtain ⟨h1, h2⟩ := stp_some.1 hy
  rcases h with ⟨rfl, hh⟩ | ⟨p, hp, rfl⟩
  · have : j = s := by have := hh.1; rw [h2] at this; exact this
    subst this
    exact ⟨[], clo_nil.2 (clo_of hx hy hh), rfl⟩
  · exact ⟨j :: p, clo_cons.2 ⟨y, (ext_stp hx).trans hy, hp⟩, by simp⟩
/-- what distances must say, under way -/
structure WI (t l : Int → Int → Bool) (s : Int) (n : Nat) (f : Bool) (w : List (Int × Int)) : Prop where
  len : w.length = n
  lo : ∀ (i : Int) b, 0 ≤ i → i < n → 0 ≤ gt w i b ∧ gt w i b ≤ 1048576
  rem : ∀ (i : Int) b, s ≤ i → i < n → gt w i b < 1048576 → Rem t l s n ⟨i, b, f⟩ (gt w i b)
  zero : ∀ b, ¬ (b = true ∧ f = true) → gt w s b = 0
def Fix1 (t l : Int → Int → Bool) (s : Int) (n : Nat) (f : Bool) (w : List (Int × Int)) (i : Int) (b : Bool) (j : Int) : Prop := ∀ y, stp t l s n ⟨i, b, f⟩ j = some y → gt w i b ≤ gt w j y.last_ + 1
structure Dist (t l : Int → Int → Bool) (s : Int) (n : Nat) (f : Bool) (w : List (Int × Int)) : Prop extends WI t l s n f w where
  fix : ∀ (i : Int) b (j : Int), s ≤ i → i < n → s ≤ j → j < n → Fix1 t l s n f w i b j
theorem Dist.le {f : Bool} {w : List (Int × Int)} (hs : 0 ≤ s ∧ s < n) (h : Dist t l s n f w) : ∀ (p : List Int) (x : RingSpot), s ≤ x.node → x.node < n → x.first_ = f → CloS t l s n x p → gt w x.node x.last_ ≤ p.length + 1
  | [], x, hx, hn, hf, hc => by
    obtain ⟨y, hy, hh, hyf⟩ := of_clo (by omega) hs.2 (clo_nil.1 hc)
    subst hf
    have h1 := h.fix x.node x.last_ s hx hn (Int.le_refl _) hs.2 y hy
    rw [h.zero y.last_ (by rw [← hyf]; exact hh.2)] at h1
    simpa using h1
  | j :: p, x, hx, hn, hf, hc => by
    obtain ⟨y, hy, hp⟩ := clo_cons.1 hc
    rw [ext_stp (by omega)] at hy
    obtain ⟨h1, h2⟩ := stp_some.1 hy
    have hj : y.node = j := by rw [h2]
    have hyf : y.first_ = f := by rw [h2]; exact hf
    have h3 := Dist.le hs h p y (by omega) (by omega) hyf hp
    subst hf
    have h4 := h.fix x.node x.last_ j hx hn h1.1 h1.2.1 y hy
    rw [hj] at h3
    simp only [List.length_cons]
    omega
section
variable {f : Bool} {a : Assizeref07Table}
/-- a pass under way -/
structure Pass (t l : Int → Int → Bool) (s : Int) (n : Nat) (f : Bool) (w0 : List (Int × Int)) (did : Int → Bool → Int → Prop) (w : List (Int × Int)) (turned : Bool) : Prop where
  wi : WI t l s n f w
  no : turned = false → w = w0 ∧ ∀ (i : Int) b (j : Int), s ≤ i → i < n → s ≤ j → j < n → did i b j → Fix1 t l s n f w0 i b j
  yes : turned = true → sm w < sm w0
theorem Pass.mono {w0 w : List (Int × Int)} {did did' : Int → Bool → Int → Prop} {turned : Bool} (h : Pass t l s n f w0 did w turned) (hd : ∀ (i : Int) b (j : Int), s ≤ i → i < n → s ≤ j → j < n → did' i b j → did i b j ∨ Fix1 t l s n f w0 i b j) : Pass t l s n f w0 did' w turned :=
  ⟨h.wi, fun e => ⟨(h.no e).1, fun i b j h1 h2 h3 h4 h5 => (hd i b j h1 h2 h3 h4 h5).elim ((h.no e).2 i b j h1 h2 h3 h4) id⟩, h.yes⟩
/-- one look at a step -/
theorem look_told (hA : TabOk a n t l) (hs : 0 ≤ s ∧ s < n) {w0 w : List (Int × Int)} {turned : Bool} {i j x : Int} (hi : s ≤ i ∧ i < n) (hj : s ≤ j ∧ j < n) (hx : x = 0 ∨ x = 1) {did : Int → Bool → Int → Prop} (h : Pass t l s n f w0 did w turned)
    {Q : ((List (Int × Int)) × Bool × Int × Int) ⊕ (((List (Int × Int)) × Bool × Int) ⊕ (((List (Int × Int)) × Bool × Int) ⊕ (((List (Int × Int)) × Bool) ⊕ (((List (Int × Int)) × Int) ⊕ (List (Int × Int)))))) → Prop}
    (hQ : ∀ w' turned', Pass t l s n f w0 (fun i' b' j' => did i' b' j' ∨ (i' = i ∧ b' = (x == 1) ∧ j' = j)) w' turned' → Q (.inl (w', turned', x, j + 1))) : Tri (assizeref07ztable_ways.s8 a i (w, turned, x, j)) Q := by
  have hle := hA.le
  have hwl := h.wi.len
  unfold assizeref07ztable_ways.s8
  dsimp only
  rw [hA.N, show decide (j < (n : Int)) = true by simpa using hj.2, cond_true, step_told hA ⟨by omega, hi.2⟩ ⟨by omega, hj.2⟩]
  refine tri_sb ?_
  have hw : w64 (j + 1) = j + 1 := w64zin (by omega) (by omega)
  have hskip : stp t l s n ⟨i, (x == 1), f⟩ j = none → ∀ y, Tri (assizeref07ztable_ways.j10 i w turned x j y true) Q := by
    intro hn y
    unfold assizeref07ztable_ways.j10 assizeref07ztable_ways.j9
    rw [cond_true, hw]
    refine tri_some (hQ _ _ (h.mono ?_))
    rintro i' b' j' _ _ _ _ (h1 | ⟨rfl, rfl, rfl⟩)
    · exact .inl h1
    · exact .inr fun y hy => by rw [hn] at hy; cases hy
  have hgo : ∀ c : Bool, stp t l s n ⟨i, (x == 1), f⟩ j = some ⟨j, c, f⟩ → ∀ y : Bool × Bool, y.2 = c → Tri (assizeref07ztable_ways.j10 i w turned x j y false) Q := by
    rintro c hc ⟨y1, y2⟩ rfl
    unfold assizeref07ztable_ways.j10
    rw [cond_false]
    refine tri_must (by omega) ?_
    have main : ∀ v : Int, v = gt w j y2 → Tri (assizeref07ztable_ways.j11 i w turned x j v) Q := by
      rintro v hv
      have hv0 := h.wi.lo j y2 (by omega) hj.2
      unfold assizeref07ztable_ways.j11
      refine tri_must (by rcases hx with rfl | rfl <;> simp) ?_
      have hset : ∀ b : Bool, (x == 1) = b → ∀ g : Int, g = gt w i b → ∀ w' : List (Int × Int), w' = upw w i b (v + 1) → Tri (bif decide (w64 (v + 1) < g) then assizeref07ztable_ways.j13 j w' x else (assizeref07ztable_ways.j9 j w turned x)) Q := by
        intro b hb g hg w' hw'
        rw [w64zin (x := v + 1) (by omega) (by omega)]
        refine tri_bif (fun hlt => ?_) (fun hlt => ?_)
        · have hlt : v + 1 < g := by simpa using hlt
          subst hw' hg
          unfold assizeref07ztable_ways.j13 assizeref07ztable_ways.j9
          rw [hw]
          have hsm := sm_upw (w := w) (b := b) (by omega : 0 ≤ i) (by omega) (by omega : 0 ≤ v + 1) hlt
          have hi0 := h.wi.lo i b (by omega) hi.2
          refine tri_some (hQ _ _ ⟨⟨by rw [len_upw]; exact hwl, fun i' b' h1 h2 => ?_, fun i' b' h1 h2 h3 => ?_, fun b' hb' => ?_⟩, fun e => (nomatch e), fun _ => ?_⟩)
          · rw [gt_upw (by omega) (by omega) h1]
            split
            · omega
            · exact h.wi.lo i' b' h1 h2
          · rw [gt_upw (by omega) (by omega) (by omega)] at h3 ⊢
            split
            · rename_i e
              obtain ⟨rfl, rfl⟩ := e
              rw [hb] at hc
              refine rem_step hs.1 (by dsimp only; omega) hc ?_
              rw [hv]
              exact h.wi.rem j y2 hj.1 hj.2 (by omega)
            · rename_i e
              rw [if_neg e] at h3
              exact h.wi.rem i' b' h1 h2 h3
          · rw [gt_upw (by omega) (by omega) hs.1]
            split
            · rename_i e
              obtain ⟨rfl, rfl⟩ := e
              rw [h.wi.zero b' hb'] at hlt
              omega
            · exact h.wi.zero b' hb'
          · cases turned with
            | false => rw [← (h.no rfl).1]; exact hsm
            | true => have := h.yes rfl; omega
        · have hlt : ¬ v + 1 < g := by simpa using hlt
          unfold assizeref07ztable_ways.j9
          rw [hw]
          refine tri_some (hQ _ _ ⟨h.wi, fun e => ⟨(h.no e).1, ?_⟩, h.yes⟩)
          rintro i' b' j' h1 h2 h3 h4 (h5 | ⟨rfl, rfl, rfl⟩)
          · exact (h.no e).2 i' b' j' h1 h2 h3 h4 h5
          · intro y hy
            rw [hc] at hy
            cases hy
            rw [← (h.no e).1, hb, ← hg]
            dsimp only
            rw [← hv]
            omega
      rcases hx with rfl | rfl
      · simp only [show ((0 : Int) == 0) = true from rfl, cond_true]
        refine tri_must (by omega) ?_
        unfold assizeref07ztable_ways.j12
        have := hset false rfl (idx w i).1 rfl _ (by rw [upw, if_neg (by simp)])
        rw [w64zin (x := v + 1) (by omega) (by omega)] at this ⊢
        refine tri_bif (fun hc => ?_) (fun hc => ?_)
        · rw [hc, cond_true] at this
          refine tri_must (by simp) ?_
          simp only [show ((0 : Int) == 0) = true from rfl, cond_true]
          exact tri_must (by omega) this
        · rw [hc, cond_false] at this
          exact this
      · simp only [show ((1 : Int) == 0) = false from rfl, cond_false]
        refine tri_must (by omega) ?_
        unfold assizeref07ztable_ways.j12
        have := hset true rfl (idx w i).2 rfl _ (by rw [upw, if_pos rfl])
        rw [w64zin (x := v + 1) (by omega) (by omega)] at this ⊢
        refine tri_bif (fun hc => ?_) (fun hc => ?_)
        · rw [hc, cond_true] at this
          refine tri_must (by simp) ?_
          simp only [show ((1 : Int) == 0) = false from rfl, cond_false]
          exact tri_must (by omega) this
        · rw [hc, cond_false] at this
          exact this
    dsimp only
    cases y2 with
    | true => exact main _ rfl
    | false => exact main _ rfl
  have hstp : stp t l s n ⟨i, (x == 1), f⟩ j = if (t i j = true ∨ (l i j = true ∧ (x == 1) = false)) then some ⟨j, !t i j, f⟩ else none := by
    unfold stp
    dsimp only
    by_cases e : t i j = true ∨ (l i j = true ∧ (x == 1) = false)
    · rw [if_pos e, if_pos ⟨hj.1, hj.2, e⟩]
    · rw [if_neg e, if_neg (fun h => e h.2.2)]
  dsimp only
  cases ht : t i j with
  | true =>
    simp only [Bool.true_or, Bool.not_true, Bool.false_and, cond_false]
    exact hgo false (by rw [hstp, if_pos (.inl ht), ht]; rfl) _ rfl
  | false =>
    cases hl : l i j with
    | false =>
      simp only [Bool.false_or, Bool.not_false, cond_true]
      exact hskip (by rw [hstp, if_neg (by simp [ht, hl])]) _
    | true =>
      simp only [Bool.false_or, Bool.not_true, Bool.not_false, Bool.true_and, cond_false, cond_true]
      cases hb : x == 1 with
      | true => exact hskip (by rw [hstp, if_neg (by simp [ht, hb])]) _
      | false => exact hgo true (by rw [hstp, if_pos (.inr ⟨hl, hb⟩), ht]; rfl) _ rfl
end
end Go.Proofs.YtncapkloanfmnaaT
