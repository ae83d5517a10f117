/- The document's distances, whole. -/
import Derived.Test.YtncapkloanfmnaaTPRD
namespace Go.Proofs.YtncapkloanfmnaaT
open Go Go.Proofs Go.Proofs.YtncapkloanfmnaaE
set_option linter.unusedVariables false
set_option linter.unusedSimpArgs false
set_option linter.unusedSectionVars false
variable {t l : Int → Int → Bool} {s : Int} {n k : Nat} {f : Bool} {a : Assizeref07Table}
theorem row_told (hA : TabOk a n t l) (hs : 0 ≤ s ∧ s < n) {w0 w : List (Int × Int)} {turned : Bool} {i x : Int} (hi : s ≤ i ∧ i < n) (hx : x = 0 ∨ x = 1) {did : Int → Bool → Int → Prop} (h : Pass t l s n f w0 did w turned)
    {Q : (((List (Int × Int)) × Bool × Int) ⊕ (((List (Int × Int)) × Bool × Int) ⊕ (((List (Int × Int)) × Bool) ⊕ (((List (Int × Int)) × Int) ⊕ (List (Int × Int)))))) → Prop}
    (hQ : ∀ w' turned', Pass t l s n f w0 (fun i' b' j' => did i' b' j' ∨ (i' = i ∧ b' = (x == 1))) w' turned' → Q (.inl (w', turned', x + 1))) : Tri (iter (assizeref07ztable_ways.s8 a i) (w, turned, x, s)) Q := by
  have hle := hA.le
  refine tri_iter (fun q : (List (Int × Int)) × Bool × Int × Int => q.2.2.1 = x ∧ s ≤ q.2.2.2 ∧ q.2.2.2 ≤ n ∧ Pass t l s n f w0 (fun i' b' j' => did i' b' j' ∨ (i' = i ∧ b' = (x == 1) ∧ j' < q.2.2.2)) q.1 q.2.1) (fun q => ((n : Int) - q.2.2.2).toNat)
    ⟨rfl, Int.le_refl _, by dsimp only; omega, h.mono fun i' b' j' h1 h2 h3 h4 h5 => .inl (h5.elim id fun h => by dsimp only at h; omega)⟩ ?_
  rintro ⟨w, turned, x', j⟩ ⟨rfl, h1, h2, hP⟩
  dsimp only at h1 h2 hP hx hQ
  by_cases hj : j < n
  · refine look_told hA hs hi ⟨h1, hj⟩ hx hP ?_
    intro w' turned' hP'
    refine ⟨⟨rfl, by dsimp only; omega, by dsimp only; omega, hP'.mono ?_⟩, by dsimp only; omega⟩
    rintro i' b' j' _ _ _ _ (h5 | ⟨h5, h6, h7⟩)
    · exact .inl (.inl (.inl h5))
    · dsimp only at h7
      by_cases e : j' = j
      · exact .inl (.inr ⟨h5, h6, e⟩)
      · exact .inl (.inl (.inr ⟨h5, h6, by omega⟩))
  · obtain rfl : j = n := by omega
    unfold assizeref07ztable_ways.s8
    dsimp only
    rw [hA.N, show decide ((n : Int) < (n : Int)) = false by simp, cond_false]
    unfold assizeref07ztable_ways.j6
    refine tri_out (tri_some ?_)
    rw [w64zin (by rcases hx with rfl | rfl <;> decide) (by rcases hx with rfl | rfl <;> decide)]
    refine hQ _ _ (hP.mono ?_)
    rintro i' b' j' _ _ _ h4 (h5 | ⟨h5, h6⟩)
    · exact .inl (.inl h5)
    · exact .inl (.inr ⟨h5, h6, h4⟩)
theorem both_told (hA : TabOk a n t l) (hs : 0 ≤ s ∧ s < n) {w0 w : List (Int × Int)} {turned : Bool} {i : Int} (hi : s ≤ i ∧ i < n) {did : Int → Bool → Int → Prop} (h : Pass t l s n f w0 did w turned)
    {Q : (((List (Int × Int)) × Bool × Int) ⊕ (((List (Int × Int)) × Bool) ⊕ (((List (Int × Int)) × Int) ⊕ (List (Int × Int))))) → Prop}
    (hQ : ∀ w' turned', Pass t l s n f w0 (fun i' b' j' => did i' b' j' ∨ i' = i) w' turned' → Q (.inl (w', turned', i + 1))) : Tri (iter (assizeref07ztable_ways.s5 a s i) (w, turned, 0)) Q := by
  have hle := hA.le
  refine tri_iter (fun q : (List (Int × Int)) × Bool × Int => (q.2.2 = 0 ∨ q.2.2 = 1 ∨ q.2.2 = 2) ∧ Pass t l s n f w0 (fun i' b' j' => did i' b' j' ∨ (i' = i ∧ (if b' then (1 : Int) else 0) < q.2.2)) q.1 q.2.1) (fun q => (2 - q.2.2).toNat)
    ⟨.inl rfl, h.mono fun i' b' j' h1 h2 h3 h4 h5 => .inl (h5.elim id fun h => by dsimp only at h; split at h <;> omega)⟩ ?_
  rintro ⟨w, turned, x⟩ ⟨hx, hP⟩
  dsimp only at hx hP
  have hwl := hP.wi.len
  have go : ∀ y : Int, y = x → (y = 0 ∨ y = 1) → ∀ c : Bool, (c = true → i = s ∧ gt w i (y == 1) = 0) → Tri (assizeref07ztable_ways.j7 a s i w turned y c) (Rnd (fun q : (List (Int × Int)) × Bool × Int => (q.2.2 = 0 ∨ q.2.2 = 1 ∨ q.2.2 = 2) ∧ Pass t l s n f w0 (fun i' b' j' => did i' b' j' ∨ (i' = i ∧ (if b' then (1 : Int) else 0) < q.2.2)) q.1 q.2.1) (fun q => (2 - q.2.2).toNat) Q (w, turned, x)) := by
    rintro y rfl hy c hc
    have ok : ∀ w' turned', Pass t l s n f w0 (fun i' b' j' => (did i' b' j' ∨ (i' = i ∧ (if b' then (1 : Int) else 0) < y)) ∨ (i' = i ∧ b' = (y == 1))) w' turned' →
        Rnd (fun q : (List (Int × Int)) × Bool × Int => (q.2.2 = 0 ∨ q.2.2 = 1 ∨ q.2.2 = 2) ∧ Pass t l s n f w0 (fun i' b' j' => did i' b' j' ∨ (i' = i ∧ (if b' then (1 : Int) else 0) < q.2.2)) q.1 q.2.1) (fun q => (2 - q.2.2).toNat) Q (w, turned, y) (.inl (w', turned', y + 1)) := by
      intro w' turned' hP'
      refine ⟨⟨by dsimp only; omega, hP'.mono ?_⟩, by dsimp only; omega⟩
      rintro i' b' j' _ _ _ _ (h5 | ⟨h5, h6⟩)
      · exact .inl (.inl (.inl h5))
      · left
        dsimp only at h6
        rcases hy with rfl | rfl <;> cases b' <;> simp at h6 ⊢ <;> simp [h5]
    unfold assizeref07ztable_ways.j7
    refine tri_bif (fun e => ?_) (fun e => ?_)
    · obtain ⟨rfl, h0⟩ := hc e
      unfold assizeref07ztable_ways.j6
      refine tri_some ?_
      rw [w64zin (by omega) (by omega)]
      refine ok _ _ ⟨hP.wi, fun e => ⟨(hP.no e).1, ?_⟩, hP.yes⟩
      rintro i' b' j' h1 h2 h3 h4 (h5 | ⟨rfl, rfl⟩)
      · exact (hP.no e).2 i' b' j' h1 h2 h3 h4 h5
      · intro z hz
        rw [← (hP.no e).1, h0]
        have := (hP.wi.lo j' z.last_ (by omega) h4).1
        omega
    · exact row_told hA hs hi hy hP (fun w' turned' hP' => ok w' turned' hP')
  rcases hx with rfl | rfl | rfl
  · unfold assizeref07ztable_ways.s5
    dsimp only
    rw [show decide ((0 : Int) < 2) = true from rfl, cond_true]
    refine tri_must (by simp) ?_
    rw [show ((0 : Int) == 0) = true from rfl, cond_true]
    refine tri_bif (fun e => tri_must (by omega) (go 0 rfl (.inl rfl) _ fun h => ⟨by simpa using e, by simpa [gt] using h⟩)) (fun e => go 0 rfl (.inl rfl) _ fun h => by cases h)
  · unfold assizeref07ztable_ways.s5
    dsimp only
    rw [show decide ((1 : Int) < 2) = true from rfl, cond_true]
    refine tri_must (by simp) ?_
    rw [show ((1 : Int) == 0) = false from rfl, cond_false]
    refine tri_bif (fun e => tri_must (by omega) (go 1 rfl (.inr rfl) _ fun h => ⟨by simpa using e, by simpa [gt] using h⟩)) (fun e => go 1 rfl (.inr rfl) _ fun h => by cases h)
  · unfold assizeref07ztable_ways.s5
    dsimp only
    rw [show decide ((2 : Int) < 2) = false from rfl, cond_false]
    refine tri_out (tri_some ?_)
    rw [w64zin (by omega) (by omega)]
    refine hQ _ _ (hP.mono ?_)
    rintro i' b' j' _ _ _ _ (h5 | h5)
    · exact .inl (.inl h5)
    · exact .inl (.inr ⟨h5, by split <;> omega⟩)
theorem pass_told (hA : TabOk a n t l) (hs : 0 ≤ s ∧ s < n) {w0 : List (Int × Int)} (h0 : WI t l s n f w0)
    {Q : (((List (Int × Int)) × Bool) ⊕ (((List (Int × Int)) × Int) ⊕ (List (Int × Int)))) → Prop}
    (hQ : ∀ w' turned', Pass t l s n f w0 (fun _ _ _ => True) w' turned' → Q (.inl (w', turned'))) : Tri (iter (assizeref07ztable_ways.s4 a s) (w0, false, s)) Q := by
  have hle := hA.le
  refine tri_iter (fun q : (List (Int × Int)) × Bool × Int => s ≤ q.2.2 ∧ q.2.2 ≤ n ∧ Pass t l s n f w0 (fun i' b' j' => i' < q.2.2) q.1 q.2.1) (fun q => ((n : Int) - q.2.2).toNat)
    ⟨Int.le_refl _, by dsimp only; omega, h0, fun _ => ⟨rfl, fun i b j h1 h2 h3 h4 h5 => by dsimp only at h5; omega⟩, fun h => (nomatch h)⟩ ?_
  rintro ⟨w, turned, i⟩ ⟨h1, h2, hP⟩
  dsimp only at h1 h2 hP
  unfold assizeref07ztable_ways.s4
  dsimp only
  rw [hA.N]
  refine tri_bif (fun e => ?_) (fun e => ?_)
  · have e : i < n := by simpa using e
    refine both_told hA hs ⟨h1, e⟩ hP (fun w' turned' hP' => ⟨⟨by dsimp only; omega, by dsimp only; omega, hP'.mono ?_⟩, by dsimp only; omega⟩)
    intro i' b' j' _ _ _ _ h5
    dsimp only at h5
    by_cases e : i' = i
    · exact .inl (.inr e)
    · exact .inl (.inl (by omega))
  · have e : ¬ i < n := by simpa using e
    refine tri_out (tri_some (hQ _ _ (hP.mono fun i' b' j' _ h _ _ _ => .inl (by omega))))
theorem passes_told (hA : TabOk a n t l) (hs : 0 ≤ s ∧ s < n) {w0 : List (Int × Int)} (h0 : WI t l s n f w0) : Tri (iter (assizeref07ztable_ways.s3 a s) (w0, true)) (fun r : ((List (Int × Int)) × Int) ⊕ (List (Int × Int)) => ∃ w, r = .inr w ∧ Dist t l s n f w) := by
  refine tri_iter (fun q : (List (Int × Int)) × Bool => WI t l s n f q.1 ∧ (q.2 = false → Dist t l s n f q.1)) (fun q => sm q.1 + (if q.2 then 1 else 0)) ⟨h0, fun h => (nomatch h)⟩ ?_
  rintro ⟨w, turned⟩ ⟨hw, hd⟩
  dsimp only at hw hd
  unfold assizeref07ztable_ways.s3
  dsimp only
  cases turned with
  | true =>
    rw [cond_true]
    refine pass_told hA hs hw (fun w' turned' hP => ⟨⟨hP.wi, fun e => ?_⟩, ?_⟩)
    · dsimp only at e
      have h1 := hP.no e
      dsimp only
      rw [h1.1]
      exact ⟨hw, fun i b j h2 h3 h4 h5 => h1.2 i b j h2 h3 h4 h5 trivial⟩
    · dsimp only
      cases turned' with
      | true => have := hP.yes rfl; simp; omega
      | false => rw [(hP.no rfl).1]; simp
  | false => exact tri_out (tri_out (tri_some ⟨w, rfl, hd rfl⟩))
theorem ways_told (hA : TabOk a n t l) (hs : 0 ≤ s ∧ s < n) (f : Bool) : Tri (assizeref07ztable_ways a s f) (Dist t l s n f) := by
  have hle := hA.le
  unfold assizeref07ztable_ways
  refine tri_must (by rw [hA.N]; omega) ?_
  rw [hA.N, show ((n : Int)).toNat = n from rfl]
  refine tri_up2 n (fun k w => w.length = n ∧ ∀ j : Nat, j < k → idx w (j : Int) = (1048576, 1048576)) ⟨by simp, fun j hj => absurd hj (Nat.not_lt_zero _)⟩ ?_
  rintro k w hk ⟨hw, hz⟩
  unfold assizeref07ztable_ways.s1
  dsimp only
  rw [hA.N]
  refine tri_bif (fun e => ?_) (fun e => ?_)
  · have e : (k : Int) < n := by simpa using e
    refine tri_must (by omega) (tri_some ?_)
    rw [w64zin (by omega) (by omega)]
    refine ⟨by omega, by omega, by simp [hw], fun j hj => ?_⟩
    rw [idx_setI (by omega) (by omega) (by omega)]
    split
    · rfl
    · exact hz j (by omega)
  · have e : ¬ (k : Int) < n := by simpa using e
    have hall : ∀ i : Int, 0 ≤ i → i < n → idx w i = (1048576, 1048576) := fun i h0 h1 => by
      have := hz i.toNat (by omega)
      rwa [Int.toNat_of_nonneg h0] at this
    refine tri_must (by omega) ?_
    have h1 : w.set s.toNat ((0, (idx w s).2) : Int × Int) = upw w s false 0 := by unfold upw; simp
    rw [h1]
    have hfar : ∀ (i : Int) b, 0 ≤ i → i < n → gt w i b = 1048576 := fun i b h0 h1 => by unfold gt; rw [hall i h0 h1]; simp
    refine tri_bif (fun hf => ?_) (fun hf => ?_)
    · have hf : f = false := by simpa using hf
      subst hf
      have h2 : (upw w s false 0).set s.toNat (((idx (upw w s false 0) s).1, 0) : Int × Int) = upw (upw w s false 0) s true 0 := by
        conv => rhs; unfold upw
        simp [upw]
      rw [h2]
      unfold assizeref07ztable_ways.j2
      have hg : ∀ (i : Int) (b : Bool), 0 ≤ i → i < (n : Int) → gt (upw (upw w s false 0) s true 0) i b = if i = s then 0 else 1048576 := by
        intro i b h3 h4
        rw [gt_upw hs.1 (by rw [len_upw]; omega) h3, gt_upw hs.1 (by omega) h3, hfar i b h3 h4]
        by_cases e : i = s <;> cases b <;> simp [e]
      refine tri_mono (passes_told (f := false) hA hs ⟨by rw [len_upw, len_upw]; exact hw, fun i b h3 h4 => ?_, fun i b h3 h4 h5 => ?_, fun b hb => ?_⟩) ?_
      · rw [hg i b h3 h4]; split <;> omega
      · rw [hg i b (by omega) h4] at h5 ⊢
        split at h5
        · rename_i e
          rw [if_pos e]
          exact .inl ⟨rfl, e, by simp⟩
        · omega
      · rw [hg s b hs.1 hs.2, if_pos rfl]
      · rintro r ⟨w', rfl, hd⟩
        exact hd
    · have hf : f = true := by simpa using hf
      subst hf
      unfold assizeref07ztable_ways.j2
      have hg : ∀ (i : Int) (b : Bool), 0 ≤ i → i < (n : Int) → gt (upw w s false 0) i b = if i = s ∧ b = false then 0 else 1048576 := by
        intro i b h3 h4
        rw [gt_upw hs.1 (by omega) h3, hfar i b h3 h4]
      refine tri_mono (passes_told (f := true) hA hs ⟨by rw [len_upw]; exact hw, fun i b h3 h4 => ?_, fun i b h3 h4 h5 => ?_, fun b hb => ?_⟩) ?_
      · rw [hg i b h3 h4]; split <;> omega
      · rw [hg i b (by omega) h4] at h5 ⊢
        split at h5
        · rename_i e
          rw [if_pos e]
          exact .inl ⟨rfl, e.1, by simp [e.2]⟩
        · omega
      · rw [hg s b hs.1 hs.2, if_pos ⟨rfl, by simpa using hb⟩]
      · rintro r ⟨w', rfl, hd⟩
        exact hd
end Go.Proofs.YtncapkloanfmnaaT
