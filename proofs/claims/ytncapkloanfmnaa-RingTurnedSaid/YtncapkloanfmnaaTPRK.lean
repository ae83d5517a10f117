/- Ways back along tight steps: the document's, by distances. -/
import Derived.Test.YtncapkloanfmnaaTPRJ
namespace Go.Proofs.YtncapkloanfmnaaT
open Go Go.Proofs Go.Proofs.YtncapkloanfmnaaE
set_option linter.unusedVariables false
set_option linter.unusedSimpArgs false
set_option linter.unusedSectionVars false
variable {t l : Int → Int → Bool} {n k : Nat} {e : Int}
abbrev CloB (t : Int → Int → Bool) (e : Int) (n : Nat) (i : Int) (p : List Int) : Prop := Clo (ex1 t n) (· = e) i p
structure WB (t : Int → Int → Bool) (e : Int) (n : Nat) (w : List Int) : Prop where
  len : w.length = n
  lo : ∀ i : Int, 0 ≤ i → i < n → 0 ≤ idx w i ∧ idx w i ≤ 1048576
  rem : ∀ i : Int, 0 ≤ i → i < n → idx w i < 1048576 → ∃ p, CloB t e n i p ∧ (p.length : Int) = idx w i
  zero : idx w e = 0
def FixB (t : Int → Int → Bool) (w : List Int) (i j : Int) : Prop := t i j = true → idx w i ≤ idx w j + 1
structure DistB (t : Int → Int → Bool) (e : Int) (n : Nat) (w : List Int) : Prop extends WB t e n w where
  fix : ∀ i j : Int, 0 ≤ i → i < n → 0 ≤ j → j < n → FixB t w i j
def smB (w : List Int) : Nat := (w.map Int.toNat).sum
theorem smB_set : ∀ (w : List Int) (i : Nat) (q : Int), i < w.length → smB (w.set i q) + (w.getD i default).toNat = smB w + q.toNat
  | [], i, q, h => by simp at h
  | x :: w, 0, q, h => by simp [smB]; omega
  | x :: w, i + 1, q, h => by
    have := smB_set w i q (by simpa using h)
    simp only [smB, List.set_cons_succ, List.map_cons, List.sum_cons, List.getD_cons_succ] at this ⊢
    omega
structure PassB (t : Int → Int → Bool) (e : Int) (n : Nat) (w0 : List Int) (did : Int → Int → Prop) (w : List Int) (turned : Bool) : Prop where
  wi : WB t e n w
  no : turned = false → w = w0 ∧ ∀ i j : Int, 0 ≤ i → i < n → 0 ≤ j → j < n → did i j → FixB t w0 i j
  yes : turned = true → smB w < smB w0
theorem PassB.mono {w0 w : List Int} {did did' : Int → Int → Prop} {turned : Bool} (h : PassB t e n w0 did w turned) (hd : ∀ i j : Int, 0 ≤ i → i < n → 0 ≤ j → j < n → did' i j → did i j ∨ FixB t w0 i j) : PassB t e n w0 did' w turned :=
  ⟨h.wi, fun x => ⟨(h.no x).1, fun i j h1 h2 h3 h4 h5 => (hd i j h1 h2 h3 h4 h5).elim ((h.no x).2 i j h1 h2 h3 h4) id⟩, h.yes⟩
theorem DistB.le {w : List Int} (h : DistB t e n w) : ∀ (p : List Int) (i : Int), 0 ≤ i → i < n → CloB t e n i p → idx w i ≤ p.length
  | [], i, h0, h1, hc => by
    have : i = e := by
      obtain ⟨y, hy, hye⟩ := hc
      have : i = y := Option.some.inj hy
      rw [this]; exact hye
    rw [this, h.zero]
    simp
  | j :: p, i, h0, h1, hc => by
    obtain ⟨y, hy, hp⟩ := clo_cons.1 hc
    obtain ⟨h2, rfl⟩ := ex1zsome.1 hy
    have h3 := DistB.le h p y h2.1 h2.2.1 hp
    have h4 := h.fix i y h0 h1 h2.1 h2.2.1 h2.2.2
    simp only [List.length_cons]
    omega
variable {a : Assizeref07Table}
theorem lookB (hA : TabOk a n t l) (he : 0 ≤ e ∧ e < n) {w0 w : List Int} {turned : Bool} {i j : Int} (hi : 0 ≤ i ∧ i < n) (hj : 0 ≤ j ∧ j < n) {did : Int → Int → Prop} (h : PassB t e n w0 did w turned)
    {Q : (List Int × Bool × Int) ⊕ ((List Int × Bool × Int) ⊕ ((List Int × Bool) ⊕ ((List Int × Int) ⊕ (List Int × Bool)))) → Prop}
    (hQ : ∀ w' turned', PassB t e n w0 (fun i' j' => did i' j' ∨ (i' = i ∧ j' = j)) w' turned' → Q (.inl (w', turned', j + 1))) : Tri (assizeref07ztable_back.s4 a i (w, turned, j)) Q := by
  have hle := hA.le
  have hwl := h.wi.len
  have hw : w64 (j + 1) = j + 1 := w64zin (by omega) (by omega)
  unfold assizeref07ztable_back.s4
  dsimp only
  rw [hA.N, show decide (j < (n : Int)) = true by simpa using hj.2, cond_true]
  refine tri_must (by rw [hA.dlen]; exact hi) (tri_must (by rw [hA.drow i hi.1 hi.2]; exact hj) ?_)
  rw [hA.d i j hi.1 hi.2 hj.1 hj.2]
  have skip : FixB t w i j → Tri (assizeref07ztable_back.j6 i w turned j false) Q := by
    intro hf
    unfold assizeref07ztable_back.j6 assizeref07ztable_back.j5
    rw [cond_false, hw]
    refine tri_some (hQ _ _ ⟨h.wi, fun x => ⟨(h.no x).1, ?_⟩, h.yes⟩)
    rintro i' j' h1 h2 h3 h4 (h5 | ⟨rfl, rfl⟩)
    · exact (h.no x).2 i' j' h1 h2 h3 h4 h5
    · rw [← (h.no x).1]; exact hf
  refine tri_bif (fun ht => ?_) (fun ht => skip fun h => by rw [ht] at h; cases h)
  have hj0 := h.wi.lo j hj.1 hj.2
  have hi0 := h.wi.lo i hi.1 hi.2
  refine tri_must (by omega) (tri_must (by omega) ?_)
  rw [w64zin (x := idx w j + 1) (by omega) (by omega)]
  cases hc : decide (idx w j + 1 < idx w i) with
  | false => exact skip fun _ => by have : ¬ idx w j + 1 < idx w i := by simpa using hc
                                    omega
  | true =>
    have hc : idx w j + 1 < idx w i := by simpa using hc
    unfold assizeref07ztable_back.j6 assizeref07ztable_back.j5
    rw [cond_true, hw, w64zin (x := idx w j + 1) (by omega) (by omega)]
    refine tri_must (by omega) (tri_must (by omega) (tri_some (hQ _ _ ⟨⟨by rw [List.length_set]; exact hwl, fun i' h1 h2 => ?_, fun i' h1 h2 h3 => ?_, ?_⟩, fun x => (nomatch x), fun _ => ?_⟩)))
    · rw [idx_setI hi.1 (by omega) h1]
      split
      · omega
      · exact h.wi.lo i' h1 h2
    · rw [idx_setI hi.1 (by omega) h1] at h3 ⊢
      split
      · rename_i x
        subst x
        obtain ⟨p, hp, hl⟩ := h.wi.rem j hj.1 hj.2 (by omega)
        exact ⟨j :: p, clo_cons.2 ⟨j, ex1zsome.2 ⟨⟨hj.1, hj.2, ht⟩, rfl⟩, hp⟩, by simp only [List.length_cons]; omega⟩
      · rename_i x
        rw [if_neg x] at h3
        exact h.wi.rem i' h1 h2 h3
    · rw [idx_setI hi.1 (by omega) he.1]
      split
      · rename_i x
        subst x
        rw [h.wi.zero] at hc
        omega
      · exact h.wi.zero
    · have h5 := smB_set w i.toNat (idx w j + 1) (by omega)
      have h6 : w.getD i.toNat default = idx w i := rfl
      rw [h6] at h5
      cases turned with
      | false => rw [← (h.no rfl).1]; omega
      | true => have := h.yes rfl; omega
theorem passB_told (hA : TabOk a n t l) (he : 0 ≤ e ∧ e < n) {w0 : List Int} (h0 : WB t e n w0) {Q : ((List Int × Bool) ⊕ ((List Int × Int) ⊕ (List Int × Bool))) → Prop}
    (hQ : ∀ w' turned', PassB t e n w0 (fun _ _ => True) w' turned' → Q (.inl (w', turned'))) : Tri (iter (assizeref07ztable_back.s3 a) (w0, false, 0)) Q := by
  have hle := hA.le
  refine tri_iter (fun q : List Int × Bool × Int => 0 ≤ q.2.2 ∧ q.2.2 ≤ n ∧ PassB t e n w0 (fun i' j' => i' < q.2.2) q.1 q.2.1) (fun q => ((n : Int) - q.2.2).toNat)
    ⟨Int.le_refl _, by dsimp only; omega, h0, fun _ => ⟨rfl, fun i j h1 h2 h3 h4 h5 => by dsimp only at h5; omega⟩, fun h => (nomatch h)⟩ ?_
  rintro ⟨w, turned, i⟩ ⟨h1, h2, hP⟩
  dsimp only at h1 h2 hP
  unfold assizeref07ztable_back.s3
  dsimp only
  rw [hA.N]
  refine tri_bif (fun x => ?_) (fun x => ?_)
  · have hi : i < n := by simpa using x
    refine tri_iter (fun q : List Int × Bool × Int => 0 ≤ q.2.2 ∧ q.2.2 ≤ n ∧ PassB t e n w0 (fun i' j' => i' < i ∨ (i' = i ∧ j' < q.2.2)) q.1 q.2.1) (fun q => ((n : Int) - q.2.2).toNat)
      ⟨Int.le_refl _, by dsimp only; omega, hP.mono fun i' j' h3 h4 h5 h6 h7 => .inl (by dsimp only at h7; omega)⟩ ?_
    rintro ⟨w, turned, j⟩ ⟨h3, h4, hP⟩
    dsimp only at h3 h4 hP
    by_cases hj : j < n
    · refine lookB hA he ⟨h1, hi⟩ ⟨h3, hj⟩ hP (fun w' turned' hP' => ⟨⟨by dsimp only; omega, by dsimp only; omega, hP'.mono ?_⟩, by dsimp only; omega⟩)
      intro i' j' _ _ _ _ h7
      dsimp only at h7
      by_cases e1 : i' = i ∧ j' = j
      · exact .inl (.inr e1)
      · exact .inl (.inl (by omega))
    · obtain rfl : j = n := by omega
      unfold assizeref07ztable_back.s4
      dsimp only
      rw [hA.N, show decide ((n : Int) < (n : Int)) = false by simp, cond_false]
      refine tri_out (tri_some ?_)
      rw [w64zin (by omega) (by omega)]
      exact ⟨⟨by dsimp only; omega, by dsimp only; omega, hP.mono fun i' j' _ _ _ h6 h7 => .inl (by dsimp only at h7; omega)⟩, by dsimp only; omega⟩
  · have x : ¬ i < n := by simpa using x
    exact tri_out (tri_some (hQ _ _ (hP.mono fun i' j' _ h _ _ _ => .inl (by omega))))
def BackRef (t : Int → Int → Bool) (s e : Int) (n : Nat) (r : List Int × Bool) : Prop :=
  (r = ([], false) ∧ ∀ p, CloB t e n s p → 1048576 ≤ p.length) ∨ ∃ p, r = (butLast s p, true) ∧ First (ex1 t n) (· = e) s p
theorem greedyB (hA : TabOk a n t l) (he : 0 ≤ e ∧ e < n) {s : Int} (hs : 0 ≤ s ∧ s < n) {w : List Int} (h : DistB t e n w) (hfar : idx w s < 1048576) :
    Tri (iter (assizeref07ztable_back.s7 a e w) (([] : List Int), s)) (fun r : (List Int × Bool) ⊕ ((List Int × Int) ⊕ (List Int × Bool)) => ∃ p, r = .inr (.inr (butLast s p, true)) ∧ First (ex1 t n) (· = e) s p) := by
  have hle := hA.le
  have hwl := h.len
  refine tri_iter (fun z : List Int × Int => ∃ q, z.1 = butLast s q ∧ run (ex1 t n) s q = some z.2 ∧ 0 ≤ z.2 ∧ z.2 < n ∧ (q.length : Int) + idx w z.2 = idx w s ∧ ∀ p, CloB t e n s p → (p.length : Int) = idx w s → lxe q (p.take q.length)) (fun z => (idx w z.2).toNat)
    ⟨[], rfl, rfl, hs.1, hs.2, by simp, fun p _ _ => .inl rfl⟩ ?_
  rintro ⟨l1, i⟩ ⟨q, e1, hr, h0, h1, hl, hx⟩
  dsimp only at e1 hr h0 h1 hl hx
  subst e1
  have hi0 := h.lo i h0 h1
  unfold assizeref07ztable_back.s7
  dsimp only
  refine tri_bif (fun x => ?_) (fun x => ?_)
  · have hne : i ≠ e := by simpa using x
    have hpos : 0 < idx w i := by
      rcases Int.lt_or_le 0 (idx w i) with h2 | h2
      · exact h2
      · obtain ⟨p, hp, hpl⟩ := h.rem i h0 h1 (by omega)
        obtain rfl : p = [] := List.eq_nil_of_length_eq_zero (by omega)
        exact absurd (clo_nil.1 hp) hne
    have hbl := butLast_len s q
    refine tri_must (by omega) ?_
    let hit : Int → Prop := fun j => 0 ≤ j ∧ j < n ∧ t i j = true ∧ idx w j = idx w i - 1
    have fin : ∀ nxt, hit nxt → (∀ j, j < nxt → ¬ hit j) → Rnd (fun z : List Int × Int => ∃ q, z.1 = butLast s q ∧ run (ex1 t n) s q = some z.2 ∧ 0 ≤ z.2 ∧ z.2 < n ∧ (q.length : Int) + idx w z.2 = idx w s ∧ ∀ p, CloB t e n s p → (p.length : Int) = idx w s → lxe q (p.take q.length)) (fun z => (idx w z.2).toNat) (fun r : (List Int × Bool) ⊕ ((List Int × Int) ⊕ (List Int × Bool)) => ∃ p, r = .inr (.inr (butLast s p, true)) ∧ First (ex1 t n) (· = e) s p) (butLast s q, i) (.inl (butLast s q ++ [i], nxt)) := by
      rintro nxt ⟨g1, g2, g3, g4⟩ hmin
      refine ⟨⟨q ++ [nxt], (butLast_snoc (ends hr)).symm, ?_, g1, g2, by simp only [List.length_append, List.length_singleton]; omega, fun p hp hpl => ?_⟩, by first | omega | (dsimp only; omega)⟩
      · rw [run_snoc, hr]
        exact ex1zsome.2 ⟨⟨g1, g2, g3⟩, rfl⟩
      · have hlex := hx p hp hpl
        obtain ⟨A, R, hA2, hAl⟩ : ∃ A R, p = A ++ R ∧ A.length = q.length := ⟨_, _, (List.take_append_drop q.length p).symm, by rw [List.length_take]; omega⟩
        subst hA2
        rw [List.take_left' hAl] at hlex
        cases R with
        | nil => simp at hpl; omega
        | cons j r =>
          have ht : (A ++ j :: r).take ((q ++ [nxt]).length) = A ++ [j] := by
            rw [show A ++ j :: r = (A ++ [j]) ++ r by simp]
            exact List.take_left' (by simp [hAl])
          rw [ht]
          rcases hlex with e2 | hlt
          · subst e2
            obtain ⟨z, hz, hze⟩ := hp
            rw [run_app, hr] at hz
            have hz : run (ex1 t n) i (j :: r) = some z := hz
            obtain ⟨y, hy, hp2⟩ := clo_cons.1 (⟨z, hz, hze⟩ : CloB t e n i (j :: r))
            obtain ⟨g5, rfl⟩ := ex1zsome.1 hy
            have g6 := h.le r y g5.1 g5.2.1 hp2
            have g7 := h.fix i y h0 h1 g5.1 g5.2.1 g5.2.2
            simp only [List.length_append, List.length_cons] at hpl
            have : ¬ y < nxt := fun hlt => hmin y hlt ⟨g5.1, g5.2.1, g5.2.2, by omega⟩
            rcases Int.lt_or_le nxt y with h5 | h5
            · exact .inr ((lx_snoc rfl).2 (.inr ⟨rfl, h5⟩))
            · obtain rfl : nxt = y := by omega
              exact .inl rfl
          · exact .inr ((lx_snoc hAl.symm).2 (.inl hlt))
    have ex : ∃ j, hit j := by
      obtain ⟨p, hp, hpl⟩ := h.rem i h0 h1 (by omega)
      cases p with
      | nil => simp at hpl; omega
      | cons j p =>
        obtain ⟨y, hy, hp2⟩ := clo_cons.1 hp
        obtain ⟨g5, rfl⟩ := ex1zsome.1 hy
        have g6 := h.le p y g5.1 g5.2.1 hp2
        have g7 := h.fix i y h0 h1 g5.1 g5.2.1 g5.2.2
        simp only [List.length_cons] at hpl
        exact ⟨y, g5.1, g5.2.1, g5.2.2, by omega⟩
    refine tri_iter (fun z : Int × Int => 0 ≤ z.2 ∧ z.2 ≤ n ∧ ((z.1 = -1 ∧ ∀ j, j < z.2 → ¬ hit j) ∨ (0 ≤ z.1 ∧ hit z.1 ∧ ∀ j, j < z.1 → ¬ hit j))) (fun z => ((n : Int) - z.2).toNat) ⟨Int.le_refl _, by dsimp only; omega, .inl ⟨rfl, fun j hj h2 => by have := h2.1; dsimp only at hj; omega⟩⟩ ?_
    rintro ⟨nxt, j⟩ ⟨h3, h4, h5⟩
    dsimp only at h3 h4 h5
    have stop : ((0 ≤ nxt ∧ hit nxt ∧ ∀ j, j < nxt → ¬ hit j)) → Tri (assizeref07ztable_back.j9 a w (butLast s q) i nxt j false) (Rnd (fun z : Int × Int => 0 ≤ z.2 ∧ z.2 ≤ n ∧ ((z.1 = -1 ∧ ∀ j, j < z.2 → ¬ hit j) ∨ (0 ≤ z.1 ∧ hit z.1 ∧ ∀ j, j < z.1 → ¬ hit j))) (fun z => ((n : Int) - z.2).toNat)
        (Rnd (fun z : List Int × Int => ∃ q, z.1 = butLast s q ∧ run (ex1 t n) s q = some z.2 ∧ 0 ≤ z.2 ∧ z.2 < n ∧ (q.length : Int) + idx w z.2 = idx w s ∧ ∀ p, CloB t e n s p → (p.length : Int) = idx w s → lxe q (p.take q.length)) (fun z => (idx w z.2).toNat) (fun r : (List Int × Bool) ⊕ ((List Int × Int) ⊕ (List Int × Bool)) => ∃ p, r = .inr (.inr (butLast s p, true)) ∧ First (ex1 t n) (· = e) s p) (butLast s q, i)) (nxt, j)) := by
      rintro ⟨_, g1, g2⟩
      unfold assizeref07ztable_back.j9
      rw [cond_false]
      exact tri_out (tri_some (fin nxt g1 g2))
    unfold assizeref07ztable_back.s8
    dsimp only
    rw [hA.N]
    refine tri_bif (fun hj => ?_) (fun hj => ?_)
    · have hj : j < n := by simpa using hj
      have hw : w64 (j + 1) = j + 1 := w64zin (by omega) (by omega)
      cases hd : decide (nxt < 0) with
      | false =>
        rcases h5 with ⟨rfl, _⟩ | h5
        · cases hd
        · exact stop h5
      | true =>
        have hd : nxt < 0 := by simpa using hd
        rcases h5 with ⟨rfl, hno⟩ | h5
        · unfold assizeref07ztable_back.j9
          rw [cond_true]
          refine tri_must (by rw [hA.dlen]; exact ⟨h0, h1⟩) (tri_must (by rw [hA.drow i h0 h1]; exact ⟨h3, hj⟩) ?_)
          rw [hA.d i j h0 h1 h3 hj]
          have skip : ¬ hit j → Tri (assizeref07ztable_back.j11 (-1) j false) (Rnd (fun z : Int × Int => 0 ≤ z.2 ∧ z.2 ≤ n ∧ ((z.1 = -1 ∧ ∀ j, j < z.2 → ¬ hit j) ∨ (0 ≤ z.1 ∧ hit z.1 ∧ ∀ j, j < z.1 → ¬ hit j))) (fun z => ((n : Int) - z.2).toNat)
              (Rnd (fun z : List Int × Int => ∃ q, z.1 = butLast s q ∧ run (ex1 t n) s q = some z.2 ∧ 0 ≤ z.2 ∧ z.2 < n ∧ (q.length : Int) + idx w z.2 = idx w s ∧ ∀ p, CloB t e n s p → (p.length : Int) = idx w s → lxe q (p.take q.length)) (fun z => (idx w z.2).toNat) (fun r : (List Int × Bool) ⊕ ((List Int × Int) ⊕ (List Int × Bool)) => ∃ p, r = .inr (.inr (butLast s p, true)) ∧ First (ex1 t n) (· = e) s p) (butLast s q, i)) (-1, j)) := by
            intro hn
            unfold assizeref07ztable_back.j11 assizeref07ztable_back.j10
            rw [cond_false, hw]
            refine tri_some ⟨⟨by dsimp only; omega, by dsimp only; omega, .inl ⟨rfl, fun m hm => ?_⟩⟩, by dsimp only; omega⟩
            dsimp only at hm
            rcases Int.lt_or_le m j with h6 | h6
            · exact hno m h6
            · obtain rfl : m = j := by omega
              exact hn
          refine tri_bif (fun ht => ?_) (fun ht => skip fun h => by rw [h.2.2.1] at ht; cases ht)
          refine tri_must (by omega) (tri_must (by omega) ?_)
          rw [w64zin (x := idx w i - 1) (by omega) (by omega)]
          cases hv : (idx w j == idx w i - 1) with
          | false => exact skip fun h => by have := h.2.2.2; simp [this] at hv
          | true =>
            unfold assizeref07ztable_back.j11 assizeref07ztable_back.j10
            rw [cond_true, hw]
            exact tri_some ⟨⟨by dsimp only; omega, by dsimp only; omega, .inr ⟨h3, ⟨h3, hj, ht, by simpa using hv⟩, hno⟩⟩, by dsimp only; omega⟩
        · omega
    · have hj : ¬ j < n := by simpa using hj
      rcases h5 with ⟨rfl, hno⟩ | h5
      · obtain ⟨m, hm⟩ := ex
        exact absurd hm (hno m (by have := hm.2.1; omega))
      · exact stop h5
  · have hie : i = e := by simpa using x
    subst hie
    have hz := h.zero
    refine tri_out (tri_out (tri_out (tri_some ?_)))
    refine ⟨q, rfl, ⟨i, hr, rfl⟩, fun p hp => ⟨?_, fun hpl => ?_⟩⟩
    · have := h.le p s hs.1 hs.2 hp
      omega
    · have := hx p hp (by omega)
      rwa [← hpl, List.take_length] at this
theorem refBack_told (hA : TabOk a n t l) (he : 0 ≤ e ∧ e < n) {s : Int} (hs : 0 ≤ s ∧ s < n) : Tri (assizeref07ztable_back a s e) (BackRef t s e n) := by
  have hle := hA.le
  unfold assizeref07ztable_back
  refine tri_must (by rw [hA.N]; omega) ?_
  rw [hA.N, show ((n : Int)).toNat = n from rfl]
  refine tri_up2 n (fun k w => w.length = n ∧ ∀ j : Nat, j < k → idx w (j : Int) = 1048576) ⟨by simp, fun j hj => absurd hj (Nat.not_lt_zero _)⟩ ?_
  rintro k w hk ⟨hw, hz⟩
  unfold assizeref07ztable_back.s1
  dsimp only
  rw [hA.N]
  refine tri_bif (fun x => ?_) (fun x => ?_)
  · have x : (k : Int) < n := by simpa using x
    refine tri_must (by omega) (tri_some ?_)
    rw [w64zin (by omega) (by omega)]
    refine ⟨by omega, by omega, by simp [hw], fun j hj => ?_⟩
    rw [idx_setI (by omega) (by omega) (by omega)]
    split
    · rfl
    · exact hz j (by omega)
  · have x : ¬ (k : Int) < n := by simpa using x
    have hall : ∀ i : Int, 0 ≤ i → i < n → idx w i = 1048576 := fun i h0 h1 => by
      have := hz i.toNat (by omega)
      rwa [Int.toNat_of_nonneg h0] at this
    refine tri_must (by omega) ?_
    have hg : ∀ i : Int, 0 ≤ i → i < n → idx (w.set e.toNat 0) i = if i = e then 0 else 1048576 := by
      intro i h0 h1
      rw [idx_setI he.1 (by omega) h0, hall i h0 h1]
    refine tri_iter (fun q : List Int × Bool => WB t e n q.1 ∧ (q.2 = false → DistB t e n q.1)) (fun q => smB q.1 + (if q.2 then 1 else 0)) ⟨⟨by simp [hw], fun i h0 h1 => ?_, fun i h0 h1 h2 => ?_, ?_⟩, fun h => (nomatch h)⟩ ?_
    · dsimp only; rw [hg i h0 h1]; split <;> omega
    · dsimp only at h2 ⊢
      rw [hg i h0 h1] at h2 ⊢
      split at h2
      · rename_i x
        rw [if_pos x]
        exact ⟨[], clo_nil.2 x, rfl⟩
      · omega
    · dsimp only; rw [hg e he.1 he.2, if_pos rfl]
    · rintro ⟨w, turned⟩ ⟨hwb, hd⟩
      dsimp only at hwb hd
      have hwl := hwb.len
      unfold assizeref07ztable_back.s2
      dsimp only
      cases turned with
      | true =>
        rw [cond_true]
        refine passB_told hA he hwb (fun w' turned' hP => ⟨⟨hP.wi, fun x => ?_⟩, ?_⟩)
        · dsimp only at x
          have h1 := hP.no x
          dsimp only
          rw [h1.1]
          exact ⟨hwb, fun i j h2 h3 h4 h5 => h1.2 i j h2 h3 h4 h5 trivial⟩
        · dsimp only
          cases turned' with
          | true => have := hP.yes rfl; simp; omega
          | false => rw [(hP.no rfl).1]; simp
      | false =>
        have hD := hd rfl
        rw [cond_false]
        refine tri_must (by omega) (tri_bif (fun hf => ?_) (fun hf => ?_))
        · have hf : 1048576 ≤ idx w s := by simpa using hf
          refine tri_out (tri_out (tri_some (.inl ⟨rfl, fun p hp => ?_⟩)))
          have := hD.le p s hs.1 hs.2 hp
          omega
        · have hf : ¬ 1048576 ≤ idx w s := by simpa using hf
          refine tri_mono (greedyB hA he hs hD (by omega)) ?_
          rintro r ⟨p, rfl, hp⟩
          exact .inr ⟨p, rfl, hp⟩
end Go.Proofs.YtncapkloanfmnaaT
