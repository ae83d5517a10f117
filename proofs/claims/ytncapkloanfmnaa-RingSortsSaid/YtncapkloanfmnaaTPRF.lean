/- The document's shortest cycle from a node on is the first of the shortest. -/
import Derived.Test.YtncapkloanfmnaaTPRE
namespace Go.Proofs.YtncapkloanfmnaaT
open Go Go.Proofs Go.Proofs.YtncapkloanfmnaaE
set_option linter.unusedVariables false
set_option linter.unusedSimpArgs false
set_option linter.unusedSectionVars false
variable {t l : Int → Int → Bool} {s : Int} {n k : Nat} {f : Bool} {a : Assizeref07Table}
theorem root_ext {j : Int} {y : RingSpot} : ext t l s n root j = some y ↔ (s ≤ j ∧ j < n ∧ (t s j = true ∨ l s j = true)) ∧ y = ⟨j, !t s j, !t s j⟩ := by
  have e : ext t l s n root j = (stp t l s n ⟨s, false, false⟩ j).map (fun y => ⟨y.node, y.last_, y.last_⟩) := rfl
  rw [e]
  constructor
  · intro h
    cases hq : stp t l s n ⟨s, false, false⟩ j with
    | none => rw [hq] at h; cases h
    | some z =>
      rw [hq] at h
      obtain ⟨h1, h2⟩ := stp_some.1 hq
      cases h
      rw [h2]
      exact ⟨⟨h1.1, h1.2.1, h1.2.2.imp id (·.1)⟩, rfl⟩
  · rintro ⟨h, rfl⟩
    rw [stp_some.2 ⟨⟨h.1, h.2.1, h.2.2.imp id fun h => ⟨h, rfl⟩⟩, rfl⟩]
    rfl
/-- the way back from a spot with a number to go: where it leads on -/
theorem rem_next {w : List (Int × Int)} (hs : 0 ≤ s ∧ s < n) (h : Dist t l s n f w) {z : RingSpot} (hz : s ≤ z.node ∧ z.node < n) (hf : z.first_ = f) {v : Int} (hv : gt w z.node z.last_ = v) (h0 : 0 < v) (h1 : v < 1048576) :
    ∃ j y, stp t l s n z j = some y ∧ gt w j y.last_ = v - 1 := by
  have hr := h.rem z.node z.last_ hz.1 hz.2 (by omega)
  rw [hv] at hr
  subst hf
  rcases hr with ⟨e, _⟩ | ⟨p, hp, e⟩
  · omega
  · cases p with
    | nil =>
      obtain ⟨y, hy, hh, hyf⟩ := of_clo (x := z) (by omega) hs.2 (clo_nil.1 hp)
      refine ⟨s, y, hy, ?_⟩
      rw [h.zero y.last_ (by rw [← hyf]; exact hh.2)]
      simp at e
      omega
    | cons j p =>
      obtain ⟨y, hy, hc⟩ := clo_cons.1 hp
      rw [ext_stp (by dsimp only; omega)] at hy
      obtain ⟨h2, h3⟩ := stp_some.1 hy
      have hj : y.node = j := by rw [h3]
      have hyf : y.first_ = z.first_ := by rw [h3]
      have h4 := h.le hs p y (by omega) (by omega) hyf hc
      have h5 := h.fix z.node z.last_ j hz.1 hz.2 h2.1 h2.2.1 y hy
      rw [hj] at h4
      refine ⟨j, y, hy, ?_⟩
      simp only [List.length_cons] at e
      omega
/-- a walk home through a spot is no shorter than told -/
theorem tail_le {w : List (Int × Int)} (hs : 0 ≤ s ∧ s < n) (h : Dist t l s n f w) {z : RingSpot} (hz : 0 ≤ z.node) (hf : z.first_ = f) : ∀ {p : List Int} {j : Int} {r : List Int}, p ++ [s] = j :: r → CloS t l s n z p → ∃ y, stp t l s n z j = some y ∧ gt w j y.last_ ≤ r.length
  | [], j, r, e, hc => by
    cases e
    obtain ⟨y, hy, hh, hyf⟩ := of_clo hz hs.2 (clo_nil.1 hc)
    subst hf
    exact ⟨y, hy, by rw [h.zero y.last_ (by rw [← hyf]; exact hh.2)]; simp⟩
  | i :: p, j, r, e, hc => by
    cases e
    obtain ⟨y, hy, hp⟩ := clo_cons.1 hc
    rw [ext_stp hz] at hy
    obtain ⟨h2, h3⟩ := stp_some.1 hy
    have hj : y.node = i := by rw [h3]
    have hyf : y.first_ = f := by rw [h3]; exact hf
    have h4 := h.le hs p y (by omega) (by omega) hyf hp
    rw [hj] at h4
    exact ⟨y, hy, by simpa using h4⟩
/-- the choosing of the nodes, one after another -/
structure Greedy (t l : Int → Int → Bool) (s : Int) (n : Nat) (f : Bool) (w : List (Int × Int)) (B : Int) (next : Int) (q : List Int) (last : Bool) (left_ : Int) : Prop where
  nx : s ≤ next ∧ next < n
  run : run (ext t l s n) root (q ++ [next]) = some ⟨next, last, f⟩
  gt : gt w next last = left_
  len : (q.length : Int) + 1 + left_ = B
  lex : ∀ p, CloS t l s n root p → (p.length : Int) + 1 = B → lxe (q ++ [next]) ((p ++ [s]).take (q.length + 1))
theorem Greedy.step {w : List (Int × Int)} {B next left_ : Int} {q : List Int} {last : Bool} (hs : 0 ≤ s ∧ s < n) (h : Dist t l s n f w) (g : Greedy t l s n f w B next q last left_) (h0 : 0 < left_) (h1 : B < 1048576) {j : Int} {y : RingSpot}
    (hy : stp t l s n ⟨next, last, f⟩ j = some y) (hg : Go.Proofs.YtncapkloanfmnaaT.gt w j y.last_ = left_ - 1) (hm : ∀ i z, i < j → stp t l s n ⟨next, last, f⟩ i = some z → Go.Proofs.YtncapkloanfmnaaT.gt w i z.last_ ≠ left_ - 1) : Greedy t l s n f w B j (q ++ [next]) y.last_ (left_ - 1) := by
  obtain ⟨h2, h3⟩ := stp_some.1 hy
  have hnx : 0 ≤ next := by have := g.nx; omega
  refine ⟨⟨h2.1, h2.2.1⟩, ?_, hg, by simp only [List.length_append, List.length_singleton]; have := g.len; omega, fun p hp hl => ?_⟩
  · rw [run_snoc, g.run]
    show ext t l s n ⟨next, last, f⟩ j = _
    rw [ext_stp hnx, hy, h3]
  · have hq := g.len
    have hlex := g.lex p hp hl
    have hP : (p ++ [s]).length = q.length + 1 + left_.toNat := by simp; omega
    obtain ⟨A, R, hA, hAl⟩ : ∃ A R, p ++ [s] = A ++ R ∧ A.length = q.length + 1 := ⟨_, _, (List.take_append_drop (q.length + 1) (p ++ [s])).symm, by rw [List.length_take]; omega⟩
    have hRl : R.length = left_.toNat := by rw [hA] at hP; simp at hP; omega
    cases R with
    | nil => simp at hRl; omega
    | cons j' r =>
      rw [hA] at hlex ⊢
      rw [List.take_left' hAl] at hlex
      have ht : (A ++ j' :: r).take ((q ++ [next]).length + 1) = A ++ [j'] := by
        rw [show A ++ j' :: r = (A ++ [j']) ++ r by simp]
        exact List.take_left' (by simp [hAl])
      rw [ht]
      rcases hlex with e | hlt
      · subst e
        -- the walk goes on from the same spot
        obtain ⟨p2, hp2, hc2⟩ : ∃ p2, p2 ++ [s] = j' :: r ∧ CloS t l s n ⟨next, last, f⟩ p2 := by
          obtain ⟨y0, hrun, hc⟩ := hp
          rcases List.eq_nil_or_concat r with rfl | ⟨r', b, rfl⟩
          · have e1 : p ++ [s] = (q ++ [next]) ++ [j'] := hA
            obtain ⟨e2, e3⟩ := List.append_inj' e1 rfl
            cases e3
            refine ⟨[], rfl, y0, ?_, hc⟩
            rw [e2, g.run] at hrun
            exact hrun
          · have e1 : p ++ [s] = ((q ++ [next]) ++ j' :: r') ++ [b] := by rw [hA]; simp
            obtain ⟨e2, e3⟩ := List.append_inj' e1 rfl
            cases e3
            refine ⟨j' :: r', by simp, y0, ?_, hc⟩
            rw [e2, run_app, g.run] at hrun
            exact hrun
        obtain ⟨y', hy', hle⟩ := tail_le hs h hnx rfl hp2 hc2
        obtain ⟨h4, h5⟩ := stp_some.1 hy'
        have hfx := h.fix next last j' g.nx.1 g.nx.2 h4.1 h4.2.1 y' hy'
        rw [g.gt] at hfx
        simp only [List.length_cons] at hRl
        have hv : Go.Proofs.YtncapkloanfmnaaT.gt w j' y'.last_ = left_ - 1 := by omega
        have : ¬ j' < j := fun hlt => hm j' y' hlt hy' hv
        rcases Int.lt_or_le j j' with hjj | hjj
        · exact .inr ((lx_snoc rfl).2 (.inr ⟨rfl, hjj⟩))
        · obtain rfl : j = j' := by omega
          exact .inl rfl
      · exact .inr ((lx_snoc (by simp [hAl])).2 (.inl hlt))
theorem Greedy.done {w : List (Int × Int)} {B next : Int} {q : List Int} {last : Bool} (hs : 0 ≤ s ∧ s < n) (h : Dist t l s n f w) (g : Greedy t l s n f w B next q last 0) (hB : ∀ p, CloS t l s n root p → B ≤ p.length + 1) : First (ext t l s n) (clo t l s) root q := by
  have hr := h.rem next last g.nx.1 g.nx.2 (by rw [g.gt]; decide)
  rw [g.gt] at hr
  have hh : home s ⟨next, last, f⟩ := by
    rcases hr with ⟨_, h⟩ | ⟨p, _, e⟩
    · exact h
    · omega
  obtain rfl : next = s := hh.1
  have hl := g.len
  refine ⟨?_, fun p hp => ⟨by have := hB p hp; omega, fun e => ?_⟩⟩
  · have hrun := g.run
    rw [run_snoc] at hrun
    cases hz : Go.Proofs.YtncapkloanfmnaaT.run (ext t l next n) root q with
    | none => rw [hz] at hrun; cases hrun
    | some z =>
      rw [hz] at hrun
      have hrun : ext t l next n z next = some ⟨next, last, f⟩ := hrun
      refine ⟨z, hz, ?_⟩
      by_cases hz0 : z.node < 0
      · unfold ext at hrun
        rw [if_pos hz0] at hrun
        unfold clo
        rw [if_pos hz0]
        cases hq : stp t l next n ⟨next, false, false⟩ next with
        | none => rw [hq] at hrun; cases hrun
        | some y =>
          rw [hq] at hrun
          obtain ⟨h1, h2⟩ := stp_some.1 hq
          cases hrun
          have := hh.2
          rw [h2] at this
          simpa using this
      · rw [ext_stp (by omega)] at hrun
        exact clo_of (by omega) hrun hh
  · have h1 := g.lex p hp (by omega)
    rw [show q.length + 1 = (p ++ [next]).length by simp [e], List.take_length] at h1
    rcases h1 with h1 | h1
    · exact .inl (List.append_inj' h1 rfl).1
    · rcases (lx_snoc e.symm).1 h1 with h2 | ⟨_, h2⟩
      · exact .inr h2
      · omega
theorem greedy_told (hA : TabOk a n t l) {w : List (Int × Int)} {B next left_ : Int} {q : List Int} {last : Bool} (hs : 0 ≤ s ∧ s < n) (h : Dist t l s n f w) (g : Greedy t l s n f w B next q last left_) (h1 : B < 1048576) (hB : ∀ p, CloS t l s n root p → B ≤ p.length + 1) (hl0 : 0 ≤ left_) :
    Tri (iter (assizeref07ztable_from.s4 a s w) (next, s :: q, last, left_)) (fun r : (Int × Int × Bool × Int) ⊕ List Int => ∃ p, r = .inr (s :: p) ∧ First (ext t l s n) (clo t l s) root p ∧ (p.length : Int) + 1 = B) := by
  have hle := hA.le
  refine tri_iter (fun z : Int × List Int × Bool × Int => ∃ q, z.2.1 = s :: q ∧ Greedy t l s n f w B z.1 q z.2.2.1 z.2.2.2 ∧ 0 ≤ z.2.2.2) (fun z => z.2.2.2.toNat) ⟨q, rfl, g, hl0⟩ ?_
  rintro ⟨next, l1, last, left_⟩ ⟨q, e1, g, hl0⟩
  dsimp only at e1 g hl0
  subst e1
  unfold assizeref07ztable_from.s4
  dsimp only
  refine tri_bif (fun e => ?_) (fun e => ?_)
  · have e : 0 < left_ := by simpa using e
    have hlen := g.len
    have hnx := g.nx
    refine tri_must (by simp only [List.length_cons]; omega) ?_
    let hit : Int → Prop := fun j => ∃ y, stp t l s n ⟨next, last, f⟩ j = some y ∧ gt w j y.last_ = left_ - 1
    refine tri_iter (fun z : Int × Int => s ≤ z.2 ∧ z.2 ≤ n ∧ ((z.1 = -1 ∧ ∀ i, i < z.2 → ¬ hit i) ∨ (s ≤ z.1 ∧ z.1 < n ∧ hit z.1 ∧ ∀ i, i < z.1 → ¬ hit i))) (fun z => ((n : Int) - z.2).toNat)
      ⟨Int.le_refl _, by dsimp only; omega, .inl ⟨rfl, fun i hi ⟨y, hy, _⟩ => by have := (stp_some.1 hy).1.1; dsimp only at hi; omega⟩⟩ ?_
    rintro ⟨nxt, j⟩ ⟨h2, h3, h4⟩
    dsimp only at h2 h3 h4
    have fin : (s ≤ nxt ∧ nxt < n ∧ hit nxt ∧ ∀ i, i < nxt → ¬ hit i) → Tri (assizeref07ztable_from.j6 a w next (s :: q) last left_ nxt j false) (Rnd (fun z : Int × Int => s ≤ z.2 ∧ z.2 ≤ n ∧ ((z.1 = -1 ∧ ∀ i, i < z.2 → ¬ hit i) ∨ (s ≤ z.1 ∧ z.1 < n ∧ hit z.1 ∧ ∀ i, i < z.1 → ¬ hit i))) (fun z => ((n : Int) - z.2).toNat)
        (Rnd (fun z : Int × List Int × Bool × Int => ∃ q, z.2.1 = s :: q ∧ Greedy t l s n f w B z.1 q z.2.2.1 z.2.2.2 ∧ 0 ≤ z.2.2.2) (fun z => z.2.2.2.toNat) (fun r : (Int × Int × Bool × Int) ⊕ List Int => ∃ p, r = .inr (s :: p) ∧ First (ext t l s n) (clo t l s) root p ∧ (p.length : Int) + 1 = B) (next, s :: q, last, left_)) (nxt, j)) := by
      rintro ⟨h5, h6, ⟨y, hy, hv⟩, h8⟩
      unfold assizeref07ztable_from.j6
      rw [cond_false, step_told hA ⟨by omega, hnx.2⟩ ⟨by omega, h6⟩]
      refine tri_sb (tri_out (tri_some ?_))
      have hg := g.step hs h e h1 hy hv (fun i z hi hz hv => h8 i hi ⟨z, hz, hv⟩)
      obtain ⟨h9, h10⟩ := stp_some.1 hy
      have : (!t next nxt && l next nxt) = y.last_ := by
        rw [h10]
        dsimp only
        rcases h9.2.2 with h | h
        · simp only at h; simp [h]
        · simp only at h; simp [h.1]
      dsimp only
      rw [this, w64zin (by omega) (by omega)]
      exact ⟨⟨q ++ [next], by simp, hg, by dsimp only; omega⟩, by dsimp only; omega⟩
    unfold assizeref07ztable_from.s5
    dsimp only
    rw [hA.N]
    refine tri_bif (fun hj => ?_) (fun hj => ?_)
    · have hj : j < n := by simpa using hj
      have hw : w64 (j + 1) = j + 1 := w64zin (by omega) (by omega)
      have hwl := h.len
      cases hd : decide (nxt < 0) with
      | false =>
        rcases h4 with ⟨rfl, _⟩ | h4
        · cases hd
        · exact fin h4
      | true =>
        have hd : nxt < 0 := by simpa using hd
        rcases h4 with ⟨rfl, hno⟩ | h4
        · unfold assizeref07ztable_from.j6
          rw [cond_true, step_told hA ⟨by omega, hnx.2⟩ ⟨by omega, hj⟩]
          refine tri_sb ?_
          have hskip : ¬ hit j → Tri (assizeref07ztable_from.j7 j (-1)) (Rnd (fun z : Int × Int => s ≤ z.2 ∧ z.2 ≤ n ∧ ((z.1 = -1 ∧ ∀ i, i < z.2 → ¬ hit i) ∨ (s ≤ z.1 ∧ z.1 < n ∧ hit z.1 ∧ ∀ i, i < z.1 → ¬ hit i))) (fun z => ((n : Int) - z.2).toNat)
              (Rnd (fun z : Int × List Int × Bool × Int => ∃ q, z.2.1 = s :: q ∧ Greedy t l s n f w B z.1 q z.2.2.1 z.2.2.2 ∧ 0 ≤ z.2.2.2) (fun z => z.2.2.2.toNat) (fun r : (Int × Int × Bool × Int) ⊕ List Int => ∃ p, r = .inr (s :: p) ∧ First (ext t l s n) (clo t l s) root p ∧ (p.length : Int) + 1 = B) (next, s :: q, last, left_)) (-1, j)) := by
            intro hh
            unfold assizeref07ztable_from.j7
            rw [hw]
            refine tri_some ⟨⟨by dsimp only; omega, by dsimp only; omega, .inl ⟨rfl, fun i hi => ?_⟩⟩, by dsimp only; omega⟩
            dsimp only at hi
            rcases Int.lt_or_le i j with h5 | h5
            · exact hno i h5
            · obtain rfl : i = j := by omega
              exact hh
          have hgo : ∀ (c : Bool) (y : Bool × Bool), y.2 = c → stp t l s n ⟨next, last, f⟩ j = some ⟨j, c, f⟩ → Tri (assizeref07ztable_from.j8 w left_ (-1) j y false) (Rnd (fun z : Int × Int => s ≤ z.2 ∧ z.2 ≤ n ∧ ((z.1 = -1 ∧ ∀ i, i < z.2 → ¬ hit i) ∨ (s ≤ z.1 ∧ z.1 < n ∧ hit z.1 ∧ ∀ i, i < z.1 → ¬ hit i))) (fun z => ((n : Int) - z.2).toNat)
              (Rnd (fun z : Int × List Int × Bool × Int => ∃ q, z.2.1 = s :: q ∧ Greedy t l s n f w B z.1 q z.2.2.1 z.2.2.2 ∧ 0 ≤ z.2.2.2) (fun z => z.2.2.2.toNat) (fun r : (Int × Int × Bool × Int) ⊕ List Int => ∃ p, r = .inr (s :: p) ∧ First (ext t l s n) (clo t l s) root p ∧ (p.length : Int) + 1 = B) (next, s :: q, last, left_)) (-1, j)) := by
            rintro c ⟨y1, y2⟩ rfl hst
            have main : ∀ v, v = gt w j y2 → Tri (assizeref07ztable_from.j9 left_ (-1) j v) (Rnd (fun z : Int × Int => s ≤ z.2 ∧ z.2 ≤ n ∧ ((z.1 = -1 ∧ ∀ i, i < z.2 → ¬ hit i) ∨ (s ≤ z.1 ∧ z.1 < n ∧ hit z.1 ∧ ∀ i, i < z.1 → ¬ hit i))) (fun z => ((n : Int) - z.2).toNat)
              (Rnd (fun z : Int × List Int × Bool × Int => ∃ q, z.2.1 = s :: q ∧ Greedy t l s n f w B z.1 q z.2.2.1 z.2.2.2 ∧ 0 ≤ z.2.2.2) (fun z => z.2.2.2.toNat) (fun r : (Int × Int × Bool × Int) ⊕ List Int => ∃ p, r = .inr (s :: p) ∧ First (ext t l s n) (clo t l s) root p ∧ (p.length : Int) + 1 = B) (next, s :: q, last, left_)) (-1, j)) := by
              rintro v rfl
              unfold assizeref07ztable_from.j9
              rw [w64zin (x := left_ - 1) (by omega) (by omega)]
              refine tri_bif (fun hv => ?_) (fun hv => ?_)
              · have hv : gt w j y2 = left_ - 1 := by simpa using hv
                unfold assizeref07ztable_from.j7
                rw [hw]
                exact tri_some ⟨⟨by dsimp only; omega, by dsimp only; omega, .inr ⟨h2, hj, ⟨_, hst, hv⟩, hno⟩⟩, by dsimp only; omega⟩
              · have hv : ¬ gt w j y2 = left_ - 1 := by simpa using hv
                exact hskip fun ⟨y, hy, h6⟩ => by rw [hst] at hy; cases hy; exact hv h6
            unfold assizeref07ztable_from.j8
            rw [cond_false]
            refine tri_must (by omega) ?_
            dsimp only
            cases y2 with
            | true => exact main _ rfl
            | false => exact main _ rfl
          have hstp : stp t l s n ⟨next, last, f⟩ j = if (t next j = true ∨ (l next j = true ∧ last = false)) then some ⟨j, !t next j, f⟩ else none := by
            unfold stp
            dsimp only
            by_cases e : t next j = true ∨ (l next j = true ∧ last = false)
            · rw [if_pos e, if_pos ⟨h2, hj, e⟩]
            · rw [if_neg e, if_neg (fun h => e h.2.2)]
          have hnone : stp t l s n ⟨next, last, f⟩ j = none → ∀ y, Tri (assizeref07ztable_from.j8 w left_ (-1) j y true) (Rnd (fun z : Int × Int => s ≤ z.2 ∧ z.2 ≤ n ∧ ((z.1 = -1 ∧ ∀ i, i < z.2 → ¬ hit i) ∨ (s ≤ z.1 ∧ z.1 < n ∧ hit z.1 ∧ ∀ i, i < z.1 → ¬ hit i))) (fun z => ((n : Int) - z.2).toNat)
              (Rnd (fun z : Int × List Int × Bool × Int => ∃ q, z.2.1 = s :: q ∧ Greedy t l s n f w B z.1 q z.2.2.1 z.2.2.2 ∧ 0 ≤ z.2.2.2) (fun z => z.2.2.2.toNat) (fun r : (Int × Int × Bool × Int) ⊕ List Int => ∃ p, r = .inr (s :: p) ∧ First (ext t l s n) (clo t l s) root p ∧ (p.length : Int) + 1 = B) (next, s :: q, last, left_)) (-1, j)) := by
            intro hn y
            unfold assizeref07ztable_from.j8
            rw [cond_true]
            exact hskip fun ⟨z, hz, _⟩ => by rw [hn] at hz; cases hz
          dsimp only
          cases ht : t next j with
          | true =>
            simp only [Bool.true_or, Bool.not_true, Bool.false_and, cond_false]
            exact hgo false _ rfl (by rw [hstp, if_pos (.inl ht), ht]; rfl)
          | false =>
            cases hl : l next j with
            | false =>
              simp only [Bool.false_or, Bool.not_false, cond_true]
              exact hnone (by rw [hstp, if_neg (by simp [ht, hl])]) _
            | true =>
              simp only [Bool.false_or, Bool.not_true, Bool.not_false, Bool.true_and, cond_false, cond_true]
              cases hb : last with
              | true => exact hnone (by rw [hstp, if_neg (by simp [ht, hb])]) _
              | false => exact hgo true _ rfl (by rw [hstp, if_pos (.inr ⟨hl, hb⟩), ht]; rfl)
        · omega
    · have hj : ¬ j < n := by simpa using hj
      rcases h4 with ⟨rfl, hno⟩ | h4
      · obtain ⟨i, y, hy, hv⟩ := rem_next hs h (z := ⟨next, last, f⟩) hnx rfl g.gt e (by omega)
        have := (stp_some.1 hy).1
        exact absurd ⟨y, hy, hv⟩ (hno i (by omega))
      · exact fin h4
  · have e : ¬ 0 < left_ := by simpa using e
    obtain rfl : left_ = 0 := by omega
    have hl := g.len
    exact tri_out (tri_out (tri_some ⟨q, rfl, g.done hs h hB, by omega⟩))
/-- what the document tells from a node on -/
def FromSpec (t l : Int → Int → Bool) (s : Int) (n : Nat) (r : List Int) : Prop :=
  (r = [] ∧ ∀ p, CloS t l s n root p → 1048576 ≤ p.length + 1) ∨ ∃ p, r = s :: p ∧ First (ext t l s n) (clo t l s) root p ∧ (p.length : Int) + 1 < 1048576
theorem from_spec (hA : TabOk a n t l) (hs : 0 ≤ s ∧ s < n) : Tri (assizeref07ztable_from a s) (FromSpec t l s n) := by
  have hle := hA.le
  obtain ⟨wf, ef, df⟩ := ways_told hA hs false
  obtain ⟨wt, et, dt⟩ := ways_told hA hs true
  let W : Bool → List (Int × Int) := fun c => if c then wt else wf
  have hW : ∀ c, assizeref07ztable_ways a s c = some (W c) ∧ Dist t l s n c (W c) := by
    intro c
    cases c
    · exact ⟨ef, df⟩
    · exact ⟨et, dt⟩
  let ok : Int → Prop := fun j => t s j = true ∨ l s j = true
  let v : Int → Int := fun j => gt (W (!t s j)) j (!t s j) + 1
  have hv : ∀ p, CloS t l s n root p → ∃ j r, p ++ [s] = j :: r ∧ s ≤ j ∧ j < n ∧ ok j ∧ v j ≤ p.length + 1 := by
    intro p hp
    cases p with
    | nil =>
      have : t s s = true := by have := clo_nil.1 hp; exact this
      refine ⟨s, [], rfl, Int.le_refl _, hs.2, .inl this, ?_⟩
      show gt (W (!t s s)) s (!t s s) + 1 ≤ _
      rw [this]
      show gt (W false) s false + 1 ≤ _
      rw [(hW false).2.zero false (by simp)]
      simp
    | cons j p =>
      obtain ⟨y, hy, hc⟩ := clo_cons.1 hp
      obtain ⟨h1, rfl⟩ := root_ext.1 hy
      refine ⟨j, p ++ [s], rfl, h1.1, h1.2.1, h1.2.2, ?_⟩
      have := (hW (!t s j)).2.le hs p ⟨j, !t s j, !t s j⟩ h1.1 h1.2.1 rfl hc
      show gt (W (!t s j)) j (!t s j) + 1 ≤ _
      dsimp only at this
      simp only [List.length_cons]
      omega
  unfold assizeref07ztable_from
  refine tri_iter (fun z : Int × Int × Bool × Int => s ≤ z.2.2.2 ∧ z.2.2.2 ≤ n ∧ ((z.1 = 1048576 ∧ z.2.1 < 0 ∧ ∀ j, s ≤ j → j < z.2.2.2 → ok j → 1048576 ≤ v j) ∨
      (s ≤ z.2.1 ∧ z.2.1 < z.2.2.2 ∧ ok z.2.1 ∧ z.2.2.1 = (!t s z.2.1) ∧ z.1 = v z.2.1 ∧ z.1 < 1048576 ∧ (∀ j, s ≤ j → j < z.2.2.2 → ok j → z.1 ≤ v j) ∧ ∀ j, s ≤ j → j < z.2.1 → ok j → z.1 < v j))) (fun z => ((n : Int) - z.2.2.2).toNat)
    ⟨Int.le_refl _, by dsimp only; omega, .inl ⟨rfl, by dsimp only; omega, fun j h1 h2 => by dsimp only at h2; omega⟩⟩ ?_
  rintro ⟨best, next, began, j⟩ ⟨h1, h2, h3⟩
  dsimp only at h1 h2 h3
  unfold assizeref07ztable_from.s1
  dsimp only
  rw [hA.N]
  refine tri_bif (fun e => ?_) (fun e => ?_)
  · have e : j < n := by simpa using e
    rw [step_told hA hs ⟨by omega, e⟩]
    refine tri_sb ?_
    have hw : w64 (j + 1) = j + 1 := w64zin (by omega) (by omega)
    dsimp only
    by_cases hok : ok j
    · have h4 : (t s j || l s j) = true := by rcases hok with h | h <;> simp [h]
      have h5 : (!t s j && l s j) = !t s j := by rcases hok with h | h <;> simp [h]
      rw [h4, h5, Bool.not_true, cond_false, (hW (!t s j)).1]
      refine tri_sb (tri_must ⟨by omega, by rw [(hW (!t s j)).2.len]; exact e⟩ ?_)
      have hlo := (hW (!t s j)).2.lo j (!t s j) (by omega) e
      have main : ∀ x y, x = gt (W (!t s j)) j (!t s j) → y = (!t s j) → ∀ z : Bool × Bool, z.2 = y → Tri (assizeref07ztable_from.j3 best next began j z x) (Rnd (fun z : Int × Int × Bool × Int => s ≤ z.2.2.2 ∧ z.2.2.2 ≤ n ∧ ((z.1 = 1048576 ∧ z.2.1 < 0 ∧ ∀ j, s ≤ j → j < z.2.2.2 → ok j → 1048576 ≤ v j) ∨
          (s ≤ z.2.1 ∧ z.2.1 < z.2.2.2 ∧ ok z.2.1 ∧ z.2.2.1 = (!t s z.2.1) ∧ z.1 = v z.2.1 ∧ z.1 < 1048576 ∧ (∀ j, s ≤ j → j < z.2.2.2 → ok j → z.1 ≤ v j) ∧ ∀ j, s ≤ j → j < z.2.1 → ok j → z.1 < v j))) (fun z => ((n : Int) - z.2.2.2).toNat) (FromSpec t l s n) (best, next, began, j)) := by
        rintro x y hx hy ⟨z1, z2⟩ rfl
        have hvj : v j = x + 1 := by rw [hx]
        unfold assizeref07ztable_from.j3 assizeref07ztable_from.j2
        rw [w64zin (x := x + 1) (by omega) (by omega), hw]
        refine tri_bif (fun hb => ?_) (fun hb => ?_)
        · have hb : x + 1 < best := by simpa using hb
          refine tri_some ⟨⟨by dsimp only; omega, by dsimp only; omega, .inr ⟨h1, by dsimp only; omega, hok, hy, hvj.symm, ?_, fun i h6 h7 h8 => ?_, fun i h6 h7 h8 => ?_⟩⟩, by dsimp only; omega⟩
          · dsimp only
            rcases h3 with h3 | h3 <;> omega
          · dsimp only at h7 ⊢
            by_cases e : i = j
            · subst e; omega
            · rcases h3 with h3 | h3
              · have := h3.2.2 i h6 (by omega) h8; omega
              · have := h3.2.2.2.2.2.2.1 i h6 (by omega) h8; omega
          · dsimp only at h7 ⊢
            rcases h3 with h3 | h3
            · have := h3.2.2 i h6 (by omega) h8; omega
            · have := h3.2.2.2.2.2.2.1 i h6 (by omega) h8; omega
        · have hb : ¬ x + 1 < best := by simpa using hb
          refine tri_some ⟨⟨by dsimp only; omega, by dsimp only; omega, ?_⟩, by dsimp only; omega⟩
          dsimp only
          rcases h3 with ⟨h6, h7, h8⟩ | ⟨h6, h7, h8, h9, h10, h11, h12, h13⟩
          · refine .inl ⟨h6, h7, fun i h9 h10 h11 => ?_⟩
            by_cases e : i = j
            · subst e; omega
            · exact h8 i h9 (by omega) h11
          · refine .inr ⟨h6, by omega, h8, h9, h10, h11, fun i h14 h15 h16 => ?_, h13⟩
            by_cases e : i = j
            · subst e; omega
            · exact h12 i h14 (by omega) h16
      cases hc : t s j with
      | true =>
        rw [hc] at main
        exact main _ _ rfl rfl _ rfl
      | false =>
        rw [hc] at main
        exact main _ _ rfl rfl _ rfl
    · have h4 : (t s j || l s j) = false := by
        cases h : (t s j || l s j) with
        | false => rfl
        | true => exact absurd (by simpa using h) hok
      rw [h4, Bool.not_false, cond_true]
      unfold assizeref07ztable_from.j2
      rw [hw]
      refine tri_some ⟨⟨by dsimp only; omega, by dsimp only; omega, ?_⟩, by dsimp only; omega⟩
      dsimp only
      rcases h3 with ⟨h6, h7, h8⟩ | ⟨h6, h7, h8, h9, h10, h11, h12, h13⟩
      · refine .inl ⟨h6, h7, fun i h9 h10 h11 => ?_⟩
        by_cases e : i = j
        · subst e; exact absurd h11 hok
        · exact h8 i h9 (by omega) h11
      · refine .inr ⟨h6, by omega, h8, h9, h10, h11, fun i h14 h15 h16 => ?_, h13⟩
        by_cases e : i = j
        · subst e; exact absurd h16 hok
        · exact h12 i h14 (by omega) h16
  · have e : ¬ j < n := by simpa using e
    obtain rfl : j = n := by omega
    rcases h3 with ⟨h6, h7, h8⟩ | ⟨h6, h7, h8, h9, h10, h11, h12, h13⟩
    · rw [show decide (next < 0) = true by simpa using h7, cond_true]
      refine tri_out (tri_some (.inl ⟨rfl, fun p hp => ?_⟩))
      obtain ⟨i, r, _, h9, h10, h11, h12⟩ := hv p hp
      have := h8 i h9 h10 h11
      omega
    · rw [show decide (next < 0) = false by simp; omega, cond_false, h9, (hW (!t s next)).1]
      have hlo := (hW (!t s next)).2.lo next (!t s next) (by omega) h7
      have hvn : v next = gt (W (!t s next)) next (!t s next) + 1 := rfl
      refine tri_sb ?_
      rw [w64zin (x := best - 1) (by omega) (by omega)]
      refine tri_mono (greedy_told (f := !t s next) (B := best) (q := []) hA hs (hW (!t s next)).2 ⟨⟨h6, h7⟩, ?_, by omega, by simp; omega, fun p hp hl => ?_⟩ h11 (fun p hp => ?_) (by omega)) ?_
      · show run _ root [next] = _
        simp only [run]
        rw [root_ext.2 ⟨⟨h6, h7, h8⟩, rfl⟩]
        rfl
      · obtain ⟨i, r, e1, h14, h15, h16, h17⟩ := hv p hp
        rw [e1]
        show lxe [next] [i]
        have : ¬ i < next := fun h => by have := h13 i h14 h h16; omega
        rcases Int.lt_or_le next i with h18 | h18
        · exact .inr (.inl h18)
        · obtain rfl : next = i := by omega
          exact .inl rfl
      · obtain ⟨i, r, _, h14, h15, h16, h17⟩ := hv p hp
        have := h12 i h14 h15 h16
        omega
      · rintro r ⟨p, rfl, hp, hl⟩
        exact .inr ⟨p, rfl, hp, by omega⟩
end Go.Proofs.YtncapkloanfmnaaT
