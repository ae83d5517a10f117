/- The document's shortest cycle from a node on is the first of the shortest. -/
import Derived.Test.YtncapkloanfmnaaDoorTPRE
namespace Go.Proofs.YtncapkloanfmnaaDoorT
open Go Go.Proofs Go.Proofs.YtncapkloanfmnaaDoorE
set_option linter.unusedVariables false
set_option linter.unusedSimpArgs false
set_option linter.unusedSectionVars false
variable {t l : Int → Int → Bool} {s : Int} {n k : Nat} {f : Bool}
theorem root_ext {j : Int} {y : RingSpot} : ext t l s n root j = some y ↔ (s ≤ j ∧ j < n ∧ (t s j = true ∨ l s j = true)) ∧ y = ⟨j, !t s j, !t s j⟩ := by
  have e : ext t l s n root j = (stp t l s n ⟨s, false, false⟩ j).map (fun y => ⟨y.node, y.last_, y.last_⟩) := rfl
  rw [e]
  constructor
  · intro h
    cases hq : stp t l s n ⟨s, false, false⟩ j with
    | none => rw [hq] at h; cases h
    | some z =>
      rw [hq] at h
      obtain ⟨h1, h2⟩ := stp_some.1 hq
      cases h
      rw [h2]
      exact ⟨⟨h1.1, h1.2.1, h1.2.2.imp id (·.1)⟩, rfl⟩
  · rintro ⟨h, rfl⟩
    rw [stp_some.2 ⟨⟨h.1, h.2.1, h.2.2.imp id fun h => ⟨h, rfl⟩⟩, rfl⟩]
    rfl
/-- the way back from a spot with a number to go: where it leads on -/
theorem rem_next {w : List (Int × Int)} (hs : 0 ≤ s ∧ s < n) (h : Dist t l s n f w) {z : RingSpot} (hz : s ≤ z.node ∧ z.node < n) (hf : z.first_ = f) {v : Int} (hv : gt w z.node z.last_ = v) (h0 : 0 < v) (h1 : v < 1048576) :
    ∃ j y, stp t l s n z j = some y ∧ gt w j y.last_ = v - 1 := by
  have hr := h.rem z.node z.last_ hz.1 hz.2 (by omega)
  rw [hv] at hr
  subst hf
  rcases hr with ⟨e, _⟩ | ⟨p, hp, e⟩
  · omega
  · cases p with
    | nil =>
      obtain ⟨y, hy, hh, hyf⟩ := of_clo (x := z) (by omega) hs.2 (clo_nil.1 hp)
      refine ⟨s, y, hy, ?_⟩
      rw [h.zero y.last_ (by rw [← hyf]; exact hh.2)]
      simp at e
      omega
    | cons j p =>
      obtain ⟨y, hy, hc⟩ := clo_cons.1 hp
      rw [ext_stp (by dsimp only; omega)] at hy
      obtain ⟨h2, h3⟩ := stp_some.1 hy
      have hj : y.node = j := by rw [h3]
      have hyf : y.first_ = z.first_ := by rw [h3]
      have h4 := h.le hs p y (by omega) (by omega) hyf hc
      have h5 := h.fix z.node z.last_ j hz.1 hz.2 h2.1 h2.2.1 y hy
      rw [hj] at h4
      refine ⟨j, y, hy, ?_⟩
      simp only [List.length_cons] at e
      omega
/-- a walk home through a spot is no shorter than told -/
theorem tail_le {w : List (Int × Int)} (hs : 0 ≤ s ∧ s < n) (h : Dist t l s n f w) {z : RingSpot} (hz : 0 ≤ z.node) (hf : z.first_ = f) : ∀ {p : List Int} {j : Int} {r : List Int}, p ++ [s] = j :: r → CloS t l s n z p → ∃ y, stp t l s n z j = some y ∧ gt w j y.last_ ≤ r.length
  | [], j, r, e, hc => by
    cases e
    obtain ⟨y, hy, hh, hyf⟩ := of_clo hz hs.2 (clo_nil.1 hc)
    subst hf
    exact ⟨y, hy, by rw [h.zero y.last_ (by rw [← hyf]; exact hh.2)]; simp⟩
  | i :: p, j, r, e, hc => by
    cases e
    obtain ⟨y, hy, hp⟩ := clo_cons.1 hc
    rw [ext_stp hz] at hy
    obtain ⟨h2, h3⟩ := stp_some.1 hy
    have hj : y.node = i := by rw [h3]
    have hyf : y.first_ = f := by rw [h3]; exact hf
    have h4 := h.le hs p y (by omega) (by omega) hyf hp
    rw [hj] at h4
    exact ⟨y, hy, by simpa using h4⟩
/-- the choosing of the nodes, one after another -/
structure Greedy (t l : Int → Int → Bool) (s : Int) (n : Nat) (f : Bool) (w : List (Int × Int)) (B : Int) (next : Int) (q : List Int) (last : Bool) (left_ : Int) : Prop where
  nx : s ≤ next ∧ next < n
  run : run (ext t l s n) root (q ++ [next]) = some ⟨next, last, f⟩
  gt : gt w next last = left_
  len : (q.length : Int) + 1 + left_ = B
  lex : ∀ p, CloS t l s n root p → (p.length : Int) + 1 = B → lxe (q ++ [next]) ((p ++ [s]).take (q.length + 1))
theorem Greedy.step {w : List (Int × Int)} {B next left_ : Int} {q : List Int} {last : Bool} (hs : 0 ≤ s ∧ s < n) (h : Dist t l s n f w) (g : Greedy t l s n f w B next q last left_) (h0 : 0 < left_) (h1 : B < 1048576) {j : Int} {y : RingSpot}
    (hy : stp t l s n ⟨next, last, f⟩ j = some y) (hg : Go.Proofs.YtncapkloanfmnaaDoorT.gt w j y.last_ = left_ - 1) (hm : ∀ i z, i < j → stp t l s n ⟨next, last, f⟩ i = some z → Go.Proofs.YtncapkloanfmnaaDoorT.gt w i z.last_ ≠ left_ - 1) : Greedy t l s n f w B j (q ++ [next]) y.last_ (left_ - 1) := by
  obtain ⟨h2, h3⟩ := stp_some.1 hy
  have hnx : 0 ≤ next := by have := g.nx; omega
  refine ⟨⟨h2.1, h2.2.1⟩, ?_, hg, by simp only [List.length_append, List.length_singleton]; have := g.len; omega, fun p hp hl => ?_⟩
  · rw [run_snoc, g.run]
    show ext t l s n ⟨next, last, f⟩ j = _
    rw [ext_stp hnx, hy, h3]
  · have hq := g.len
    have hlex := g.lex p hp hl
    have hP : (p ++ [s]).length = q.length + 1 + left_.toNat := by simp; omega
    obtain ⟨A, R, hA, hAl⟩ : ∃ A R, p ++ [s] = A ++ R ∧ A.length = q.length + 1 := ⟨_, _, (List.take_append_drop (q.length + 1) (p ++ [s])).symm, by rw [List.length_take]; omega⟩
    have hRl : R.length = left_.toNat := by rw [hA] at hP; simp at hP; omega
    cases R with
    | nil => simp at hRl; omega
    | cons j' r =>
      rw [hA] at hlex ⊢
      rw [List.take_left' hAl] at hlex
      have ht : (A ++ j' :: r).take ((q ++ [next]).length + 1) = A ++ [j'] := by
        rw [show A ++ j' :: r = (A ++ [j']) ++ r by simp]
        exact List.take_left' (by simp [hAl])
      rw [ht]
      rcases hlex with e | hlt
      · subst e
        -- the walk goes on from the same spot
        obtain ⟨p2, hp2, hc2⟩ : ∃ p2, p2 ++ [s] = j' :: r ∧ CloS t l s n ⟨next, last, f⟩ p2 := by
          obtain ⟨y0, hrun, hc⟩ := hp
          rcases List.eq_nil_or_concat r with rfl | ⟨r', b, rfl⟩
          · have e1 : p ++ [s] = (q ++ [next]) ++ [j'] := hA
            obtain ⟨e2, e3⟩ := List.append_inj' e1 rfl
            cases e3
            refine ⟨[], rfl, y0, ?_, hc⟩
            rw [e2, g.run] at hrun
            exact hrun
          · have e1 : p ++ [s] = ((q ++ [next]) ++ j' :: r') ++ [b] := by rw [hA]; simp
            obtain ⟨e2, e3⟩ := List.append_inj' e1 rfl
            cases e3
            refine ⟨j' :: r', by simp, y0, ?_, hc⟩
            rw [e2, run_app, g.run] at hrun
            exact hrun
        obtain ⟨y', hy', hle⟩ := tail_le hs h hnx rfl hp2 hc2
        obtain ⟨h4, h5⟩ := stp_some.1 hy'
        have hfx := h.fix next last j' g.nx.1 g.nx.2 h4.1 h4.2.1 y' hy'
        rw [g.gt] at hfx
        simp only [List.length_cons] at hRl
        have hv : Go.Proofs.YtncapkloanfmnaaDoorT.gt w j' y'.last_ = left_ - 1 := by omega
        have : ¬ j' < j := fun hlt => hm j' y' hlt hy' hv
        rcases Int.lt_or_le j j' with hjj | hjj
        · exact .inr ((lx_snoc rfl).2 (.inr ⟨rfl, hjj⟩))
        · obtain rfl : j = j' := by omega
          exact .inl rfl
      · exact .inr ((lx_snoc (by simp [hAl])).2 (.inl hlt))
theorem Greedy.done {w : List (Int × Int)} {B next : Int} {q : List Int} {last : Bool} (hs : 0 ≤ s ∧ s < n) (h : Dist t l s n f w) (g : Greedy t l s n f w B next q last 0) (hB : ∀ p, CloS t l s n root p → B ≤ p.length + 1) : First (ext t l s n) (clo t l s) root q := by
  have hr := h.rem next last g.nx.1 g.nx.2 (by rw [g.gt]; decide)
  rw [g.gt] at hr
  have hh : home s ⟨next, last, f⟩ := by
    rcases hr with ⟨_, h⟩ | ⟨p, _, e⟩
    · exact h
    · omega
  obtain rfl : next = s := hh.1
  have hl := g.len
  refine ⟨?_, fun p hp => ⟨by have := hB p hp; omega, fun e => ?_⟩⟩
  · have hrun := g.run
    rw [run_snoc] at hrun
    cases hz : Go.Proofs.YtncapkloanfmnaaDoorT.run (ext t l next n) root q with
    | none => rw [hz] at hrun; cases hrun
    | some z =>
      rw [hz] at hrun
      have hrun : ext t l next n z next = some ⟨next, last, f⟩ := hrun
      refine ⟨z, hz, ?_⟩
      by_cases hz0 : z.node < 0
      · unfold ext at hrun
        rw [if_pos hz0] at hrun
        unfold clo
        rw [if_pos hz0]
        cases hq : stp t l next n ⟨next, false, false⟩ next with
        | none => rw [hq] at hrun; cases hrun
        | some y =>
          rw [hq] at hrun
          obtain ⟨h1, h2⟩ := stp_some.1 hq
          cases hrun
          have := hh.2
          rw [h2] at this
          simpa using this
      · rw [ext_stp (by omega)] at hrun
        exact clo_of (by omega) hrun hh
  · have h1 := g.lex p hp (by omega)
    rw [show q.length + 1 = (p ++ [next]).length by simp [e], List.take_length] at h1
    rcases h1 with h1 | h1
    · exact .inl (List.append_inj' h1 rfl).1
    · rcases (lx_snoc e.symm).1 h1 with h2 | ⟨_, h2⟩
      · exact .inr h2
      · omega
/-- what the document tells from a node on -/
def FromSpec (t l : Int → Int → Bool) (s : Int) (n : Nat) (r : List Int) : Prop :=
  (r = [] ∧ ∀ p, CloS t l s n root p → 1048576 ≤ p.length + 1) ∨ ∃ p, r = s :: p ∧ First (ext t l s n) (clo t l s) root p ∧ (p.length : Int) + 1 < 1048576
end Go.Proofs.YtncapkloanfmnaaDoorT
