/- Single cycles, as both sides tell them. -/
import Derived.Test.YtncapkloanfmnaaDoorTPRK
namespace Go.Proofs.YtncapkloanfmnaaDoorT
open Go Go.Proofs Go.Proofs.YtncapkloanfmnaaDoorE
set_option linter.unusedVariables false
set_option linter.unusedSimpArgs false
set_option linter.unusedSectionVars false
variable {t l : Int → Int → Bool} {n : Nat}
/-- one loose step, the others tight -/
structure Loop2 (t l : Int → Int → Bool) (n : Nat) (c : List Int) : Prop where
  ne : c ≠ []
  node : ∀ i, 0 ≤ at3 c i ∧ at3 c i < n
  one : l (at3 c 0) (at3 c 1) = true
  rest : ∀ i, 0 < i → i < c.length → t (at3 c i) (at3 c (i + 1)) = true
theorem run_chain {b : Int} : ∀ {p : List Int} {x : Int}, run (ex1 t n) b p = some x → ∀ i, i < p.length → t (idx (b :: p) (i : Int)) (idx (b :: p) ((i + 1 : Nat) : Int)) = true ∧ 0 ≤ idx (b :: p) ((i + 1 : Nat) : Int) ∧ idx (b :: p) ((i + 1 : Nat) : Int) < n
  | [], x, h, i, hi => by simp at hi
  | j :: p, x, h, i, hi => by
    simp only [run] at h
    cases hy : ex1 t n b j with
    | none => rw [hy] at h; cases h
    | some y =>
      rw [hy] at h
      obtain ⟨h1, rfl⟩ := ex1zsome.1 hy
      have h : run (ex1 t n) y p = some x := h
      cases i with
      | zero => exact ⟨h1.2.2, h1.1, h1.2.1⟩
      | succ i => exact run_chain h i (by simpa using hi)
theorem idx_getE {c : List Int} {i : Nat} (h : i < c.length) : idx c (i : Int) = c[i] := by rw [idx_nat, List.getD_eq_getElem?_getD, List.getElem?_eq_getElem h]; rfl
theorem nodes_at {a b : Int} {p : List Int} (h : run (ex1 t n) b p = some a) : ∀ i, i ≤ p.length → at3 (a :: butLast b p) (i + 1) = idx (b :: p) (i : Int) := by
  intro i hi
  have hl : (a :: butLast b p).length = p.length + 1 := by simp [butLast_len]
  rcases Nat.lt_or_ge i p.length with h1 | h1
  · rw [idx_at (by omega), idx_getE (by omega), idx_getE (by simp; omega), List.getElem_cons_succ]
    unfold butLast
    rw [List.getElem_dropLast]
  · obtain rfl : i = p.length := by omega
    have h2 := at_wrap (a :: butLast b p) 0
    rw [hl, Nat.add_zero] at h2
    rw [h2]
    have h3 := ends h
    rw [List.getLast?_eq_getElem?, idx_nat, List.getD_eq_getElem?_getD] at *
    rw [show (b :: p).length - 1 = p.length by simp] at h3
    rw [h3]
    rfl
theorem loop2zof {a b : Int} {p : List Int} (ha : 0 ≤ a ∧ a < n) (hb : 0 ≤ b ∧ b < n) (hl : l a b = true) (h : run (ex1 t n) b p = some a) : Loop2 t l n (a :: butLast b p) := by
  have hlen : (a :: butLast b p).length = p.length + 1 := by simp [butLast_len]
  have hn := nodes_at h
  have hc := run_chain h
  have node : ∀ i, i ≤ p.length → 0 ≤ idx (b :: p) (i : Int) ∧ idx (b :: p) (i : Int) < n := by
    intro i hi
    cases i with
    | zero => exact hb
    | succ i => exact (hc i (by omega)).2
  refine ⟨by simp, fun i => ?_, ?_, fun i h0 h1 => ?_⟩
  · have hm := Nat.mod_lt i (show 0 < (a :: butLast b p).length by simp)
    have e : at3 (a :: butLast b p) i = at3 (a :: butLast b p) (i % (a :: butLast b p).length) := by unfold at3; rw [Nat.mod_mod]
    rw [e]
    generalize i % (a :: butLast b p).length = j at hm
    cases j with
    | zero => exact ha
    | succ j => rw [hn j (by omega)]; exact node j (by omega)
  · rw [hn 0 (Nat.zero_le _)]
    exact hl
  · obtain ⟨j, rfl⟩ : ∃ j, i = j + 1 := ⟨i - 1, by omega⟩
    rw [hn j (by omega), hn (j + 1) (by omega)]
    exact (hc j (by omega)).1
theorem of_loop2 {c : List Int} (h : Loop2 t l n c) : ∃ p, CloB t (at3 c 0) n (at3 c 1) p ∧ p.length + 1 = c.length := by
  have hpos : 0 < c.length := List.length_pos_iff.2 h.ne
  have hw : at3 c c.length = at3 c 0 := at_wrap c 0
  -- from any place on
  have go : ∀ m, m < c.length → ∃ p, CloB t (at3 c 0) n (at3 c (c.length - m)) p ∧ p.length = m := by
    intro m
    induction m with
    | zero => intro _; exact ⟨[], clo_nil.2 (by show at3 c (c.length - 0) = at3 c 0; rw [Nat.sub_zero, hw]), rfl⟩
    | succ m ih =>
      intro hm
      obtain ⟨p, hp, hl⟩ := ih (by omega)
      have h1 := h.rest (c.length - (m + 1)) (by omega) (by omega)
      rw [show c.length - (m + 1) + 1 = c.length - m by omega] at h1
      have h2 := h.node (c.length - m)
      exact ⟨_ :: p, clo_cons.2 ⟨_, ex1zsome.2 ⟨⟨h2.1, h2.2, h1⟩, rfl⟩, hp⟩, by simp [hl]⟩
  obtain ⟨p, hp, hl⟩ := go (c.length - 1) (by omega)
  rw [show c.length - (c.length - 1) = 1 by omega] at hp
  exact ⟨p, hp, by omega⟩
def did2 (i k i' k' : Int) : Prop := i' < i ∨ (i' = i ∧ k' < k)
def SBest (t l : Int → Int → Bool) (n : Nat) (i k : Int) (best : List Int) : Prop :=
  (best = [] ∧ ∀ i' k' : Int, 0 ≤ i' → i' < n → 0 ≤ k' → k' < n → did2 i k i' k' → l i' k' = true → ∀ p, ¬ CloB t i' n k' p) ∨
  ∃ (a b : Int) (p : List Int), best = a :: butLast b p ∧ (0 ≤ a ∧ a < n) ∧ (0 ≤ b ∧ b < n) ∧ l a b = true ∧ First (ex1 t n) (· = a) b p ∧ p.length < n ∧ did2 i k a b ∧
    ∀ i' k' : Int, 0 ≤ i' → i' < n → 0 ≤ k' → k' < n → did2 i k i' k' → l i' k' = true → ∀ p', CloB t i' n k' p' → p.length ≤ p'.length ∧ (p'.length = p.length → a < i' ∨ (a = i' ∧ b ≤ k'))
theorem SBest.eq {b b' : List Int} (h : SBest t l n n 0 b) (h' : SBest t l n n 0 b') : b = b' := by
  rcases h with ⟨rfl, h1⟩ | ⟨a, b, p, rfl, ha, hb, hl, hp, hpl, _, h1⟩
  · rcases h' with ⟨rfl, h2⟩ | ⟨a, b, p, rfl, ha, hb, hl, hp, hpl, _, h2⟩
    · rfl
    · exact (h1 a b ha.1 ha.2 hb.1 hb.2 (.inl ha.2) hl p hp.clo).elim
  · rcases h' with ⟨rfl, h2⟩ | ⟨a', b', p', rfl, ha', hb', hl', hp', hpl', _, h2⟩
    · exact (h2 a b ha.1 ha.2 hb.1 hb.2 (.inl ha.2) hl p hp.clo).elim
    · have q1 := h1 a' b' ha'.1 ha'.2 hb'.1 hb'.2 (.inl ha'.2) hl' p' hp'.clo
      have q2 := h2 a b ha.1 ha.2 hb.1 hb.2 (.inl ha.2) hl p hp.clo
      have q3 := q1.2 (by omega)
      have q4 := q2.2 (by omega)
      obtain rfl : a = a' := by omega
      obtain rfl : b = b' := by omega
      rw [hp.eq hp']
theorem SBest.mono {i k i2 k2 : Int} {best : List Int} (h : SBest t l n i k best) (h1 : ∀ i' k' : Int, 0 ≤ i' → i' < n → 0 ≤ k' → k' < n → (did2 i2 k2 i' k' ↔ did2 i k i' k')) : SBest t l n i2 k2 best := by
  rcases h with ⟨rfl, h2⟩ | ⟨a, b, p, rfl, ha, hb, hl, hp, hpl, hd, h2⟩
  · exact .inl ⟨rfl, fun i' k' g1 g2 g3 g4 g5 => h2 i' k' g1 g2 g3 g4 ((h1 i' k' g1 g2 g3 g4).1 g5)⟩
  · exact .inr ⟨a, b, p, rfl, ha, hb, hl, hp, hpl, (h1 a b ha.1 ha.2 hb.1 hb.2).2 hd, fun i' k' g1 g2 g3 g4 g5 => h2 i' k' g1 g2 g3 g4 ((h1 i' k' g1 g2 g3 g4).1 g5)⟩
theorem did2zsucc {i k i' k' : Int} : did2 i (k + 1) i' k' ↔ did2 i k i' k' ∨ (i' = i ∧ k' = k) := by unfold did2; omega
theorem SBest.skip {i k : Int} {best : List Int} (h : SBest t l n i k best) (hn : l i k = true → ∀ p, ¬ CloB t i n k p) : SBest t l n i (k + 1) best := by
  rcases h with ⟨rfl, h2⟩ | ⟨a, b, p, rfl, ha, hb, hl, hp, hpl, hd, h2⟩
  · refine .inl ⟨rfl, fun i' k' g1 g2 g3 g4 g5 => ?_⟩
    rcases did2zsucc.1 g5 with g5 | ⟨rfl, rfl⟩
    · exact h2 i' k' g1 g2 g3 g4 g5
    · exact hn
  · refine .inr ⟨a, b, p, rfl, ha, hb, hl, hp, hpl, did2zsucc.2 (.inl hd), fun i' k' g1 g2 g3 g4 g5 g6 p' hp' => ?_⟩
    rcases did2zsucc.1 g5 with g5 | ⟨rfl, rfl⟩
    · exact h2 i' k' g1 g2 g3 g4 g5 g6 p' hp'
    · exact (hn g6 p' hp').elim
theorem SBest.keep {i k : Int} {best : List Int} (h : SBest t l n i k best) (hne : best ≠ []) (hn : l i k = true → ∀ p, CloB t i n k p → best.length ≤ p.length + 1) : SBest t l n i (k + 1) best := by
  rcases h with ⟨rfl, h2⟩ | ⟨a, b, p, rfl, ha, hb, hl, hp, hpl, hd, h2⟩
  · exact absurd rfl hne
  · refine .inr ⟨a, b, p, rfl, ha, hb, hl, hp, hpl, did2zsucc.2 (.inl hd), fun i' k' g1 g2 g3 g4 g5 g6 p' hp' => ?_⟩
    rcases did2zsucc.1 g5 with g5 | ⟨rfl, rfl⟩
    · exact h2 i' k' g1 g2 g3 g4 g5 g6 p' hp'
    · have := hn g6 p' hp'
      simp only [List.length_cons, butLast_len] at this
      unfold did2 at hd
      exact ⟨by omega, fun _ => by omega⟩
theorem SBest.better {i k : Int} {best : List Int} (h : SBest t l n i k best) (hi : 0 ≤ i ∧ i < n) (hk : 0 ≤ k ∧ k < n) (hl0 : l i k = true) {p : List Int} (hp : First (ex1 t n) (· = i) k p) (hpl : p.length < n) (hb : best = [] ∨ p.length + 1 < best.length) : SBest t l n i (k + 1) (i :: butLast k p) := by
  refine .inr ⟨i, k, p, rfl, hi, hk, hl0, hp, hpl, did2zsucc.2 (.inr ⟨rfl, rfl⟩), fun i' k' g1 g2 g3 g4 g5 g6 p' hp' => ?_⟩
  rcases did2zsucc.1 g5 with g5 | ⟨rfl, rfl⟩
  · rcases h with ⟨rfl, h2⟩ | ⟨a, b, q, rfl, _, _, _, _, _, _, h2⟩
    · exact (h2 i' k' g1 g2 g3 g4 g5 g6 p' hp').elim
    · have := (h2 i' k' g1 g2 g3 g4 g5 g6 p' hp').1
      rcases hb with hb | hb
      · cases hb
      · simp only [List.length_cons, butLast_len] at hb
        omega
  · exact ⟨(hp.min p' hp').1, fun _ => .inr ⟨rfl, Int.le_refl _⟩⟩
theorem SBest.loop {i k : Int} {best : List Int} (h : SBest t l n i k best) : (best = [] ∨ Loop2 t l n best) ∧ best.length ≤ n := by
  rcases h with ⟨rfl, _⟩ | ⟨a, b, p, rfl, ha, hb, hl, hp, hpl, _⟩
  · exact ⟨.inl rfl, Nat.zero_le _⟩
  · obtain ⟨x, hx, rfl⟩ := hp.clo
    refine ⟨.inr (loop2zof ha hb hl hx), by simp only [List.length_cons, butLast_len]; omega⟩
variable {g : Graph} {d r : Int}
def pickS (g : Graph) (d r : Int) (i : Nat) (a b : Int) : Edge := if i = 0 then idx g.Edges (fe g r g.Edges.length a b - 1) else idx g.Edges (fe g d g.Edges.length a b - 1)
def edgesS (g : Graph) (d r : Int) (c : List Int) : List Edge := (List.range c.length).map fun i => pickS g d r i (at3 c i) (at3 c (i + 1))
theorem edgesS_told (hg : Good g) {net : RingNet} (h : net.g = g ∧ Links g d r g.Edges.length net.links) {c : List Int} (hc : c = [] ∨ Loop2 (hasE g d) (hasE g r) g.N.toNat c) (hl : c.length ≤ 1000) : ring_net_edges_ring_Single_1 net c = some (edgesS g d r c) := by
  have h0 := hg.n0
  have h1 := hg.n1
  have hm := hg.m
  rw [← tri_eq]
  unfold ring_net_edges_ring_Single_1
  refine tri_up2 c.length (fun k e => e = (List.range k).map fun i => pickS g d r i (at3 c i) (at3 c (i + 1))) rfl ?_
  rintro x e hx rfl
  unfold ring_net_edges_ring_Single_1.s1
  dsimp only
  refine tri_bif (fun e => ?_) (fun e => ?_)
  · have e : x < c.length := by simpa using e
    rcases hc with rfl | hL
    · simp at e
    · have n1 := hL.node x
      have n2 := hL.node (x + 1)
      have hlen := h.2.len
      have hrow := h.2.row (at3 c x) n1.1 (by omega)
      rw [← idx_at e, idx_next e (by omega)]
      refine tri_must (by omega) (tri_must (by omega) (tri_must (by omega) (tri_must (by rw [mod_next e (by omega)]; have := Nat.mod_lt (x + 1) (show 0 < c.length by omega); omega) (tri_must (by omega) ?_))))
      rw [h.2.at_ _ _ n1.1 (by omega) n2.1 (by omega), h.1]
      have b1 := fe_bd g d (at3 c x) (at3 c (x + 1)) g.Edges.length
      have b2 := fe_bd g r (at3 c x) (at3 c (x + 1)) g.Edges.length
      have hp : ring_Single_1 ⟨fe g d g.Edges.length (at3 c x) (at3 c (x + 1)), fe g r g.Edges.length (at3 c x) (at3 c (x + 1))⟩ (x : Int) = some (if x = 0 then fe g r g.Edges.length (at3 c x) (at3 c (x + 1)) else fe g d g.Edges.length (at3 c x) (at3 c (x + 1))) := by
        unfold ring_Single_1
        dsimp only
        by_cases e : x = 0
        · subst e; simp
        · rw [show ((x : Int) == 0) = false by simpa using e, cond_false, if_neg e]
      rw [hp]
      refine tri_sb ?_
      have hpos : 1 ≤ (if x = 0 then fe g r g.Edges.length (at3 c x) (at3 c (x + 1)) else fe g d g.Edges.length (at3 c x) (at3 c (x + 1))) := by
        split
        · rename_i e
          subst e
          have : hasE g r (at3 c 0) (at3 c (0 + 1)) = true := hL.one
          unfold hasE at this
          rw [decide_eq_true_iff] at this
          omega
        · rename_i e2
          have := hL.rest x (by omega) e
          unfold hasE at this
          rw [decide_eq_true_iff] at this
          omega
      have hle : (if x = 0 then fe g r g.Edges.length (at3 c x) (at3 c (x + 1)) else fe g d g.Edges.length (at3 c x) (at3 c (x + 1))) ≤ g.Edges.length := by split <;> omega
      generalize hv : (if x = 0 then fe g r g.Edges.length (at3 c x) (at3 c (x + 1)) else fe g d g.Edges.length (at3 c x) (at3 c (x + 1))) = v at *
      have hv2 : idx g.Edges (v - 1) = pickS g d r x (at3 c x) (at3 c (x + 1)) := by
        unfold pickS
        rw [← hv]
        split <;> rfl
      rw [w64zin (x := v - 1) (by omega) (by omega), hv2, w64zin (by omega) (by omega), snoc_map (fun i => pickS g d r i (at3 c i) (at3 c (i + 1)))]
      refine tri_must (by omega) (tri_must (by simp; omega) (tri_some ⟨by omega, e, rfl⟩))
  · have e : ¬ x < c.length := by simpa using e
    obtain rfl : x = c.length := by omega
    exact tri_out (tri_some rfl)
theorem ring_Single_told (hg : Good g) (d r : Int) : Tri (ring_Single g d r) (fun res => ∃ best, SBest (hasE g d) (hasE g r) g.N.toNat g.N.toNat 0 best ∧ res = (edgesS g d r best, 0)) := by
  have h0 := hg.n0
  have h1 := hg.n1
  unfold ring_Single
  rw [check_good hg]
  refine tri_sb ?_
  simp only [bne_self_eq_false, cond_false]
  refine tri_bind (newNet_told hg d r) ?_
  intro net hnet
  have hN := net_ok hg hnet
  refine tri_iter (fun q : List Int × Bool × Int => 0 ≤ q.2.2 ∧ q.2.2 ≤ g.N ∧ SBest (hasE g d) (hasE g r) g.N.toNat q.2.2 0 q.1 ∧ (q.2.1 = true ↔ q.1 = [])) (fun q => (g.N - q.2.2).toNat) ⟨Int.le_refl _, h0, .inl ⟨rfl, fun i' k' g1 g2 g3 g4 g5 => by unfold did2 at g5; dsimp only at g5; omega⟩, by simp⟩ ?_
  rintro ⟨best0, nb0, i⟩ ⟨h2, h3, hS, hnb⟩
  dsimp only at h2 h3 hS hnb
  unfold ring_Single.s1
  dsimp only
  refine tri_bif (fun e => ?_) (fun e => ?_)
  · have e : i < g.N := by simpa using e
    refine tri_iter (fun q : List Int × Bool × Int => 0 ≤ q.2.2 ∧ q.2.2 ≤ g.N ∧ SBest (hasE g d) (hasE g r) g.N.toNat i q.2.2 q.1 ∧ (q.2.1 = true ↔ q.1 = [])) (fun q => (g.N - q.2.2).toNat) ⟨Int.le_refl _, h0, hS, hnb⟩ ?_
    rintro ⟨best, nb, k⟩ ⟨h4, h5, hS, hnb⟩
    dsimp only at h4 h5 hS hnb
    obtain ⟨hloop, hblen⟩ := hS.loop
    unfold ring_Single.s2
    dsimp only
    refine tri_bif (fun ek => ?_) (fun ek => ?_)
    · have ek : k < g.N := by simpa using ek
      have hw : w64 (k + 1) = k + 1 := w64zin (by omega) (by omega)
      have hrow := hN.row i h2 (by omega)
      refine tri_must (by rw [hN.len]; omega) (tri_must (by omega) ?_)
      rw [hN.ls i k h2 (by omega) h4 (by omega)]
      have keep : SBest (hasE g d) (hasE g r) g.N.toNat i (k + 1) best → Tri (ring_Single.j3 k best nb) (Rnd (fun q : List Int × Bool × Int => 0 ≤ q.2.2 ∧ q.2.2 ≤ g.N ∧ SBest (hasE g d) (hasE g r) g.N.toNat i q.2.2 q.1 ∧ (q.2.1 = true ↔ q.1 = [])) (fun q => (g.N - q.2.2).toNat)
          (Rnd (fun q : List Int × Bool × Int => 0 ≤ q.2.2 ∧ q.2.2 ≤ g.N ∧ SBest (hasE g d) (hasE g r) g.N.toNat q.2.2 0 q.1 ∧ (q.2.1 = true ↔ q.1 = [])) (fun q => (g.N - q.2.2).toNat) (fun res : List Edge × Int => ∃ best, SBest (hasE g d) (hasE g r) g.N.toNat g.N.toNat 0 best ∧ res = (edgesS g d r best, 0)) (best0, nb0, i)) (best, nb, k)) := by
        intro h
        unfold ring_Single.j3
        rw [hw]
        exact tri_some ⟨⟨by dsimp only; omega, by dsimp only; omega, h, hnb⟩, by dsimp only; omega⟩
      cases hlo : hasE g r i k with
      | false =>
        rw [Bool.not_false, cond_true]
        exact keep (hS.skip fun h => by rw [hlo] at h; cases h)
      | true =>
        rw [Bool.not_true, cond_false]
        refine tri_bind (back_told hN (e := i) ⟨h4, by omega⟩) ?_
        rintro res (⟨rfl, hno⟩ | ⟨p, rfl, hp, hpl⟩)
        · simp only [Bool.not_true, cond_false]
          unfold ring_Single.j4
          rw [cond_false]
          exact keep (hS.skip fun _ => hno)
        · simp only [Bool.not_false, cond_true]
          have hbp := butLast_len k p
          have take : (best = [] ∨ p.length + 1 < best.length) → Tri (ring_Single.j4 i best nb k (butLast k p, false) true) (Rnd (fun q : List Int × Bool × Int => 0 ≤ q.2.2 ∧ q.2.2 ≤ g.N ∧ SBest (hasE g d) (hasE g r) g.N.toNat i q.2.2 q.1 ∧ (q.2.1 = true ↔ q.1 = [])) (fun q => (g.N - q.2.2).toNat)
              (Rnd (fun q : List Int × Bool × Int => 0 ≤ q.2.2 ∧ q.2.2 ≤ g.N ∧ SBest (hasE g d) (hasE g r) g.N.toNat q.2.2 0 q.1 ∧ (q.2.1 = true ↔ q.1 = [])) (fun q => (g.N - q.2.2).toNat) (fun res : List Edge × Int => ∃ best, SBest (hasE g d) (hasE g r) g.N.toNat g.N.toNat 0 best ∧ res = (edgesS g d r best, 0)) (best0, nb0, i)) (best, nb, k)) := by
            intro h
            unfold ring_Single.j4 ring_Single.j3
            rw [cond_true, hw]
            refine tri_must (by first | omega | (dsimp only; omega)) (tri_some ⟨⟨by dsimp only; omega, by dsimp only; omega, hS.better ⟨h2, by omega⟩ ⟨h4, by omega⟩ hlo hp hpl h, by simp⟩, by dsimp only; omega⟩)
          cases nb with
          | true => rw [cond_true]; exact take (.inl (hnb.1 rfl))
          | false =>
            rw [cond_false]
            have hne : best ≠ [] := fun h => by have := hnb.2 h; cases this
            rw [hbp, w64zin (by omega) (by omega)]
            cases hc : decide (((p.length : Int) + 1) < (best.length : Int)) with
            | true => exact take (.inr (by have : (p.length : Int) + 1 < best.length := by simpa using hc
                                           omega))
            | false =>
              have : ¬ (p.length : Int) + 1 < best.length := by simpa using hc
              unfold ring_Single.j4
              rw [cond_false]
              exact keep (hS.keep hne fun _ p' hp' => by have := (hp.min p' hp').1; omega)
    · have ek : ¬ k < g.N := by simpa using ek
      obtain rfl : k = g.N := by omega
      refine tri_out (tri_some ?_)
      rw [w64zin (by omega) (by omega)]
      refine ⟨⟨by dsimp only; omega, by dsimp only; omega, hS.mono ?_, hnb⟩, by dsimp only; omega⟩
      intro i' k' _ _ _ _
      unfold did2
      dsimp only
      omega
  · have e : ¬ i < g.N := by simpa using e
    obtain rfl : i = g.N := by omega
    obtain ⟨hloop, hblen⟩ := hS.loop
    rw [edgesS_told hg hnet hloop (by omega)]
    refine tri_sb (tri_out (tri_some ⟨best0, ?_, rfl⟩))
    rw [Int.toNat_of_nonneg h0]
    exact hS
end Go.Proofs.YtncapkloanfmnaaDoorT
