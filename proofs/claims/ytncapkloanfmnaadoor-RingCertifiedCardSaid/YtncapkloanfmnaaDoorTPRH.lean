/- The nets of both sides, and the shortest cycle of all. -/
import Derived.Test.YtncapkloanfmnaaDoorTPRG
namespace Go.Proofs.YtncapkloanfmnaaDoorT
open Go Go.Proofs Go.Proofs.YtncapkloanfmnaaDoorE
set_option linter.unusedVariables false
set_option linter.unusedSimpArgs false
set_option linter.unusedSectionVars false
def hits (g : Graph) (mask i j : Int) (k : Nat) : Prop := (idx g.Edges (k : Int)).From = i ∧ (idx g.Edges (k : Int)).To = j ∧ bAnd .i64 (idx g.Edges (k : Int)).Kind mask ≠ 0
instance (g : Graph) (mask i j : Int) (k : Nat) : Decidable (hits g mask i j k) := by unfold hits; infer_instance
/-- one and the place of the first edge of a mask between two nodes, among the first x; or 0 -/
def fe (g : Graph) (mask : Int) : Nat → Int → Int → Int
  | 0, _, _ => 0
  | x + 1, i, j => if fe g mask x i j = 0 ∧ hits g mask i j x then (x : Int) + 1 else fe g mask x i j
theorem fe_succ (g : Graph) (mask : Int) (x : Nat) (i j : Int) : fe g mask (x + 1) i j = if fe g mask x i j = 0 ∧ hits g mask i j x then (x : Int) + 1 else fe g mask x i j := rfl
theorem fe_spec (g : Graph) (mask i j : Int) : ∀ x : Nat, (fe g mask x i j = 0 ∧ ∀ k, k < x → ¬ hits g mask i j k) ∨ ∃ k : Nat, fe g mask x i j = (k : Int) + 1 ∧ k < x ∧ hits g mask i j k ∧ ∀ k', k' < k → ¬ hits g mask i j k'
  | 0 => .inl ⟨rfl, fun k h => absurd h (Nat.not_lt_zero _)⟩
  | x + 1 => by
    rw [fe_succ]
    rcases fe_spec g mask i j x with ⟨h1, h2⟩ | ⟨k, h1, h2, h3, h4⟩
    · by_cases h : hits g mask i j x
      · rw [if_pos ⟨h1, h⟩]
        exact .inr ⟨x, rfl, by omega, h, h2⟩
      · rw [if_neg (fun e => h e.2)]
        refine .inl ⟨h1, fun k hk => ?_⟩
        rcases Nat.lt_or_ge k x with h3 | h3
        · exact h2 k h3
        · rw [show k = x by omega]; exact h
    · rw [if_neg (fun e => by rw [h1] at e; omega)]
      exact .inr ⟨k, h1, by omega, h3, h4⟩
theorem fe_bd (g : Graph) (mask i j : Int) (x : Nat) : 0 ≤ fe g mask x i j ∧ fe g mask x i j ≤ x := by
  rcases fe_spec g mask i j x with h | ⟨k, h, h2, _⟩ <;> omega
def hasE (g : Graph) (mask i j : Int) : Bool := decide (fe g mask g.Edges.length i j ≠ 0)
theorem hasE_iff {g : Graph} {mask i j : Int} : hasE g mask i j = true ↔ ∃ k, k < g.Edges.length ∧ hits g mask i j k := by
  unfold hasE
  rw [decide_eq_true_iff]
  rcases fe_spec g mask i j g.Edges.length with ⟨h1, h2⟩ | ⟨k, h1, h2, h3, _⟩
  · exact ⟨fun h => absurd h1 h, fun ⟨k, hk, h⟩ => absurd h (h2 k hk)⟩
  · exact ⟨fun _ => ⟨k, h2, h3⟩, fun _ => by omega⟩
/-- a table of links, behind some edges -/
structure Links (g : Graph) (d r : Int) (x : Nat) (tab : List (List RingLink)) : Prop where
  len : tab.length = g.N.toNat
  row : ∀ i : Int, 0 ≤ i → i < g.N → (idx tab i).length = g.N.toNat
  at_ : ∀ i j : Int, 0 ≤ i → i < g.N → 0 ≤ j → j < g.N → idx (idx tab i) j = ⟨fe g d x i j, fe g r x i j⟩
theorem Links.put {g : Graph} {d r : Int} {x : Nat} {tab : List (List RingLink)} (h : Links g d r x tab) (hg : Good g) (hx : x < g.Edges.length) {v : RingLink} {row : List RingLink} 
    (hrow : row.length = g.N.toNat) (hsame : ∀ j, 0 ≤ j → j < g.N → j ≠ (idx g.Edges (x : Int)).To → idx row j = idx (idx tab (idx g.Edges (x : Int)).From) j)
    (hv : idx row (idx g.Edges (x : Int)).To = ⟨fe g d (x + 1) (idx g.Edges (x : Int)).From (idx g.Edges (x : Int)).To, fe g r (x + 1) (idx g.Edges (x : Int)).From (idx g.Edges (x : Int)).To⟩) :
    Links g d r (x + 1) (tab.set (idx g.Edges (x : Int)).From.toNat row) := by
  have he := hg.e x hx
  unfold okEdge at he
  have hn := hg.n0
  refine ⟨by rw [List.length_set]; exact h.len, fun i h0 h1 => ?_, fun i j h0 h1 h2 h3 => ?_⟩
  · rw [idx_setI he.1 (by have := h.len; omega) h0]
    split
    · exact hrow
    · exact h.row i h0 h1
  · rw [idx_setI he.1 (by have := h.len; omega) h0]
    have other : ¬ (i = (idx g.Edges (x : Int)).From ∧ j = (idx g.Edges (x : Int)).To) → ∀ m, fe g m (x + 1) i j = fe g m x i j := by
      intro hne m
      rw [fe_succ, if_neg (fun e => hne ⟨e.2.1.symm, e.2.2.1.symm⟩)]
    split
    · rename_i e
      by_cases e2 : j = (idx g.Edges (x : Int)).To
      · rw [e2, hv, e]
      · rw [hsame j h2 h3 e2, ← e, h.at_ i j h0 h1 h2 h3, other (fun h => e2 h.2), other (fun h => e2 h.2)]
    · rename_i e
      rw [h.at_ i j h0 h1 h2 h3, other (fun h => e h.1), other (fun h => e h.1)]
theorem newNet_told {g : Graph} (hg : Good g) (d r : Int) : Tri (ring_newNet g d r) (fun net => net.g = g ∧ Links g d r g.Edges.length net.links) := by
  have h0 := hg.n0
  have h1 := hg.n1
  have hm := hg.m
  unfold ring_newNet
  refine tri_must (by omega) ?_
  refine tri_up2 g.N.toNat (fun k tab => tab.length = g.N.toNat ∧ ∀ i : Nat, i < k → idx tab (i : Int) = List.replicate g.N.toNat default) ⟨by simp, fun i h => absurd h (Nat.not_lt_zero _)⟩ ?_
  rintro k tab hk ⟨hl, hz⟩
  unfold ring_newNet.s1
  dsimp only
  refine tri_bif (fun e => ?_) (fun e => ?_)
  · have e : (k : Int) < (g.N.toNat : Int) := by simpa using e
    refine tri_must (by omega) (tri_must (by omega) (tri_some ?_))
    rw [w64zin (by omega) (by omega)]
    refine ⟨by omega, by omega, by simp [hl], fun i hi => ?_⟩
    rw [idx_setI (by omega) (by omega) (by omega)]
    split
    · rfl
    · exact hz i (by omega)
  · have e : ¬ (k : Int) < (g.N.toNat : Int) := by simpa using e
    have hall : ∀ i : Int, 0 ≤ i → i < g.N → idx tab i = List.replicate g.N.toNat default := fun i h2 h3 => by
      have := hz i.toNat (by omega)
      rwa [Int.toNat_of_nonneg h2] at this
    refine tri_up2 g.Edges.length (fun k tab => Links g d r k tab) ⟨hl, fun i h2 h3 => by rw [hall i h2 h3]; simp, fun i j h2 h3 h4 h5 => ?_⟩ ?_
    · rw [hall i h2 h3, show j = (j.toNat : Int) by omega, idx_rep]
      rfl
    · rintro x tab hx hL
      unfold ring_newNet.s2
      dsimp only
      refine tri_bif (fun e => ?_) (fun e => ?_)
      · have e : (x : Int) < (g.Edges.length : Int) := by simpa using e
        have hx : x < g.Edges.length := by omega
        have he := hg.e x hx
        unfold okEdge at he
        have hrow := hL.row _ he.1 he.2.1
        have hat := hL.at_ _ _ he.1 he.2.1 he.2.2.1 he.2.2.2.1
        refine tri_must (by omega) (tri_must (by have := hL.len; omega) (tri_must (by omega) ?_))
        rw [w64zin (x := (x : Int) + 1) (by omega) (by omega)]
        generalize hF : (idx g.Edges (x : Int)).From = F at *
        generalize hT : (idx g.Edges (x : Int)).To = T at *
        have hset : ∀ v w : RingLink, idx ((idx tab F).set T.toNat v) T = v := fun v w => by rw [idx_setI he.2.2.1 (by omega) he.2.2.1, if_pos rfl]
        have fed : ∀ m, fe g m (x + 1) F T = if fe g m x F T = 0 ∧ bAnd .i64 (idx g.Edges (x : Int)).Kind m ≠ 0 then (x : Int) + 1 else fe g m x F T := by
          intro m
          rw [fe_succ]
          unfold hits
          simp [hF, hT]
        have fin1 : ∀ v : RingLink, v = ⟨fe g d (x + 1) F T, fe g r (x + 1) F T⟩ → Up2 (Ω := ((List (List RingLink)) × Int) ⊕ RingNet) g.Edges.length x (fun k tab => Links g d r k tab) (fun _ => False) (.inl (tab.set F.toNat ((idx tab F).set T.toNat v), (x : Int) + 1)) := by
          intro v hv
          refine ⟨by omega, hx, ?_⟩
          have := hL.put hg hx (v := v) (row := (idx tab F).set T.toNat v) (by rw [List.length_set]; exact hrow) (fun j h6 h7 h8 => by rw [hT] at h8; rw [hF, idx_setI he.2.2.1 (by omega) h6, if_neg h8]) (by rw [hF, hT, hset v v, hv])
          rw [hF] at this
          exact this
        have fin0 : (⟨fe g d x F T, fe g r x F T⟩ : RingLink) = ⟨fe g d (x + 1) F T, fe g r (x + 1) F T⟩ → Up2 (Ω := ((List (List RingLink)) × Int) ⊕ RingNet) g.Edges.length x (fun k tab => Links g d r k tab) (fun _ => False) (.inl (tab.set F.toNat (idx tab F), (x : Int) + 1)) := by
          intro hv
          refine ⟨by omega, hx, ?_⟩
          have := hL.put hg hx (v := default) (row := idx tab F) hrow (fun j h6 h7 h8 => by rw [hF]) (by rw [hF, hT, hat, hv])
          rw [hF] at this
          exact this
        have wk : ∀ {Q : (((List (List RingLink)) × Int) ⊕ RingNet) → Prop} {u}, Up2 (Ω := ((List (List RingLink)) × Int) ⊕ RingNet) g.Edges.length x (fun k tab => Links g d r k tab) (fun _ => False) (.inl u) → Up2 g.Edges.length x (fun k tab => Links g d r k tab) Q (.inl u) := fun h => h
        simp only [hset _ default, List.set_set, hat] at *
        repeat' (first | with_reducible refine tri_if (fun hq => ?_) (fun hq => ?_) | with_reducible refine tri_some ?_)
        · refine wk (fin1 _ ?_)
          rename_i q1 q2 q3
          rw [fed d, fed r, if_pos ⟨q2, q1⟩, if_pos ⟨hq, q3⟩]
        · refine wk (fin1 _ ?_)
          rename_i q1 q2 q3
          rw [fed d, fed r, if_pos ⟨q2, q1⟩, if_neg (fun h => hq h.1)]
        · refine wk (fin1 _ ?_)
          rename_i q1 q2
          rw [fed d, fed r, if_pos ⟨q2, q1⟩, if_neg (fun h => hq h.2)]
        · refine wk (fin1 _ ?_)
          rename_i q1 q2 q3
          rw [fed d, fed r, if_neg (fun h => q2 h.1), if_pos ⟨hq, q3⟩]
        · refine wk (fin0 ?_)
          rename_i q1 q2 q3
          rw [fed d, fed r, if_neg (fun h => q2 h.1), if_neg (fun h => hq h.1)]
        · refine wk (fin0 ?_)
          rename_i q1 q2
          rw [fed d, fed r, if_neg (fun h => q2 h.1), if_neg (fun h => hq h.2)]
        · refine wk (fin1 _ ?_)
          rename_i q1 q3
          rw [fed d, fed r, if_neg (fun h => q1 h.2), if_pos ⟨hq, q3⟩]
        · refine wk (fin0 ?_)
          rename_i q1 q3
          rw [fed d, fed r, if_neg (fun h => q1 h.2), if_neg (fun h => hq h.1)]
        · refine wk (fin0 ?_)
          rename_i q1
          rw [fed d, fed r, if_neg (fun h => q1 h.2), if_neg (fun h => hq h.2)]
      · have e : ¬ (x : Int) < (g.Edges.length : Int) := by simpa using e
        obtain rfl : x = g.Edges.length := by omega
        exact tri_out (tri_out (tri_some ⟨rfl, hL⟩))
theorem net_ok {g : Graph} (hg : Good g) {d r : Int} {net : RingNet} (h : net.g = g ∧ Links g d r g.Edges.length net.links) : NetOk net g.N.toNat (hasE g d) (hasE g r) := by
  have h0 := hg.n0
  have h1 := hg.n1
  have hN : ((g.N.toNat : Nat) : Int) = g.N := Int.toNat_of_nonneg h0
  refine ⟨by rw [h.1, hN], by omega, h.2.len, fun i h2 h3 => h.2.row i h2 (by omega), fun i j h2 h3 h4 h5 => ?_, fun i j h2 h3 h4 h5 => ?_, fun i j h2 h3 h4 h5 => by rw [h.2.at_ i j h2 (by omega) h4 (by omega)]; exact (fe_bd g d i j _).1⟩
  · rw [h.2.at_ i j h2 (by omega) h4 (by omega)]
    unfold hasE
    by_cases e : fe g d g.Edges.length i j = 0 <;> simp [e]
  · rw [h.2.at_ i j h2 (by omega) h4 (by omega)]
    unfold hasE
    by_cases e : fe g r g.Edges.length i j = 0 <;> simp [e]
theorem mx_has {g : Graph} (hg : Good g) {mask : Int} {m : List (List Bool)} (h : Mx m g.N.toNat (Sel g mask)) : m.length = g.N.toNat ∧ (∀ i : Int, 0 ≤ i → i < g.N.toNat → (idx m i).length = g.N.toNat) ∧ ∀ i j : Int, 0 ≤ i → i < g.N.toNat → 0 ≤ j → j < g.N.toNat → idx (idx m i) j = hasE g mask i j := by
  refine ⟨h.1, fun i h0 h1 => ?_, fun i j h0 h1 h2 h3 => ?_⟩
  · have := (h.2 i.toNat (by omega)).1
    rwa [Int.toNat_of_nonneg h0] at this
  · have := (h.2 i.toNat (by omega)).2 j.toNat (by omega)
    rw [Int.toNat_of_nonneg h0, Int.toNat_of_nonneg h2] at this
    rw [Bool.eq_iff_iff, this, hasE_iff]
    unfold Sel SelK hits
    rw [Int.toNat_of_nonneg h0, Int.toNat_of_nonneg h2]
    constructor
    · rintro ⟨k, hk, a, b, c⟩; exact ⟨k, hk, b, c, a⟩
    · rintro ⟨k, hk, b, c, a⟩; exact ⟨k, hk, a, b, c⟩
/-! ### the first of the shortest, of all starts -/
def BestSpec (t l : Int → Int → Bool) (n : Nat) (B : Int) (k : Nat) (best : List Int) : Prop :=
  (best = [] ∧ ∀ s : Int, 0 ≤ s → s < k → ∀ p, CloS t l s n root p → B ≤ p.length + 1) ∨
  ∃ (s : Int) (p : List Int), best = s :: p ∧ 0 ≤ s ∧ s < k ∧ s < n ∧ First (ext t l s n) (clo t l s) root p ∧ (p.length : Int) + 1 < B ∧ ∀ (s' : Int) (p' : List Int), 0 ≤ s' → s' < k → CloS t l s' n root p' → p.length ≤ p'.length ∧ (p'.length = p.length → s ≤ s')
variable {t l : Int → Int → Bool} {n k : Nat}
theorem best_eq {B B' : Int} (hB : (n : Int) < B) (hB' : (n : Int) < B') {b b' : List Int} (h : BestSpec t l n B n b) (h' : BestSpec t l n B' n b') : b = b' := by
  have short : ∀ {s : Int} {p : List Int}, 0 ≤ s → s < n → CloS t l s n root p → ∃ (s' : Int) (p' : List Int), 0 ≤ s' ∧ s' < n ∧ CloS t l s' n root p' ∧ p'.length + 1 ≤ n := by
    intro s p h0 h1 hp
    obtain ⟨s', p', a, b, c, d, _⟩ := loop_short (clo_loop ⟨h0, h1⟩ hp).1
    exact ⟨s', p', a, b, c, d⟩
  rcases h with ⟨rfl, h1⟩ | ⟨s, p, rfl, h1, h2, _, h3, h4, h5⟩
  · rcases h' with ⟨rfl, h2⟩ | ⟨s', p', rfl, h2, h3, _, h4, h5, h6⟩
    · rfl
    · obtain ⟨s2, p2, a, b, c, d⟩ := short h2 h3 h4.clo
      have := h1 s2 a b p2 c
      omega
  · rcases h' with ⟨rfl, h6⟩ | ⟨s', p', rfl, h6, h7, _, h8, h9, h10⟩
    · obtain ⟨s2, p2, a, b, c, d⟩ := short h1 h2 h3.clo
      have := h6 s2 a b p2 c
      omega
    · obtain ⟨a1, a2⟩ := h5 s' p' h6 h7 h8.clo
      obtain ⟨b1, b2⟩ := h10 s p h1 h2 h3.clo
      have a3 := a2 (by omega)
      have b3 := b2 (by omega)
      obtain rfl : s = s' := by omega
      rw [h3.eq h8]
/-- a better one behind one more start -/
theorem BestSpec.none {B : Int} {best : List Int} (h : BestSpec t l n B k best) (hb : best = []) (hn : ∀ p, CloS t l k n root p → B ≤ p.length + 1) : BestSpec t l n B (k + 1) best := by
  rcases h with ⟨rfl, h1⟩ | ⟨s, p, rfl, _⟩
  · refine .inl ⟨rfl, fun s h2 h3 p hp => ?_⟩
    by_cases e : s = k
    · subst e; exact hn p hp
    · exact h1 s h2 (by omega) p hp
  · cases hb
theorem BestSpec.keep {B : Int} {best : List Int} (h : BestSpec t l n B k best) (hb : best ≠ []) (hn : ∀ p, CloS t l k n root p → best.length ≤ p.length + 1) : BestSpec t l n B (k + 1) best := by
  rcases h with ⟨rfl, h1⟩ | ⟨s, p, rfl, h2, h3, h30, h4, h5, h6⟩
  · exact absurd rfl hb
  · refine .inr ⟨s, p, rfl, h2, by omega, h30, h4, h5, fun s' p' h7 h8 hp' => ?_⟩
    by_cases e : s' = k
    · subst e
      have := hn p' hp'
      simp only [List.length_cons] at this
      exact ⟨by omega, fun _ => by omega⟩
    · exact h6 s' p' h7 (by omega) hp'
theorem BestSpec.better {B : Int} {best : List Int} (h : BestSpec t l n B k best) (hk : k < n) {p : List Int} (hp : First (ext t l k n) (clo t l k) root p) (hB : (p.length : Int) + 1 < B) (hl : best = [] ∨ p.length + 1 < best.length) : BestSpec t l n B (k + 1) ((k : Int) :: p) := by
  refine .inr ⟨k, p, rfl, by omega, by omega, by omega, hp, hB, fun s' p' h7 h8 hp' => ?_⟩
  by_cases e : s' = k
  · subst e
    exact ⟨(hp.min p' hp').1, fun _ => by omega⟩
  · rcases h with ⟨rfl, h1⟩ | ⟨s, p2, rfl, h2, h3, _, h4, h5, h6⟩
    · have := h1 s' h7 (by omega) p' hp'
      omega
    · obtain ⟨h9, _⟩ := h6 s' p' h7 (by omega) hp'
      rcases hl with hl | hl
      · cases hl
      · simp only [List.length_cons] at hl
        omega
end Go.Proofs.YtncapkloanfmnaaDoorT
