/- Spaced and plain cycles, as both sides tell them. -/
import Derived.Test.YtncapkloanfmnaaDoorTPRH
namespace Go.Proofs.YtncapkloanfmnaaDoorT
open Go Go.Proofs Go.Proofs.YtncapkloanfmnaaDoorE
set_option linter.unusedVariables false
set_option linter.unusedSimpArgs false
set_option linter.unusedSectionVars false
def pickE (g : Graph) (d r a b : Int) : Edge := if hasE g d a b then idx g.Edges (fe g d g.Edges.length a b - 1) else idx g.Edges (fe g r g.Edges.length a b - 1)
def edgesOf (g : Graph) (d r : Int) (c : List Int) : List Edge := (List.range c.length).map fun i => pickE g d r (at3 c i) (at3 c (i + 1))
theorem mod_next {x m : Nat} (hx : x < m) (hm : m < 2 ^ 62) : (w64 ((x : Int) + 1)).tmod (m : Int) = (((x + 1) % m : Nat) : Int) := by
  rw [w64zin (by omega) (by omega)]
  rfl
theorem idx_next {c : List Int} {x : Nat} (hx : x < c.length) (hm : c.length < 2 ^ 62) : idx c ((w64 ((x : Int) + 1)).tmod (c.length : Int)) = at3 c (x + 1) := by
  rw [mod_next hx hm]
  rfl
theorem snoc_map {α : Type} (f : Nat → α) (x : Nat) : (List.range x).map f ++ [f x] = (List.range (x + 1)).map f := by
  rw [List.range_succ, List.map_append]; rfl
variable {g : Graph} {d r : Int} {n : Nat}
theorem edges_told (hg : Good g) {net : RingNet} (h : net.g = g ∧ Links g d r g.Edges.length net.links) {c : List Int} (hc : c = [] ∨ Loop3 (hasE g d) (hasE g r) g.N.toNat c) (hl : c.length ≤ 1000) : ring_net_edges_ring_Spaced_1 net c = some (edgesOf g d r c) := by
  have h0 := hg.n0
  have h1 := hg.n1
  have hm := hg.m
  rw [← tri_eq]
  unfold ring_net_edges_ring_Spaced_1
  refine tri_up2 c.length (fun k e => e = (List.range k).map fun i => pickE g d r (at3 c i) (at3 c (i + 1))) rfl ?_
  rintro x e hx rfl
  unfold ring_net_edges_ring_Spaced_1.s1
  dsimp only
  refine tri_bif (fun e => ?_) (fun e => ?_)
  · have e : x < c.length := by simpa using e
    rcases hc with rfl | hL
    · simp at e
    · have n1 := hL.node x
      have n2 := hL.node (x + 1)
      have hlen := h.2.len
      have hrow := h.2.row (at3 c x) n1.1 (by omega)
      rw [← idx_at e, idx_next e (by omega)]
      refine tri_must (by omega) (tri_must (by omega) (tri_must (by omega) (tri_must (by rw [mod_next e (by omega)]; have := Nat.mod_lt (x + 1) (show 0 < c.length by omega); omega) (tri_must (by omega) ?_))))
      rw [h.2.at_ _ _ n1.1 (by omega) n2.1 (by omega), h.1]
      have hE : hasE g d (at3 c x) (at3 c (x + 1)) = true ∨ hasE g r (at3 c x) (at3 c (x + 1)) = true := (hL.edge x).imp id (·.1)
      have b1 := fe_bd g d (at3 c x) (at3 c (x + 1)) g.Edges.length
      have b2 := fe_bd g r (at3 c x) (at3 c (x + 1)) g.Edges.length
      have hp : ring_Spaced_1 ⟨fe g d g.Edges.length (at3 c x) (at3 c (x + 1)), fe g r g.Edges.length (at3 c x) (at3 c (x + 1))⟩ (x : Int) = some (if hasE g d (at3 c x) (at3 c (x + 1)) then fe g d g.Edges.length (at3 c x) (at3 c (x + 1)) else fe g r g.Edges.length (at3 c x) (at3 c (x + 1))) := by
        unfold ring_Spaced_1 hasE
        dsimp only
        by_cases e : fe g d g.Edges.length (at3 c x) (at3 c (x + 1)) = 0
        · simp [e]
        · simp [e, show 0 < fe g d g.Edges.length (at3 c x) (at3 c (x + 1)) by omega]
      rw [hp]
      refine tri_sb ?_
      have hpos : 1 ≤ (if hasE g d (at3 c x) (at3 c (x + 1)) then fe g d g.Edges.length (at3 c x) (at3 c (x + 1)) else fe g r g.Edges.length (at3 c x) (at3 c (x + 1))) ∧ (if hasE g d (at3 c x) (at3 c (x + 1)) then fe g d g.Edges.length (at3 c x) (at3 c (x + 1)) else fe g r g.Edges.length (at3 c x) (at3 c (x + 1))) ≤ g.Edges.length := by
        unfold hasE at hE ⊢
        rw [decide_eq_true_iff, decide_eq_true_iff] at hE
        by_cases e : fe g d g.Edges.length (at3 c x) (at3 c (x + 1)) = 0
        · simp [e] at hE ⊢; omega
        · simp [e]; omega
      generalize hv : (if hasE g d (at3 c x) (at3 c (x + 1)) then fe g d g.Edges.length (at3 c x) (at3 c (x + 1)) else fe g r g.Edges.length (at3 c x) (at3 c (x + 1))) = v at *
      have hv2 : idx g.Edges (v - 1) = pickE g d r (at3 c x) (at3 c (x + 1)) := by
        unfold pickE
        rw [← hv]
        split <;> rfl
      rw [w64zin (x := v - 1) (by omega) (by omega), hv2, w64zin (by omega) (by omega), snoc_map (fun i => pickE g d r (at3 c i) (at3 c (i + 1)))]
      refine tri_must (by omega) (tri_must (by simp; omega) (tri_some ⟨by omega, e, rfl⟩))
  · have e : ¬ x < c.length := by simpa using e
    obtain rfl : x = c.length := by omega
    exact tri_out (tri_some rfl)
/-- the program's spaced cycle -/
theorem ring_Spaced_told (hg : Good g) (d r : Int) : Tri (ring_Spaced g d r) (fun res => ∃ best, BestSpec (hasE g d) (hasE g r) g.N.toNat (g.N + 1) g.N.toNat best ∧ res = (edgesOf g d r best, 0)) := by
  have h0 := hg.n0
  have h1 := hg.n1
  unfold ring_Spaced
  rw [check_good hg]
  refine tri_sb ?_
  simp only [bne_self_eq_false, cond_false]
  refine tri_bind (newNet_told hg d r) ?_
  intro net hnet
  have hN := net_ok hg hnet
  have hcyc : ∀ best k, k ≤ g.N.toNat → BestSpec (hasE g d) (hasE g r) g.N.toNat (g.N + 1) k best → (best = [] ∨ Loop3 (hasE g d) (hasE g r) g.N.toNat best) ∧ (best.length : Int) ≤ g.N := by
    intro best k hk hb
    rcases hb with ⟨rfl, _⟩ | ⟨s, p, rfl, h2, h3, h30, h4, h5, _⟩
    · exact ⟨.inl rfl, by simpa using h0⟩
    · exact ⟨.inr (clo_loop ⟨h2, h30⟩ h4.clo).1, by simp only [List.length_cons]; omega⟩
  have fin : ∀ best k, k ≤ g.N.toNat → BestSpec (hasE g d) (hasE g r) g.N.toNat (g.N + 1) k best → BestSpec (hasE g d) (hasE g r) g.N.toNat (g.N + 1) g.N.toNat best → Tri (ring_Spaced.j1 net best) (fun res => ∃ best, BestSpec (hasE g d) (hasE g r) g.N.toNat (g.N + 1) g.N.toNat best ∧ res = (edgesOf g d r best, 0)) := by
    intro best k hk hb hb2
    obtain ⟨h2, h3⟩ := hcyc best k hk hb
    unfold ring_Spaced.j1
    rw [edges_told hg hnet h2 (by omega)]
    exact tri_sb (tri_some ⟨best, hb2, rfl⟩)
  refine tri_up2 g.N.toNat (fun k best => BestSpec (hasE g d) (hasE g r) g.N.toNat (g.N + 1) k best) (.inl ⟨rfl, fun s h2 h3 => by omega⟩) ?_
  rintro k best hk hb
  unfold ring_Spaced.s2
  dsimp only
  refine tri_bif (fun e => ?_) (fun e => ?_)
  · have e : (k : Int) < g.N := by simpa using e
    have hlen := (hcyc best k hk hb).2
    have go : ∀ limit : Int, (best = [] ∧ limit = g.N + 1 ∨ best ≠ [] ∧ limit = best.length) → Tri (ring_Spaced.j4 net best k limit) (Up2 g.N.toNat k (fun k best => BestSpec (hasE g d) (hasE g r) g.N.toNat (g.N + 1) k best) (fun res => ∃ best, BestSpec (hasE g d) (hasE g r) g.N.toNat (g.N + 1) g.N.toNat best ∧ res = (edgesOf g d r best, 0))) := by
      intro limit hlim
      have hlim100 : limit ≤ 100 := by rcases hlim with ⟨_, h⟩ | ⟨_, h⟩ <;> omega
      unfold ring_Spaced.j4
      refine tri_bif (fun hq => ?_) (fun hq => ?_)
      · have hq : limit < 2 := by simpa using hq
        refine tri_out (fin best k hk hb ?_)
        rcases hlim with ⟨_, h⟩ | ⟨hne, h⟩
        · omega
        · rcases hb with ⟨rfl, _⟩ | ⟨s, p, rfl, h2, h3, h30, h4, h5, h6⟩
          · exact absurd rfl hne
          · simp only [List.length_cons] at h
            refine .inr ⟨s, p, rfl, h2, by omega, h30, h4, h5, fun s' p' h7 h8 hp' => ⟨by omega, fun e2 => ?_⟩⟩
            rcases Int.lt_or_le s' k with h9 | h9
            · exact (h6 s' p' h7 h9 hp').2 e2
            · omega
      · have hq : ¬ limit < 2 := by simpa using hq
        refine tri_bind (round_told hN ⟨by omega, by omega⟩ ⟨by omega, hlim100⟩) ?_
        have hw : w64 ((k : Int) + 1) = k + 1 := w64zin (by omega) (by omega)
        rintro res (⟨rfl, hno⟩ | ⟨p, rfl, hp, hlp⟩)
        · simp only [Bool.not_true, cond_false]
          unfold ring_Spaced.j3
          rw [hw]
          refine tri_some ⟨by omega, by omega, ?_⟩
          rcases hlim with ⟨h2, h3⟩ | ⟨h2, h3⟩
          · exact hb.none h2 (fun p hp => by have := hno p hp; omega)
          · exact hb.keep h2 (fun p hp => by have := hno p hp; omega)
        · simp only [Bool.not_false, cond_true]
          unfold ring_Spaced.j3
          rw [hw]
          refine tri_some ⟨by omega, by omega, ?_⟩
          have hlp' : (p.length : Int) + 1 < limit := by
            rcases hlp with rfl | h
            · simp; omega
            · exact h
          refine hb.better (by omega) hp ?_ ?_
          · rcases hlim with ⟨h2, h3⟩ | ⟨h2, h3⟩ <;> omega
          · rcases hlim with ⟨h2, h3⟩ | ⟨h2, h3⟩
            · exact .inl h2
            · exact .inr (by omega)
    refine tri_bif (fun hq => ?_) (fun hq => ?_)
    · refine go _ (.inr ⟨fun e => by rw [e] at hq; simp at hq, rfl⟩)
    · have : best = [] := by
        have : ¬ 0 < best.length := by simpa using hq
        exact List.eq_nil_of_length_eq_zero (by omega)
      refine go _ (.inl ⟨this, w64zin (by omega) (by omega)⟩)
  · have e : ¬ (k : Int) < g.N := by simpa using e
    obtain rfl : k = g.N.toNat := by omega
    exact tri_out (fin best _ (Nat.le_refl _) hb hb)
end Go.Proofs.YtncapkloanfmnaaDoorT
