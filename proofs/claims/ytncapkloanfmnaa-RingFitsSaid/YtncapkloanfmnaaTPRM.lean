/- RingTells; whether edges are a cycle of a sort, as both sides tell it; RingFits. -/
import Derived.Test.YtncapkloanfmnaaTPRL
import Derived.Test.YtncapkloanfmnaaTF
namespace Go.Proofs.YtncapkloanfmnaaT
open Go Go.Proofs Go.Proofs.YtncapkloanfmnaaE
set_option linter.unusedVariables false
set_option linter.unusedSimpArgs false
set_option linter.unusedSectionVars false
set_option maxHeartbeats 4000000
theorem copy_eqR {g : Graph} (h : g.Edges.length * 32 ≤ 140737488355328) : assizeref06zCopy g = some g := by
  unfold assizeref06zCopy
  rw [must_pos _ (by omega)]
  rfl
theorem ring_bad {g : Graph} (hg : ¬ Good g) (d r : Int) : ring_Spaced g d r = some ([], 60) ∧ ring_Single g d r = some ([], 60) ∧ ring_Plain g d = some ([], 60) := by
  have h1 : ring_Spaced g d r = some ([], 60) := by unfold ring_Spaced; rw [check_bad hg]; rfl
  have h2 : ring_Spaced g d 0 = some ([], 60) := by unfold ring_Spaced; rw [check_bad hg]; rfl
  refine ⟨h1, by unfold ring_Single; rw [check_bad hg]; rfl, by unfold ring_Plain; rw [h2]; rfl⟩
theorem refRing_bad {g : Graph} (hg : ¬ Good g) (d r : Int) : assizeref07zSpaced g d r = some ([], 60) ∧ assizeref07zSingle g d r = some ([], 60) ∧ assizeref07zPlain g d = some ([], 60) := by
  have h1 : assizeref07zSpaced g d r = some ([], 60) := by unfold assizeref07zSpaced; rw [ref_bad hg]; rfl
  have h2 : assizeref07zSpaced g d 0 = some ([], 60) := by unfold assizeref07zSpaced; rw [ref_bad hg]; rfl
  refine ⟨h1, by unfold assizeref07zSingle; rw [ref_bad hg]; rfl, by unfold assizeref07zPlain; rw [h2]; rfl⟩
/-- both sides tell the same cycles, short ones -/
theorem ring_same (g : Graph) (d r : Int) : ∃ x y z : List Edge × Int, ring_Plain g d = some x ∧ assizeref07zPlain g d = some x ∧ ring_Single g d r = some y ∧ assizeref07zSingle g d r = some y ∧ ring_Spaced g d r = some z ∧ assizeref07zSpaced g d r = some z ∧ x.1.length ≤ 64 ∧ y.1.length ≤ 64 ∧ z.1.length ≤ 64 := by
  by_cases hg : Good g
  · have h0 := hg.n0
    have h1 := hg.n1
    have len : ∀ {t l : Int → Int → Bool} {best : List Int}, BestSpec t l g.N.toNat (g.N + 1) g.N.toNat best → best.length ≤ 64 := by
      rintro t l best (⟨rfl, _⟩ | ⟨s, p, rfl, _, _, _, _, h, _⟩)
      · simp
      · simp only [List.length_cons]; omega
    obtain ⟨b1, s1, e1, e2⟩ := Spaced_same hg d 0
    obtain ⟨b2, s2, e3, e4⟩ := Single_same hg d r
    obtain ⟨b3, s3, e5, e6⟩ := Spaced_same hg d r
    refine ⟨_, _, _, by unfold ring_Plain; rw [e1]; rfl, by unfold assizeref07zPlain; rw [e2]; rfl, e3, e4, e5, e6, ?_, ?_, ?_⟩
    · have := len s1; simpa [edgesOf] using this
    · have := s2.loop.2; simp [edgesS]; omega
    · have := len s3; simpa [edgesOf] using this
  · obtain ⟨a, b, c⟩ := ring_bad hg d r
    obtain ⟨a', b', c'⟩ := refRing_bad hg d r
    exact ⟨_, _, _, c, c', b, b', a, a', by simp, by simp, by simp⟩
theorem RingTells_law (g : Graph) (d r : Int) {p q u v : Prop} (g0 : p ∧ (q ∧ g.Edges.length * 32 ≤ 140737488351232)) (_ : u) (_ : v) : assizelaw07zRingTells g d r = some true := by
  have hb := g0.2.2
  obtain ⟨x, y, z, e1, e2, e3, e4, e5, e6, l1, l2, l3⟩ := ring_same g d r
  unfold assizelaw07zRingTells assizelaw07zRingTells.j1 assizelaw07zRingTells.j2
  rw [assizelaw07zalive_true, copy_eqR (by omega)]
  simp only [Option.bind_some, Bool.not_true, cond_false, e1, e2, e3, e4, e5, e6, bne_self_eq_false, beq_self_eq_true, cond_true, same_edges (show x.1.length < 2 ^ 62 by omega), same_edges (show y.1.length < 2 ^ 62 by omega), same_edges (show z.1.length < 2 ^ 62 by omega), same_edges (show g.Edges.length < 2 ^ 62 by omega)]

/-! ### does a list of edges fit? -/
def nxt (c : List Edge) (i : Nat) : Edge := idx c (((i + 1) % c.length : Nat) : Int)
def inM (e : Edge) (m : Int) : Prop := bAnd .i64 e.Kind m ≠ 0
def ruleOk (d r rule : Int) (i : Nat) (e e' : Edge) : Prop := (rule = 1 ∧ inM e d) ∨ (rule = 2 ∧ ((i = 0 ∧ inM e r) ∨ (0 < i ∧ inM e d))) ∨ (rule = 3 ∧ (inM e d ∨ (inM e r ∧ inM e' d)))
structure okAt (g : Graph) (c : List Edge) (d r rule : Int) (i : Nat) : Prop where
  here : ∃ k : Nat, k < g.Edges.length ∧ idx g.Edges (k : Int) = idx c (i : Int)
  next : (idx c (i : Int)).To = (nxt c i).From
  rule : ruleOk d r rule i (idx c (i : Int)) (nxt c i)
structure FitsP (g : Graph) (c : List Edge) (d r rule : Int) : Prop where
  good : Good g
  ne : c ≠ []
  ok : ∀ i, i < c.length → okAt g c d r rule i
  nd : ∀ i j : Nat, i < c.length → j < c.length → (idx c (i : Int)).From = (idx c (j : Int)).From → i = j
theorem idx_nxt {c : List Edge} {x : Nat} (hx : x < c.length) (hm : c.length < 2 ^ 62) : idx c ((w64 ((x : Int) + 1)).tmod (c.length : Int)) = nxt c x := by
  rw [mod_next hx hm]
  rfl
theorem mput_old {κ ν : Type} [DecidableEq κ] : ∀ {m : List (κ × ν)} {x : κ} {v : ν}, mhas m x = true → (mput m x v).length = m.length
  | [], x, v, h => by simp [mhas] at h
  | p :: m, x, v, h => by
    unfold mput
    split
    · simp
    · rename_i e
      have : mhas m x = true := by unfold mhas at h ⊢; simpa [e] using h
      simp [mput_old this]
theorem mput_new {κ ν : Type} [DecidableEq κ] : ∀ {m : List (κ × ν)} {x : κ} {v : ν}, mhas m x = false → (mput m x v).length = m.length + 1
  | [], x, v, h => rfl
  | p :: m, x, v, h => by
    unfold mput
    split
    · rename_i e
      unfold mhas at h
      simp [e] at h
    · rename_i e
      have : mhas m x = false := by unfold mhas at h ⊢; simpa [e] using h
      simp [mput_new this]
theorem ring_Fits_told (g : Graph) (c : List Edge) (d r rule : Int) (hc : c.length < 2 ^ 62) : Tri (ring_Fits g c d r rule) (fun b => b = true ↔ FitsP g c d r rule) := by
  unfold ring_Fits
  rcases graph_Check_eq g with ⟨hg, e⟩ | ⟨hg, e⟩
  · rw [e]
    refine tri_sb ?_
    simp only [bne_self_eq_false, cond_false]
    have hm := hg.m
    unfold ring_Fits.j1
    refine tri_bif (fun h => ?_) (fun h => ?_)
    · have : (c.length : Int) = 0 := by simpa using h
      exact tri_some ⟨fun h => (nomatch h), fun h => absurd (List.eq_nil_of_length_eq_zero (by omega)) h.ne⟩
    · have hne : c ≠ [] := by intro e; rw [e] at h; simp at h
      have hpos : 0 < c.length := List.length_pos_iff.2 hne
      refine tri_up2 g.Edges.length (fun k m => ∀ e : Edge, mhas m e = true ↔ ∃ i : Nat, i < k ∧ idx g.Edges (i : Int) = e) (fun e => by simp [mhas]) ?_
      rintro k m hk hK
      unfold ring_Fits.s2
      dsimp only
      refine tri_bif (fun e => ?_) (fun e => ?_)
      · have e : k < g.Edges.length := by simpa using e
        refine tri_must (by omega) (tri_some ?_)
        rw [w64zin (by omega) (by omega)]
        refine ⟨by omega, e, fun e2 => ?_⟩
        rw [mhas_put, hK]
        constructor
        · rintro (h1 | ⟨i, h1, h2⟩)
          · exact ⟨k, by omega, h1.symm⟩
          · exact ⟨i, by omega, h2⟩
        · rintro ⟨i, h1, h2⟩
          by_cases e3 : i = k
          · subst e3; exact .inl h2.symm
          · exact .inr ⟨i, by omega, h2⟩
      · have e : ¬ k < g.Edges.length := by simpa using e
        obtain rfl : k = g.Edges.length := by omega
        refine tri_up2 c.length (fun x m => (∀ i, i < x → okAt g c d r rule i) ∧ (∀ y, mhas m y = true ↔ ∃ i : Nat, i < x ∧ (idx c (i : Int)).From = y) ∧ m.length ≤ x ∧ (m.length = x ↔ ∀ i j : Nat, i < x → j < x → (idx c (i : Int)).From = (idx c (j : Int)).From → i = j)) ⟨fun i h => absurd h (Nat.not_lt_zero _), fun y => by simp [mhas], Nat.le_refl _, by simp⟩ ?_
        rintro x nm hx ⟨hok, hkeys, hle, hnd⟩
        unfold ring_Fits.s3
        dsimp only
        refine tri_bif (fun e => ?_) (fun e => ?_)
        · have e : x < c.length := by simpa using e
          have bad : ¬ okAt g c d r rule x → Tri (out (out (some false)) : Option (((List (Int × Unit)) × Int) ⊕ (((List (Edge × Unit)) × Int) ⊕ Bool))) (Up2 c.length x (fun x m => (∀ i, i < x → okAt g c d r rule i) ∧ (∀ y, mhas m y = true ↔ ∃ i : Nat, i < x ∧ (idx c (i : Int)).From = y) ∧ m.length ≤ x ∧ (m.length = x ↔ ∀ i j : Nat, i < x → j < x → (idx c (i : Int)).From = (idx c (j : Int)).From → i = j))
              (Up2 g.Edges.length g.Edges.length (fun k m => ∀ e : Edge, mhas m e = true ↔ ∃ i : Nat, i < k ∧ idx g.Edges (i : Int) = e) (fun b => b = true ↔ FitsP g c d r rule))) := fun h => tri_out (tri_out (tri_some ⟨fun h => (nomatch h), fun hf => absurd (hf.ok x e) h⟩))
          have good : okAt g c d r rule x → Tri (ring_Fits.j5 c nm (x : Int)) (Up2 c.length x (fun x m => (∀ i, i < x → okAt g c d r rule i) ∧ (∀ y, mhas m y = true ↔ ∃ i : Nat, i < x ∧ (idx c (i : Int)).From = y) ∧ m.length ≤ x ∧ (m.length = x ↔ ∀ i j : Nat, i < x → j < x → (idx c (i : Int)).From = (idx c (j : Int)).From → i = j))
              (Up2 g.Edges.length g.Edges.length (fun k m => ∀ e : Edge, mhas m e = true ↔ ∃ i : Nat, i < k ∧ idx g.Edges (i : Int) = e) (fun b => b = true ↔ FitsP g c d r rule))) := by
            intro hx2
            unfold ring_Fits.j5
            rw [w64zin (by omega) (by omega)]
            refine tri_some ⟨by omega, e, fun i hi => ?_, fun y => ?_, ?_, ?_⟩
            · rcases Nat.lt_or_ge i x with h | h
              · exact hok i h
              · rw [show i = x by omega]; exact hx2
            · rw [mhas_put, hkeys]
              constructor
              · rintro (h1 | ⟨i, h1, h2⟩)
                · exact ⟨x, by omega, h1.symm⟩
                · exact ⟨i, by omega, h2⟩
              · rintro ⟨i, h1, h2⟩
                by_cases e3 : i = x
                · subst e3; exact .inl h2.symm
                · exact .inr ⟨i, by omega, h2⟩
            · cases hh : mhas nm (idx c (x : Int)).From with
              | true => rw [mput_old hh]; omega
              | false => rw [mput_new hh]; omega
            · cases hh : mhas nm (idx c (x : Int)).From with
              | true =>
                rw [mput_old hh]
                obtain ⟨i, h1, h2⟩ := (hkeys _).1 hh
                constructor
                · intro h; omega
                · intro h
                  have := h i x (by omega) (by omega) h2
                  omega
              | false =>
                rw [mput_new hh]
                have hno : ∀ i : Nat, i < x → (idx c (i : Int)).From ≠ (idx c (x : Int)).From := fun i h1 h2 => by
                  rw [(hkeys _).2 ⟨i, h1, h2⟩] at hh; cases hh
                constructor
                · intro h i j h1 h2 h3
                  have h4 := hnd.1 (by omega)
                  rcases Nat.lt_or_ge i x with h5 | h5
                  · rcases Nat.lt_or_ge j x with h6 | h6
                    · exact h4 i j h5 h6 h3
                    · obtain rfl : j = x := by omega
                      exact absurd h3 (hno i h5)
                  · obtain rfl : i = x := by omega
                    rcases Nat.lt_or_ge j i with h6 | h6
                    · exact absurd h3.symm (hno j h6)
                    · omega
                · intro h
                  rw [hnd.2 fun i j h1 h2 h3 => h i j (by omega) (by omega) h3]
          refine tri_must (by omega) (tri_must (by omega) (tri_must (by rw [mod_next e hc]; have := Nat.mod_lt (x + 1) hpos; omega) ?_))
          rw [idx_nxt e hc]
          have hhere := hK (idx c (x : Int))
          unfold ring_Fits.j4 ring_Fits.j6 ring_Fits.j7
          rw [idx_nxt e hc]
          have okI : ∀ {P : Prop}, (¬ P → False) → P := fun h => Classical.byContradiction h
          simp only [cond_true]
          repeat' (first | with_reducible refine tri_if (fun hq => ?_) (fun hq => ?_) | with_reducible refine bad ?_ | with_reducible refine good ?_)
          all_goals first
            | (intro hO; obtain ⟨h1, h2, h3⟩ := hO; unfold ruleOk inM at h3; grind)
            | (refine ⟨?_, ?_, ?_⟩ <;> (try unfold ruleOk inM) <;> grind)
        · have e : ¬ x < c.length := by simpa using e
          obtain rfl : x = c.length := by omega
          refine tri_out (tri_out (tri_some ?_))
          show ((nm.length : Int) == (c.length : Int)) = true ↔ FitsP g c d r rule
          rw [beq_iff_eq, Int.ofNat_inj, hnd]
          exact ⟨fun h => ⟨hg, hne, hok, h⟩, fun h => h.nd⟩
  · rw [e]
    refine tri_sb ?_
    exact tri_some ⟨fun h => (nomatch h), fun h => absurd h.good hg⟩
theorem edge_eq (a b : Edge) : ((a.From == b.From) && ((a.To == b.To) && ((a.Kind == b.Kind) && ((a.Key == b.Key) && true)))) = decide (a = b) := by
  obtain ⟨a1, a2, a3, a4⟩ := a
  obtain ⟨b1, b2, b3, b4⟩ := b
  rw [Bool.eq_iff_iff]
  simp
theorem ref_Fits_told (g : Graph) (c : List Edge) (d r rule : Int) (hc : c.length < 2 ^ 62) : Tri (assizeref07zFits g c d r rule) (fun b => b = true ↔ FitsP g c d r rule) := by
  unfold assizeref07zFits
  rcases ref_Check_eq g with ⟨hg, e⟩ | ⟨hg, e⟩
  · rw [e]
    refine tri_sb ?_
    simp only [bne_self_eq_false, cond_false]
    have hm := hg.m
    have h0 := hg.n0
    have h1 := hg.n1
    have no : ¬ FitsP g c d r rule → Tri (assizeref07zFits.j1 g c d r rule true) (fun b => b = true ↔ FitsP g c d r rule) := fun h => tri_some ⟨fun h => (nomatch h), fun hf => absurd hf h⟩
    have rl : FitsP g c d r rule → rule = 1 ∨ rule = 2 ∨ rule = 3 := by
      intro h
      have := (h.ok 0 (List.length_pos_iff.2 h.ne)).rule
      unfold ruleOk at this
      rcases this with h | h | h
      · exact .inl h.1
      · exact .inr (.inl h.1)
      · exact .inr (.inr h.1)
    refine tri_bif (fun h => no fun hf => hf.ne (List.eq_nil_of_length_eq_zero (by have : (c.length : Int) = 0 := by simpa using h
                                                                                   omega))) (fun h => ?_)
    have hne : c ≠ [] := by intro e; rw [e] at h; simp at h
    have hpos : 0 < c.length := List.length_pos_iff.2 hne
    refine tri_bif (fun h => no fun hf => by have h : rule < 1 := by simpa using h
                                             have := rl hf
                                             omega) (fun hr1 => ?_)
    have hr1 : ¬ rule < 1 := by simpa using hr1
    cases hr3 : decide (rule > 3) with
    | true => exact no fun hf => by have h : rule > 3 := by simpa using hr3
                                    have := rl hf
                                    omega
    | false =>
      have hr3 : ¬ rule > 3 := by simpa using hr3
      unfold assizeref07zFits.j1
      rw [cond_false]
      refine tri_must (by omega) ?_
      refine tri_up2 c.length (fun x l => (∀ i, i < x → okAt g c d r rule i) ∧ l.length = g.N.toNat ∧ (∀ y : Int, 0 ≤ y → y < g.N → (idx l y = true ↔ ∃ i : Nat, i < x ∧ (idx c (i : Int)).From = y)) ∧ ∀ i j : Nat, i < x → j < x → (idx c (i : Int)).From = (idx c (j : Int)).From → i = j) ⟨fun i h => absurd h (Nat.not_lt_zero _), by simp, fun y h2 h3 => ?_, fun i j h => absurd h (Nat.not_lt_zero _)⟩ ?_
      · rw [show y = (y.toNat : Int) by omega, idx_rep]
        exact ⟨fun h => (nomatch h), fun ⟨i, hi, _⟩ => absurd hi (Nat.not_lt_zero _)⟩
      rintro x l hx ⟨hok, hll, hkeys, hnd⟩
      unfold assizeref07zFits.s2
      dsimp only
      refine tri_bif (fun e => ?_) (fun e => ?_)
      · have e : x < c.length := by simpa using e
        refine tri_up2 g.Edges.length (fun k b => b = true ↔ ∃ i : Nat, i < k ∧ idx g.Edges (i : Int) = idx c (x : Int)) (by simp) ?_
        rintro k b hk hb
        have bad : ∀ b904 : Bool, (¬ okAt g c d r rule x ∨ ∃ i, i < x ∧ (idx c (i : Int)).From = (idx c (x : Int)).From) → Tri (out (out (some false)) : Option ((Bool × Int) ⊕ (((List Bool) × Int) ⊕ Bool))) (Up2 g.Edges.length k (fun k b => b = true ↔ ∃ i : Nat, i < k ∧ idx g.Edges (i : Int) = idx c (x : Int))
            (Up2 c.length x (fun x l => (∀ i, i < x → okAt g c d r rule i) ∧ l.length = g.N.toNat ∧ (∀ y : Int, 0 ≤ y → y < g.N → (idx l y = true ↔ ∃ i : Nat, i < x ∧ (idx c (i : Int)).From = y)) ∧ ∀ i j : Nat, i < x → j < x → (idx c (i : Int)).From = (idx c (j : Int)).From → i = j) (fun b => b = true ↔ FitsP g c d r rule))) := by
          intro _ h
          refine tri_out (tri_out (tri_some ⟨fun h => (nomatch h), fun hf => ?_⟩))
          rcases h with h | ⟨i, h2, h3⟩
          · exact absurd (hf.ok x e) h
          · have := hf.nd i x (by omega) e h3
            omega
        have fin : (b = true ∨ k = g.Edges.length) → Tri (assizeref07zFits.j4 g c d r rule l (x : Int) b (k : Int) false) (Up2 g.Edges.length k (fun k b => b = true ↔ ∃ i : Nat, i < k ∧ idx g.Edges (i : Int) = idx c (x : Int))
            (Up2 c.length x (fun x l => (∀ i, i < x → okAt g c d r rule i) ∧ l.length = g.N.toNat ∧ (∀ y : Int, 0 ≤ y → y < g.N → (idx l y = true ↔ ∃ i : Nat, i < x ∧ (idx c (i : Int)).From = y)) ∧ ∀ i j : Nat, i < x → j < x → (idx c (i : Int)).From = (idx c (j : Int)).From → i = j) (fun b => b = true ↔ FitsP g c d r rule))) := by
          intro hfin
          have hhere : b = true ↔ ∃ i : Nat, i < g.Edges.length ∧ idx g.Edges (i : Int) = idx c (x : Int) := by
            rw [hb]
            constructor
            · rintro ⟨i, h2, h3⟩; exact ⟨i, by omega, h3⟩
            · rintro ⟨i, h2, h3⟩
              rcases hfin with h4 | h4
              · exact hb.1 h4
              · exact ⟨i, by omega, h3⟩
          unfold assizeref07zFits.j4
          rw [cond_false]
          refine tri_must (by omega) (tri_must (by rw [mod_next e hc]; have := Nat.mod_lt (x + 1) hpos; omega) ?_)
          rw [idx_nxt e hc]
          cases b with
          | false =>
            rw [Bool.not_false, cond_true]
            exact bad true (.inl fun h => by obtain ⟨k, h2, h3⟩ := h.here; have := hhere.2 ⟨k, h2, h3⟩; cases this)
          | true =>
            rw [Bool.not_true, cond_false]
            obtain ⟨ke, hke, hee⟩ := hhere.1 rfl
            have hedge := hg.e ke hke
            rw [hee] at hedge
            unfold okEdge at hedge
            clear hhere
            have hbd : 0 ≤ (x : Int) ∧ (x : Int) < (c.length : Int) := by omega
            have hbf : 0 ≤ (idx c (x : Int)).From ∧ (idx c (x : Int)).From < (l.length : Int) := by omega
            refine tri_must hbd (tri_must hbf ?_)
            have good : okAt g c d r rule x → (¬ ∃ i : Nat, i < x ∧ (idx c (i : Int)).From = (idx c (x : Int)).From) → Tri (assizeref07zFits.j7 c l (x : Int) false) (Up2 g.Edges.length k (fun k b => b = true ↔ ∃ i : Nat, i < k ∧ idx g.Edges (i : Int) = idx c (x : Int))
                (Up2 c.length x (fun x l => (∀ i, i < x → okAt g c d r rule i) ∧ l.length = g.N.toNat ∧ (∀ y : Int, 0 ≤ y → y < g.N → (idx l y = true ↔ ∃ i : Nat, i < x ∧ (idx c (i : Int)).From = y)) ∧ ∀ i j : Nat, i < x → j < x → (idx c (i : Int)).From = (idx c (j : Int)).From → i = j) (fun b => b = true ↔ FitsP g c d r rule))) := by
              intro hx2 hno
              unfold assizeref07zFits.j7
              rw [cond_false, w64zin (by omega) (by omega)]
              refine tri_out (tri_some ⟨by omega, e, fun i hi => ?_, by rw [List.length_set]; exact hll, fun y h2 h3 => ?_, fun i j h2 h3 h4 => ?_⟩)
              · rcases Nat.lt_or_ge i x with h | h
                · exact hok i h
                · rw [show i = x by omega]; exact hx2
              · rw [idx_setI hedge.1 (by omega) h2]
                split
                · rename_i h4
                  exact ⟨fun _ => ⟨x, by omega, h4.symm⟩, fun _ => rfl⟩
                · rename_i h4
                  rw [hkeys y h2 h3]
                  constructor
                  · rintro ⟨i, h5, h6⟩; exact ⟨i, by omega, h6⟩
                  · rintro ⟨i, h5, h6⟩
                    refine ⟨i, ?_, h6⟩
                    have : i ≠ x := fun h => by subst h; exact h4 h6.symm
                    omega
              · rcases Nat.lt_or_ge i x with h5 | h5
                · rcases Nat.lt_or_ge j x with h6 | h6
                  · exact hnd i j h5 h6 h4
                  · obtain rfl : j = x := by omega
                    exact absurd ⟨i, h5, h4⟩ hno
                · obtain rfl : i = x := by omega
                  rcases Nat.lt_or_ge j i with h6 | h6
                  · exact absurd ⟨j, h6, h4.symm⟩ hno
                  · omega
            unfold assizeref07zFits.j5 assizeref07zFits.j8 assizeref07zFits.j9 assizeref07zFits.j6
            rw [idx_nxt e hc]
            simp only [cond_true, cond_false]
            have hkx := hkeys (idx c (x : Int)).From hedge.1 hedge.2.1
            have unf : ∀ b : Bool, assizeref07zFits.j7 c l (x : Int) b = bif b then out (out (some false)) else assizeref07zFits.j7 c l (x : Int) false := by
              intro b
              cases b <;> rfl
            repeat' (first | with_reducible refine tri_if (fun hq => ?_) (fun hq => ?_) | with_reducible refine bad true ?_ | with_reducible refine good ?_ ?_ | with_reducible refine tri_must hbd ?_ | with_reducible refine tri_must hbf ?_ | (rw [unf]; with_reducible refine tri_if (fun hq => ?_) (fun hq => ?_)) )
            all_goals first
              | (left; intro hO; obtain ⟨h1, h2, h3⟩ := hO; unfold ruleOk inM at h3; grind)
              | (right; exact hkx.1 (by assumption))
              | (refine ⟨?_, ?_, ?_⟩ <;> (try unfold ruleOk inM) <;> grind)
              | (intro hO; exact absurd (hkx.2 hO) (by assumption))
              | grind
        unfold assizeref07zFits.s3
        dsimp only
        refine tri_bif (fun ek => ?_) (fun ek => ?_)
        · have ek : k < g.Edges.length := by simpa using ek
          cases hbb : b with
          | true => rw [hbb] at fin; exact fin (.inl rfl)
          | false =>
            unfold assizeref07zFits.j4
            simp only [Bool.not_false, cond_true]
            refine tri_must (by omega) (tri_must (by omega) (tri_some ?_))
            rw [w64zin (by omega) (by omega), edge_eq]
            refine ⟨by omega, ek, ?_⟩
            show decide (idx g.Edges (k : Int) = idx c (x : Int)) = true ↔ ∃ i : Nat, i < k + 1 ∧ idx g.Edges (i : Int) = idx c (x : Int)
            rw [decide_eq_true_iff]
            rw [hbb] at hb
            constructor
            · intro h; exact ⟨k, by omega, h⟩
            · rintro ⟨i, h2, h3⟩
              by_cases h4 : i = k
              · subst h4; exact h3
              · have := hb.2 ⟨i, by omega, h3⟩; cases this
        · have ek : ¬ k < g.Edges.length := by simpa using ek
          exact fin (.inr (by omega))
      · have e : ¬ x < c.length := by simpa using e
        obtain rfl : x = c.length := by omega
        exact tri_out (tri_some ⟨fun _ => ⟨hg, hne, hok, hnd⟩, fun _ => rfl⟩)
  · rw [e]
    refine tri_sb ?_
    exact tri_some ⟨fun h => (nomatch h), fun h => absurd h.good hg⟩
theorem RingFits_law (g : Graph) (c : List Edge) (m : Assizelaw07Masks) {u : Prop} {w : Prop} {q : Prop} (_ : u) (g1 : w ∧ c.length * 32 ≤ 140737488351232) (_ : q) : assizelaw07zRingFits g c m = some true := by
  have hb := g1.2
  obtain ⟨a, e1, h1⟩ := ring_Fits_told g c m.D m.R m.Rule (by omega)
  obtain ⟨b, e2, h2⟩ := ref_Fits_told g c m.D m.R m.Rule (by omega)
  have : a = b := by rw [Bool.eq_iff_iff, h1, h2]
  unfold assizelaw07zRingFits
  rw [assizelaw07zalive_true]
  simp only [Option.bind_some, Bool.not_true, cond_false, e1, e2, this, beq_self_eq_true]
end Go.Proofs.YtncapkloanfmnaaT
