/- RingTells; whether edges are a cycle of a sort, as both sides tell it; RingFits. -/
import Derived.Test.YtncapkloanfmnaaDoorTPRL
import Derived.Test.YtncapkloanfmnaaDoorTF
namespace Go.Proofs.YtncapkloanfmnaaDoorT
open Go Go.Proofs Go.Proofs.YtncapkloanfmnaaDoorE
set_option linter.unusedVariables false
set_option linter.unusedSimpArgs false
set_option linter.unusedSectionVars false
set_option maxHeartbeats 4000000
theorem ring_bad {g : Graph} (hg : ¬ Good g) (d r : Int) : ring_Spaced g d r = some ([], 60) ∧ ring_Single g d r = some ([], 60) ∧ ring_Plain g d = some ([], 60) := by
  have h1 : ring_Spaced g d r = some ([], 60) := by unfold ring_Spaced; rw [check_bad hg]; rfl
  have h2 : ring_Spaced g d 0 = some ([], 60) := by unfold ring_Spaced; rw [check_bad hg]; rfl
  refine ⟨h1, by unfold ring_Single; rw [check_bad hg]; rfl, by unfold ring_Plain; rw [h2]; rfl⟩
/-! ### does a list of edges fit? -/
def nxt (c : List Edge) (i : Nat) : Edge := idx c (((i + 1) % c.length : Nat) : Int)
def inM (e : Edge) (m : Int) : Prop := bAnd .i64 e.Kind m ≠ 0
def ruleOk (d r rule : Int) (i : Nat) (e e' : Edge) : Prop := (rule = 1 ∧ inM e d) ∨ (rule = 2 ∧ ((i = 0 ∧ inM e r) ∨ (0 < i ∧ inM e d))) ∨ (rule = 3 ∧ (inM e d ∨ (inM e r ∧ inM e' d)))
structure okAt (g : Graph) (c : List Edge) (d r rule : Int) (i : Nat) : Prop where
  here : ∃ k : Nat, k < g.Edges.length ∧ idx g.Edges (k : Int) = idx c (i : Int)
  next : (idx c (i : Int)).To = (nxt c i).From
  rule : ruleOk d r rule i (idx c (i : Int)) (nxt c i)
structure FitsP (g : Graph) (c : List Edge) (d r rule : Int) : Prop where
  good : Good g
  ne : c ≠ []
  ok : ∀ i, i < c.length → okAt g c d r rule i
  nd : ∀ i j : Nat, i < c.length → j < c.length → (idx c (i : Int)).From = (idx c (j : Int)).From → i = j
theorem idx_nxt {c : List Edge} {x : Nat} (hx : x < c.length) (hm : c.length < 2 ^ 62) : idx c ((w64 ((x : Int) + 1)).tmod (c.length : Int)) = nxt c x := by
  rw [mod_next hx hm]
  rfl
theorem mput_old {κ ν : Type} [DecidableEq κ] : ∀ {m : List (κ × ν)} {x : κ} {v : ν}, mhas m x = true → (mput m x v).length = m.length
  | [], x, v, h => by simp [mhas] at h
  | p :: m, x, v, h => by
    unfold mput
    split
    · simp
    · rename_i e
      have : mhas m x = true := by unfold mhas at h ⊢; simpa [e] using h
      simp [mput_old this]
theorem mput_new {κ ν : Type} [DecidableEq κ] : ∀ {m : List (κ × ν)} {x : κ} {v : ν}, mhas m x = false → (mput m x v).length = m.length + 1
  | [], x, v, h => rfl
  | p :: m, x, v, h => by
    unfold mput
    split
    · rename_i e
      unfold mhas at h
      simp [e] at h
    · rename_i e
      have : mhas m x = false := by unfold mhas at h ⊢; simpa [e] using h
      simp [mput_new this]
theorem ring_Fits_told (g : Graph) (c : List Edge) (d r rule : Int) (hc : c.length < 2 ^ 62) : Tri (ring_Fits g c d r rule) (fun b => b = true ↔ FitsP g c d r rule) := by
  unfold ring_Fits
  rcases graph_Check_eq g with ⟨hg, e⟩ | ⟨hg, e⟩
  · rw [e]
    refine tri_sb ?_
    simp only [bne_self_eq_false, cond_false]
    have hm := hg.m
    unfold ring_Fits.j1
    refine tri_bif (fun h => ?_) (fun h => ?_)
    · have : (c.length : Int) = 0 := by simpa using h
      exact tri_some ⟨fun h => (nomatch h), fun h => absurd (List.eq_nil_of_length_eq_zero (by omega)) h.ne⟩
    · have hne : c ≠ [] := by intro e; rw [e] at h; simp at h
      have hpos : 0 < c.length := List.length_pos_iff.2 hne
      refine tri_up2 g.Edges.length (fun k m => ∀ e : Edge, mhas m e = true ↔ ∃ i : Nat, i < k ∧ idx g.Edges (i : Int) = e) (fun e => by simp [mhas]) ?_
      rintro k m hk hK
      unfold ring_Fits.s2
      dsimp only
      refine tri_bif (fun e => ?_) (fun e => ?_)
      · have e : k < g.Edges.length := by simpa using e
        refine tri_must (by omega) (tri_some ?_)
        rw [w64zin (by omega) (by omega)]
        refine ⟨by omega, e, fun e2 => ?_⟩
        rw [mhas_put, hK]
        constructor
        · rintro (h1 | ⟨i, h1, h2⟩)
          · exact ⟨k, by omega, h1.symm⟩
          · exact ⟨i, by omega, h2⟩
        · rintro ⟨i, h1, h2⟩
          by_cases e3 : i = k
          · subst e3; exact .inl h2.symm
          · exact .inr ⟨i, by omega, h2⟩
      · have e : ¬ k < g.Edges.length := by simpa using e
        obtain rfl : k = g.Edges.length := by omega
        refine tri_up2 c.length (fun x m => (∀ i, i < x → okAt g c d r rule i) ∧ (∀ y, mhas m y = true ↔ ∃ i : Nat, i < x ∧ (idx c (i : Int)).From = y) ∧ m.length ≤ x ∧ (m.length = x ↔ ∀ i j : Nat, i < x → j < x → (idx c (i : Int)).From = (idx c (j : Int)).From → i = j)) ⟨fun i h => absurd h (Nat.not_lt_zero _), fun y => by simp [mhas], Nat.le_refl _, by simp⟩ ?_
        rintro x nm hx ⟨hok, hkeys, hle, hnd⟩
        unfold ring_Fits.s3
        dsimp only
        refine tri_bif (fun e => ?_) (fun e => ?_)
        · have e : x < c.length := by simpa using e
          have bad : ¬ okAt g c d r rule x → Tri (out (out (some false)) : Option (((List (Int × Unit)) × Int) ⊕ (((List (Edge × Unit)) × Int) ⊕ Bool))) (Up2 c.length x (fun x m => (∀ i, i < x → okAt g c d r rule i) ∧ (∀ y, mhas m y = true ↔ ∃ i : Nat, i < x ∧ (idx c (i : Int)).From = y) ∧ m.length ≤ x ∧ (m.length = x ↔ ∀ i j : Nat, i < x → j < x → (idx c (i : Int)).From = (idx c (j : Int)).From → i = j))
              (Up2 g.Edges.length g.Edges.length (fun k m => ∀ e : Edge, mhas m e = true ↔ ∃ i : Nat, i < k ∧ idx g.Edges (i : Int) = e) (fun b => b = true ↔ FitsP g c d r rule))) := fun h => tri_out (tri_out (tri_some ⟨fun h => (nomatch h), fun hf => absurd (hf.ok x e) h⟩))
          have good : okAt g c d r rule x → Tri (ring_Fits.j5 c nm (x : Int)) (Up2 c.length x (fun x m => (∀ i, i < x → okAt g c d r rule i) ∧ (∀ y, mhas m y = true ↔ ∃ i : Nat, i < x ∧ (idx c (i : Int)).From = y) ∧ m.length ≤ x ∧ (m.length = x ↔ ∀ i j : Nat, i < x → j < x → (idx c (i : Int)).From = (idx c (j : Int)).From → i = j))
              (Up2 g.Edges.length g.Edges.length (fun k m => ∀ e : Edge, mhas m e = true ↔ ∃ i : Nat, i < k ∧ idx g.Edges (i : Int) = e) (fun b => b = true ↔ FitsP g c d r rule))) := by
            intro hx2
            unfold ring_Fits.j5
            rw [w64zin (by omega) (by omega)]
            refine tri_some ⟨by omega, e, fun i hi => ?_, fun y => ?_, ?_, ?_⟩
            · rcases Nat.lt_or_ge i x with h | h
              · exact hok i h
              · rw [show i = x by omega]; exact hx2
            · rw [mhas_put, hkeys]
              constructor
              · rintro (h1 | ⟨i, h1, h2⟩)
                · exact ⟨x, by omega, h1.symm⟩
                · exact ⟨i, by omega, h2⟩
              · rintro ⟨i, h1, h2⟩
                by_cases e3 : i = x
                · subst e3; exact .inl h2.symm
                · exact .inr ⟨i, by omega, h2⟩
            · cases hh : mhas nm (idx c (x : Int)).From with
              | true => rw [mput_old hh]; omega
              | false => rw [mput_new hh]; omega
            · cases hh : mhas nm (idx c (x : Int)).From with
              | true =>
                rw [mput_old hh]
                obtain ⟨i, h1, h2⟩ := (hkeys _).1 hh
                constructor
                · intro h; omega
                · intro h
                  have := h i x (by omega) (by omega) h2
                  omega
              | false =>
                rw [mput_new hh]
                have hno : ∀ i : Nat, i < x → (idx c (i : Int)).From ≠ (idx c (x : Int)).From := fun i h1 h2 => by
                  rw [(hkeys _).2 ⟨i, h1, h2⟩] at hh; cases hh
                constructor
                · intro h i j h1 h2 h3
                  have h4 := hnd.1 (by omega)
                  rcases Nat.lt_or_ge i x with h5 | h5
                  · rcases Nat.lt_or_ge j x with h6 | h6
                    · exact h4 i j h5 h6 h3
                    · obtain rfl : j = x := by omega
                      exact absurd h3 (hno i h5)
                  · obtain rfl : i = x := by omega
                    rcases Nat.lt_or_ge j i with h6 | h6
                    · exact absurd h3.symm (hno j h6)
                    · omega
                · intro h
                  rw [hnd.2 fun i j h1 h2 h3 => h i j (by omega) (by omega) h3]
          refine tri_must (by omega) (tri_must (by omega) (tri_must (by rw [mod_next e hc]; have := Nat.mod_lt (x + 1) hpos; omega) ?_))
          rw [idx_nxt e hc]
          have hhere := hK (idx c (x : Int))
          unfold ring_Fits.j4 ring_Fits.j6 ring_Fits.j7
          rw [idx_nxt e hc]
          have okI : ∀ {P : Prop}, (¬ P → False) → P := fun h => Classical.byContradiction h
          simp only [cond_true]
          repeat' (first | with_reducible refine tri_if (fun hq => ?_) (fun hq => ?_) | with_reducible refine bad ?_ | with_reducible refine good ?_)
          all_goals first
            | (intro hO; obtain ⟨h1, h2, h3⟩ := hO; unfold ruleOk inM at h3; grind)
            | (refine ⟨?_, ?_, ?_⟩ <;> (try unfold ruleOk inM) <;> grind)
        · have e : ¬ x < c.length := by simpa using e
          obtain rfl : x = c.length := by omega
          refine tri_out (tri_out (tri_some ?_))
          show ((nm.length : Int) == (c.length : Int)) = true ↔ FitsP g c d r rule
          rw [beq_iff_eq, Int.ofNat_inj, hnd]
          exact ⟨fun h => ⟨hg, hne, hok, h⟩, fun h => h.nd⟩
  · rw [e]
    refine tri_sb ?_
    exact tri_some ⟨fun h => (nomatch h), fun h => absurd h.good hg⟩
theorem edge_eq (a b : Edge) : ((a.From == b.From) && ((a.To == b.To) && ((a.Kind == b.Kind) && ((a.Key == b.Key) && true)))) = decide (a = b) := by
  obtain ⟨a1, a2, a3, a4⟩ := a
  obtain ⟨b1, b2, b3, b4⟩ := b
  rw [Bool.eq_iff_iff]
  simp
end Go.Proofs.YtncapkloanfmnaaDoorT
