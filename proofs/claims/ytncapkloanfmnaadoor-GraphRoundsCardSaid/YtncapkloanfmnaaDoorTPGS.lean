/- Parts of a graph: both answers are the numbers of the parts by their least nodes. -/
import Derived.Test.YtncapkloanfmnaaDoorTPGP
namespace Go.Proofs.YtncapkloanfmnaaDoorT
open Go Go.Proofs Go.Proofs.YtncapkloanfmnaaDoorE
set_option linter.unusedVariables false
set_option linter.unusedSimpArgs false
set_option maxRecDepth 4096

/-! ### numbers by the least -/
open Classical in
noncomputable def firsts (E : Nat → Nat → Prop) : Nat → Nat
  | 0 => 0
  | i + 1 => firsts E i + (if ∃ j, j < i ∧ E j i then 0 else 1)
theorem firsts_le (E : Nat → Nat → Prop) : ∀ k, firsts E k ≤ k
  | 0 => Nat.le_refl _
  | k + 1 => by
    have := firsts_le E k
    unfold firsts
    split <;> omega
structure Canon (n : Nat) (E : Nat → Nat → Prop) (l : List Int) : Prop where
  len : l.length = n
  same : ∀ i, i < n → ∀ j, j < i → E j i → idx l (i : Int) = idx l (j : Int)
  new : ∀ i, i < n → (∀ j, j < i → ¬ E j i) → idx l (i : Int) = (firsts E i : Nat)
theorem Canon.eq {n : Nat} {E : Nat → Nat → Prop} {l l' : List Int} (h : Canon n E l) (h' : Canon n E l') : l = l' := by
  refine list_ext (h.len.trans h'.len.symm) fun i hi => ?_
  rw [h.len] at hi
  induction i using Nat.strongRecOn with
  | ind i ih =>
    by_cases hc : ∃ j, j < i ∧ E j i
    · obtain ⟨j, hj, he⟩ := hc
      rw [h.same i hi j hj he, h'.same i hi j hj he]
      exact ih j hj (by omega)
    · have hc : ∀ j, j < i → ¬ E j i := fun j hj he => hc ⟨j, hj, he⟩
      rw [h.new i hi hc, h'.new i hi hc]
theorem firsts_congr {n : Nat} {E E' : Nat → Nat → Prop} (h : ∀ i j, i < n → j < n → (E i j ↔ E' i j)) : ∀ k, k ≤ n → firsts E k = firsts E' k
  | 0, _ => rfl
  | k + 1, hk => by
    have hc : (∃ j, j < k ∧ E j k) ↔ (∃ j, j < k ∧ E' j k) := ⟨fun ⟨j, hj, he⟩ => ⟨j, hj, (h j k (by omega) (by omega)).1 he⟩, fun ⟨j, hj, he⟩ => ⟨j, hj, (h j k (by omega) (by omega)).2 he⟩⟩
    unfold firsts
    rw [firsts_congr h k (by omega)]
    by_cases hx : ∃ j, j < k ∧ E j k
    · rw [if_pos hx, if_pos (hc.1 hx)]
    · rw [if_neg hx, if_neg (fun hy => hx (hc.2 hy))]
theorem Canon.congr {n : Nat} {E E' : Nat → Nat → Prop} {l : List Int} (h : Canon n E l) (he : ∀ i j, i < n → j < n → (E i j ↔ E' i j)) : Canon n E' l :=
  ⟨h.len, fun i hi j hj hx => h.same i hi j hj ((he j i (by omega) hi).2 hx), fun i hi hx => by
    rw [h.new i hi (fun j hj hy => hx j hj ((he j i (by omega) hi).1 hy)), firsts_congr he i (by omega)]⟩

/-! ### maps -/
theorem mhas_put {m : List (Int × Int)} {x y z : Int} : mhas (mput m x y) z = (mhas m z || decide (x = z)) := by
  induction m with
  | nil => simp [mput, mhas]
  | cons p m ih =>
    unfold mput
    split
    · rename_i e
      subst e
      simp only [mhas, List.any_cons]
      cases decide (p.1 = z) <;> simp
    · unfold mhas at ih ⊢
      rw [List.any_cons, List.any_cons, ih, Bool.or_assoc]
theorem mat_put {m : List (Int × Int)} {x y z : Int} : mat (mput m x y) z = if z = x then y else mat m z := by
  induction m with
  | nil =>
    simp only [mput, mat]
    by_cases e : x = z
    · rw [if_pos e, if_pos e.symm]
    · rw [if_neg e, if_neg (fun h => e h.symm)]
  | cons p m ih =>
    unfold mput
    split
    · rename_i e
      subst e
      simp only [mat]
      by_cases e : p.1 = z
      · rw [if_pos e, if_pos e.symm]
      · rw [if_neg e, if_neg (fun h => e h.symm), if_neg e]
    · rename_i e
      simp only [mat]
      rw [ih]
      by_cases e1 : p.1 = z
      · rw [if_pos e1, if_pos e1, if_neg (fun h => e (e1.trans h))]
      · rw [if_neg e1, if_neg e1]
theorem len_put {m : List (Int × Int)} {x y : Int} (h : mhas m x = false) : (mput m x y).length = m.length + 1 := by
  induction m with
  | nil => rfl
  | cons p m ih =>
    unfold mhas at h
    rw [List.any_cons, Bool.or_eq_false_iff] at h
    unfold mput
    rw [if_neg (of_decide_eq_false h.1), List.length_cons, ih h.2, List.length_cons]
theorem renumbered_told {a0 : List Int} (hn : a0.length ≤ 64) : Tri (graph_renumbered a0) (Canon a0.length (fun i j => idx a0 (i : Int) = idx a0 (j : Int))) := by
  generalize hE : (fun i j : Nat => idx a0 (i : Int) = idx a0 (j : Int)) = E
  have hEd : ∀ i j, E i j ↔ idx a0 (i : Int) = idx a0 (j : Int) := fun i j => by rw [← hE]
  unfold graph_renumbered
  refine tri_must ⟨by omega, by omega, by omega⟩ ?_
  refine tri_iter (fun s : List (Int × Int) × List Int × Int => ∃ k : Nat, s.2.2 = (k : Int) ∧ k ≤ a0.length ∧ s.2.1.length = a0.length ∧ (∀ p, mhas s.1 p = true ↔ ∃ j, j < k ∧ idx a0 (j : Int) = p) ∧ (∀ j : Nat, j < k → mat s.1 (idx a0 (j : Int)) = idx s.2.1 (j : Int)) ∧
    s.1.length = firsts E k ∧ (∀ i : Nat, i < k → ∀ j : Nat, j < i → E j i → idx s.2.1 (i : Int) = idx s.2.1 (j : Int)) ∧ (∀ i : Nat, i < k → (∀ j, j < i → ¬ E j i) → idx s.2.1 (i : Int) = (firsts E i : Nat)))
    (fun s => a0.length - s.2.2.toNat) ?_ ?_
  · exact ⟨0, rfl, by omega, by simp, fun p => ⟨fun h => by simp [mhas] at h, fun ⟨j, hj, _⟩ => by omega⟩, fun j hj => by omega, rfl, fun i hi => by omega, fun i hi => by omega⟩
  rintro ⟨m, out_, x⟩ ⟨k, i1, hk, i2, i3, i4, i5, i6, i7⟩
  have hx : x = (k : Int) := i1
  have hol : out_.length = a0.length := i2
  have hhas : ∀ p, mhas m p = true ↔ ∃ j, j < k ∧ idx a0 ((j : Nat) : Int) = p := i3
  have hmat : ∀ j : Nat, j < k → mat m (idx a0 (j : Int)) = idx out_ (j : Int) := i4
  have hml : m.length = firsts E k := i5
  have hsame : ∀ i : Nat, i < k → ∀ j : Nat, j < i → E j i → idx out_ (i : Int) = idx out_ (j : Int) := i6
  have hnew : ∀ i : Nat, i < k → (∀ j, j < i → ¬ E j i) → idx out_ (i : Int) = (firsts E i : Nat) := i7
  clear i1 i2 i3 i4 i5 i6 i7
  subst hx
  show Tri (bif decide ((k : Int) < (a0.length : Int)) then _ else _) _
  refine tri_bif (fun h => ?_) (fun h => ?_)
  · have h : (k : Int) < a0.length := of_decide_eq_true h
    have hk' : k < a0.length := by omega
    refine tri_must ⟨by omega, h⟩ ?_
    have go : ∀ m' : List (Int × Int), (∀ p, mhas m' p = true ↔ ∃ j, j < k + 1 ∧ idx a0 ((j : Nat) : Int) = p) → (∀ j : Nat, j < k → mat m' (idx a0 (j : Int)) = idx out_ (j : Int)) → m'.length = firsts E (k + 1) →
        (∀ j : Nat, j < k → E j k → mat m' (idx a0 (k : Int)) = idx out_ (j : Int)) → ((∀ j, j < k → ¬ E j k) → mat m' (idx a0 (k : Int)) = (firsts E k : Nat)) →
        Tri (graph_renumbered.j2 a0 out_ (k : Int) m') (Rnd (fun s : List (Int × Int) × List Int × Int => ∃ k : Nat, s.2.2 = (k : Int) ∧ k ≤ a0.length ∧ s.2.1.length = a0.length ∧ (∀ p, mhas s.1 p = true ↔ ∃ j, j < k ∧ idx a0 (j : Int) = p) ∧ (∀ j : Nat, j < k → mat s.1 (idx a0 (j : Int)) = idx s.2.1 (j : Int)) ∧
          s.1.length = firsts E k ∧ (∀ i : Nat, i < k → ∀ j : Nat, j < i → E j i → idx s.2.1 (i : Int) = idx s.2.1 (j : Int)) ∧ (∀ i : Nat, i < k → (∀ j, j < i → ¬ E j i) → idx s.2.1 (i : Int) = (firsts E i : Nat)))
          (fun s => a0.length - s.2.2.toNat) (Canon a0.length E) (m, out_, (k : Int))) := by
      intro m' g1 g2 g3 g4 g5
      unfold graph_renumbered.j2
      have hset : ∀ j : Nat, idx (out_.set k (mat m' (idx a0 (k : Int)))) (j : Int) = if j = k then mat m' (idx a0 (k : Int)) else idx out_ (j : Int) := fun j => idx_setn (by omega)
      refine tri_must ⟨by omega, by omega⟩ ⟨_, rfl, ⟨k + 1, w64zsucc (by omega), by omega, by simp [hol], g1, fun j hj => ?_, g3, fun i hi j hj he => ?_, fun i hi hne => ?_⟩, ?_⟩
      · rw [Int.toNat_natCast, hset]
        by_cases e : j = k
        · rw [if_pos e, e]
        · rw [if_neg e]; exact g2 j (by omega)
      · rw [Int.toNat_natCast, hset, hset, if_neg (show ¬ j = k by omega)]
        by_cases e : i = k
        · subst e; rw [if_pos rfl]; exact g4 j hj he
        · rw [if_neg e]; exact hsame i (by omega) j hj he
      · rw [Int.toNat_natCast, hset]
        by_cases e : i = k
        · subst e; rw [if_pos rfl]; exact g5 hne
        · rw [if_neg e]; exact hnew i (by omega) hne
      · show a0.length - (w64 ((k : Int) + 1)).toNat < a0.length - ((k : Int)).toNat
        rw [w64zsucc (by omega)]
        omega
    refine tri_bif (fun hm => ?_) (fun hm => ?_)
    · have hm : mhas m (idx a0 (k : Int)) = false := by simpa using hm
      have hno : ∀ j, j < k → ¬ E j k := fun j hj he => by
        have := (hhas (idx a0 (k : Int))).2 ⟨j, hj, (hEd j k).1 he⟩
        rw [hm] at this
        cases this
      refine go _ (fun p => ?_) (fun j hj => ?_) ?_ (fun j hj he => absurd he (hno j hj)) (fun _ => ?_)
      · rw [mhas_put, Bool.or_eq_true, hhas, decide_eq_true_eq]
        constructor
        · rintro (⟨j, hj, he⟩ | he)
          · exact ⟨j, by omega, he⟩
          · exact ⟨k, by omega, he⟩
        · rintro ⟨j, hj, he⟩
          by_cases e : j = k
          · subst e; exact Or.inr he
          · exact Or.inl ⟨j, by omega, he⟩
      · rw [mat_put, if_neg (fun e => hno j hj ((hEd j k).2 e))]
        exact hmat j hj
      · rw [len_put hm, hml]
        show firsts E k + 1 = firsts E k + _
        rw [if_neg (fun ⟨j, hj, he⟩ => hno j hj he)]
      · rw [mat_put, if_pos rfl, hml]
    · have hm : mhas m (idx a0 (k : Int)) = true := by simpa using hm
      obtain ⟨j0, hj0, he0⟩ := (hhas _).1 hm
      refine go m (fun p => ?_) hmat ?_ (fun j hj he => ?_) (fun hno => absurd ((hEd j0 k).2 he0) (hno j0 hj0))
      · rw [hhas]
        constructor
        · rintro ⟨j, hj, he⟩; exact ⟨j, by omega, he⟩
        · rintro ⟨j, hj, he⟩
          by_cases e : j = k
          · subst e; exact ⟨j0, hj0, he0.trans he⟩
          · exact ⟨j, by omega, he⟩
      · rw [hml]
        show firsts E k = firsts E k + _
        rw [if_pos ⟨j0, hj0, (hEd j0 k).2 he0⟩]
        rfl
      · rw [← (hEd j k).1 he]
        exact hmat j hj
  · have h : ¬ (k : Int) < a0.length := of_decide_eq_false h
    have e : k = a0.length := by omega
    subst e
    exact tri_out ⟨_, rfl, hol, hsame, hnew⟩
theorem Eqv.symm {S : Nat → Nat → Prop} {u v : Nat} (h : Eqv S u v) : Eqv S v u := ⟨h.2, h.1⟩
theorem Eqv.trans {S : Nat → Nat → Prop} {u v w : Nat} (h : Eqv S u v) (h' : Eqv S v w) : Eqv S u w := ⟨h.1.trans h'.1, h'.2.trans h.2⟩
theorem graph_Parts_told {g : Graph} (mask : Int) (hg : Good g) : Tri (graph_Parts g mask) (fun r => r.2 = 0 ∧ Canon g.N.toNat (Eqv (Sel g mask)) r.1) := by
  have hn0 := hg.n0
  have hn1 := hg.n1
  generalize hn : g.N.toNat = n
  have hN : g.N = n := by omega
  have hrt := graph_rows_told mask hg
  have hS : ∀ i j, Sel g mask i j → i < n ∧ j < n := fun i j h => by subst hn; exact sel_lt hg h
  generalize Sel g mask = S at hrt hS ⊢
  rw [hn] at hrt
  unfold graph_Parts
  rw [check_good hg]
  show Tri ((graph_rows g mask).bind _) _
  refine tri_bind hrt (fun ws hws => ?_)
  refine tri_must ⟨by omega, by omega, by omega⟩ ?_
  unfold graph_Parts.j1
  rw [hn]
  have hdef : ∀ j : Nat, idx (List.replicate n (default : Int)) (j : Int) = 0 := fun j => idx_rep n j
  refine tri_iter (fun s : List Int × List Int × List Int × List Int × List Int × Int × Int × Int => ∃ k : Nat, s.2.2.2.2.2.2.2 = (k : Int) ∧ k ≤ n ∧ s.1 = ws ∧ s.2.2.2.2.1 = [] ∧ (∃ LF, DJ n S s.2.1 s.2.2.1 s.2.2.2.1 [] [] LF s.2.2.2.2.2.1 s.2.2.2.2.2.2.1 []) ∧ ∀ v : Nat, v < k → idx s.2.1 (v : Int) ≠ 0)
    (fun s => n - s.2.2.2.2.2.2.2.toNat) ?_ ?_
  · refine ⟨0, rfl, by omega, rfl, rfl, ⟨fun _ _ => False, ?_⟩, fun v hv => by omega⟩
    refine ⟨?_, by simp, by simp, by simp, rfl, fun f hf => (by cases hf), fun v hv => (by cases hv), ?_, ?_, ?_⟩
    · refine ⟨fun v => ⟨fun h => (by cases h), fun h => absurd (hdef v) h.2.1⟩, List.Pairwise.nil, List.Pairwise.nil, fun v hv => hv, fun p hp => (by cases hp), fun v hv => (by cases hv), fun v hv => ?_, fun u v _ _ h _ => absurd (hdef u) h, fun v hv => ?_, fun v _ h => absurd (hdef v) h, fun v w _ h _ => absurd (hdef v) h, fun u v _ _ h _ => absurd (hdef u) h,
        fun v hv => (by cases hv), fun v hv => (by cases hv), fun v hv => (by cases hv), fun v hv => (by cases hv), fun v hv => (by cases hv), fun v hv => (by cases hv), Int.le_refl _, Int.le_refl _⟩
      · show 0 ≤ idx (List.replicate n (default : Int)) (v : Int) ∧ idx (List.replicate n (default : Int)) (v : Int) ≤ 0
        rw [hdef]; exact ⟨Int.le_refl _, Int.le_refl _⟩
      · show 0 ≤ idx (List.replicate n (default : Int)) (v : Int) ∧ idx (List.replicate n (default : Int)) (v : Int) ≤ 0
        rw [hdef]; exact ⟨Int.le_refl _, Int.le_refl _⟩
    · show (0 : Int) + ((zeros (List.replicate n (default : Int)) : Nat) : Int) ≤ n
      rw [zeros_rep]; omega
    · show 0 + zeros (List.replicate n (default : Int)) ≤ n
      rw [zeros_rep]; omega
    · show ((0 : Nat) : Int) + 0 + ((zeros (List.replicate n (default : Int)) : Nat) : Int) ≤ n
      rw [zeros_rep]; omega
  rintro ⟨st, nu, lo, pa, op, c, q, x⟩ ⟨k, i1, hk, i2, i3, i4, i5⟩
  have hx : x = (k : Int) := i1
  have e1 : st = ws := i2
  have e2 : op = [] := i3
  have e4 : ∀ v : Nat, v < k → idx nu (v : Int) ≠ 0 := i5
  have hd : ∃ LF, DJ n S nu lo pa [] [] LF c q [] := i4
  clear i1 i2 i3 i4 i5
  subst hx e1 e2
  obtain ⟨LF, d⟩ := hd
  have ln := d.ln
  show Tri (bif decide ((k : Int) < g.N) then _ else _) _
  refine tri_bif (fun h => ?_) (fun h => ?_)
  · have h : (k : Int) < g.N := of_decide_eq_true h
    have hkn : k < n := by omega
    refine tri_must ⟨by omega, by omega⟩ ?_
    refine tri_bif (fun h0 => ?_) (fun h0 => ?_)
    · have h0 : idx nu (k : Int) = 0 := by simpa using h0
      refine tri_bind (down_told hws (by omega) hS d hkn h0) ?_
      rintro ⟨r1, r2, r3, r4, r5, r6, r7⟩ ⟨i1, i2, i3, i4, i5⟩
      refine ⟨_, rfl, ⟨k + 1, w64zsucc (by omega), by omega, i1, i2, i3, fun v hv => ?_⟩, ?_⟩
      · by_cases e : v = k
        · subst e; exact i4
        · exact i5 v (by omega) (e4 v (by omega))
      · show n - (w64 ((k : Int) + 1)).toNat < n - ((k : Int)).toNat
        rw [w64zsucc (by omega)]
        omega
    · have h0 : idx nu (k : Int) ≠ 0 := by simpa using h0
      refine ⟨_, rfl, ⟨k + 1, w64zsucc (by omega), by omega, rfl, rfl, ⟨LF, d⟩, fun v hv => ?_⟩, ?_⟩
      · by_cases e : v = k
        · subst e; exact h0
        · exact e4 v (by omega)
      · show n - (w64 ((k : Int) + 1)).toNat < n - ((k : Int)).toNat
        rw [w64zsucc (by omega)]
        omega
  · have h : ¬ (k : Int) < g.N := of_decide_eq_false h
    have hkn : k = n := by omega
    subst hkn
    have lp := d.lp
    have hpa : ∀ v, v < k → idx pa (v : Int) ≠ 0 := fun v hv hp => by
      have := (d.tj.inO v).2 ⟨hv, e4 v hv, hp⟩
      cases this
    refine tri_bind (renumbered_told (a0 := pa) (by omega)) (fun l hl => tri_out ⟨_, rfl, rfl, ?_⟩)
    rw [lp] at hl
    exact hl.congr fun i j hi hj => d.tj.cls i j hi hj (hpa i hi) (hpa j hj)
theorem ref_Parts_told {g : Graph} (mask : Int) (hg : Good g) : Tri (assizeref06zParts g mask) (fun r => r.2 = 0 ∧ Canon g.N.toNat (Eqv (Sel g mask)) r.1) := by
  have hn0 := hg.n0
  have hn1 := hg.n1
  generalize hn : g.N.toNat = n
  have hN : g.N = n := by omega
  have hct := ref_Closure_told mask hg
  generalize Sel g mask = S at hct ⊢
  rw [hn] at hct
  unfold assizeref06zParts
  refine tri_bind hct ?_
  rintro ⟨m, e⟩ ⟨i1, i2⟩
  have he : e = 0 := i1
  have hm : Mx m n (Way S) := i2
  clear i1 i2
  subst he
  show Tri (must (0 ≤ g.N ∧ g.N ≤ 9223372036854775807 ∧ (8 : Int) * g.N ≤ 281474976710656) (iter (assizeref06zParts.s1 g (m, 0)) (List.replicate g.N.toNat (default : Int), 0, 0))) _
  refine tri_must ⟨by omega, by omega, by omega⟩ ?_
  rw [hn]
  generalize hE : Eqv S = E
  have hEd : ∀ i j, j ≠ i → (E j i ↔ Way S i j ∧ Way S j i) := fun i j hne => by
    rw [← hE]
    unfold Eqv Rch
    constructor
    · rintro ⟨h1, h2⟩
      exact ⟨h2.elim (fun e => absurd e.symm hne) id, h1.elim (fun e => absurd e hne) id⟩
    · rintro ⟨h1, h2⟩; exact ⟨Or.inr h2, Or.inr h1⟩
  have hEt : ∀ a b c, E a c → E b c → E a b := fun a b c h1 h2 => by rw [← hE] at h1 h2 ⊢; exact h1.trans h2.symm
  let I : List Int × Int × Int → Prop := fun s => ∃ k : Nat, s.2.2 = (k : Int) ∧ k ≤ n ∧ s.1.length = n ∧ s.2.1 = (firsts E k : Nat) ∧ (∀ i : Nat, i < k → 0 ≤ idx s.1 (i : Int)) ∧ (∀ i : Nat, i < k → ∀ j : Nat, j < i → E j i → idx s.1 (i : Int) = idx s.1 (j : Int)) ∧ (∀ i : Nat, i < k → (∀ j, j < i → ¬ E j i) → idx s.1 (i : Int) = (firsts E i : Nat))
  refine tri_iter I (fun s => n - s.2.2.toNat) ⟨0, rfl, by omega, by simp, rfl, fun i hi => by omega, fun i hi => by omega, fun i hi => by omega⟩ ?_
  rintro ⟨l0, c, x⟩ ⟨k, i1, hk, i2, i3, i4, i5, i6⟩
  have hx : x = (k : Int) := i1
  have hl0 : l0.length = n := i2
  have hc : c = (firsts E k : Nat) := i3
  have h0 : ∀ i : Nat, i < k → 0 ≤ idx l0 (i : Int) := i4
  have hsame : ∀ i : Nat, i < k → ∀ j : Nat, j < i → E j i → idx l0 (i : Int) = idx l0 (j : Int) := i5
  have hnew : ∀ i : Nat, i < k → (∀ j, j < i → ¬ E j i) → idx l0 (i : Int) = (firsts E i : Nat) := i6
  clear i1 i2 i3 i4 i5 i6
  subst hx
  have hfl := firsts_le E k
  show Tri (bif decide ((k : Int) < g.N) then _ else _) _
  refine tri_bif (fun h => ?_) (fun h => ?_)
  · have h : (k : Int) < g.N := of_decide_eq_true h
    have hkn : k < n := by omega
    refine tri_must ⟨by omega, by omega⟩ ?_
    rw [Int.toNat_natCast]
    -- what holds while the earlier ones are looked at
    let J : Nat → List Int → Prop := fun j l => l.length = n ∧ (∀ q : Nat, q < k → idx l (q : Int) = idx l0 (q : Int)) ∧ ((idx l (k : Int) = -1 ∧ ∀ q, q < j → ¬ E q k) ∨ (0 ≤ idx l (k : Int) ∧ ∃ q : Nat, q < k ∧ E q k ∧ idx l (k : Int) = idx l0 (q : Int)))
    have tail : ∀ (j : Nat) (l : List Int), j ≤ k → J j l → (idx l (k : Int) = -1 → j = k) → Tri (assizeref06zParts.j4 (m, 0) c (k : Int) l (j : Int) false) (Up2 k j J (Rnd I (fun s => n - s.2.2.toNat) (fun r => r.2 = 0 ∧ Canon n E r.1) (l0, c, (k : Int)))) := by
      rintro j l hj ⟨g1, g2, g3⟩ g4
      unfold assizeref06zParts.j4
      show Tri (must (0 ≤ (k : Int) ∧ (k : Int) < (l.length : Int)) (bif decide (idx l (k : Int) < 0) then out (assizeref06zParts.j2 (k : Int) (l.set (k : Int).toNat c) (w64 (c + 1))) else (out (assizeref06zParts.j2 (k : Int) l c)))) _
      refine tri_must ⟨by omega, by omega⟩ ?_
      refine tri_bif (fun hneg => ?_) (fun hneg => ?_)
      · have hneg : idx l (k : Int) < 0 := of_decide_eq_true hneg
        have hm1 : idx l (k : Int) = -1 ∧ ∀ q, q < j → ¬ E q k := by
          rcases g3 with g3 | g3
          · exact g3
          · omega
        have hjk := g4 hm1.1
        subst hjk
        have hset : ∀ q : Nat, idx (l.set j c) (q : Int) = if q = j then c else idx l (q : Int) := fun q => idx_setn (by omega)
        have hf1 : firsts E (j + 1) = firsts E j + 1 := by
          show firsts E j + _ = _
          rw [if_neg (fun ⟨q, hq, he⟩ => hm1.2 q hq he)]
        refine tri_out ⟨_, rfl, ⟨j + 1, w64zsucc (by omega), by omega, by simp [g1], ?_, fun i hi => ?_, fun i hi q hq he => ?_, fun i hi hno => ?_⟩, ?_⟩
        · show w64 (c + 1) = _
          rw [hf1, hc, w64zid (by omega) (by omega)]
          omega
        · rw [Int.toNat_natCast, hset]
          by_cases e : i = j
          · rw [if_pos e]; omega
          · rw [if_neg e, g2 i (by omega)]; exact h0 i (by omega)
        · rw [Int.toNat_natCast, hset, hset, if_neg (show ¬ q = j by omega)]
          by_cases e : i = j
          · subst e; exact absurd he (hm1.2 q hq)
          · rw [if_neg e, g2 i (by omega), g2 q (by omega)]; exact hsame i (by omega) q hq he
        · rw [Int.toNat_natCast, hset]
          by_cases e : i = j
          · subst e; rw [if_pos rfl]; exact hc
          · rw [if_neg e, g2 i (by omega)]; exact hnew i (by omega) hno
        · show n - (w64 ((j : Int) + 1)).toNat < n - ((j : Int)).toNat
          rw [w64zsucc (by omega)]
          omega
      · have hneg : ¬ idx l (k : Int) < 0 := of_decide_eq_false hneg
        obtain ⟨q0, hq0, he0, hv0⟩ : ∃ q : Nat, q < k ∧ E q k ∧ idx l (k : Int) = idx l0 (q : Int) := by
          rcases g3 with g3 | g3
          · omega
          · exact g3.2
        have hf1 : firsts E (k + 1) = firsts E k := by
          show firsts E k + _ = _
          rw [if_pos ⟨q0, hq0, he0⟩]
          rfl
        refine tri_out ⟨_, rfl, ⟨k + 1, w64zsucc (by omega), by omega, g1, ?_, fun i hi => ?_, fun i hi q hq he => ?_, fun i hi hno => ?_⟩, ?_⟩
        · show c = _
          rw [hf1, hc]
        · show 0 ≤ idx l (i : Int)
          by_cases e : i = k
          · subst e; omega
          · rw [g2 i (by omega)]; exact h0 i (by omega)
        · by_cases e : i = k
          · subst e
            have hqq : E q q0 := hEt q q0 i he he0
            rw [hv0, g2 q hq]
            by_cases e1 : q < q0
            · exact hsame q0 hq0 q e1 hqq
            · by_cases e2 : q = q0
              · rw [e2]
              · exact (hsame q hq q0 (by omega) (hEt q0 q i he0 he)).symm
          · rw [g2 i (by omega), g2 q (by omega)]; exact hsame i (by omega) q hq he
        · by_cases e : i = k
          · subst e; exact absurd he0 (hno q0 hq0)
          · rw [g2 i (by omega)]; exact hnew i (by omega) hno
        · show n - (w64 ((k : Int) + 1)).toNat < n - ((k : Int)).toNat
          rw [w64zsucc (by omega)]
          omega
    have hset0 : ∀ q : Nat, idx (l0.set k (-1)) (q : Int) = if q = k then -1 else idx l0 (q : Int) := fun q => idx_setn (by omega)
    refine tri_up2 k J ⟨by simp [hl0], fun q hq => by rw [hset0, if_neg (by omega)], Or.inl ⟨by rw [hset0, if_pos rfl], fun q hq => by omega⟩⟩ (fun j l hj hJ => ?_)
    show Tri (bif decide ((j : Int) < (k : Int)) then must (0 ≤ (k : Int) ∧ (k : Int) < (l.length : Int)) (assizeref06zParts.j4 (m, 0) c (k : Int) l (j : Int) (decide (idx l (k : Int) < 0))) else (assizeref06zParts.j4 (m, 0) c (k : Int) l (j : Int) false)) _
    have hJ1 := hJ.1
    refine tri_bif (fun h => ?_) (fun h => ?_)
    · have h : (j : Int) < (k : Int) := of_decide_eq_true h
      refine tri_must ⟨by omega, by omega⟩ ?_
      by_cases hneg : idx l (k : Int) < 0
      · rw [decide_eq_true hneg]
        have hm1 : idx l (k : Int) = -1 ∧ ∀ q, q < j → ¬ E q k := by
          rcases hJ.2.2 with g3 | g3
          · exact g3
          · omega
        have r1 := hm.2 k hkn
        have r2 := hm.2 j (by omega)
        have hml := hm.1
        have r1l := r1.1
        have r2l := r2.1
        unfold assizeref06zParts.j4
        show Tri (must (0 ≤ (k : Int) ∧ (k : Int) < (m.length : Int)) (must (0 ≤ (j : Int) ∧ (j : Int) < ((idx m (k : Int)).length : Int)) (bif idx (idx m (k : Int)) (j : Int) then must (0 ≤ (j : Int) ∧ (j : Int) < (m.length : Int)) (must (0 ≤ (k : Int) ∧ (k : Int) < ((idx m (j : Int)).length : Int)) (assizeref06zParts.j6 (k : Int) l (j : Int) (idx (idx m (j : Int)) (k : Int)))) else (assizeref06zParts.j6 (k : Int) l (j : Int) false)))) _
        refine tri_must ⟨by omega, by omega⟩ (tri_must ⟨by omega, by omega⟩ ?_)
        have no : ¬ E j k → Tri (assizeref06zParts.j6 (k : Int) l (j : Int) false) (Up2 k j J (Rnd I (fun s => n - s.2.2.toNat) (fun r => r.2 = 0 ∧ Canon n E r.1) (l0, c, (k : Int)))) := fun hne =>
          ⟨_, rfl, w64zsucc (by omega), by omega, hJ.1, hJ.2.1, Or.inl ⟨hm1.1, fun q hq => by
            by_cases e : q = j
            · rw [e]; exact hne
            · exact hm1.2 q (by omega)⟩⟩
        refine tri_bif (fun hb => ?_) (fun hb => no fun he => ?_)
        · refine tri_must ⟨by omega, by omega⟩ (tri_must ⟨by omega, by omega⟩ ?_)
          have w1 := (r1.2 j (by omega)).1 hb
          cases hb2 : idx (idx m (j : Int)) (k : Int) with
          | false =>
            refine no fun he => ?_
            have := (r2.2 k hkn).2 ((hEd k j (by omega)).1 he).2
            rw [hb2] at this
            cases this
          | true =>
            have w2 := (r2.2 k hkn).1 hb2
            have hset : ∀ q : Nat, idx (l.set k (idx l (j : Int))) (q : Int) = if q = k then idx l (j : Int) else idx l (q : Int) := fun q => idx_setn (by omega)
            unfold assizeref06zParts.j6
            show Tri (must (0 ≤ (j : Int) ∧ (j : Int) < (l.length : Int)) (must (0 ≤ (k : Int) ∧ (k : Int) < (l.length : Int)) (assizeref06zParts.j5 (j : Int) (l.set (k : Int).toNat (idx l (j : Int)))))) _
            refine tri_must ⟨by omega, by omega⟩ (tri_must ⟨by omega, by omega⟩ ⟨_, rfl, w64zsucc (by omega), by omega, by simp [hJ.1], fun q hq => ?_, Or.inr ?_⟩)
            · rw [Int.toNat_natCast, hset, if_neg (by omega)]; exact hJ.2.1 q hq
            · rw [Int.toNat_natCast, hset, if_pos rfl, hJ.2.1 j (by omega)]
              exact ⟨h0 j (by omega), j, by omega, (hEd k j (by omega)).2 ⟨w1, w2⟩, rfl⟩
        · have := (r1.2 j (by omega)).2 ((hEd k j (by omega)).1 he).1
          rw [hb] at this
          cases this
      · rw [decide_eq_false hneg]
        exact tail j l hj hJ (fun hm1 => by omega)
    · have h : ¬ (j : Int) < (k : Int) := of_decide_eq_false h
      exact tail j l hj hJ (fun _ => by omega)
  · have h : ¬ (k : Int) < g.N := of_decide_eq_false h
    have hkn : k = n := by omega
    subst hkn
    exact tri_out ⟨_, rfl, rfl, hl0, hsame, hnew⟩
end Go.Proofs.YtncapkloanfmnaaDoorT
