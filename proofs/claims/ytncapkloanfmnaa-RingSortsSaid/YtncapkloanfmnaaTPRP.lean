/- RingSorts, RingTurned. -/
import Derived.Test.YtncapkloanfmnaaTPRO
namespace Go.Proofs.YtncapkloanfmnaaT
open Go Go.Proofs Go.Proofs.YtncapkloanfmnaaE
set_option linter.unusedVariables false
set_option linter.unusedSimpArgs false
set_option linter.unusedSectionVars false
theorem wrap_bv (v : BitVec 64) : BitVec.ofInt 64 (IntKind.wrap .i64 (v.toNat : Int)) = v := by
  apply BitVec.eq_of_toNat_eq
  rw [BitVec.toNat_ofInt]
  have h := v.isLt
  unfold IntKind.wrap
  simp only [IntKind.bits, IntKind.signed, Bool.true_and, decide_eq_true_eq]
  split <;> omega
theorem and_or {x d r : Int} : bAnd .i64 x (bOr .i64 d r) ≠ 0 ↔ bAnd .i64 x d ≠ 0 ∨ bAnd .i64 x r ≠ 0 := by
  have hz : ∀ v : BitVec 64, IntKind.wrap .i64 (v.toNat : Int) = 0 ↔ v = 0#64 := by
    intro v
    constructor
    · intro h
      rw [← wrap_bv v, h]
      rfl
    · rintro rfl; rfl
  have hb : ∀ a b : Int, bAnd .i64 a b = 0 ↔ BitVec.ofInt 64 a &&& BitVec.ofInt 64 b = 0#64 := fun a b => hz _
  rw [Ne, Ne, Ne, hb, hb, hb]
  have ho : BitVec.ofInt 64 (bOr .i64 d r) = BitVec.ofInt 64 d ||| BitVec.ofInt 64 r := wrap_bv _
  rw [ho]
  generalize BitVec.ofInt 64 x = X
  generalize BitVec.ofInt 64 d = D
  generalize BitVec.ofInt 64 r = R
  have e : X &&& (D ||| R) = (X &&& D) ||| (X &&& R) := by
    ext i
    simp [Bool.and_or_distrib_left]
  rw [e]
  have hor : ∀ A B : BitVec 64, A ||| B = 0#64 ↔ A = 0#64 ∧ B = 0#64 := by
    intro A B
    constructor
    · intro h
      constructor
      · ext i hi
        have := congrArg (fun v => v.getLsbD i) h
        simp at this ⊢
        have h2 := this
        simp [BitVec.getLsbD_eq_getElem hi] at h2
        exact h2.1
      · ext i hi
        have := congrArg (fun v => v.getLsbD i) h
        simp at this ⊢
        have h2 := this
        simp [BitVec.getLsbD_eq_getElem hi] at h2
        exact h2.2
    · rintro ⟨rfl, rfl⟩; rfl
  rw [hor]
  exact Classical.not_and_iff_not_or_not
theorem hasE_or {g : Graph} {d r a b : Int} : hasE g (bOr .i64 d r) a b = true ↔ hasE g d a b = true ∨ hasE g r a b = true := by
  rw [hasE_mem, hasE_mem, hasE_mem]
  constructor
  · rintro ⟨e, he, h1, h2, h3⟩
    rcases and_or.1 h3 with h | h
    · exact .inl ⟨e, he, h1, h2, h⟩
    · exact .inr ⟨e, he, h1, h2, h⟩
  · rintro (⟨e, he, h1, h2, h⟩ | ⟨e, he, h1, h2, h⟩)
    · exact ⟨e, he, h1, h2, and_or.2 (.inl h)⟩
    · exact ⟨e, he, h1, h2, and_or.2 (.inr h)⟩
theorem haslen_pos {g : Graph} {d r : Int} {s : Sot} {k : Nat} (h : HasLen g d r s k) : 0 < k := by
  cases s with
  | plain => obtain ⟨c, hc⟩ := h; exact hc.pos
  | single => obtain ⟨c, hc⟩ := h; exact hc.pos
  | spaced => obtain ⟨c, hc⟩ := h; exact hc.pos
theorem least_le {p : Nat → Prop} (hp : ∀ k, p k → 0 < k) {m k : Nat} (hm : Least p m) (hk : p k) : 0 < m ∧ m ≤ k := by
  rcases hm with ⟨_, h⟩ | ⟨h1, h2⟩
  · exact (h k hk).elim
  · exact ⟨hp _ h1, h2 k hk⟩
theorem least_pos {p : Nat → Prop} {m : Nat} (hm : Least p m) (h : 0 < m) : p m := by
  rcases hm with ⟨h1, _⟩ | ⟨h1, _⟩
  · omega
  · exact h1
theorem single_spaced {g : Graph} {d r : Int} {k : Nat} (h : HasLen g d r .single k) (hk : 1 < k) : HasLen g d r .spaced k := by
  obtain ⟨c, hc⟩ := h
  refine ⟨c, hc.pos, hc.per, hc.node, fun i => ?_⟩
  have hm := Nat.mod_lt i hc.pos
  have e : ∀ j, c (i % k + j) = c (i + j) := by
    intro j
    rw [← per_mod hc.per (i % k + j), ← per_mod hc.per (i + j), Nat.mod_add_mod]
  rcases Nat.eq_zero_or_pos (i % k) with h0 | h0
  · right
    have h1 := hc.one
    have h2 := hc.rest 1 (by omega) hk
    have e0 := e 0
    have e1 := e 1
    have e2 := e 2
    rw [h0] at e0 e1 e2
    simp only [Nat.zero_add, Nat.add_zero] at e0 e1 e2
    rw [e0, e1] at h1
    rw [e1, show (1 + 1 : Nat) = 2 from rfl, e2] at h2
    exact ⟨h1, h2⟩
  · left
    have h1 := hc.rest _ h0 hm
    have e0 := e 0
    rw [Nat.add_zero, Nat.add_zero] at e0
    rw [e 1, e0] at h1
    exact h1
theorem ring_badP {g : Graph} (hg : ¬ Good g) (d r : Int) : ring_Spaced g d r = some ([], 60) ∧ ring_Single g d r = some ([], 60) ∧ ring_Plain g d = some ([], 60) := by
  have h1 : ring_Spaced g d r = some ([], 60) := by unfold ring_Spaced; rw [check_bad hg]; rfl
  have h2 : ring_Spaced g d 0 = some ([], 60) := by unfold ring_Spaced; rw [check_bad hg]; rfl
  refine ⟨h1, by unfold ring_Single; rw [check_bad hg]; rfl, by unfold ring_Plain; rw [h2]; rfl⟩
theorem RingSorts_law (g : Graph) (d r : Int) {u v w : Prop} (_ : u) (_ : v) (_ : w) : assizelaw07zRingSorts g d r = some true := by
  unfold assizelaw07zRingSorts
  rw [assizelaw07zalive_true]
  simp only [Option.bind_some, Bool.not_true, cond_false]
  by_cases hg : Good g
  · obtain ⟨e1, c1, q1, t1⟩ := plain_told hg d r
    obtain ⟨e2, c2, q2, t2⟩ := single_told hg d r
    obtain ⟨e3, c3, q3, t3⟩ := spaced_told hg d r
    obtain ⟨e4, c4, q4, t4⟩ := plain_told hg (bOr .i64 d r) r
    rw [q1, q2, q3, q4]
    simp only [Option.bind_some, bne_self_eq_false, cond_false]
    unfold assizelaw07zRingSorts.j1 assizelaw07zRingSorts.j2
    simp only [cond_false]
    have hp : ∀ {d r : Int} {s : Sot} (k : Nat), HasLen g d r s k → 0 < k := fun k h => haslen_pos h
    have A : 0 < e1.length → 0 < e3.length ∧ e3.length ≤ e1.length := by
      intro h
      refine least_le hp t3.least ?_
      obtain ⟨c, hc⟩ := least_pos t1.least h
      refine ⟨c, hc.pos, hc.per, hc.node, fun i => ?_⟩
      rcases hc.edge i with h1 | h1
      · exact .inl h1
      · rw [hasE_zero] at h1; cases h1.1
    have B : 1 < e2.length → 0 < e3.length ∧ e3.length ≤ e2.length := by
      intro h
      exact least_le hp t3.least (single_spaced (least_pos t2.least (by omega)) h)
    have C : 0 < e3.length → 0 < e4.length ∧ e4.length ≤ e3.length := by
      intro h
      refine least_le hp t4.least ?_
      obtain ⟨c, hc⟩ := least_pos t3.least h
      refine ⟨c, hc.pos, hc.per, hc.node, fun i => .inl ?_⟩
      rcases hc.edge i with h1 | h1
      · exact hasE_or.2 (.inl h1)
      · exact hasE_or.2 (.inr h1.1)
    rw [← tri_eq]
    repeat' (first | with_reducible refine tri_if (fun hq => ?_) (fun hq => ?_) | with_reducible refine tri_some ?_)
    all_goals first | rfl | omega | (simp only [decide_eq_true_eq]; omega) | (rw [decide_eq_true_iff]; omega)
  · obtain ⟨h1, h2, h3⟩ := ring_badP hg d r
    obtain ⟨_, _, h4⟩ := ring_badP hg (bOr .i64 d r) r
    rw [h1, h2, h3, h4]
    rfl

/-! ### all edges turned round -/
def rev (e : Edge) : Edge := ⟨e.To, e.From, e.Kind, e.Key⟩
def turned (g : Graph) : Graph := ⟨g.N, g.Edges.map rev⟩
theorem turned_turned (g : Graph) : turned (turned g) = g := by
  unfold turned
  dsimp only
  rw [List.map_map, show rev ∘ rev = id from rfl, List.map_id]
theorem turned_good {g : Graph} (h : Good g) : Good (turned g) := by
  obtain ⟨h1, h2, h3, h4⟩ := good_mem.1 h
  refine good_mem.2 ⟨h1, h2, by simpa [turned] using h3, fun e he => ?_⟩
  obtain ⟨e', he', rfl⟩ := List.mem_map.1 he
  have := h4 e' he'
  unfold okEdge at this ⊢
  exact ⟨this.2.2.1, this.2.2.2.1, this.1, this.2.1, this.2.2.2.2⟩
theorem turned_has {g : Graph} {m a b : Int} : hasE (turned g) m a b = hasE g m b a := by
  rw [Bool.eq_iff_iff, hasE_mem, hasE_mem]
  constructor
  · rintro ⟨e, he, h1, h2, h3⟩
    obtain ⟨e', he', rfl⟩ := List.mem_map.1 he
    exact ⟨e', he', h2, h1, h3⟩
  · rintro ⟨e, he, h1, h2, h3⟩
    exact ⟨rev e, List.mem_map.2 ⟨e, he, rfl⟩, h2, h1, h3⟩
theorem per_mul {k : Nat} {c : Nat → Int} (hp : ∀ i, c (i + k) = c i) (q r : Nat) : c (r + k * q) = c r := by
  induction q generalizing r with
  | zero => simp
  | succ q ih => rw [show r + k * (q + 1) = (r + k * q) + k by rw [Nat.mul_add]; omega, hp, ih]
/-- the same nodes, the other way round -/
theorem back_at {k : Nat} {c : Nat → Int} (hk : 0 < k) (hp : ∀ i, c (i + k) = c i) (o i : Nat) : c ((k - 1) * i + o) = c ((k - 1) * (i + 1) + o + 1) ∧ c ((k - 1) * i + o) = c ((k - 1) * (i + 2) + o + 2) := by
  constructor
  · rw [show (k - 1) * (i + 1) + o + 1 = (k - 1) * i + o + k by rw [Nat.mul_add]; omega, hp]
  · rw [show (k - 1) * (i + 2) + o + 2 = ((k - 1) * i + o + k) + k by rw [Nat.mul_add]; omega, hp, hp]
theorem back_per {k : Nat} {c : Nat → Int} (hp : ∀ i, c (i + k) = c i) (o i : Nat) : c ((k - 1) * (i + k) + o) = c ((k - 1) * i + o) := by
  rw [show (k - 1) * (i + k) + o = ((k - 1) * i + o) + k * (k - 1) by rw [Nat.mul_add, Nat.mul_comm (k - 1) k]; omega]
  exact per_mul hp _ _
theorem turned_loop {t l t' l' : Int → Int → Bool} {n k : Nat} {c : Nat → Int} (ht : ∀ a b, t' a b = t b a) (hl : ∀ a b, l' a b = l b a) (h : FLoop t l n k c) : FLoop t' l' n k (fun i => c ((k - 1) * i + 0)) := by
  refine ⟨h.pos, fun i => back_per h.per 0 i, fun i => h.node _, fun i => ?_⟩
  have e1 := (back_at h.pos h.per 0 (i + 1)).1
  have e2 := (back_at h.pos h.per 0 i).2
  have a := h.edge ((k - 1) * (i + 2) + 0)
  have b := h.edge ((k - 1) * (i + 2) + 0 + 1)
  rw [ht, hl, ht, e1, e2]
  cases hc : t (c ((k - 1) * (i + 2) + 0 + 1)) (c ((k - 1) * (i + 2) + 0 + 2)) with
  | true => exact .inl rfl
  | false =>
    right
    rw [show (k - 1) * (i + 2) + 0 + 1 + 1 = (k - 1) * (i + 2) + 0 + 2 from rfl, hc] at b
    rw [hc] at a
    have b : l (c ((k - 1) * (i + 2) + 0 + 1)) (c ((k - 1) * (i + 2) + 0 + 2)) = true := by
      rcases b with b | b
      · cases b
      · exact b.1
    have a : t (c ((k - 1) * (i + 2) + 0)) (c ((k - 1) * (i + 2) + 0 + 1)) = true := by simpa using a
    exact ⟨b, a⟩
theorem turned_f2 {t l t' l' : Int → Int → Bool} {n k : Nat} {c : Nat → Int} (ht : ∀ a b, t' a b = t b a) (hl : ∀ a b, l' a b = l b a) (h : F2 t l n k c) : F2 t' l' n k (fun i => c ((k - 1) * i + 1)) := by
  have hk := h.pos
  refine ⟨h.pos, fun i => back_per h.per 1 i, fun i => h.node _, ?_, fun i h0 h1 => ?_⟩
  · rw [hl]
    have e : c ((k - 1) * 1 + 1) = c 0 := by
      rw [show (k - 1) * 1 + 1 = 0 + k by omega, h.per]
    rw [e, show (k - 1) * 0 + 1 = 1 by omega]
    exact h.one
  · rw [ht, (back_at h.pos h.per 1 i).1]
    -- the step to where that place is
    have e : ∀ j, c ((k - 1) * (i + 1) + 1 + j) = c ((k - i) + j) := by
      intro j
      rw [show (k - 1) * (i + 1) + 1 + j = ((k - i) + j) + k * i by
        obtain ⟨q, rfl⟩ : ∃ q, k = q + 1 := ⟨k - 1, by omega⟩
        rw [Nat.add_sub_cancel, Nat.mul_add, Nat.add_mul, Nat.one_mul, Nat.mul_one]
        have : i ≤ q + 1 := by omega
        omega]
      exact per_mul h.per _ _
    have h2 := h.rest (k - i) (by omega) (by omega)
    have e0 := e 0
    rw [Nat.add_zero, Nat.add_zero] at e0
    rw [e 1, e0]
    exact h2
theorem turned_len {g : Graph} {d r : Int} {s : Sot} {k : Nat} (h : HasLen g d r s k) : HasLen (turned g) d r s k := by
  have ht : ∀ m a b, hasE (turned g) m a b = hasE g m b a := fun m a b => turned_has
  cases s with
  | plain => obtain ⟨c, hc⟩ := h; exact ⟨_, turned_loop (ht d) (ht 0) hc⟩
  | single => obtain ⟨c, hc⟩ := h; exact ⟨_, turned_f2 (ht d) (ht r) hc⟩
  | spaced => obtain ⟨c, hc⟩ := h; exact ⟨_, turned_loop (ht d) (ht r) hc⟩
theorem RingTurned_law (g : Graph) (d r : Int) {p q u v : Prop} (g0 : p ∧ (q ∧ g.Edges.length * 32 ≤ 140737488351232)) (_ : u) (_ : v) : assizelaw07zRingTurned g d r = some true := by
  have hb := g0.2.2
  rw [← tri_eq]
  unfold assizelaw07zRingTurned
  rw [assizelaw07zalive_true]
  refine tri_sb ?_
  simp only [Bool.not_true, cond_false]
  refine tri_up2 g.Edges.length (fun k l => l = (List.range k).map fun i : Nat => rev (idx g.Edges (i : Int))) rfl ?_
  rintro k l hk rfl
  unfold assizelaw07zRingTurned.s1
  dsimp only
  refine tri_bif (fun ek => ?_) (fun ek => ?_)
  · have ek : k < g.Edges.length := by simpa using ek
    refine tri_must (by omega) (tri_must (by simp; omega) (tri_some ?_))
    rw [w64zin (by omega) (by omega)]
    exact ⟨by omega, ek, snoc_map (fun i : Nat => rev (idx g.Edges (i : Int))) k⟩
  · have ek : ¬ k < g.Edges.length := by simpa using ek
    obtain rfl : k = g.Edges.length := by omega
    have hmap : ((List.range g.Edges.length).map fun i : Nat => rev (idx g.Edges (i : Int))) = g.Edges.map rev := by
      apply List.ext_getElem (by simp)
      intro i h1 h2
      have h3 : i < g.Edges.length := by simpa using h1
      simp only [List.getElem_map, List.getElem_range]
      rw [idx_getG h3]
    rw [hmap]
    have same : ∀ rule, ∃ x y : List Edge × Int, assizelaw07ztold g d r rule = some x ∧ assizelaw07ztold ⟨g.N, g.Edges.map rev⟩ d r rule = some y ∧ x.2 = y.2 ∧ x.1.length = y.1.length := by
      intro rule
      by_cases hg : Good g
      · obtain ⟨s, es, c, e, hT, hs⟩ := told_is hg d r rule
        obtain ⟨s', es', c', e', hT', hs'⟩ := told_is (turned_good hg) d r rule
        have hss : s' = s := by rw [hs', hs]
        subst hss
        refine ⟨_, _, e, e', rfl, Least.eq (fun m => ⟨turned_len, fun h => ?_⟩) hT.least hT'.least⟩
        have := turned_len h
        rwa [turned_turned] at this
      · have hg' : ¬ Good (turned g) := fun h => hg (by have := turned_good h; rwa [turned_turned] at this)
        exact ⟨_, _, told_bad hg d r rule, told_bad hg' d r rule, rfl, rfl⟩
    refine tri_iter (fun x : Int => 1 ≤ x ∧ x ≤ 4) (fun x => (4 - x).toNat) ⟨by decide, by decide⟩ ?_
    rintro x ⟨h1, h2⟩
    unfold assizelaw07zRingTurned.s2
    dsimp only
    refine tri_bif (fun ex => ?_) (fun ex => tri_out (tri_out (tri_some rfl)))
    have ex : x ≤ 3 := by simpa using ex
    obtain ⟨y, z, e1, e2, e3, e4⟩ := same x
    rw [e1, e2]
    refine tri_sb (tri_sb ?_)
    rw [e3, e4]
    simp only [bne_self_eq_false, cond_false]
    unfold assizelaw07zRingTurned.j3
    rw [cond_false, w64zin (by omega) (by omega)]
    exact tri_some ⟨⟨by omega, by omega⟩, by dsimp only; omega⟩
end Go.Proofs.YtncapkloanfmnaaT
