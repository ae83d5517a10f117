/- What is told of each sort: a shortest closed walk of it. -/
import Derived.Test.YtncapkloanfmnaaDoorTPRL
namespace Go.Proofs.YtncapkloanfmnaaDoorT
open Go Go.Proofs Go.Proofs.YtncapkloanfmnaaDoorE
set_option linter.unusedVariables false
set_option linter.unusedSimpArgs false
set_option linter.unusedSectionVars false
variable {t l : Int → Int → Bool} {n k : Nat} {c : Nat → Int}
/-- one loose step, the others tight; as a function -/
structure F2 (t l : Int → Int → Bool) (n k : Nat) (c : Nat → Int) : Prop where
  pos : 0 < k
  per : ∀ i, c (i + k) = c i
  node : ∀ i, 0 ≤ c i ∧ c i < n
  one : l (c 0) (c 1) = true
  rest : ∀ i, 0 < i → i < k → t (c i) (c (i + 1)) = true
theorem per_mod {k : Nat} {c : Nat → Int} (hp : ∀ i, c (i + k) = c i) (i : Nat) : c (i % k) = c i := by
  have : ∀ q r, c (r + k * q) = c r := by
    intro q
    induction q with
    | zero => intro r; simp
    | succ q ih => intro r; rw [show r + k * (q + 1) = (r + k * q) + k by rw [Nat.mul_add]; omega, hp, ih]
  conv => rhs; rw [← Nat.mod_add_div i k]
  exact (this _ _).symm
theorem map_at {k : Nat} {c : Nat → Int} (hk : 0 < k) (hp : ∀ i, c (i + k) = c i) : ((List.range k).map c).length = k ∧ at3 ((List.range k).map c) = c := by
  have hl : ((List.range k).map c).length = k := by simp
  refine ⟨hl, funext fun i => ?_⟩
  have h1 := Nat.mod_lt i hk
  unfold at3
  rw [hl, idx_nat, List.getD_eq_getElem?_getD, List.getElem?_map, List.getElem?_range h1]
  exact per_mod hp i
theorem f2zof {c : List Int} (h : Loop2 t l n c) : F2 t l n c.length (at3 c) :=
  ⟨List.length_pos_iff.2 h.ne, fun i => by rw [Nat.add_comm]; exact at_wrap _ _, h.node, h.one, h.rest⟩
theorem of_f2 (h : F2 t l n k c) : Loop2 t l n ((List.range k).map c) := by
  obtain ⟨h1, h2⟩ := map_at h.pos h.per
  refine ⟨fun e => by rw [e] at h1; have := h.pos; simp at h1; omega, ?_, ?_, ?_⟩
  · rw [h2]; exact h.node
  · rw [h2]; exact h.one
  · rw [h1, h2]; exact h.rest
/-- the lengths of a sort's closed walks -/
inductive Sot where
  | plain | single | spaced
def HasLen (g : Graph) (d r : Int) : Sot → Nat → Prop
  | .plain, k => ∃ c, FLoop (hasE g d) (hasE g 0) g.N.toNat k c
  | .single, k => ∃ c, F2 (hasE g d) (hasE g r) g.N.toNat k c
  | .spaced, k => ∃ c, FLoop (hasE g d) (hasE g r) g.N.toNat k c
def Least (p : Nat → Prop) (k : Nat) : Prop := (k = 0 ∧ ∀ m, ¬ p m) ∨ (p k ∧ ∀ m, p m → k ≤ m)
theorem Least.eq {p q : Nat → Prop} (h : ∀ m, p m ↔ q m) {a b : Nat} (ha : Least p a) (hb : Least q b) : a = b := by
  rcases ha with ⟨rfl, h1⟩ | ⟨h1, h2⟩
  · rcases hb with ⟨rfl, h3⟩ | ⟨h3, h4⟩
    · rfl
    · exact (h1 b ((h b).2 h3)).elim
  · rcases hb with ⟨rfl, h3⟩ | ⟨h3, h4⟩
    · exact (h3 a ((h a).1 h1)).elim
    · have := h2 b ((h b).2 h3)
      have := h4 a ((h a).1 h1)
      omega
theorem hits_zero {g : Graph} {i j : Int} {k : Nat} : ¬ hits g 0 i j k := by
  rintro ⟨_, _, h⟩
  exact h (by unfold bAnd; rw [show (BitVec.ofInt IntKind.i64.bits 0) = 0#IntKind.i64.bits from rfl, BitVec.and_zero]; rfl)
theorem hasE_zero (g : Graph) (i j : Int) : hasE g 0 i j = false := by
  cases h : hasE g 0 i j with
  | false => rfl
  | true =>
    obtain ⟨k, _, hk⟩ := hasE_iff.1 h
    exact (hits_zero hk).elim
/-- an edge that is told -/
structure EdgeOf (g : Graph) (m : Int) (a b : Int) (e : Edge) : Prop where
  from_ : e.From = a
  to : e.To = b
  inM : bAnd .i64 e.Kind m ≠ 0
  here : ∃ k : Nat, k < g.Edges.length ∧ idx g.Edges (k : Int) = e
theorem fe_edge {g : Graph} {m a b : Int} (h : hasE g m a b = true) : EdgeOf g m a b (idx g.Edges (fe g m g.Edges.length a b - 1)) := by
  have hd : ¬ fe g m g.Edges.length a b = 0 := by simpa [hasE] using h
  rcases fe_spec g m a b g.Edges.length with ⟨h1, _⟩ | ⟨k, h1, h2, h3, _⟩
  · exact absurd h1 hd
  · rw [h1, show ((k : Int) + 1 - 1) = k by omega]
    exact ⟨h3.1, h3.2.1, h3.2.2, k, h2, rfl⟩
/-- what is told of a sort -/
structure Told3 (g : Graph) (d r : Int) (s : Sot) (es : List Edge) (c : List Int) : Prop where
  len : es.length = c.length
  least : Least (HasLen g d r s) es.length
  walk : c ≠ [] → match s with
    | .plain => Loop3 (hasE g d) (hasE g 0) g.N.toNat c
    | .single => Loop2 (hasE g d) (hasE g r) g.N.toNat c
    | .spaced => Loop3 (hasE g d) (hasE g r) g.N.toNat c
  at_ : ∀ i, i < c.length → match s with
    | .plain => EdgeOf g d (at3 c i) (at3 c (i + 1)) (idx es (i : Int))
    | .single => EdgeOf g (if i = 0 then r else d) (at3 c i) (at3 c (i + 1)) (idx es (i : Int))
    | .spaced => (hasE g d (at3 c i) (at3 c (i + 1)) = true ∧ EdgeOf g d (at3 c i) (at3 c (i + 1)) (idx es (i : Int))) ∨ (hasE g d (at3 c i) (at3 c (i + 1)) = false ∧ hasE g r (at3 c i) (at3 c (i + 1)) = true ∧ hasE g d (at3 c (i + 1)) (at3 c (i + 2)) = true ∧ EdgeOf g r (at3 c i) (at3 c (i + 1)) (idx es (i : Int)))
  nd : ∀ i j, i < c.length → j < c.length → at3 c i = at3 c j → i = j
theorem idx_mapR {α : Type} [Inhabited α] (f : Nat → α) {k i : Nat} (h : i < k) : idx ((List.range k).map f) (i : Int) = f i := by
  rw [idx_nat, List.getD_eq_getElem?_getD, List.getElem?_map, List.getElem?_range h]
  rfl
theorem best_least {B : Int} (hB : (n : Int) < B) {best : List Int} (h : BestSpec t l n B n best) : Least (fun k => ∃ c, FLoop t l n k c) best.length ∧ (best ≠ [] → Loop3 t l n best) := by
  rcases h with ⟨rfl, h1⟩ | ⟨s, p, rfl, h2, h3, _, h4, h5, h6⟩
  · refine ⟨.inl ⟨rfl, ?_⟩, fun h => absurd rfl h⟩
    rintro m ⟨c, hc⟩
    obtain ⟨s, p, a, b, hp, hl, _⟩ := loop_short hc
    have := h1 s a b p hp
    omega
  · have hL := (clo_loop ⟨h2, h3⟩ h4.clo).1
    refine ⟨.inr ⟨⟨_, hL⟩, ?_⟩, fun _ => hL⟩
    rintro m ⟨c, hc⟩
    obtain ⟨s', p', a, b, hp, _, hl⟩ := loop_short hc
    have := (h6 s' p' a b hp).1
    simp only [List.length_cons]
    omega
theorem loop3znd {best : List Int} (hl : Least (fun k => ∃ c, FLoop t l n k c) best.length) (hL : best ≠ [] → Loop3 t l n best) : ∀ i j, i < best.length → j < best.length → at3 best i = at3 best j → i = j := by
  intro i j hi hj e
  have hne : best ≠ [] := by intro h; rw [h] at hi; simp at hi
  rcases hl with ⟨h0, _⟩ | ⟨_, hmin⟩
  · omega
  · exact (hL hne).inj (fun k' c' h => hmin k' ⟨c', h⟩) hi hj e
theorem plain_told {g : Graph} (hg : Good g) (d r : Int) : ∃ es c, ring_Plain g d = some (es, 0) ∧ Told3 g d r .plain es c := by
  have h0 := hg.n0
  obtain ⟨_, e1, best, h1, rfl⟩ := ring_Spaced_told hg d 0
  obtain ⟨h2, h3⟩ := best_least (by omega) h1
  refine ⟨edgesOf g d 0 best, best, by unfold ring_Plain; rw [e1]; rfl, by simp [edgesOf], by rw [show (edgesOf g d 0 best).length = best.length by simp [edgesOf]]; exact h2, h3, fun i hi => ?_, loop3znd h2 h3⟩
  have hL := h3 (by intro h; rw [h] at hi; simp at hi)
  have he : hasE g d (at3 best i) (at3 best (i + 1)) = true := by
    rcases hL.edge i with h | h
    · exact h
    · rw [hasE_zero] at h; cases h.1
  show EdgeOf g d _ _ (idx (edgesOf g d 0 best) (i : Int))
  unfold edgesOf
  rw [idx_mapR _ hi]
  unfold pickE
  rw [if_pos he]
  exact fe_edge he
theorem spaced_told {g : Graph} (hg : Good g) (d r : Int) : ∃ es c, ring_Spaced g d r = some (es, 0) ∧ Told3 g d r .spaced es c := by
  have h0 := hg.n0
  obtain ⟨_, e1, best, h1, rfl⟩ := ring_Spaced_told hg d r
  obtain ⟨h2, h3⟩ := best_least (by omega) h1
  refine ⟨edgesOf g d r best, best, e1, by simp [edgesOf], by rw [show (edgesOf g d r best).length = best.length by simp [edgesOf]]; exact h2, h3, fun i hi => ?_, loop3znd h2 h3⟩
  have hL := h3 (by intro h; rw [h] at hi; simp at hi)
  show (_ ∧ EdgeOf g d _ _ (idx (edgesOf g d r best) (i : Int))) ∨ (_ ∧ _ ∧ _ ∧ EdgeOf g r _ _ (idx (edgesOf g d r best) (i : Int)))
  unfold edgesOf
  rw [idx_mapR _ hi]
  unfold pickE
  cases hd : hasE g d (at3 best i) (at3 best (i + 1)) with
  | true => exact .inl ⟨rfl, fe_edge hd⟩
  | false =>
    have he := hL.edge i
    rw [hd] at he
    have he : hasE g r (at3 best i) (at3 best (i + 1)) = true ∧ hasE g d (at3 best (i + 1)) (at3 best (i + 2)) = true := by simpa using he
    exact .inr ⟨rfl, he.1, he.2, fe_edge he.1⟩
theorem run_take {b : Int} {p : List Int} {x : Int} (h : run (ex1 t n) b p = some x) : ∀ i, i ≤ p.length → run (ex1 t n) b (p.take i) = some (idx (b :: p) (i : Int)) ∧ run (ex1 t n) (idx (b :: p) (i : Int)) (p.drop i) = some x := by
  intro i hi
  have h1 := h
  rw [← List.take_append_drop i p, run_app] at h1
  cases hy : run (ex1 t n) b (p.take i) with
  | none => rw [hy] at h1; cases h1
  | some y =>
    rw [hy] at h1
    have h2 := ends hy
    have : y = idx (b :: p) (i : Int) := by
      rw [List.getLast?_eq_getElem?] at h2
      have hl : (b :: p.take i).length - 1 = i := by simp; omega
      rw [hl] at h2
      rw [idx_nat, List.getD_eq_getElem?_getD]
      rw [show b :: p.take i = (b :: p).take (i + 1) by simp, List.getElem?_take_of_lt (by omega)] at h2
      rw [h2]
      rfl
    subst this
    exact ⟨rfl, h1⟩
theorem first_nd {a b : Int} {p : List Int} (h : First (ex1 t n) (· = a) b p) : ∀ i j, i ≤ p.length → j ≤ p.length → idx (b :: p) (i : Int) = idx (b :: p) (j : Int) → i = j := by
  have main : ∀ i j, i < j → j ≤ p.length → idx (b :: p) (i : Int) ≠ idx (b :: p) (j : Int) := by
    intro i j hij hj e
    obtain ⟨x, hx, hxa⟩ := h.clo
    obtain ⟨h1, _⟩ := run_take hx i (by omega)
    obtain ⟨_, h2⟩ := run_take hx j hj
    have h3 : Clo (ex1 t n) (· = a) b (p.take i ++ p.drop j) := ⟨x, by rw [run_app, h1, e]; exact h2, hxa⟩
    have := (h.min _ h3).1
    simp at this
    omega
  intro i j hi hj e
  rcases Nat.lt_trichotomy i j with h1 | h1 | h1
  · exact absurd e (main i j h1 hj)
  · exact h1
  · exact absurd e.symm (main j i h1 hi)
theorem single_told {g : Graph} (hg : Good g) (d r : Int) : ∃ es c, ring_Single g d r = some (es, 0) ∧ Told3 g d r .single es c := by
  have h0 := hg.n0
  obtain ⟨_, e1, best, h1, rfl⟩ := ring_Single_told hg d r
  have hn0 : ((g.N.toNat : Nat) : Int) = g.N := Int.toNat_of_nonneg h0
  have hlen : (edgesS g d r best).length = best.length := by simp [edgesS]
  have hloop := h1.loop.1
  have hwalk : best ≠ [] → Loop2 (hasE g d) (hasE g r) g.N.toNat best := fun h => hloop.elim (fun e => absurd e h) id
  refine ⟨edgesS g d r best, best, e1, hlen, ?_, hwalk, fun i hi => ?_, ?_⟩
  · rw [hlen]
    rcases h1 with ⟨rfl, h2⟩ | ⟨a, b, p, rfl, ha, hb, hl, hp, hpl, _, h2⟩
    · refine .inl ⟨rfl, ?_⟩
      rintro m ⟨c, hc⟩
      have hL := of_f2 hc
      obtain ⟨p, hp, _⟩ := of_loop2 hL
      have n1 := hL.node 0
      have n2 := hL.node 1
      exact h2 _ _ n1.1 n1.2 n2.1 n2.2 (.inl n1.2) hL.one p hp
    · refine .inr ⟨⟨_, f2zof (hwalk (by simp))⟩, ?_⟩
      rintro m ⟨c, hc⟩
      have hL := of_f2 hc
      obtain ⟨q, hq, hql⟩ := of_loop2 hL
      have n1 := hL.node 0
      have n2 := hL.node 1
      have := (h2 _ _ n1.1 n1.2 n2.1 n2.2 (.inl n1.2) hL.one q hq).1
      have hm : ((List.range m).map c).length = m := by simp
      simp only [List.length_cons, butLast_len]
      omega
  · have hL := hwalk (by intro h; rw [h] at hi; simp at hi)
    show EdgeOf g _ _ _ (idx (edgesS g d r best) (i : Int))
    unfold edgesS
    rw [idx_mapR _ hi]
    unfold pickS
    by_cases e : i = 0
    · subst e
      rw [if_pos rfl, if_pos rfl]
      exact fe_edge hL.one
    · rw [if_neg e, if_neg e]
      exact fe_edge (hL.rest i (by omega) hi)
  · rcases h1 with ⟨rfl, h2⟩ | ⟨a, b, p, rfl, ha, hb, hl, hp, hpl, _, h2⟩
    · intro i j hi; simp at hi
    · obtain ⟨x, hx, rfl⟩ := hp.clo
      have hn := nodes_at hx
      have hnd := first_nd hp
      have hcl : (x :: butLast b p).length = p.length + 1 := by simp [butLast_len]
      have key : ∀ i, i < (x :: butLast b p).length → ∃ m, m ≤ p.length ∧ at3 (x :: butLast b p) i = idx (b :: p) (m : Int) ∧ (m + 1) % (p.length + 1) = i := by
        intro i hi
        rw [hcl] at hi
        cases i with
        | zero =>
          refine ⟨p.length, Nat.le_refl _, ?_, Nat.mod_self _⟩
          rw [← hn p.length (Nat.le_refl _)]
          have := at_wrap (x :: butLast b p) 0
          rw [hcl, Nat.add_zero] at this
          exact this.symm
        | succ i => exact ⟨i, by omega, hn i (by omega), Nat.mod_eq_of_lt hi⟩
      intro i j hi hj e
      obtain ⟨m, h3, h4, h5⟩ := key i hi
      obtain ⟨m', h6, h7, h8⟩ := key j hj
      rw [h4, h7] at e
      have := hnd m m' h3 h6 e
      rw [← h5, ← h8, this]
/-- the cycle of a rule -/
theorem told_is {g : Graph} (hg : Good g) (d r rule : Int) : ∃ s es c, assizelaw07ztold g d r rule = some (es, 0) ∧ Told3 g d r s es c ∧ s = (if rule = 1 then .plain else if rule = 2 then .single else .spaced) := by
  unfold assizelaw07ztold
  by_cases h1 : rule = 1
  · obtain ⟨es, c, e, h⟩ := plain_told hg d r
    refine ⟨.plain, es, c, ?_, h, by rw [if_pos h1]⟩
    rw [show (rule == 1) = true by simpa using h1, cond_true, e]
    rfl
  · by_cases h2 : rule = 2
    · obtain ⟨es, c, e, h⟩ := single_told hg d r
      refine ⟨.single, es, c, ?_, h, by rw [if_neg h1, if_pos h2]⟩
      rw [show (rule == 1) = false by simpa using h1, cond_false, show (rule == 2) = true by simpa using h2, cond_true, e]
      rfl
    · obtain ⟨es, c, e, h⟩ := spaced_told hg d r
      refine ⟨.spaced, es, c, ?_, h, by rw [if_neg h1, if_neg h2]⟩
      rw [show (rule == 1) = false by simpa using h1, cond_false, show (rule == 2) = false by simpa using h2, cond_false, e]
      rfl
end Go.Proofs.YtncapkloanfmnaaDoorT
