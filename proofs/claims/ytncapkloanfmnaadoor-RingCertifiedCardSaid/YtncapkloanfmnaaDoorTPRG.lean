/- Closed walks. -/
import Derived.Test.YtncapkloanfmnaaDoorTPRF
namespace Go.Proofs.YtncapkloanfmnaaDoorT
open Go Go.Proofs Go.Proofs.YtncapkloanfmnaaDoorE
set_option linter.unusedVariables false
set_option linter.unusedSimpArgs false
set_option linter.unusedSectionVars false
/-- a closed walk: nodes that come again after k steps; no two loose steps side by side -/
structure FLoop (t l : Int → Int → Bool) (n : Nat) (k : Nat) (c : Nat → Int) : Prop where
  pos : 0 < k
  per : ∀ i, c (i + k) = c i
  node : ∀ i, 0 ≤ c i ∧ c i < n
  edge : ∀ i, t (c i) (c (i + 1)) = true ∨ (l (c i) (c (i + 1)) = true ∧ t (c (i + 1)) (c (i + 2)) = true)
variable {t l : Int → Int → Bool} {n k : Nat} {c : Nat → Int}
theorem FLoop.rot (h : FLoop t l n k c) (m : Nat) : FLoop t l n k (fun i => c (m + i)) :=
  ⟨h.pos, fun i => by have := h.per (m + i); rwa [Nat.add_assoc] at this, fun i => h.node (m + i), fun i => h.edge (m + i)⟩
theorem FLoop.mod (h : FLoop t l n k c) (i : Nat) : c (i % k) = c i := by
  have : ∀ q r, c (r + k * q) = c r := by
    intro q
    induction q with
    | zero => intro r; simp
    | succ q ih => intro r; rw [show r + k * (q + 1) = (r + k * q) + k by rw [Nat.mul_add]; omega, h.per, ih]
  conv => rhs; rw [← Nat.mod_add_div i k]
  exact (this _ _).symm
theorem part_next {d : Nat → Int} {b : Nat} (hb : 0 < b) (h : d 0 = d b) (i : Nat) : d ((i + 1) % b) = d (i % b + 1) := by
  have h1 := Nat.mod_lt i hb
  rcases Nat.lt_or_ge (i % b + 1) b with h2 | h2
  · rw [show (i + 1) % b = i % b + 1 by rw [Nat.add_mod, Nat.mod_eq_of_lt (show 1 < b by omega), Nat.mod_eq_of_lt h2]]
  · have h3 : i % b + 1 = b := by omega
    rw [show (i + 1) % b = 0 by rw [← Nat.mod_add_mod, h3, Nat.mod_self], h3, h]
theorem part_next2 {d : Nat → Int} {b : Nat} (hb : 0 < b) (h : d 0 = d b) (i : Nat) : d ((i + 2) % b) = if i % b + 1 < b then d (i % b + 2) else d 1 := by
  have h1 := Nat.mod_lt i hb
  have h2 := part_next hb h (i + 1)
  rw [show i + 1 + 1 = i + 2 from rfl] at h2
  rw [h2]
  split
  · rename_i h3
    rw [show (i + 1) % b = i % b + 1 by rw [Nat.add_mod, Nat.mod_eq_of_lt (show 1 < b by omega), Nat.mod_eq_of_lt h3]]
  · have h3 : i % b + 1 = b := by omega
    rw [show (i + 1) % b = 0 by rw [← Nat.mod_add_mod, h3, Nat.mod_self]]
theorem part_loop {d : Nat → Int} {b : Nat} (hb : 0 < b) (h : d 0 = d b) (hn : ∀ i, 0 ≤ d i ∧ d i < n) (he : ∀ i, i + 1 < b → t (d i) (d (i + 1)) = true ∨ (l (d i) (d (i + 1)) = true ∧ t (d (i + 1)) (d (i + 2)) = true))
    (hl : t (d (b - 1)) (d b) = true ∨ (l (d (b - 1)) (d b) = true ∧ t (d 0) (d 1) = true)) : FLoop t l n b (fun i => d (i % b)) := by
  refine ⟨hb, fun i => by simp, fun i => hn _, fun i => ?_⟩
  have h1 := Nat.mod_lt i hb
  rw [part_next hb h, part_next2 hb h]
  split
  · rename_i h2
    exact he _ h2
  · have h3 : i % b + 1 = b := by omega
    rw [h3, show i % b = b - 1 by omega]
    rw [← h] at hl ⊢
    exact hl
/-- a closed walk that comes twice to a node has a shorter one in it -/
theorem FLoop.split (h : FLoop t l n k c) {b : Nat} (h0 : 0 < b) (h1 : b < k) (h2 : c 0 = c b) : ∃ k' c', k' < k ∧ FLoop t l n k' c' := by
  have hk : c k = c 0 := by have := h.per 0; rwa [Nat.zero_add] at this
  have hk1 : c (k + 1) = c 1 := by have := h.per 1; rwa [Nat.add_comm] at this
  by_cases hg : t (c (b - 1)) (c b) = true ∨ t (c 0) (c 1) = true
  · refine ⟨b, _, h1, part_loop h0 h2 h.node (fun i _ => h.edge i) ?_⟩
    have := h.edge (b - 1)
    rw [show b - 1 + 1 = b by omega] at this
    rcases hg with hg | hg
    · exact .inl hg
    · rcases this with h3 | ⟨h3, _⟩
      · exact .inl h3
      · exact .inr ⟨h3, hg⟩
  · have e1 := h.edge (b - 1)
    rw [show b - 1 + 1 = b by omega, show b - 1 + 2 = b + 1 by omega] at e1
    have hb1 : t (c b) (c (b + 1)) = true := by
      rcases e1 with e | ⟨_, e⟩
      · exact absurd (.inl e) hg
      · exact e
    refine ⟨k - b, _, by omega, part_loop (d := fun i => c (b + i)) (by omega) (by show c (b + 0) = c (b + (k - b)); rw [show b + (k - b) = k by omega, hk, h2]; rfl) (fun i => h.node _) (fun i _ => h.edge (b + i)) ?_⟩
    have e2 := h.edge (k - 1)
    rw [show k - 1 + 1 = k by omega, show k - 1 + 2 = k + 1 by omega] at e2
    rw [show b + (k - b - 1) = k - 1 by omega, show b + (k - b) = k by omega]
    rcases e2 with e | ⟨e, _⟩
    · exact .inl e
    · exact .inr ⟨e, hb1⟩
theorem FLoop.split' (h : FLoop t l n k c) {a b : Nat} (h0 : a < b) (h1 : b < k) (h2 : c a = c b) : ∃ k' c', k' < k ∧ FLoop t l n k' c' :=
  (h.rot a).split (b := b - a) (by omega) (by omega) (by show c (a + 0) = c (a + (b - a)); rw [show a + (b - a) = b by omega]; exact h2)
/-- the shortest closed walks come to no node twice -/
theorem FLoop.inj (h : FLoop t l n k c) (hm : ∀ k' c', FLoop t l n k' c' → k ≤ k') {a b : Nat} (ha : a < k) (hb : b < k) (e : c a = c b) : a = b := by
  rcases Nat.lt_trichotomy a b with h1 | h1 | h1
  · obtain ⟨k', c', h2, h3⟩ := h.split' h1 hb e
    have := hm k' c' h3
    omega
  · exact h1
  · obtain ⟨k', c', h2, h3⟩ := h.split' h1 ha e.symm
    have := hm k' c' h3
    omega
theorem FLoop.short (h : FLoop t l n k c) (hm : ∀ k' c', FLoop t l n k' c' → k ≤ k') : k ≤ n := by
  have := nodup_le n ((List.range k).map fun i => (c i).toNat) ?_ ?_
  · simpa using this
  · unfold List.Nodup
    rw [List.pairwise_map]
    refine List.pairwise_lt_range.imp_of_mem fun {a b} ha hb h1 e => ?_
    have h2 := h.node a
    have h3 := h.node b
    have := h.inj hm (List.mem_range.1 ha) (List.mem_range.1 hb) (by omega)
    omega
  · intro v hv
    obtain ⟨i, _, rfl⟩ := List.mem_map.1 hv
    have := h.node i
    omega
open Classical in
/-- where there is a closed walk there is a shortest one -/
theorem FLoop.least (h : FLoop t l n k c) : ∃ k' c', FLoop t l n k' c' ∧ ∀ k2 c2, FLoop t l n k2 c2 → k' ≤ k2 := by
  induction k using Nat.strongRecOn generalizing c with
  | ind k ih =>
    by_cases hs : ∃ k2 c2, k2 < k ∧ FLoop t l n k2 c2
    · obtain ⟨k2, c2, h1, h2⟩ := hs
      exact ih k2 h1 h2
    · exact ⟨k, c, h, fun k2 c2 h2 => Nat.le_of_not_lt fun h1 => hs ⟨k2, c2, h1, h2⟩⟩
/-- the least of some numbers -/
theorem least_at (c : Nat → Int) : ∀ k, 0 < k → ∃ m, m < k ∧ ∀ i, i < k → c m ≤ c i
  | 0, h => absurd h (Nat.lt_irrefl _)
  | 1, _ => ⟨0, by omega, fun i hi => by rw [show i = 0 by omega]; omega⟩
  | k + 2, _ => by
    obtain ⟨m, h1, h2⟩ := least_at c (k + 1) (by omega)
    by_cases h3 : c (k + 1) < c m
    · refine ⟨k + 1, by omega, fun i hi => ?_⟩
      rcases Nat.lt_or_ge i (k + 1) with h4 | h4
      · have := h2 i h4; omega
      · rw [show i = k + 1 by omega]; omega
    · refine ⟨m, by omega, fun i hi => ?_⟩
      rcases Nat.lt_or_ge i (k + 1) with h4 | h4
      · exact h2 i h4
      · rw [show i = k + 1 by omega]; omega

/-! ### lists of nodes as closed walks -/
def at3 (c : List Int) (i : Nat) : Int := idx c ((i % c.length : Nat) : Int)
def Loop3 (t l : Int → Int → Bool) (n : Nat) (c : List Int) : Prop := FLoop t l n c.length (at3 c)
theorem idx_at {c : List Int} {i : Nat} (h : i < c.length) : at3 c i = idx c (i : Int) := by unfold at3; rw [Nat.mod_eq_of_lt h]
theorem loop_of (h : FLoop t l n k c) : ((List.range k).map c).length = k ∧ (∀ i, at3 ((List.range k).map c) i = c i) ∧ Loop3 t l n ((List.range k).map c) := by
  have hl : ((List.range k).map c).length = k := by simp
  have ha : ∀ i, at3 ((List.range k).map c) i = c i := by
    intro i
    have h1 := Nat.mod_lt i h.pos
    unfold at3
    rw [hl, idx_nat, List.getD_eq_getElem?_getD, List.getElem?_map, List.getElem?_range h1]
    exact h.mod i
  refine ⟨hl, ha, ?_⟩
  unfold Loop3
  rw [hl, show at3 ((List.range k).map c) = c from funext ha]
  exact h
variable {s : Int}
/-- what the ways of a start mean: closed walks with no node below the start -/
theorem run_is (hs : 0 ≤ s ∧ s < n) {p : List Int} : ∀ {z : RingSpot}, run (ext t l s n) root p = some z → (∀ x ∈ p, s ≤ x ∧ x < n) ∧
    (∀ i : Nat, i < p.length → (t (at3 (s :: p) i) (at3 (s :: p) (i + 1)) = true ∨ l (at3 (s :: p) i) (at3 (s :: p) (i + 1)) = true) ∧ (0 < i → t (at3 (s :: p) (i - 1)) (at3 (s :: p) i) = true ∨ t (at3 (s :: p) i) (at3 (s :: p) (i + 1)) = true)) ∧
    (p = [] ∧ z = root ∨ p ≠ [] ∧ z.node = at3 (s :: p) p.length ∧ z.last_ = !t (at3 (s :: p) (p.length - 1)) (at3 (s :: p) p.length) ∧ z.first_ = !t (at3 (s :: p) 0) (at3 (s :: p) 1)) := by
  have app : ∀ (q : List Int) (j : Int) (i : Nat), i ≤ q.length → at3 (s :: (q ++ [j])) i = at3 (s :: q) i := by
    intro q j i hi
    rw [idx_at (by simp; omega), idx_at (by simp; omega), ← List.cons_append]
    rw [idx_nat, idx_nat, List.getD_eq_getElem?_getD, List.getD_eq_getElem?_getD, List.getElem?_append_left (by simp; omega)]
  have top : ∀ (q : List Int) (j : Int), at3 (s :: (q ++ [j])) (q.length + 1) = j := by
    intro q j
    rw [idx_at (by simp), ← List.cons_append, idx_nat, List.getD_eq_getElem?_getD, List.getElem?_append_right (by simp)]
    simp
  have go : ∀ (m : Nat) (p : List Int) (z : RingSpot), p.length = m → run (ext t l s n) root p = some z → (∀ x ∈ p, s ≤ x ∧ x < n) ∧
    (∀ i : Nat, i < p.length → (t (at3 (s :: p) i) (at3 (s :: p) (i + 1)) = true ∨ l (at3 (s :: p) i) (at3 (s :: p) (i + 1)) = true) ∧ (0 < i → t (at3 (s :: p) (i - 1)) (at3 (s :: p) i) = true ∨ t (at3 (s :: p) i) (at3 (s :: p) (i + 1)) = true)) ∧
    (p = [] ∧ z = root ∨ p ≠ [] ∧ z.node = at3 (s :: p) p.length ∧ z.last_ = !t (at3 (s :: p) (p.length - 1)) (at3 (s :: p) p.length) ∧ z.first_ = !t (at3 (s :: p) 0) (at3 (s :: p) 1)) := by
    intro m
    induction m with
    | zero =>
      intro p z hp hr
      obtain rfl := List.eq_nil_of_length_eq_zero hp
      exact ⟨by simp, by simp, .inl ⟨rfl, (Option.some.inj hr).symm⟩⟩
    | succ m ih =>
      intro p z hp hr
      obtain ⟨q, j, rfl⟩ : ∃ q j, p = q ++ [j] := ⟨_, _, (List.dropLast_concat_getLast (by intro e; rw [e] at hp; simp at hp)).symm⟩
      have hq : q.length = m := by simpa using hp
      rw [run_snoc] at hr
      cases hy : run (ext t l s n) root q with
      | none => rw [hy] at hr; cases hr
      | some y =>
        rw [hy] at hr
        have hr : ext t l s n y j = some z := hr
        obtain ⟨h1, h2, h3⟩ := ih q y hq hy
        have hlo := ext_lo hr
        have hbound : ∀ x ∈ q ++ [j], s ≤ x ∧ x < n := by
          intro x hx
          rcases List.mem_append.1 hx with hx | hx
          · exact h1 x hx
          · simp only [List.mem_singleton] at hx; subst hx; exact ⟨hlo.1, hlo.2.1⟩
        have hlen : (q ++ [j]).length = q.length + 1 := by simp
        have key : (t (at3 (s :: q) q.length) j = true ∨ l (at3 (s :: q) q.length) j = true) ∧ (0 < q.length → t (at3 (s :: q) (q.length - 1)) (at3 (s :: q) q.length) = true ∨ t (at3 (s :: q) q.length) j = true) ∧
            z.node = j ∧ z.last_ = !t (at3 (s :: q) q.length) j ∧ z.first_ = !t (at3 (s :: (q ++ [j])) 0) (at3 (s :: (q ++ [j])) 1) := by
          rcases h3 with ⟨rfl, rfl⟩ | ⟨h4, h5, h6, h7⟩
          · obtain ⟨h8, rfl⟩ := root_ext.1 hr
            exact ⟨h8.2.2, fun h => by simp at h, rfl, rfl, rfl⟩
          · have hyn : 0 ≤ y.node := by
              rw [h5, idx_at (by simp), idx_nat]
              have hql : 0 < q.length := List.length_pos_iff.2 h4
              have hm : (s :: q)[q.length]'(by simp) ∈ q := by
                obtain ⟨q', b, rfl⟩ : ∃ q' b, q = q' ++ [b] := ⟨_, _, (List.dropLast_concat_getLast h4).symm⟩
                simp
              rw [List.getD_eq_getElem?_getD, List.getElem?_eq_getElem (by simp)]
              have := h1 _ hm
              simp only [Option.getD_some]
              omega
            rw [ext_stp hyn] at hr
            obtain ⟨h8, rfl⟩ := stp_some.1 hr
            rw [h5] at h8
            refine ⟨h8.2.2.imp id (·.1), fun _ => ?_, rfl, by dsimp only; rw [h5], ?_⟩
            · rcases h8.2.2 with h9 | ⟨_, h9⟩
              · exact .inr h9
              · rw [h6] at h9
                left
                simpa using h9
            · dsimp only
              rw [h7, app q j 0 (by omega), app q j 1 (List.length_pos_iff.2 h4)]
        refine ⟨hbound, fun i hi => ?_, .inr ⟨by simp, ?_, ?_, key.2.2.2.2⟩⟩
        · rw [hlen] at hi
          rcases Nat.lt_or_ge i q.length with h4 | h4
          · rw [app q j i (by omega), app q j (i + 1) (by omega), app q j (i - 1) (by omega)]
            exact h2 i h4
          · obtain rfl : i = q.length := by omega
            rw [app q j q.length (Nat.le_refl _), top, app q j (q.length - 1) (by omega)]
            exact ⟨key.1, key.2.1⟩
        · rw [hlen, top]; exact key.2.2.1
        · rw [hlen, Nat.add_sub_cancel, top, app q j q.length (Nat.le_refl _)]
          exact key.2.2.2.1
  intro z hz
  exact go _ p z rfl hz
theorem at_wrap (c : List Int) (i : Nat) : at3 c (c.length + i) = at3 c i := by unfold at3; rw [Nat.add_mod_left]
theorem clo_loop (hs : 0 ≤ s ∧ s < n) {p : List Int} (h : CloS t l s n root p) : Loop3 t l n (s :: p) ∧ ∀ x ∈ p, s ≤ x := by
  obtain ⟨z, hr, hc⟩ := h
  obtain ⟨h1, h2, h3⟩ := run_is hs hr
  have hlen : (s :: p).length = p.length + 1 := rfl
  have h0 : at3 (s :: p) 0 = s := rfl
  have hw : at3 (s :: p) (p.length + 1) = s := by have := at_wrap (s :: p) 0; rwa [hlen, h0] at this
  have hw1 : at3 (s :: p) (p.length + 2) = at3 (s :: p) 1 := by have := at_wrap (s :: p) 1; rwa [hlen] at this
  -- the step home
  have last : (t (at3 (s :: p) p.length) s = true ∨ (l (at3 (s :: p) p.length) s = true ∧ t s (at3 (s :: p) 1) = true)) ∧ (0 < p.length → t (at3 (s :: p) (p.length - 1)) (at3 (s :: p) p.length) = true ∨ t (at3 (s :: p) p.length) s = true) := by
    rcases h3 with ⟨rfl, rfl⟩ | ⟨h4, h5, h6, h7⟩
    · have : t s s = true := hc
      exact ⟨.inl this, fun h => by simp at h⟩
    · have hzn : ¬ z.node < 0 := by
        have := h2 (p.length - 1) (by have := List.length_pos_iff.2 h4; omega)
        rw [h5, idx_at (by simp), idx_nat, List.getD_eq_getElem?_getD, List.getElem?_eq_getElem (by simp)]
        have hm : (s :: p)[p.length]'(by simp) ∈ p := by
          obtain ⟨q', b, rfl⟩ : ∃ q' b, p = q' ++ [b] := ⟨_, _, (List.dropLast_concat_getLast h4).symm⟩
          simp
        have := h1 _ hm
        simp only [Option.getD_some]
        omega
      unfold clo at hc
      rw [if_neg hzn, h5, h6, h7, h0] at hc
      rcases hc with hc | ⟨hc, h8, h9⟩
      · exact ⟨.inl hc, fun _ => .inr hc⟩
      · exact ⟨.inr ⟨hc, by simpa using h9⟩, fun _ => .inl (by simpa using h8)⟩
  refine ⟨⟨by simp, fun i => by rw [Nat.add_comm]; exact at_wrap _ _, fun i => ?_, ?_⟩, fun x hx => (h1 x hx).1⟩
  · have hi := Nat.mod_lt i (show 0 < (s :: p).length by simp)
    unfold at3
    rw [idx_nat, List.getD_eq_getElem?_getD, List.getElem?_eq_getElem hi, Option.getD_some]
    have hm := List.getElem_mem hi
    rcases List.mem_cons.1 hm with e | e
    · rw [e]; exact hs
    · have := h1 _ e; omega
  · have main : ∀ i, i ≤ p.length → t (at3 (s :: p) i) (at3 (s :: p) (i + 1)) = true ∨ (l (at3 (s :: p) i) (at3 (s :: p) (i + 1)) = true ∧ t (at3 (s :: p) (i + 1)) (at3 (s :: p) (i + 2)) = true) := by
      intro i hi
      rcases Nat.lt_or_ge i p.length with h4 | h4
      · cases ht : t (at3 (s :: p) i) (at3 (s :: p) (i + 1)) with
        | true => exact .inl rfl
        | false =>
          right
          have h5 := h2 i h4
          rw [ht] at h5
          refine ⟨by simpa using h5.1, ?_⟩
          rcases Nat.lt_or_ge (i + 1) p.length with h6 | h6
          · have h7 := (h2 (i + 1) h6).2 (by omega)
            rw [Nat.add_sub_cancel, ht] at h7
            simpa using h7
          · have h7 := last.2 (by omega)
            rw [show p.length = i + 1 by omega, Nat.add_sub_cancel, ht] at h7
            rw [show i + 2 = p.length + 1 by omega, hw]
            simpa using h7
      · obtain rfl : i = p.length := by omega
        rw [hw, hw1]
        exact last.1
    intro i
    have hi := Nat.mod_lt i (show 0 < (s :: p).length by simp)
    have hm := main (i % (s :: p).length) (Nat.le_of_lt_succ hi)
    have e : ∀ d, at3 (s :: p) (i % (s :: p).length + d) = at3 (s :: p) (i + d) := by intro d; unfold at3; rw [Nat.mod_add_mod]
    rw [e 1, e 2] at hm
    have e0 := e 0
    simp only [Nat.add_zero] at e0
    rw [e0] at hm
    exact hm
theorem loop_clo (hs : 0 ≤ s ∧ s < n) {p : List Int} (h : Loop3 t l n (s :: p)) (hp : ∀ x ∈ p, s ≤ x) : CloS t l s n root p := by
  have hlen : (s :: p).length = p.length + 1 := rfl
  have h0 : at3 (s :: p) 0 = s := rfl
  have hw : at3 (s :: p) (p.length + 1) = s := by have := at_wrap (s :: p) 0; rwa [hlen, h0] at this
  have hw1 : at3 (s :: p) (p.length + 2) = at3 (s :: p) 1 := by have := at_wrap (s :: p) 1; rwa [hlen] at this
  have hat : ∀ i (hi : i < p.length), at3 (s :: p) (i + 1) = p[i] := by
    intro i hi
    rw [idx_at (by simp; omega), idx_nat, List.getD_eq_getElem?_getD, List.getElem?_cons_succ, List.getElem?_eq_getElem hi]
    rfl
  have hrun : ∀ m, m ≤ p.length → ∃ z, run (ext t l s n) root (p.take m) = some z ∧ (m = 0 ∧ z = root ∨ 0 < m ∧ z = ⟨at3 (s :: p) m, !t (at3 (s :: p) (m - 1)) (at3 (s :: p) m), !t s (at3 (s :: p) 1)⟩) := by
    intro m
    induction m with
    | zero => intro _; exact ⟨root, rfl, .inl ⟨rfl, rfl⟩⟩
    | succ m ih =>
      intro hm
      obtain ⟨z, hz, hz2⟩ := ih (by omega)
      have hj := hat m (by omega)
      have hb : s ≤ at3 (s :: p) (m + 1) ∧ at3 (s :: p) (m + 1) < n := ⟨by rw [hj]; exact hp _ (List.getElem_mem _), (h.node (m + 1)).2⟩
      have he := h.edge m
      rw [List.take_succ_eq_append_getElem (by omega), run_snoc, hz, ← hj]
      rcases hz2 with ⟨rfl, rfl⟩ | ⟨h1, rfl⟩
      · refine ⟨⟨at3 (s :: p) 1, !t s (at3 (s :: p) 1), !t s (at3 (s :: p) 1)⟩, root_ext.2 ⟨⟨hb.1, hb.2, ?_⟩, rfl⟩, .inr ⟨by omega, rfl⟩⟩
        rcases he with h2 | h2
        · exact .inl h2
        · exact .inr h2.1
      · refine ⟨_, ?_, .inr ⟨by omega, rfl⟩⟩
        show ext t l s n _ _ = _
        rw [ext_stp (h.node m).1]
        refine stp_some.2 ⟨⟨hb.1, hb.2, ?_⟩, rfl⟩
        dsimp only
        rcases he with h2 | h2
        · exact .inl h2
        · cases ht : t (at3 (s :: p) m) (at3 (s :: p) (m + 1)) with
          | true => exact .inl rfl
          | false =>
            refine .inr ⟨h2.1, ?_⟩
            have h3 := h.edge (m - 1)
            rw [show m - 1 + 1 = m by omega, show m - 1 + 2 = m + 1 by omega, ht] at h3
            simpa using h3
  obtain ⟨z, hz, hz2⟩ := hrun p.length (Nat.le_refl _)
  rw [List.take_length] at hz
  refine ⟨z, hz, ?_⟩
  have he := h.edge p.length
  rw [hw, hw1] at he
  rcases hz2 with ⟨h1, rfl⟩ | ⟨h1, rfl⟩
  · rw [h1, h0] at he
    have : at3 (s :: p) 1 = s := by have := hw; rwa [h1] at this
    rw [this] at he
    show t s s = true
    rcases he with he | he
    · exact he
    · exact he.2
  · unfold clo
    dsimp only
    rw [if_neg (by have := (h.node p.length).1; omega)]
    rcases he with he | he
    · exact .inl he
    · cases ht : t (at3 (s :: p) p.length) s with
      | true => exact .inl rfl
      | false =>
        refine .inr ⟨he.1, ?_, by simp [he.2]⟩
        have h3 := h.edge (p.length - 1)
        rw [show p.length - 1 + 1 = p.length by omega, show p.length - 1 + 2 = p.length + 1 by omega, hw, ht] at h3
        simpa using h3
/-- where there is any closed walk there is one that is no longer than there are nodes, told from its least node -/
theorem loop_short (h : FLoop t l n k c) : ∃ s p, 0 ≤ s ∧ s < (n : Int) ∧ CloS t l s n root p ∧ p.length + 1 ≤ n ∧ p.length + 1 ≤ k := by
  obtain ⟨k', c', h1, h2⟩ := h.least
  have h3 := h1.short h2
  obtain ⟨m, hm, hmin⟩ := least_at c' k' h1.pos
  have h4 := h1.rot m
  obtain ⟨e1, e2, e3⟩ := loop_of h4
  obtain ⟨kk, rfl⟩ : ∃ kk, k' = kk + 1 := ⟨k' - 1, by have := h1.pos; omega⟩
  rw [List.range_succ_eq_map, List.map_cons, List.map_map] at e3
  refine ⟨c' (m + 0), _, (h1.node _).1, (h1.node _).2, loop_clo (h1.node _) e3 ?_, ?_, ?_⟩
  · intro x hx
    obtain ⟨i, hi, rfl⟩ := List.mem_map.1 hx
    have := hmin ((m + (i + 1)) % (kk + 1)) (Nat.mod_lt _ (by omega))
    rw [h1.mod] at this
    exact this
  · simp; omega
  · have := h2 k c h
    simp; omega
end Go.Proofs.YtncapkloanfmnaaDoorT
