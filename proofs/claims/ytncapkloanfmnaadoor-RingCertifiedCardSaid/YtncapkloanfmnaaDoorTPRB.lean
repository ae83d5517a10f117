/- The program's shortest cycles: by levels, from a node on. -/
import Derived.Test.YtncapkloanfmnaaDoorTPRA
import Derived.Test.YtncapkloanfmnaaDoorTPG
namespace Go.Proofs.YtncapkloanfmnaaDoorT
open Go Go.Proofs Go.Proofs.YtncapkloanfmnaaDoorE
set_option linter.unusedVariables false
set_option linter.unusedSimpArgs false

/-- numbers below a bound, each once -/
theorem nodup_le : ∀ (k : Nat) (l : List Nat), l.Nodup → (∀ v ∈ l, v < k) → l.length ≤ k
  | 0, [], _, _ => Nat.le_refl _
  | 0, x :: l, _, h => absurd (h x (by simp)) (Nat.not_lt_zero _)
  | k + 1, l, hn, h => by
    have h1 := nodup_le k (l.filter (· ≠ k)) (hn.filter _) (fun v hv => by
      have := List.mem_filter.1 hv
      have h2 := h v this.1
      have h3 : v ≠ k := by simpa using this.2
      omega)
    have h2 : l.length ≤ (l.filter (· ≠ k)).length + 1 := by
      clear h1 h
      induction l with
      | nil => simp
      | cons a l ih =>
        rw [List.nodup_cons] at hn
        by_cases e : a = k
        · subst e
          have : l.filter (· ≠ a) = l := by
            rw [List.filter_eq_self]
            intro b hb
            have : b ≠ a := fun e => hn.1 (e ▸ hb)
            simpa using this
          rw [List.filter_cons_of_neg (by simp), this]
          simp
        · rw [List.filter_cons_of_pos (by simpa using e)]
          have := ih hn.2
          simp only [List.length_cons]
          omega
    omega

structure NetOk (net : RingNet) (n : Nat) (t l : Int → Int → Bool) : Prop where
  N : net.g.N = n
  le : n ≤ 64
  len : net.links.length = n
  row : ∀ i : Int, 0 ≤ i → i < n → (idx net.links i).length = n
  tg : ∀ i j : Int, 0 ≤ i → i < n → 0 ≤ j → j < n → ((idx (idx net.links i) j).tight == 0) = !t i j
  ls : ∀ i j : Int, 0 ≤ i → i < n → 0 ≤ j → j < n → ((idx (idx net.links i) j).loose == 0) = !l i j
  tpos : ∀ i j : Int, 0 ≤ i → i < n → 0 ≤ j → j < n → 0 ≤ (idx (idx net.links i) j).tight
def stp (t l : Int → Int → Bool) (s n : Int) (x : RingSpot) (j : Int) : Option RingSpot :=
  if s ≤ j ∧ j < n ∧ (t x.node j = true ∨ (l x.node j = true ∧ x.last_ = false)) then some ⟨j, !t x.node j, x.first_⟩ else none
theorem stp_some {t l : Int → Int → Bool} {s n : Int} {x y : RingSpot} {j : Int} : stp t l s n x j = some y ↔ (s ≤ j ∧ j < n ∧ (t x.node j = true ∨ (l x.node j = true ∧ x.last_ = false))) ∧ y = ⟨j, !t x.node j, x.first_⟩ := by
  unfold stp
  split
  · rename_i h
    exact ⟨fun e => ⟨h, (Option.some.inj e).symm⟩, fun e => by rw [e.2]⟩
  · rename_i h
    exact ⟨fun e => (nomatch e), fun e => absurd e.1 h⟩
theorem onward_tri {σ : Type} {Y : σ → RingSpot → Option (Bool × σ)} {net : RingNet} {n : Nat} {t l : Int → Int → Bool} (hN : NetOk net n t l) {x : RingSpot} (hx : 0 ≤ x.node ∧ x.node < n) {s : Int} (hs : 0 ≤ s ∧ s ≤ n) (I : Int → σ → Prop) {s0 : σ} (h0 : I s s0) (Q : σ → Prop)
    (hno : ∀ j u, s ≤ j → j < n → stp t l s n x j = none → I j u → I (j + 1) u)
    (hyes : ∀ j u y, s ≤ j → j < n → stp t l s n x j = some y → I j u → Tri (Y u y) (fun r => (r.1 = true → I (j + 1) r.2) ∧ (r.1 = false → Q r.2)))
    (hend : ∀ u, I n u → Q u) : Tri (ring_net_onward_1 Y s net x s0) Q := by
  unfold ring_net_onward_1
  refine tri_iter (fun q : Int × σ => s ≤ q.1 ∧ q.1 ≤ n ∧ I q.1 q.2) (fun q => (n - q.1).toNat) ⟨Int.le_refl _, hs.2, h0⟩ ?_
  rintro ⟨j, u⟩ ⟨h1, h2, hI⟩
  dsimp only at h1 h2 hI
  have hle := hN.le
  have hnl := hN.len
  unfold ring_net_onward_1.s1
  dsimp only
  rw [hN.N]
  refine tri_bif (fun hj => ?_) (fun hj => ?_)
  · have hj : j < n := by simpa using hj
    have hr := hN.row x.node hx.1 hx.2
    have hw : w64 (j + 1) = j + 1 := w64zin (by omega) (by omega)
    refine tri_must ⟨hx.1, by rw [hnl]; exact hx.2⟩ (tri_must ⟨by omega, by rw [hr]; exact hj⟩ ?_)
    rw [hN.tg x.node j hx.1 hx.2 (by omega) hj, hN.ls x.node j hx.1 hx.2 (by omega) hj]
    have hskip : stp t l s n x j = none → Tri (ring_net_onward_1.j2 j u : Option ((Int × σ) ⊕ σ)) (Rnd (fun q : Int × σ => s ≤ q.1 ∧ q.1 ≤ n ∧ I q.1 q.2) (fun q => (n - q.1).toNat) Q (j, u)) := by
      intro h
      refine tri_some ?_
      rw [hw]
      exact ⟨⟨by dsimp only; omega, by dsimp only; omega, hno j u h1 hj h hI⟩, by dsimp only; omega⟩
    have hgo : ∀ y, stp t l s n x j = some y → Tri (ring_net_onward_1.j3 Y net x j u false) (Rnd (fun q : Int × σ => s ≤ q.1 ∧ q.1 ≤ n ∧ I q.1 q.2) (fun q => (n - q.1).toNat) Q (j, u)) := by
      intro y hy
      have hy' := (stp_some.1 hy).2
      unfold ring_net_onward_1.j3
      rw [cond_false, hN.tg x.node j hx.1 hx.2 (by omega) hj, ← hy']
      refine tri_bind (hyes j u y h1 hj hy hI) ?_
      rintro ⟨b, u'⟩ ⟨h3, h4⟩
      cases b with
      | true =>
        refine tri_some ?_
        rw [hw]
        exact ⟨⟨by dsimp only; omega, by dsimp only; omega, h3 rfl⟩, by dsimp only; omega⟩
      | false => exact tri_out (tri_some (h4 rfl))
    cases ht : t x.node j with
    | true =>
      simp only [Bool.not_true, cond_false]
      exact hgo _ (stp_some.2 ⟨⟨h1, hj, .inl ht⟩, rfl⟩)
    | false =>
      simp only [Bool.not_false, cond_true]
      cases hl : l x.node j with
      | false =>
        simp only [Bool.not_false, cond_true]
        unfold ring_net_onward_1.j3
        refine hskip ?_
        unfold stp
        rw [if_neg (by simp [ht, hl])]
      | true =>
        simp only [Bool.not_true, cond_false]
        cases hb : x.last_ with
        | true =>
          unfold ring_net_onward_1.j3
          refine hskip ?_
          unfold stp
          rw [if_neg (by simp [ht, hb])]
        | false => exact hgo _ (stp_some.2 ⟨⟨h1, hj, .inr ⟨hl, hb⟩⟩, rfl⟩)
  · have : j = n := by
      have : ¬ j < n := by simpa using hj
      omega
    subst this
    exact tri_out (tri_some (hend u hI))

/-! ### ways back through what was reached first -/
inductive Tr (m : List (RingSpot × RingSpot)) : RingSpot → List Int → Prop where
  | root {x : RingSpot} (h : x.node < 0) : Tr m x []
  | back {x : RingSpot} {q : List Int} (h0 : 0 ≤ x.node) (h : mhas m x = true) (ht : Tr m (mat m x) q) : Tr m x (q ++ [x.node])
theorem Tr.put {m : List (RingSpot × RingSpot)} {t v : RingSpot} (hn : mhas m t = false) {x : RingSpot} {q : List Int} (h : Tr m x q) : Tr (mput m t v) x q := by
  induction h with
  | root h => exact .root h
  | back h0 h ht ih =>
    rename_i x q
    refine .back h0 (mhas_put.2 (.inr h)) ?_
    rw [mat_put, if_neg (fun e => by rw [e, hn] at h; cases h)]
    exact ih
theorem trail_told {m : List (RingSpot × RingSpot)} {s : Int} {x : RingSpot} {p : List Int} (h : Tr m x p) (hl : p.length ≤ 1000) : ring_trail m x s = some (s :: p, false) := by
  unfold ring_trail
  have go : ∀ (x : RingSpot) (p : List Int), Tr m x p → ∀ acc : List Int, p.length + acc.length ≤ 1000 → iter (ring_trail.s1 m s) (x.node, x.last_, x.first_, acc) = some (s :: (p ++ acc), false) := by
    intro x p h
    induction h with
    | root h =>
      rename_i x
      intro acc ha
      have e : ring_trail.s1 m s (x.node, x.last_, x.first_, acc) = some (.inr (s :: ([] ++ acc), false)) := by
        unfold ring_trail.s1
        simp only [show decide (x.node ≥ 0) = false by simpa using h, cond_false]
        rw [must_pos _ (by simp at ha; omega)]
        rfl
      rw [iter_eq, e]
    | back h0 h ht ih =>
      rename_i x q
      intro acc ha
      have e : ring_trail.s1 m s (x.node, x.last_, x.first_, acc) = some (.inl ((mat m x).node, (mat m x).last_, (mat m x).first_, [x.node] ++ acc)) := by
        unfold ring_trail.s1
        simp only [show decide (x.node ≥ 0) = true by simpa using h0, cond_true]
        rw [must_pos _ (by simp at ha; omega)]
      rw [iter_eq, e]
      refine (ih ([x.node] ++ acc) (by simp at ha ⊢; omega)).trans ?_
      simp
  have := go x p h [] (by simpa using hl)
  simpa using this

/-! ### the ways of a start -/
def root : RingSpot := ⟨-1, false, false⟩
def ext (t l : Int → Int → Bool) (s n : Int) (x : RingSpot) (j : Int) : Option RingSpot :=
  if x.node < 0 then (stp t l s n ⟨s, false, false⟩ j).map (fun y => ⟨y.node, y.last_, y.last_⟩) else stp t l s n x j
/-- does a spot come home by a step? -/
def clo (t l : Int → Int → Bool) (s : Int) (x : RingSpot) : Prop :=
  if x.node < 0 then t s s = true else t x.node s = true ∨ (l x.node s = true ∧ x.last_ = false ∧ x.first_ = false)
theorem home_told (x : RingSpot) (s : Int) : ring_home x s = some (decide (x.node = s) && !(x.last_ && x.first_)) := by
  unfold ring_home
  by_cases h : x.node = s
  · rw [show (x.node == s) = true by simpa using h]
    cases x.last_ <;> cases x.first_ <;> simp [h]
  · rw [show (x.node == s) = false by simpa using h]
    simp [h]
/-- what a map of spots knows -/
structure Knows (m : List (RingSpot × RingSpot)) (seen : RingSpot → Prop) : Prop where
  has : ∀ y : RingSpot, 0 ≤ y.node → (mhas m y = true ↔ seen y)
structure At (t l : Int → Int → Bool) (s : Int) (n k : Nat) (m : List (RingSpot × RingSpot)) (lv : List (RingSpot × List Int)) (seen : RingSpot → Prop) : Prop where
  lev : Lv (ext t l s n) root k seen lv
  no : ∀ p, p.length < k → ¬ Clo (ext t l s n) (clo t l s) root p
  knows : Knows m seen
  tr : ∀ e ∈ lv, Tr m e.1 e.2
  node : ∀ e ∈ lv, 0 ≤ e.1.node ∧ e.1.node < n
variable {t l : Int → Int → Bool} {s : Int} {n : Nat}
theorem ext_lo {x : RingSpot} {i : Int} {y : RingSpot} (h : ext t l s n x i = some y) : s ≤ i ∧ i < n ∧ y.node = i := by
  unfold ext at h
  split at h
  · cases hq : stp t l s n ⟨s, false, false⟩ i with
    | none => rw [hq] at h; cases h
    | some z =>
      rw [hq] at h
      obtain ⟨h1, h2⟩ := stp_some.1 hq
      cases h
      rw [h2]
      exact ⟨h1.1, h1.2.1, rfl⟩
  · obtain ⟨h1, h2⟩ := stp_some.1 h
    rw [h2]
    exact ⟨h1.1, h1.2.1, rfl⟩
/-- a spot as a number -/
def code (x : RingSpot) : Nat := x.node.toNat * 4 + (if x.last_ then 2 else 0) + (if x.first_ then 1 else 0)
theorem code_inj {x y : RingSpot} (hx : 0 ≤ x.node) (hy : 0 ≤ y.node) (h : code x = code y) : x = y := by
  unfold code at h
  obtain ⟨a, b, c⟩ := x
  obtain ⟨d, e, f⟩ := y
  dsimp only at hx hy h
  cases b <;> cases c <;> cases e <;> cases f <;> simp at h ⊢ <;> omega
theorem news_len {lv : List (RingSpot × List Int)} {a : Nat} {j : Int} {done : List (Cand RingSpot)} {seen : RingSpot → Prop} {nx : List (RingSpot × List Int × RingSpot)} (hs : 0 ≤ s) (hd : Did (ext t l s n) lv a j done) (hn : News seen done nx) : nx.length ≤ 4 * n := by
  have hnode : ∀ z ∈ nx, 0 ≤ z.1.node ∧ z.1.node < n := by
    intro z hz
    obtain ⟨_, c, hc, rfl⟩ := hn.from_ z hz
    obtain ⟨b, _, h2, _⟩ := hd.is c hc
    obtain ⟨h3, h4, h5⟩ := ext_lo h2
    dsimp only
    omega
  have := nodup_le (4 * n) (nx.map fun z => code z.1) ?_ ?_
  · simpa using this
  · unfold List.Nodup
    rw [List.pairwise_map]
    exact hn.nd.imp_of_mem fun {a b} ha hb h e => h (code_inj (hnode a ha).1 (hnode b hb).1 e)
  · intro v hv
    obtain ⟨z, hz, rfl⟩ := List.mem_map.1 hv
    have := hnode z hz
    unfold code
    split <;> split <;> omega
end Go.Proofs.YtncapkloanfmnaaDoorT
