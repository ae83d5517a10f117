/- Ways back along tight steps: the program's, by levels. -/
import Derived.Test.YtncapkloanfmnaaDoorTPRI
namespace Go.Proofs.YtncapkloanfmnaaDoorT
open Go Go.Proofs Go.Proofs.YtncapkloanfmnaaDoorE
set_option linter.unusedVariables false
set_option linter.unusedSimpArgs false
set_option linter.unusedSectionVars false
variable {t l : Int → Int → Bool} {n k : Nat}
def ex1 (t : Int → Int → Bool) (n : Int) (i j : Int) : Option Int := if 0 ≤ j ∧ j < n ∧ t i j = true then some j else none
theorem ex1zsome {i j y : Int} : ex1 t n i j = some y ↔ (0 ≤ j ∧ j < n ∧ t i j = true) ∧ y = j := by
  unfold ex1
  split
  · rename_i h
    exact ⟨fun e => ⟨h, (Option.some.inj e).symm⟩, fun e => by rw [e.2]⟩
  · rename_i h
    exact ⟨fun e => (nomatch e), fun e => absurd e.1 h⟩
inductive TrN (m : List (Int × Int)) : Int → List Int → Prop where
  | root {x : Int} (h : mhas m x = true) (h0 : mat m x < 0) : TrN m x []
  | back {x : Int} {q : List Int} (h : mhas m x = true) (h0 : 0 ≤ mat m x) (ht : TrN m (mat m x) q) : TrN m x (q ++ [mat m x])
theorem TrN.put {m : List (Int × Int)} {t v : Int} (hn : mhas m t = false) {x : Int} {q : List Int} (h : TrN m x q) : TrN (mput m t v) x q := by
  have same : ∀ {y : Int}, mhas m y = true → mat (mput m t v) y = mat m y := fun {y} hy => by
    rw [mat_put, if_neg (fun e => by rw [e, hn] at hy; cases hy)]
  induction h with
  | root h h0 => exact .root (mhas_put.2 (.inr h)) (by rw [same h]; exact h0)
  | back h h0 ht ih =>
    rw [← same h]
    exact .back (mhas_put.2 (.inr h)) (by rw [same h]; exact h0) (by rw [same h]; exact ih)
theorem mhas_iff {m : List (Int × Int)} {x : Int} : mhas m x = true ↔ x ∈ m.map (·.1) := by
  unfold mhas
  simp only [List.any_eq_true, decide_eq_true_eq, List.mem_map]
theorem has_no {m : List (Int × Int)} {x : Int} (h : mhas m x = false) : ∀ k ∈ m.map (·.1), k ≠ x := by
  intro k hk e
  subst e
  rw [mhas_iff.2 hk] at h
  cases h
/-- the keys of a map of nodes -/
structure Keys (n : Nat) (m : List (Int × Int)) : Prop where
  nd : (m.map (·.1)).Nodup
  node : ∀ x ∈ m.map (·.1), 0 ≤ x ∧ x < (n : Int)
theorem Keys.put {m : List (Int × Int)} {x v : Int} (h : Keys n m) (hn : mhas m x = false) (hx : 0 ≤ x ∧ x < n) : Keys n (mput m x v) ∧ (mput m x v).length = m.length + 1 := by
  have h1 := has_no hn
  rw [mput_none h1]
  refine ⟨⟨?_, fun y hy => ?_⟩, by simp⟩
  · rw [List.map_append, List.nodup_append]
    refine ⟨h.nd, by simp, fun a ha b hb => ?_⟩
    simp at hb
    subst hb
    exact h1 a ha
  · rw [List.map_append] at hy
    rcases List.mem_append.1 hy with hy | hy
    · exact h.node y hy
    · simp at hy
      subst hy
      exact hx
theorem Keys.len {m : List (Int × Int)} (h : Keys n m) : m.length ≤ n := by
  have := nodup_le n ((m.map (·.1)).map Int.toNat) ?_ ?_
  · simpa using this
  · unfold List.Nodup
    rw [List.pairwise_map]
    refine h.nd.imp_of_mem fun {a b} ha hb h1 e => h1 ?_
    have := h.node a ha
    have := h.node b hb
    omega
  · intro v hv
    obtain ⟨x, hx, rfl⟩ := List.mem_map.1 hv
    have := h.node x hx
    omega
theorem trailN {m : List (Int × Int)} {x : Int} {q : List Int} (h : TrN m x q) (hl : q.length ≤ 1000) : ∀ acc : List Int, q.length + acc.length ≤ 1000 →
    iter (ring_net_back.s3 m) (acc, mat m x) = some (.inr (.inr (q ++ acc, false))) := by
  induction h with
  | root h h0 =>
    rename_i x
    intro acc ha
    have e : ring_net_back.s3 m (acc, mat m x) = some (.inr (.inr (.inr (acc, false)))) := by
      unfold ring_net_back.s3
      simp only [show decide (mat m x ≥ 0) = false by simpa using h0, cond_false]
      rfl
    rw [iter_eq, e]
    simp
  | back h h0 ht ih =>
    rename_i x q
    intro acc ha
    have e : ring_net_back.s3 m (acc, mat m x) = some (.inl ([mat m x] ++ acc, mat m (mat m x))) := by
      unfold ring_net_back.s3
      simp only [show decide (mat m x ≥ 0) = true by simpa using h0, cond_true]
      rw [must_pos _ (by simp at ha; omega)]
    rw [iter_eq, e]
    refine (ih (by simp at ha; omega) ([mat m x] ++ acc) (by simp at ha ⊢; omega)).trans ?_
    simp
/-- the nodes of a way but its last one -/
def butLast (s : Int) (p : List Int) : List Int := (s :: p).dropLast
theorem butLast_snoc {s j x : Int} {p : List Int} (h : (s :: p).getLast? = some x) : butLast s (p ++ [j]) = butLast s p ++ [x] := by
  unfold butLast
  rw [← List.cons_append, List.dropLast_concat]
  have : s :: p ≠ [] := by simp
  rw [List.getLast?_eq_some_getLast this] at h
  rw [← Option.some.inj h, List.dropLast_concat_getLast this]
theorem ends {s x : Int} {p : List Int} (h : run (ex1 t n) s p = some x) : (s :: p).getLast? = some x := by
  rcases List.eq_nil_or_concat p with rfl | ⟨q, j, rfl⟩
  · exact h
  · rw [List.concat_eq_append, run_snoc] at h
    cases hy : run (ex1 t n) s q with
    | none => rw [hy] at h; cases h
    | some y =>
      rw [hy] at h
      have := (ex1zsome.1 h).2
      rw [this, List.concat_eq_append, ← List.cons_append, List.getLast?_concat]
theorem butLast_len (s : Int) (p : List Int) : (butLast s p).length = p.length := by simp [butLast]
/-- a level's nodes looked at, up to some step -/
def ScanB (t : Int → Int → Bool) (s : Int) (n : Nat) (seen : Int → Prop) (lv : List (Int × List Int)) (m0 : Nat) (a : Nat) (j : Int) (m : List (Int × Int)) (nl : List Int) : Prop :=
  ∃ done nx, Did (ex1 t n) lv a j done ∧ News seen done nx ∧ nl = nx.map (·.1) ∧ (∀ y, mhas m y = true ↔ seen y ∨ ∃ z ∈ nx, z.1 = y) ∧ (∀ e ∈ lv, TrN m e.1 (butLast s e.2)) ∧ (∀ z ∈ nx, TrN m z.1 (butLast s z.2.1)) ∧ Keys n m ∧ m.length = m0 + nl.length
structure AtB (t : Int → Int → Bool) (s e : Int) (n k : Nat) (m : List (Int × Int)) (lv : List (Int × List Int)) (seen : Int → Prop) : Prop where
  lev : Lv (ex1 t n) s k seen lv
  no : ∀ p, p.length < k → ¬ Clo (ex1 t n) (· = e) s p
  has : ∀ y, mhas m y = true ↔ seen y
  tr : ∀ z ∈ lv, TrN m z.1 (butLast s z.2)
  keys : Keys n m
def BackSpec (t : Int → Int → Bool) (s e : Int) (n : Nat) (r : List Int × Bool) : Prop :=
  (r = ([], true) ∧ ∀ p, ¬ Clo (ex1 t n) (· = e) s p) ∨ ∃ p, r = (butLast s p, false) ∧ First (ex1 t n) (· = e) s p ∧ p.length < n
theorem ex1zlo {x : Int} {i t' : Int} (h : ex1 t n x i = some t') : 0 ≤ i := (ex1zsome.1 h).1.1
theorem ex1zhi {x : Int} {i t' : Int} (h : ex1 t n x i = some t') : i < n := (ex1zsome.1 h).1.2.1
theorem TrN.len {m : List (Int × Int)} (hk : Keys n m) : ∀ {x : Int} {q : List Int}, TrN m x q → True := fun _ => trivial
theorem back_told {net : RingNet} (hN : NetOk net n t l) {s e : Int} (hs : 0 ≤ s ∧ s < n) : Tri (ring_net_back net s e) (BackSpec t s e n) := by
  have hle := hN.le
  unfold ring_net_back
  have m0 : mput ([] : List (Int × Int)) s (-1) = [(s, -1)] := rfl
  rw [m0]
  have start : AtB t s e n 0 [(s, -1)] [(s, [])] (· = s) := by
    refine ⟨⟨?_, by simp, fun y => ⟨?_, ?_⟩, fun p y hp hy => ?_⟩, fun p h => absurd h (Nat.not_lt_zero _), fun y => ?_, fun z hz => ?_, ⟨by simp, by simpa using hs⟩⟩
    · intro z hz
      simp only [List.mem_singleton] at hz
      subst hz
      exact ⟨rfl, rfl⟩
    · rintro rfl
      exact ⟨[], Nat.le_refl _, rfl⟩
    · rintro ⟨p, hp, hr⟩
      obtain rfl : p = [] := List.eq_nil_of_length_eq_zero (by omega)
      exact (Option.some.inj hr).symm
    · right
      obtain rfl : p = [] := List.eq_nil_of_length_eq_zero hp
      exact ⟨_, List.mem_singleton.2 rfl, Option.some.inj hy, lxe_refl _⟩
    · simp [mhas]
      exact eq_comm
    · simp only [List.mem_singleton] at hz
      subst hz
      exact .root (by simp [mhas]) (by simp [mat])
  refine tri_iter (fun q : List (Int × Int) × List Int × Bool => ∃ k lv seen, AtB t s e n k q.1 lv seen ∧ q.2.1 = lv.map (·.1) ∧ (lv = [] ∨ k < q.1.length)) (fun q => 2 * (n + 1 - q.1.length) + (if q.2.1 = [] then 0 else 1)) ⟨0, _, _, start, rfl, .inr (by simp)⟩ ?_
  rintro ⟨m, level, b⟩ ⟨k, lv, seen, hA, hlv, hkm⟩
  dsimp only at hA hlv hkm
  subst hlv
  have hmlen := hA.keys.len
  unfold ring_net_back.s1
  dsimp only
  refine tri_bif (fun hq => ?_) (fun hq => ?_)
  · have hq : 0 < lv.length := by simpa using hq
    have hkm' : k < m.length := by
      rcases hkm with hkm | hkm
      · rw [hkm] at hq; simp at hq
      · exact hkm
    refine tri_iter (fun q : List (Int × Int) × List Int × Bool × Int => ∃ a : Nat, q.2.2.2 = (a : Int) ∧ a ≤ lv.length ∧ ScanB t s n seen lv m.length a 0 q.1 q.2.1 ∧ ∀ (b : Nat) y p, b < a → lv[b]? = some (y, p) → ¬ y = e) (fun q => lv.length - q.2.2.2.toNat)
      ⟨0, rfl, Nat.zero_le _, ⟨[], [], Did.start _ _ (fun x i t h => ex1zlo h), News.nil _, rfl, fun y => by rw [hA.has]; simp, hA.tr, by simp, hA.keys, by simp⟩, fun b y p hb => absurd hb (Nat.not_lt_zero _)⟩ ?_
    rintro ⟨m1, nl, b1, a1⟩ ⟨a, e1, ha, hS, hcl⟩
    dsimp only at e1 hS
    subst e1
    unfold ring_net_back.s2
    dsimp only
    refine tri_bif (fun hk => ?_) (fun hk => ?_)
    · have hk : a < lv.length := by simpa using hk
      have hx : lv[a]? = some (lv[a].1, lv[a].2) := List.getElem?_eq_getElem hk
      have hi : idx (lv.map (·.1)) (a : Int) = lv[a].1 := by
        rw [idx_nat, List.getD_eq_getElem?_getD, List.getElem?_map, List.getElem?_eq_getElem hk]
        rfl
      obtain ⟨hrun, hpl⟩ := hA.lev.ok _ (List.mem_of_getElem? hx)
      dsimp only at hrun hpl
      refine tri_must (by simp; omega) ?_
      rw [hi]
      have hlvlen : lv.length ≤ n := by
        -- each node of the level is a key, each once
        have hmem : ∀ z ∈ lv, 0 ≤ z.1 ∧ z.1 < (n : Int) := by
          intro z hz
          have h1 := hA.tr z hz
          have h2 : mhas m z.1 = true := by
            generalize butLast s z.2 = q at h1
            cases h1 with
            | root h _ => exact h
            | back h _ _ => exact h
          exact hA.keys.node z.1 (mhas_iff.1 h2)
        have := nodup_le n (lv.map fun z => z.1.toNat) ?_ ?_
        · simpa using this
        · unfold List.Nodup
          rw [List.pairwise_map]
          refine hA.lev.sorted.imp_of_mem fun {x y} hx hy h1 e2 => ?_
          have a1 := hmem x hx
          have a2 := hmem y hy
          have e3 : x.1 = y.1 := by omega
          have t1 := hA.tr x hx
          have t2 := hA.tr y hy
          rw [e3] at t1
          have uniq : ∀ {x : Int} {p q : List Int}, TrN m x p → TrN m x q → p = q := by
            intro x p q h1
            induction h1 generalizing q with
            | root h h0 =>
              intro h2
              cases h2 with
              | root => rfl
              | back _ h3 => omega
            | back h h0 ht ih =>
              intro h2
              cases h2 with
              | root _ h3 => omega
              | back _ _ ht' => rw [ih ht']
          have e4 := uniq t1 t2
          have r1 := ends (hA.lev.ok x hx).1
          have r2 := ends (hA.lev.ok y hy).1
          have : s :: x.2 = s :: y.2 := by
            have n1 : s :: x.2 ≠ [] := by simp
            have n2 : s :: y.2 ≠ [] := by simp
            rw [← List.dropLast_concat_getLast n1, ← List.dropLast_concat_getLast n2]
            rw [List.getLast?_eq_some_getLast n1] at r1
            rw [List.getLast?_eq_some_getLast n2] at r2
            rw [Option.some.inj r1, Option.some.inj r2, e3]
            unfold butLast at e4
            rw [e4]
          rw [(List.cons.inj this).2] at h1
          exact lx_irr h1
        · intro v hv
          obtain ⟨z, hz, rfl⟩ := List.mem_map.1 hv
          have := hmem z hz
          omega
      refine tri_bif (fun hc => ?_) (fun hc => ?_)
      · have hc : lv[a].1 = e := by simpa using hc
        obtain ⟨_, _, _, _, _, _, htr, _⟩ := id hS
        have h4 := htr _ (List.mem_of_getElem? hx)
        have hbl := butLast_len s lv[a].2
        rw [trailN h4 (by dsimp only; omega) [] (by dsimp only; simp; omega)]
        refine tri_some (.inr ⟨lv[a].2, by simp, hA.lev.first hA.no hx hc hcl, by omega⟩)
      · have hc : ¬ lv[a].1 = e := by simpa using hc
        have hnode : 0 ≤ lv[a].1 ∧ lv[a].1 < n := by
          rcases List.eq_nil_or_concat lv[a].2 with h1 | ⟨q, j, h1⟩
          · rw [h1] at hrun
            have := Option.some.inj hrun
            omega
          · rw [h1, List.concat_eq_append, run_snoc] at hrun
            cases hy : run (ex1 t n) s q with
            | none => rw [hy] at hrun; cases hrun
            | some y =>
              rw [hy] at hrun
              obtain ⟨h2, h3⟩ := ex1zsome.1 hrun
              rw [h3]
              exact ⟨h2.1, h2.2.1⟩
        have hrow := hN.row lv[a].1 hnode.1 hnode.2
        have hnl := hN.len
        refine tri_iter (fun q : List (Int × Int) × List Int × Bool × Int => 0 ≤ q.2.2.2 ∧ q.2.2.2 ≤ n ∧ ScanB t s n seen lv m.length a q.2.2.2 q.1 q.2.1) (fun q => ((n : Int) - q.2.2.2).toNat) ⟨Int.le_refl _, by dsimp only; omega, hS⟩ ?_
        rintro ⟨m2, nl2, b2, j⟩ ⟨h1, h2, done, nx, g1, g2, g3, g4, g5, g6, g7, g8⟩
        dsimp only at h1 h2 g1 g3 g4 g5 g6 g7 g8
        have hl2 := g7.len
        unfold ring_net_back.s4
        dsimp only
        rw [hN.N]
        refine tri_bif (fun hj => ?_) (fun hj => ?_)
        · have hj : j < n := by simpa using hj
          have hw : w64 (j + 1) = j + 1 := w64zin (by omega) (by omega)
          have htg := hN.tg lv[a].1 j hnode.1 hnode.2 h1 hj
          have skip : (ex1 t n lv[a].1 j = none ∨ mhas m2 j = true) → Tri (ring_net_back.j6 (lv.map (·.1)) (a : Int) m2 nl2 b2 j false) (Rnd (fun q : List (Int × Int) × List Int × Bool × Int => 0 ≤ q.2.2.2 ∧ q.2.2.2 ≤ n ∧ ScanB t s n seen lv m.length a q.2.2.2 q.1 q.2.1) (fun q => ((n : Int) - q.2.2.2).toNat)
              (Rnd (fun q : List (Int × Int) × List Int × Bool × Int => ∃ a : Nat, q.2.2.2 = (a : Int) ∧ a ≤ lv.length ∧ ScanB t s n seen lv m.length a 0 q.1 q.2.1 ∧ ∀ (b : Nat) y p, b < a → lv[b]? = some (y, p) → ¬ y = e) (fun q => lv.length - q.2.2.2.toNat)
                (Rnd (fun q : List (Int × Int) × List Int × Bool => ∃ k lv seen, AtB t s e n k q.1 lv seen ∧ q.2.1 = lv.map (·.1) ∧ (lv = [] ∨ k < q.1.length)) (fun q => 2 * (n + 1 - q.1.length) + (if q.2.1 = [] then 0 else 1)) (BackSpec t s e n) (m, lv.map (·.1), b)) (m1, nl, b1, (a : Int))) (m2, nl2, b2, j)) := by
            intro h
            unfold ring_net_back.j6 ring_net_back.j5
            rw [cond_false, hw]
            refine tri_some ⟨⟨by dsimp only; omega, by dsimp only; omega, ?_⟩, by dsimp only; omega⟩
            dsimp only
            cases hex : ex1 t n lv[a].1 j with
            | none => exact ⟨done, nx, g1.skip hx hex, g2, g3, g4, g5, g6, g7, g8⟩
            | some y =>
              obtain ⟨_, rfl⟩ := ex1zsome.1 hex
              rcases h with h | h
              · rw [h] at hex; cases hex
              · exact ⟨_, nx, g1.one hx hex, g2.old (g1.lt hA.lev hx) ((g4 y).1 h), g3, g4, g5, g6, g7, g8⟩
          refine tri_bif (fun hm => ?_) (fun hm => skip (.inr (by simpa using hm)))
          have hm : mhas m2 j = false := by simpa using hm
          rw [hi]
          refine tri_must (by omega) (tri_must (by omega) ?_)
          cases htt : t lv[a].1 j with
          | false =>
            rw [htt] at htg
            have : (idx (idx net.links lv[a].1) j).tight = 0 := by simpa using htg
            rw [this]
            refine skip (.inl ?_)
            unfold ex1
            rw [if_neg (by simp [htt])]
          | true =>
            have hex : ex1 t n lv[a].1 j = some j := ex1zsome.2 ⟨⟨h1, hj, htt⟩, rfl⟩
            rw [htt] at htg
            have hne : ¬ (idx (idx net.links lv[a].1) j).tight = 0 := by simpa using htg
            cases hpos : decide ((idx (idx net.links lv[a].1) j).tight > 0) with
            | false => exact skip (.inr (by
                have : ¬ (idx (idx net.links lv[a].1) j).tight > 0 := by simpa using hpos
                exact absurd (hN.tpos lv[a].1 j hnode.1 hnode.2 h1 hj) (by omega)))
            | true =>
              unfold ring_net_back.j6 ring_net_back.j5
              rw [cond_true, hw, hi]
              have hn : ¬ (seen j ∨ ∃ z ∈ nx, z.1 = j) := fun h => by rw [(g4 j).2 h] at hm; cases hm
              obtain ⟨k1, k2⟩ := g7.put (v := lv[a].1) hm ⟨h1, hj⟩
              refine tri_must (by omega) (tri_some ⟨⟨by dsimp only; omega, by dsimp only; omega, ?_⟩, by dsimp only; omega⟩)
              dsimp only
              have htr : TrN (mput m2 j lv[a].1) j (butLast s (lv[a].2 ++ [j])) := by
                have e5 : mat (mput m2 j lv[a].1) j = lv[a].1 := by rw [mat_put, if_pos rfl]
                rw [butLast_snoc (ends hrun)]
                have h9 : TrN (mput m2 j lv[a].1) j (butLast s lv[a].2 ++ [mat (mput m2 j lv[a].1) j]) := .back (mhas_put.2 (.inl rfl)) (by rw [e5]; exact hnode.1) (by rw [e5]; exact (g5 _ (List.mem_of_getElem? hx)).put hm)
                rw [e5] at h9
                exact h9
              refine ⟨done ++ [⟨lv[a].1, lv[a].2, j, j⟩], nx ++ [(j, (⟨lv[a].1, lv[a].2, j, j⟩ : Cand Int).q, lv[a].1)], g1.one hx hex, g2.new (g1.lt hA.lev hx) (fun h => hn (.inl h)) (fun z hz e => hn (.inr ⟨z, hz, e⟩)), by simp [g3], fun u => ?_, fun z hz => (g5 z hz).put hm, fun z hz => ?_, k1, by rw [k2, g8]; simp; omega⟩
              · rw [mhas_put, g4 u]
                constructor
                · rintro (rfl | h | ⟨z, hz, e⟩)
                  · exact .inr ⟨_, List.mem_append_right _ (List.mem_singleton.2 rfl), rfl⟩
                  · exact .inl h
                  · exact .inr ⟨z, List.mem_append_left _ hz, e⟩
                · rintro (h | ⟨z, hz, e⟩)
                  · exact .inr (.inl h)
                  · rcases List.mem_append.1 hz with hz | hz
                    · exact .inr (.inr ⟨z, hz, e⟩)
                    · simp only [List.mem_singleton] at hz
                      subst hz
                      exact .inl e.symm
              · rcases List.mem_append.1 hz with hz | hz
                · exact (g6 z hz).put hm
                · simp only [List.mem_singleton] at hz
                  subst hz
                  exact htr
        · have hj : ¬ j < n := by simpa using hj
          obtain rfl : j = n := by omega
          refine tri_out (tri_some ?_)
          rw [w64zin (by omega) (by omega)]
          refine ⟨⟨a + 1, rfl, hk, ⟨done, nx, g1.next (fun x i t h => ex1zlo h) (fun x i t h => ex1zhi h), g2, g3, g4, g5, g6, g7, g8⟩, fun b y p hb hy => ?_⟩, by dsimp only; omega⟩
          rcases Nat.lt_or_ge b a with h | h
          · exact hcl b y p h hy
          · obtain rfl : b = a := by omega
            rw [hx] at hy
            cases hy
            exact hc
    · have hk : ¬ a < lv.length := by simpa using hk
      obtain rfl : a = lv.length := by omega
      obtain ⟨done, nx, g1, g2, g3, g4, g5, g6, g7, g8⟩ := hS
      refine tri_out (tri_some ⟨⟨k + 1, _, _, ⟨hA.lev.next g1 g2, hA.lev.noclo hA.no (fun b y p hb => hcl b y p (List.getElem?_eq_some_iff.1 hb).1 hb), g4, fun z hz => ?_, g7⟩, by dsimp only; rw [g3, List.map_map]; rfl, ?_⟩, ?_⟩)
      · obtain ⟨z', hz', rfl⟩ := List.mem_map.1 hz
        exact g6 z' hz'
      · dsimp only
        rcases Nat.eq_zero_or_pos nx.length with h | h
        · exact .inl (by rw [List.eq_nil_of_length_eq_zero h]; rfl)
        · refine .inr ?_
          rw [g8, g3, List.length_map]
          rcases hkm with hkm | hkm
          · rw [hkm] at hq; simp at hq
          · omega
      · dsimp only
        have hlv0 : ¬ lv.map (·.1) = [] := by
          intro h
          have : (lv.map (·.1)).length = 0 := by rw [h]; rfl
          simp at this
          rw [this] at hq
          simp at hq
        have := g7.len
        rw [if_neg hlv0]
        split
        · omega
        · rename_i h
          have : 0 < nl.length := List.length_pos_iff.2 h
          omega
  · have hq : ¬ 0 < lv.length := by simpa using hq
    obtain rfl : lv = [] := List.eq_nil_of_length_eq_zero (by omega)
    exact tri_out (tri_some (.inl ⟨rfl, hA.lev.never hA.no⟩))
end Go.Proofs.YtncapkloanfmnaaDoorT
