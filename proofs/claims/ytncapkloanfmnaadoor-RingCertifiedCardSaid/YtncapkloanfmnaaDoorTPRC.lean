/- The program's shortest cycle from a node on. -/
import Derived.Test.YtncapkloanfmnaaDoorTPRB
namespace Go.Proofs.YtncapkloanfmnaaDoorT
open Go Go.Proofs Go.Proofs.YtncapkloanfmnaaDoorE
set_option linter.unusedVariables false
set_option linter.unusedSimpArgs false
variable {t l : Int → Int → Bool} {s : Int} {n k : Nat}
def Scan (t l : Int → Int → Bool) (s : Int) (n : Nat) (seen : RingSpot → Prop) (lv : List (RingSpot × List Int)) (a : Nat) (j : Int) (m : List (RingSpot × RingSpot)) (nl : List RingSpot) : Prop :=
  ∃ done nx, Did (ext t l s n) lv a j done ∧ News seen done nx ∧ nl = nx.map (·.1) ∧ Knows m (fun y => seen y ∨ ∃ z ∈ nx, z.1 = y) ∧ (∀ e ∈ lv, Tr m e.1 e.2) ∧ (∀ z ∈ nx, Tr m z.1 z.2.1 ∧ 0 ≤ z.1.node ∧ z.1.node < n)
section
variable {seen : RingSpot → Prop} {lv : List (RingSpot × List Int)} {a : Nat} {j : Int} {m : List (RingSpot × RingSpot)} {nl : List RingSpot} {x y : RingSpot} {p : List Int}
theorem Scan.skip (h : Scan t l s n seen lv a j m nl) (hx : lv[a]? = some (x, p)) (hj : ext t l s n x j = none) : Scan t l s n seen lv a (j + 1) m nl := by
  obtain ⟨done, nx, h1, h2, h3⟩ := h
  exact ⟨done, nx, h1.skip hx hj, h2, h3⟩
theorem Scan.old {z0 : RingSpot} (hL : Lv (ext t l s n) z0 k seen lv) (h : Scan t l s n seen lv a j m nl) (hs : 0 ≤ s) (hx : lv[a]? = some (x, p)) (hj : ext t l s n x j = some y) (hm : mhas m y = true) : Scan t l s n seen lv a (j + 1) m nl := by
  obtain ⟨done, nx, h1, h2, h3, h4, h5⟩ := h
  have hy := ext_lo hj
  exact ⟨done ++ [⟨x, p, j, y⟩], nx, h1.one hx hj, h2.old (h1.lt hL hx) ((h4.has y (by omega)).1 hm), h3, h4, h5⟩
theorem Scan.new {z0 : RingSpot} (hL : Lv (ext t l s n) z0 k seen lv) (h : Scan t l s n seen lv a j m nl) (hs : 0 ≤ s) (hx : lv[a]? = some (x, p)) (hj : ext t l s n x j = some y) (hm : mhas m y = false) : Scan t l s n seen lv a (j + 1) (mput m y x) (nl ++ [y]) := by
  obtain ⟨done, nx, h1, h2, h3, h4, h5, h6⟩ := h
  have hy := ext_lo hj
  have hn : ¬ (seen y ∨ ∃ z ∈ nx, z.1 = y) := fun h => by rw [(h4.has y (by omega)).2 h] at hm; cases hm
  have hq : (⟨x, p, j, y⟩ : Cand RingSpot).q = p ++ [y.node] := by show p ++ [j] = _; rw [hy.2.2]
  have htr : Tr (mput m y x) y (p ++ [y.node]) := .back (by omega) (mhas_put.2 (.inl rfl)) (by rw [mat_put, if_pos rfl]; exact (h5 _ (List.mem_of_getElem? hx)).put hm)
  refine ⟨done ++ [⟨x, p, j, y⟩], nx ++ [(y, (⟨x, p, j, y⟩ : Cand RingSpot).q, x)], h1.one hx hj, h2.new (h1.lt hL hx) (fun h => hn (.inl h)) (fun z hz e => hn (.inr ⟨z, hz, e⟩)), by simp [h3], ⟨fun u hu => ?_⟩, fun e he => (h5 e he).put hm, fun z hz => ?_⟩
  · rw [mhas_put, h4.has u hu]
    constructor
    · rintro (rfl | h | ⟨z, hz, e⟩)
      · exact .inr ⟨_, List.mem_append_right _ (List.mem_singleton.2 rfl), rfl⟩
      · exact .inl h
      · exact .inr ⟨z, List.mem_append_left _ hz, e⟩
    · rintro (h | ⟨z, hz, e⟩)
      · exact .inr (.inl h)
      · rcases List.mem_append.1 hz with hz | hz
        · exact .inr (.inr ⟨z, hz, e⟩)
        · simp only [List.mem_singleton] at hz
          subst hz
          exact .inl e.symm
  · rcases List.mem_append.1 hz with hz | hz
    · exact ⟨(h6 z hz).1.put hm, (h6 z hz).2⟩
    · simp only [List.mem_singleton] at hz
      subst hz
      refine ⟨?_, by dsimp only; omega, by dsimp only; omega⟩
      rw [hq]
      exact htr
theorem Scan.len (h : Scan t l s n seen lv a j m nl) (hs : 0 ≤ s) : nl.length ≤ 4 * n := by
  obtain ⟨done, nx, h1, h2, h3, _⟩ := h
  rw [h3, List.length_map]
  exact news_len hs h1 h2
theorem Scan.next (h : Scan t l s n seen lv a n m nl) : Scan t l s n seen lv (a + 1) s m nl := by
  obtain ⟨done, nx, h1, h3⟩ := h
  exact ⟨done, nx, h1.next (fun x i t h => (ext_lo h).1) (fun x i t h => (ext_lo h).2.1), h3⟩
theorem Scan.start (hk : Knows m seen) (ht : ∀ e ∈ lv, Tr m e.1 e.2) : Scan t l s n seen lv 0 s m [] :=
  ⟨[], [], Did.start _ _ (fun x i t h => (ext_lo h).1), News.nil _, rfl, ⟨fun y hy => by rw [hk.has y hy]; simp⟩, ht, by simp⟩
theorem Scan.level (hA : Lv (ext t l s n) root k seen lv) (hno : ∀ p, p.length < k → ¬ Clo (ext t l s n) (clo t l s) root p) (h : Scan t l s n seen lv lv.length s m nl) (hb : ∀ (b : Nat) y q, lv[b]? = some (y, q) → ¬ clo t l s y) :
    ∃ lv' seen', nl = lv'.map (·.1) ∧ At t l s n (k + 1) m lv' seen' := by
  obtain ⟨done, nx, h1, h2, h3, h4, h5, h6⟩ := h
  refine ⟨nx.map fun z => (z.1, z.2.1), _, by rw [h3, List.map_map]; rfl, hA.next h1 h2, hA.noclo hno hb, h4, fun e he => ?_, fun e he => ?_⟩
  · obtain ⟨z, hz, rfl⟩ := List.mem_map.1 he
    exact (h6 z hz).1
  · obtain ⟨z, hz, rfl⟩ := List.mem_map.1 he
    exact (h6 z hz).2
end
theorem lv0 : Lv (ext t l s n) root 0 (· = root) [(root, [])] := by
  refine ⟨?_, by simp, fun y => ⟨?_, ?_⟩, fun p y hp hy => ?_⟩
  · intro e he
    simp only [List.mem_singleton] at he
    subst he
    exact ⟨rfl, rfl⟩
  · rintro rfl
    exact ⟨[], Nat.le_refl _, rfl⟩
  · rintro ⟨p, hp, hr⟩
    have : p = [] := List.eq_nil_of_length_eq_zero (by omega)
    subst this
    exact (Option.some.inj hr).symm
  · right
    have : p = [] := List.eq_nil_of_length_eq_zero hp
    subst this
    exact ⟨_, List.mem_singleton.2 rfl, Option.some.inj hy, lxe_refl _⟩
/-- the first level -/
theorem first_level {net : RingNet} (hN : NetOk net n t l) (hs : 0 ≤ s ∧ s < n) :
    Tri (ring_net_onward_1 (ring_net_round.y1 s) s net ⟨s, false, false⟩ (.inl ([], [], true))) (fun u => match u with
      | .inl (m, nl, _) => Scan t l s n (· = root) [(root, [])] 0 n m nl ∧ ¬ clo t l s root
      | .inr _ => clo t l s root) := by
  have hclo : clo t l s root ↔ t s s = true := Iff.rfl
  have hle := hN.le
  refine onward_tri hN (x := ⟨s, false, false⟩) hs ⟨hs.1, by omega⟩ (fun j u => ∃ m nl b, u = .inl (m, nl, b) ∧ Scan t l s n (· = root) [(root, [])] 0 j m nl ∧ (s < j → ¬ t s s = true)) ?_ _ ?_ ?_ ?_
  · refine ⟨_, _, _, rfl, Scan.start ⟨fun y hy => ?_⟩ (fun e he => ?_), fun h => by omega⟩
    · rw [mhas_nil]
      constructor
      · intro h; cases h
      · rintro rfl; simp [root] at hy
    · simp only [List.mem_singleton] at he
      subst he
      exact .root (by decide)
  · rintro j u h1 h2 h3 ⟨m, nl, b, rfl, h4, h5⟩
    refine ⟨m, nl, b, rfl, h4.skip (x := root) (p := []) rfl ?_, fun _ => ?_⟩
    · show (stp t l s n ⟨s, false, false⟩ j).map _ = none
      rw [h3]
      rfl
    · by_cases e : s < j
      · exact h5 e
      · obtain rfl : s = j := by omega
        intro ht
        unfold stp at h3
        rw [if_pos ⟨h1, h2, .inl ht⟩] at h3
        cases h3
  · rintro j u y h1 h2 h3 ⟨m, nl, b, rfl, h4, h5⟩
    obtain ⟨h6, h7⟩ := stp_some.1 h3
    have hj : y.node = j := by rw [h7]
    have hl : y.last_ = !t s j := by rw [h7]
    have hx : ext t l s n root j = some ⟨y.node, y.last_, y.last_⟩ := by
      show (stp t l s n ⟨s, false, false⟩ j).map _ = _
      rw [h3]
      rfl
    have hlen := h4.len hs.1
    unfold ring_net_round.y1
    dsimp only
    rw [home_told]
    refine tri_sb ?_
    by_cases hh : j = s ∧ t s s = true
    · rw [show (decide ((⟨y.node, y.last_, y.last_⟩ : RingSpot).node = s) && !((⟨y.node, y.last_, y.last_⟩ : RingSpot).last_ && (⟨y.node, y.last_, y.last_⟩ : RingSpot).first_)) = true by dsimp only; rw [hj, hl, hh.1, hh.2]; simp, cond_true]
      exact tri_some ⟨fun h => (nomatch h), fun _ => hh.2⟩
    · rw [show (decide ((⟨y.node, y.last_, y.last_⟩ : RingSpot).node = s) && !((⟨y.node, y.last_, y.last_⟩ : RingSpot).last_ && (⟨y.node, y.last_, y.last_⟩ : RingSpot).first_)) = false by
        dsimp only
        rw [hj, hl]
        by_cases e : j = s
        · subst e
          have : t j j = false := by
            cases h : t j j with
            | true => exact absurd ⟨rfl, h⟩ hh
            | false => rfl
          simp [this]
        · simp [e], cond_false]
      have hno : s < j + 1 → ¬ t s s = true := fun _ => by
        by_cases e : s < j
        · exact h5 e
        · obtain rfl : s = j := by omega
          exact fun h => hh ⟨rfl, h⟩
      cases hm : mhas m ⟨y.node, y.last_, y.last_⟩ with
      | true =>
        refine tri_some ⟨fun _ => ⟨m, nl, b, rfl, h4.old lv0 hs.1 (x := root) (p := []) rfl hx hm, hno⟩, fun h => by cases h⟩
      | false =>
        refine tri_must (by omega) (tri_some ⟨fun _ => ⟨_, _, false, rfl, ?_, hno⟩, fun h => by cases h⟩)
        exact h4.new lv0 hs.1 (x := root) (p := []) rfl hx hm
  · rintro u ⟨m, nl, b, rfl, h4, h5⟩
    exact ⟨h4, fun h => h5 hs.2 (hclo.1 h)⟩
/-- one spot of a level -/
theorem spot_told {net : RingNet} (hN : NetOk net n t l) (hs : 0 ≤ s ∧ s < n) {seen : RingSpot → Prop} {lv : List (RingSpot × List Int)} (hL : Lv (ext t l s n) root k seen lv) {a : Nat} {x : RingSpot} {p : List Int} (hx : lv[a]? = some (x, p)) (hxn : 0 ≤ x.node ∧ x.node < n) (hp : p.length ≤ 1000)
    {m0 : List (RingSpot × RingSpot)} {nl0 : List RingSpot} {b0 : Bool} (h0 : Scan t l s n seen lv a s m0 nl0) (hi : idx (lv.map (·.1)) (a : Int) = x) :
    Tri (ring_net_onward_1 (ring_net_round.y6 s (lv.map (·.1)) (a : Int)) s net x (.inl (m0, nl0, b0))) (fun u => match u with
      | .inl (m, nl, _) => Scan t l s n seen lv a n m nl ∧ ¬ clo t l s x
      | .inr r => clo t l s x ∧ r = (s :: p, false)) := by
  have hnx : ¬ x.node < 0 := by omega
  have hex : ∀ j, ext t l s n x j = stp t l s n x j := fun j => by unfold ext; rw [if_neg hnx]
  have hclo : clo t l s x ↔ (t x.node s = true ∨ (l x.node s = true ∧ x.last_ = false ∧ x.first_ = false)) := by unfold clo; rw [if_neg hnx]
  have hle := hN.le
  refine onward_tri hN hxn ⟨hs.1, by omega⟩ (fun j u => ∃ m nl b, u = .inl (m, nl, b) ∧ Scan t l s n seen lv a j m nl ∧ (s < j → ¬ clo t l s x)) ?_ _ ?_ ?_ ?_
  · exact ⟨_, _, _, rfl, h0, fun h => by omega⟩
  · rintro j u h1 h2 h3 ⟨m, nl, b, rfl, h4, h5⟩
    refine ⟨m, nl, b, rfl, h4.skip hx ((hex j).trans h3), fun _ => ?_⟩
    by_cases e : s < j
    · exact h5 e
    · obtain rfl : s = j := by omega
      rw [hclo]
      intro hc
      unfold stp at h3
      rw [if_pos ⟨h1, h2, hc.imp id fun h => ⟨h.1, h.2.1⟩⟩] at h3
      cases h3
  · rintro j u y h1 h2 h3 ⟨m, nl, b, rfl, h4, h5⟩
    obtain ⟨h6, h7⟩ := stp_some.1 h3
    have hj : y.node = j := by rw [h7]
    have hl : y.last_ = !t x.node j := by rw [h7]
    have hf : y.first_ = x.first_ := by rw [h7]
    have hlen := h4.len hs.1
    unfold ring_net_round.y6
    dsimp only
    rw [home_told, hj, hl, hf]
    refine tri_sb ?_
    by_cases hh : j = s ∧ (t x.node s = true ∨ x.first_ = false)
    · rw [show (decide (j = s) && !(!t x.node j && x.first_)) = true by
        obtain ⟨rfl, h⟩ := hh
        rcases h with h | h <;> simp [h], cond_true]
      have hc : clo t l s x := by
        obtain ⟨rfl, h⟩ := hh
        rw [hclo]
        rcases h6.2.2 with h8 | h8
        · exact .inl h8
        · rcases h with h | h
          · exact .inl h
          · exact .inr ⟨h8.1, h8.2, h⟩
      obtain ⟨_, _, _, _, _, _, h9, _⟩ := id h4
      rw [hi, trail_told (h9 _ (List.mem_of_getElem? hx)) hp]
      refine tri_sb (tri_some ⟨fun h => (nomatch h), fun _ => ⟨hc, rfl⟩⟩)
    · rw [show (decide (j = s) && !(!t x.node j && x.first_)) = false by
        by_cases e : j = s
        · subst e
          have h8 : t x.node j = false := by
            cases h : t x.node j with
            | true => exact absurd ⟨rfl, .inl h⟩ hh
            | false => rfl
          have h9 : x.first_ = true := by
            cases h : x.first_ with
            | false => exact absurd ⟨rfl, .inr h⟩ hh
            | true => rfl
          simp [h8, h9]
        · simp [e], cond_false]
      have hno : s < j + 1 → ¬ clo t l s x := fun _ => by
        by_cases e : s < j
        · exact h5 e
        · obtain rfl : s = j := by omega
          rw [hclo]
          rintro (h | h)
          · exact hh ⟨rfl, .inl h⟩
          · exact hh ⟨rfl, .inr h.2.2⟩
      rw [show (⟨j, !t x.node j, x.first_⟩ : RingSpot) = y from h7.symm] at *
      cases hm : mhas m y with
      | true =>
        refine tri_some ⟨fun _ => ⟨m, nl, b, rfl, h4.old hL hs.1 hx ((hex j).trans h3) hm, hno⟩, fun h => by cases h⟩
      | false =>
        rw [hi]
        refine tri_must (by omega) (tri_some ⟨fun _ => ⟨_, _, false, rfl, h4.new hL hs.1 hx ((hex j).trans h3) hm, hno⟩, fun h => by cases h⟩)
  · rintro u ⟨m, nl, b, rfl, h4, h5⟩
    exact ⟨h4, h5 hs.2⟩
/-- what a round comes to -/
def RoundSpec (t l : Int → Int → Bool) (s : Int) (n : Nat) (limit : Int) (r : List Int × Bool) : Prop :=
  (r = ([], true) ∧ ∀ p, Clo (ext t l s n) (clo t l s) root p → limit ≤ p.length + 1) ∨ ∃ p, r = (s :: p, false) ∧ First (ext t l s n) (clo t l s) root p ∧ (p = [] ∨ (p.length : Int) + 1 < limit)
theorem round_told {net : RingNet} (hN : NetOk net n t l) (hs : 0 ≤ s ∧ s < n) {limit : Int} (hl : 2 ≤ limit ∧ limit ≤ 100) : Tri (ring_net_round net s limit) (RoundSpec t l s n limit) := by
  have hle := hN.le
  unfold ring_net_round ring_net_onward
  refine tri_sb (tri_bind (first_level hN hs) ?_)
  rintro (⟨m, nl, b⟩ | u) hu
  · obtain ⟨h1, h2⟩ := hu
    obtain ⟨lv, seen, hnl, hA⟩ := Scan.level lv0 (fun p h => absurd h (Nat.not_lt_zero _)) h1.next (fun b y q hb => by
      cases b with
      | zero => cases hb; exact h2
      | succ b => simp at hb)
    unfold ring_net_round.k1
    dsimp only
    refine tri_iter (fun q : List (RingSpot × RingSpot) × List RingSpot × Bool × Int => ∃ (k : Nat) (lv : List (RingSpot × List Int)) (seen : RingSpot → Prop), q.2.1 = lv.map (·.1) ∧ At t l s n (k + 1) q.1 lv seen ∧ q.2.2.2 = (k : Int) + 2 ∧ (k : Int) + 2 ≤ limit) (fun q => (limit - q.2.2.2).toNat) ⟨0, lv, seen, hnl, hA, rfl, by omega⟩ ?_
    rintro ⟨m, level, b, size⟩ ⟨k, lv, seen, e1, hA, e2, e3⟩
    dsimp only at e1 e2 hA
    subst e1 e2
    unfold ring_net_round.s3
    dsimp only
    have hnone : limit ≤ (k : Int) + 2 ∨ lv = [] → Tri (out (some (([] : List Int), true)) : Option ((List (RingSpot × RingSpot) × List RingSpot × Bool × Int) ⊕ (List Int × Bool))) (Rnd (fun q : List (RingSpot × RingSpot) × List RingSpot × Bool × Int => ∃ (k : Nat) (lv : List (RingSpot × List Int)) (seen : RingSpot → Prop), q.2.1 = lv.map (·.1) ∧ At t l s n (k + 1) q.1 lv seen ∧ q.2.2.2 = (k : Int) + 2 ∧ (k : Int) + 2 ≤ limit) (fun q => (limit - q.2.2.2).toNat) (RoundSpec t l s n limit) (m, lv.map (·.1), b, (k : Int) + 2)) := by
      intro h
      refine tri_out (tri_some (.inl ⟨rfl, fun p hp => ?_⟩))
      rcases h with h | h
      · have : ¬ p.length < k + 1 := fun h => hA.no p h hp
        omega
      · have h3 := hA.lev
        rw [h] at h3
        exact (h3.never hA.no p hp).elim
    refine tri_bif (fun hc => ?_) (fun hc => ?_)
    · have hc : (k : Int) + 2 < limit := by simpa using hc
      unfold ring_net_round.j4
      refine tri_bif (fun hq => ?_) (fun hq => hnone (.inr ?_))
      · refine tri_iter (fun q : List (RingSpot × RingSpot) × List RingSpot × Bool × Int => ∃ a : Nat, q.2.2.2 = (a : Int) ∧ a ≤ lv.length ∧ Scan t l s n seen lv a s q.1 q.2.1 ∧ ∀ (b : Nat) y p, b < a → lv[b]? = some (y, p) → ¬ clo t l s y) (fun q => lv.length - q.2.2.2.toNat) ⟨0, rfl, Nat.zero_le _, Scan.start hA.knows hA.tr, fun b y p hb => absurd hb (Nat.not_lt_zero _)⟩ ?_
        rintro ⟨m', nl', b', a'⟩ ⟨a, e1, ha, hS, hcl⟩
        dsimp only at e1 hS
        subst e1
        unfold ring_net_round.s5
        dsimp only
        refine tri_bif (fun hk => ?_) (fun hk => ?_)
        · have hk : a < lv.length := by simpa using hk
          refine tri_must (by simp; omega) ?_
          unfold ring_net_onward
          refine tri_sb ?_
          have hx : lv[a]? = some (lv[a].1, lv[a].2) := List.getElem?_eq_getElem hk
          have hi : idx (lv.map (·.1)) (a : Int) = lv[a].1 := by
            rw [idx_nat, List.getD_eq_getElem?_getD, List.getElem?_map, List.getElem?_eq_getElem hk]
            rfl
          rw [hi]
          refine tri_bind (spot_told hN hs hA.lev hx (hA.node _ (List.mem_of_getElem? hx)) ?_ hS hi) ?_
          · have := (hA.lev.ok _ (List.mem_of_getElem? hx)).2
            dsimp only at this
            omega
          · have hmax := hA.lev
            have ha64 : (a : Int) < 2 ^ 62 := by
              have := nodup_le (4 * n) (lv.map fun z => code z.1) ?_ ?_
              · simp only [List.length_map] at this
                omega
              · unfold List.Nodup
                rw [List.pairwise_map]
                refine hA.lev.sorted.imp_of_mem fun {a b} ha hb h e => ?_
                have := code_inj (hA.node a ha).1 (hA.node b hb).1 e
                have t1 := hA.tr a ha
                have t2 := hA.tr b hb
                rw [this] at t1
                have : a.2 = b.2 := by
                  have uniq : ∀ {x : RingSpot} {p q : List Int}, Tr m x p → Tr m x q → p = q := by
                    intro x p q h1
                    induction h1 generalizing q with
                    | root h =>
                      intro h2
                      cases h2 with
                      | root => rfl
                      | back h0 => omega
                    | back h0 h ht ih =>
                      intro h2
                      cases h2 with
                      | root h => omega
                      | back _ _ ht' => rw [ih ht']
                  exact uniq t1 t2
                rw [this] at h
                exact lx_irr h
              · intro v hv
                obtain ⟨z, hz, rfl⟩ := List.mem_map.1 hv
                have := hA.node z hz
                unfold code
                split <;> split <;> omega
            rintro (⟨m2, nl2, b2⟩ | r) hu
            · unfold ring_net_round.k6
              dsimp only
              refine tri_some ?_
              rw [w64zin (by omega) (by omega)]
              refine ⟨⟨a + 1, rfl, hk, hu.1.next, fun b y p hb hy => ?_⟩, by dsimp only; omega⟩
              rcases Nat.lt_or_ge b a with h | h
              · exact hcl b y p h hy
              · obtain rfl : b = a := by omega
                rw [hx] at hy
                cases hy
                exact hu.2
            · obtain ⟨h3, rfl⟩ := hu
              unfold ring_net_round.k6
              dsimp only
              refine tri_out (tri_out (tri_some (.inr ⟨lv[a].2, rfl, hA.lev.first hA.no hx h3 hcl, .inr ?_⟩)))
              have := (hA.lev.ok _ (List.mem_of_getElem? hx)).2
              dsimp only at this
              rw [this]
              omega
        · have : a = lv.length := by
            have : ¬ a < lv.length := by simpa using hk
            omega
          subst this
          refine tri_out (tri_some ?_)
          rw [w64zin (by omega) (by omega)]
          obtain ⟨lv', seen', e4, hA'⟩ := Scan.level hA.lev hA.no hS (fun b y p hb => hcl b y p (List.getElem?_eq_some_iff.1 hb).1 hb)
          exact ⟨⟨k + 1, lv', seen', e4, hA', by first | (dsimp only; omega) | omega, by first | (dsimp only; omega) | omega⟩, by first | (dsimp only; omega) | omega⟩
      · have : ¬ 0 < lv.length := by simpa using hq
        exact List.eq_nil_of_length_eq_zero (by omega)
    · have hc : ¬ (k : Int) + 2 < limit := by simpa using hc
      unfold ring_net_round.j4
      exact hnone (.inl (by omega))
  · unfold ring_net_round.k1
    dsimp only
    refine tri_some (.inr ⟨[], rfl, ⟨clo_nil.2 hu, fun q hq => ⟨Nat.zero_le _, fun h => ?_⟩⟩, .inl rfl⟩)
    rw [List.eq_nil_of_length_eq_zero h]
    exact lxe_refl _
end Go.Proofs.YtncapkloanfmnaaDoorT
