/- RingCertified: what is told fits, and a plain cycle is told just where there is no order. -/
import Derived.Test.YtncapkloanfmnaaDoorTPRO
import Derived.Test.YtncapkloanfmnaaDoorTPRM
import Derived.Test.YtncapkloanfmnaaDoorTPGN
namespace Go.Proofs.YtncapkloanfmnaaDoorT
open Go Go.Proofs Go.Proofs.YtncapkloanfmnaaDoorE
set_option linter.unusedVariables false
set_option linter.unusedSimpArgs false
set_option linter.unusedSectionVars false
set_option maxRecDepth 4096
theorem fits : ∀ {a b : List Nat}, a.Nodup → (∀ v ∈ a, v ∈ b) → a.length ≤ b.length
  | [], _, _, _ => Nat.zero_le _
  | x :: a, b, hn, hs => by
    obtain ⟨h1, h2⟩ := List.nodup_cons.1 hn
    have hx : x ∈ b := hs x (by simp)
    have := fits (a := a) (b := b.erase x) h2 fun v hv => (List.mem_erase_of_ne (fun e => h1 (by rw [← e]; exact hv))).2 (hs v (by simp [hv]))
    rw [List.length_erase_of_mem hx] at this
    have : 0 < b.length := List.length_pos_of_mem hx
    simp only [List.length_cons]
    omega
theorem range_nodup (n : Nat) : (List.range n).Nodup := (List.pairwise_lt_range (n := n)).imp fun h => by omega
theorem covers {l : List Nat} {n : Nat} (hn : l.Nodup) (hl : ∀ v ∈ l, v < n) (hc : l.length = n) {v : Nat} (hv : v < n) : v ∈ l := by
  apply Classical.byContradiction
  intro hni
  have := fits (a := v :: l) (b := List.range n) (List.nodup_cons.2 ⟨hni, hn⟩) fun w hw => by
    rw [List.mem_range]
    rcases List.mem_cons.1 hw with rfl | hw
    · exact hv
    · exact hl w hw
  simp at this
  omega
theorem missing {l : List Nat} {n : Nat} (hc : l.length < n) : ∃ v, v < n ∧ v ∉ l := by
  apply Classical.byContradiction
  intro hn
  have := fits (a := List.range n) (b := l) (range_nodup n) fun v hv => Classical.byContradiction fun hni => hn ⟨v, List.mem_range.1 hv, hni⟩
  simp at this
  omega
/-- where each has one ahead of it, there is a way round -/
theorem round_of {S : Nat → Nat → Prop} {n : Nat} {U : Nat → Prop} (hU : ∀ u, U u → u < n) (hp : ∀ u, U u → ∃ i, S i u ∧ U i) {u0 : Nat} (h0 : U u0) : ∃ v, v < n ∧ Way S v v := by
  have hch : ∃ f : Nat → Nat, (∀ k, U (f k)) ∧ ∀ k, S (f (k + 1)) (f k) := by
    have hp' : ∀ u : { u // U u }, ∃ i : { u // U u }, S i.1 u.1 := fun u => by
      obtain ⟨i, h1, h2⟩ := hp u.1 u.2
      exact ⟨⟨i, h2⟩, h1⟩
    let pr : { u // U u } → { u // U u } := fun u => (hp' u).choose
    have hpr : ∀ u, S (pr u).1 u.1 := fun u => (hp' u).choose_spec
    let f : Nat → { u // U u } := fun k => Nat.rec ⟨u0, h0⟩ (fun _ u => pr u) k
    exact ⟨fun k => (f k).1, fun k => (f k).2, fun k => hpr (f k)⟩
  obtain ⟨f, hf, hs⟩ := hch
  have way : ∀ i d, Way S (f (i + d + 1)) (f i) := fun i d => by
    induction d with
    | zero => exact .single (hs i)
    | succ d ih => exact (Relation.TransGen.single (hs (i + d + 1))).trans ih
  have hex : ∃ i j, i < j ∧ f i = f j := by
    apply Classical.byContradiction
    intro hn
    have hnd : ((List.range (n + 1)).map f).Nodup := List.pairwise_map.2 ((List.pairwise_lt_range (n := n + 1)).imp fun {a b} hab he => hn ⟨a, b, hab, he⟩)
    have := fits (b := List.range n) hnd fun v hv => by
      obtain ⟨k, _, rfl⟩ := List.mem_map.1 hv
      exact List.mem_range.2 (hU _ (hf k))
    simp at this
    omega
  obtain ⟨i, j, hij, he⟩ := hex
  refine ⟨f j, hU _ (hf j), ?_⟩
  have := way i (j - i - 1)
  rw [show i + (j - i - 1) + 1 = j by omega, he] at this
  exact this
/-! ### orders -/
theorem Ord.at {n : Nat} {S : Nat → Nat → Prop} {l : List Nat} (h : Ord n S l) : ∀ k (hk : k < l.length), Free S (l.take k) l[k] := by
  induction h with
  | nil => intro k hk; simp at hk
  | @snoc l j hl hj hf hm ih =>
    intro k hk
    by_cases hc : k < l.length
    · rw [List.take_append_of_le_length (by omega), List.getElem_append_left hc]; exact ih k hc
    · have : k = l.length := by rw [List.length_append, List.length_singleton] at hk; omega
      subst this
      simpa using hf
theorem Ord.nodup {n : Nat} {S : Nat → Nat → Prop} {l : List Nat} (h : Ord n S l) : l.Nodup := by
  induction h with
  | nil => simp
  | @snoc l j hl hj hf hm ih =>
    rw [List.nodup_append]
    exact ⟨ih, by simp, fun a ha b hb e => by rw [List.mem_singleton.1 hb] at e; exact hf.1 (e ▸ ha)⟩
theorem Ord.way {n : Nat} {S : Nat → Nat → Prop} {l : List Nat} (h : Ord n S l) : ∀ j ∈ l, ¬ Way S j j ∧ ∀ i, Way S i j → i ∈ l := by
  induction h with
  | nil => intro j hj; cases hj
  | @snoc l j hl hj hf hm ih =>
    have hw : ∀ i, Way S i j → i ∈ l := fun i hw => by
      cases hw with
      | single hs => exact hf.2 _ hs
      | tail hw hs => exact (ih _ (hf.2 _ hs)).2 _ hw
    intro v hv
    rcases List.mem_append.1 hv with hv | hv
    · exact ⟨(ih v hv).1, fun i hi => List.mem_append_left _ ((ih v hv).2 i hi)⟩
    · rw [List.mem_singleton.1 hv]
      exact ⟨fun hr => hf.1 (hw j hr), fun i hi => List.mem_append_left _ (hw i hi)⟩
theorem OrdOut.round {n : Nat} {S : Nat → Nat → Prop} (hS : ∀ i j, S i j → i < n ∧ j < n) {r : List Int × Bool × Int} (h : OrdOut n S r) : r.2.1 = true ↔ ¬ ∃ v, v < n ∧ Way S v v := by
  rcases h with ⟨l, h1, h2, rfl⟩ | ⟨l, h1, h2, h3, rfl⟩
  · simp only [true_iff]
    rintro ⟨v, hv, hw⟩
    exact (h1.way v (covers h1.nodup h1.lt h2 hv)).1 hw
  · simp only [Bool.false_eq_true, false_iff, Classical.not_not]
    obtain ⟨u, hu, hul⟩ := missing h2
    refine round_of (U := fun u => u < n ∧ u ∉ l) (fun u h => h.1) (fun u h => ?_) ⟨hu, hul⟩
    apply Classical.byContradiction
    intro hn
    exact h3 u h.1 ⟨h.2, fun i hs => Classical.byContradiction fun hni => hn ⟨i, hs, (hS i u hs).1, hni⟩⟩
/-! ### parts -/

theorem told_fits {g : Graph} (hg : Good g) {d r rule : Int} (hr : 1 ≤ rule ∧ rule ≤ 3) {s : Sot} {es : List Edge} {c : List Int} (h : Told3 g d r s es c) (hs : s = (if rule = 1 then .plain else if rule = 2 then .single else .spaced)) (hne : 0 < es.length) : FitsP g es d r rule := by
  have hlen := h.len
  have hnx : ∀ i, i < es.length → (nxt es i).From = at3 c (i + 1) ∧ (i + 1) % es.length < c.length ∧ nxt es i = idx es (((i + 1) % es.length : Nat) : Int) := by
    intro i hi
    have hm := Nat.mod_lt (i + 1) hne
    refine ⟨?_, by omega, rfl⟩
    have e1 := (h.ends (i := (i + 1) % es.length) (by omega)).1
    unfold nxt
    rw [e1]
    unfold at3
    rw [hlen, Nat.mod_mod]
  refine ⟨hg, fun e => by rw [e] at hne; simp at hne, fun i hi => ?_, fun i j hi hj e => ?_⟩
  · obtain ⟨e1, e2, e3⟩ := h.ends (i := i) (by omega)
    refine ⟨e3, by rw [e2, (hnx i hi).1], ?_⟩
    have ha := h.at_ i (by omega)
    by_cases h1 : rule = 1
    · rw [if_pos h1] at hs
      subst hs
      exact .inl ⟨h1, ha.inM⟩
    · by_cases h2 : rule = 2
      · rw [if_neg h1, if_pos h2] at hs
        subst hs
        refine .inr (.inl ⟨h2, ?_⟩)
        have := ha.inM
        by_cases hi0 : i = 0
        · rw [if_pos hi0] at this
          exact .inl ⟨hi0, this⟩
        · rw [if_neg hi0] at this
          exact .inr ⟨by omega, this⟩
      · rw [if_neg h1, if_neg h2] at hs
        subst hs
        refine .inr (.inr ⟨by omega, ?_⟩)
        rcases ha with ⟨_, ha⟩ | ⟨_, _, hd, ha⟩
        · exact .inl ha.inM
        · refine .inr ⟨ha.inM, ?_⟩
          obtain ⟨_, g2, g3⟩ := hnx i hi
          have hb := h.at_ ((i + 1) % es.length) g2
          have em : ∀ q, at3 c ((i + 1) % es.length + q) = at3 c (i + 1 + q) := by intro q; unfold at3; rw [hlen, Nat.mod_add_mod]
          have e0 := em 0
          rw [Nat.add_zero, Nat.add_zero] at e0
          rw [g3]
          rcases hb with ⟨_, hb⟩ | ⟨hb, _⟩
          · exact hb.inM
          · rw [em 1, e0] at hb
            rw [hb] at hd
            cases hd
  · rw [(h.ends (i := i) (by omega)).1, (h.ends (i := j) (by omega)).1] at e
    exact h.nd i j (by omega) (by omega) e
theorem way_path {S : Nat → Nat → Prop} {a b : Nat} (h : Way S a b) : ∃ k : Nat, 0 < k ∧ ∃ d : Nat → Nat, d 0 = a ∧ d k = b ∧ ∀ i, i < k → S (d i) (d (i + 1)) := by
  induction h with
  | single h =>
    rename_i b
    refine ⟨1, by omega, fun i => if i = 0 then a else b, rfl, rfl, fun i hi => ?_⟩
    obtain rfl : i = 0 := by omega
    exact h
  | tail _ h ih =>
    rename_i b c _
    obtain ⟨k, hk, d, h0, h1, h2⟩ := ih
    refine ⟨k + 1, by omega, fun i => if i ≤ k then d i else c, by simp [h0], if_neg (by omega), fun i hi => ?_⟩
    dsimp only
    rw [if_pos (by omega)]
    by_cases e : i + 1 ≤ k
    · rw [if_pos e]; exact h2 i (by omega)
    · rw [if_neg e, show i = k by omega, h1]; exact h
theorem plain_way {g : Graph} (hg : Good g) {d : Int} : (∃ k r, HasLen g d r .plain k) ↔ ∃ v, v < g.N.toNat ∧ Way (Sel g d) v v := by
  have hsel : ∀ i j : Nat, hasE g d (i : Int) (j : Int) = true ↔ Sel g d i j := by
    intro i j
    rw [hasE_iff]
    unfold Sel SelK hits
    constructor
    · rintro ⟨k, hk, b, c, a⟩; exact ⟨k, hk, a, b, c⟩
    · rintro ⟨k, hk, a, b, c⟩; exact ⟨k, hk, b, c, a⟩
  constructor
  · rintro ⟨k, r, c, hc⟩
    have hs : ∀ i, Sel g d (c i).toNat (c (i + 1)).toNat := by
      intro i
      have n1 := hc.node i
      have n2 := hc.node (i + 1)
      rw [← hsel, Int.toNat_of_nonneg n1.1, Int.toNat_of_nonneg n2.1]
      rcases hc.edge i with h | h
      · exact h
      · rw [hasE_zero] at h; cases h.1
    have hw : ∀ i, Way (Sel g d) (c 0).toNat (c (i + 1)).toNat := by
      intro i
      induction i with
      | zero => exact .single (hs 0)
      | succ i ih => exact .tail ih (hs (i + 1))
    have hk := hc.pos
    have := hw (k - 1)
    rw [show k - 1 + 1 = 0 + k by omega, hc.per] at this
    have n0 := hc.node 0
    exact ⟨_, by omega, this⟩
  · rintro ⟨v, hv, hw⟩
    obtain ⟨k, hk, p, h0, h1, h2⟩ := way_path hw
    have hnode : ∀ i, i ≤ k → p i < g.N.toNat := by
      intro i hi
      rcases Nat.eq_zero_or_pos i with e | e
      · rw [e, h0]; exact hv
      · have := (sel_lt hg (h2 (i - 1) (by omega))).2
        rwa [show i - 1 + 1 = i by omega] at this
    let q : Nat → Int := fun i => if i ≤ k then (p i : Int) else v
    have hq : ∀ i, i ≤ k → q i = (p i : Int) := fun i hi => if_pos hi
    have hstep : ∀ i, i < k → hasE g d (q i) (q (i + 1)) = true := by
      intro i hi
      rw [hq i (by omega), hq (i + 1) (by omega), hsel]
      exact h2 i hi
    refine ⟨k, 0, fun i => q (i % k), part_loop hk (by rw [hq 0 (by omega), hq k (Nat.le_refl _), h0, h1]) (fun i => ?_) (fun i hi => .inl (hstep i (by omega))) (.inl ?_)⟩
    · show 0 ≤ (if i ≤ k then (p i : Int) else v) ∧ (if i ≤ k then (p i : Int) else v) < (g.N.toNat : Int)
      split
      · have := hnode i (by assumption); omega
      · omega
    · have := hstep (k - 1) (by omega)
      rwa [show k - 1 + 1 = k by omega] at this
theorem haslen_pos2 {g : Graph} {d r : Int} {s : Sot} {k : Nat} (h : HasLen g d r s k) : 0 < k := by
  cases s with
  | plain => obtain ⟨c, hc⟩ := h; exact hc.pos
  | single => obtain ⟨c, hc⟩ := h; exact hc.pos
  | spaced => obtain ⟨c, hc⟩ := h; exact hc.pos
theorem RingCertified_law (g : Graph) (d r : Int) {p q u v : Prop} (g0 : p ∧ (q ∧ g.Edges.length * 32 ≤ 140737488351232)) (_ : u) (_ : v) : assizelaw07zRingCertified g d r = some true := by
  rw [← tri_eq]
  unfold assizelaw07zRingCertified
  rw [assizelaw07zalive_true]
  refine tri_sb ?_
  simp only [Bool.not_true, cond_false]
  by_cases hg : Good g
  case neg =>
    have e : assizelaw07zRingCertified.s1 g d r 1 = some (.inr true) := by
      unfold assizelaw07zRingCertified.s1
      dsimp only
      rw [show decide ((1 : Int) ≤ 3) = true from rfl, cond_true, told_bad hg]
      rfl
    rw [iter_eq, e]
    exact ⟨true, rfl, rfl⟩
  refine tri_iter (fun x : Int => 1 ≤ x ∧ x ≤ 4) (fun x => (4 - x).toNat) ⟨by decide, by decide⟩ ?_
  rintro x ⟨h1, h2⟩
  have hw : x ≤ 3 → Tri (assizelaw07zRingCertified.j2 x false) (Rnd (fun x : Int => 1 ≤ x ∧ x ≤ 4) (fun x => (4 - x).toNat) (fun b => b = true) x) := by
    intro hx
    unfold assizelaw07zRingCertified.j2
    rw [cond_false, w64zin (by omega) (by omega)]
    exact tri_some ⟨⟨by omega, by omega⟩, by dsimp only; omega⟩
  unfold assizelaw07zRingCertified.s1
  dsimp only
  · refine tri_bif (fun ex => ?_) (fun ex => ?_)
    · have ex : x ≤ 3 := by simpa using ex
      obtain ⟨s, es, c, e, hT, hs⟩ := told_is hg d r x
      rw [e]
      refine tri_sb ?_
      simp only [bne_self_eq_false, cond_false]
      refine tri_bif (fun hl => ?_) (fun _ => hw ex)
      have hl : 0 < es.length := by simpa using hl
      have hbig : es.length < 2 ^ 62 := by
        have := fitsI (a := (List.range c.length).map (at3 c)) (b := (List.range 64).map fun j : Nat => (j : Int)) ?_ ?_
        · rw [List.length_map, List.length_map, List.length_range, List.length_range, ← hT.len] at this
          omega
        · unfold List.Nodup
          rw [List.pairwise_map]
          refine List.pairwise_lt_range.imp_of_mem fun {a b} ha hb h4 e => ?_
          have := hT.nd a b (List.mem_range.1 ha) (List.mem_range.1 hb) e
          omega
        · intro v hv
          obtain ⟨i, hi, rfl⟩ := List.mem_map.1 hv
          have hh := hT.node hg (List.mem_range.1 hi)
          rw [(hT.ends (List.mem_range.1 hi)).1] at hh
          have := hg.n1
          exact List.mem_map.2 ⟨(at3 c i).toNat, List.mem_range.2 (by omega), by omega⟩
      obtain ⟨b, eb, hb⟩ := ring_Fits_told g es d r x hbig
      have : b = true := hb.2 (told_fits hg ⟨h1, ex⟩ hT hs hl)
      subst this
      rw [eb]
      exact tri_sb (hw ex)
    · obtain ⟨es, c, e, hT⟩ := plain_told hg d r
      obtain ⟨o, eo, ho⟩ := graph_Order_told d hg
      have hsel : ∀ i j, Sel g d i j → i < g.N.toNat ∧ j < g.N.toNat := fun i j h => sel_lt hg h
      have hr := ho.round hsel
      have h0 : o.2.2 = 0 := by
        rcases ho with ⟨_, _, _, rfl⟩ | ⟨_, _, _, _, rfl⟩ <;> rfl
      rw [e, eo]
      refine tri_sb (tri_sb ?_)
      rw [h0]
      simp only [beq_self_eq_true, cond_true]
      refine tri_out (tri_some ?_)
      show (o.2.1 == ((es.length : Int) == 0)) = true
      rw [beq_iff_eq, Bool.eq_iff_iff, hr, beq_iff_eq, ← plain_way hg]
      constructor
      · intro h
        rcases hT.least with ⟨h3, _⟩ | ⟨h3, _⟩
        · omega
        · exact absurd ⟨_, _, h3⟩ h
      · rintro h ⟨k, r', hk⟩
        have hk : HasLen g d r .plain k := hk
        rcases hT.least with ⟨_, h3⟩ | ⟨h3, _⟩
        · exact h3 k hk
        · have := haslen_pos2 h3
          omega
end Go.Proofs.YtncapkloanfmnaaDoorT
