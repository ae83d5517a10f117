/- The law GraphRounds: the plain function answers true. -/
import Derived.Test.YtncapkloanfmnaaDoorTPGS
import Derived.Test.YtncapkloanfmnaaDoorTPGN
import Derived.Test.YtncapkloanfmnaaDoorTF
namespace Go.Proofs.YtncapkloanfmnaaDoorT
open Go Go.Proofs Go.Proofs.YtncapkloanfmnaaDoorE
set_option linter.unusedVariables false
set_option linter.unusedSimpArgs false
set_option maxRecDepth 4096
/-! ### few places -/
theorem fits : ∀ {a b : List Nat}, a.Nodup → (∀ v ∈ a, v ∈ b) → a.length ≤ b.length
  | [], _, _, _ => Nat.zero_le _
  | x :: a, b, hn, hs => by
    obtain ⟨h1, h2⟩ := List.nodup_cons.1 hn
    have hx : x ∈ b := hs x (by simp)
    have := fits (a := a) (b := b.erase x) h2 fun v hv => (List.mem_erase_of_ne (fun e => h1 (by rw [← e]; exact hv))).2 (hs v (by simp [hv]))
    rw [List.length_erase_of_mem hx] at this
    have : 0 < b.length := List.length_pos_of_mem hx
    simp only [List.length_cons]
    omega
theorem range_nodup (n : Nat) : (List.range n).Nodup := (List.pairwise_lt_range (n := n)).imp fun h => by omega
theorem covers {l : List Nat} {n : Nat} (hn : l.Nodup) (hl : ∀ v ∈ l, v < n) (hc : l.length = n) {v : Nat} (hv : v < n) : v ∈ l := by
  apply Classical.byContradiction
  intro hni
  have := fits (a := v :: l) (b := List.range n) (List.nodup_cons.2 ⟨hni, hn⟩) fun w hw => by
    rw [List.mem_range]
    rcases List.mem_cons.1 hw with rfl | hw
    · exact hv
    · exact hl w hw
  simp at this
  omega
theorem missing {l : List Nat} {n : Nat} (hc : l.length < n) : ∃ v, v < n ∧ v ∉ l := by
  apply Classical.byContradiction
  intro hn
  have := fits (a := List.range n) (b := l) (range_nodup n) fun v hv => Classical.byContradiction fun hni => hn ⟨v, List.mem_range.1 hv, hni⟩
  simp at this
  omega
/-- where each has one ahead of it, there is a way round -/
theorem round_of {S : Nat → Nat → Prop} {n : Nat} {U : Nat → Prop} (hU : ∀ u, U u → u < n) (hp : ∀ u, U u → ∃ i, S i u ∧ U i) {u0 : Nat} (h0 : U u0) : ∃ v, v < n ∧ Way S v v := by
  have hch : ∃ f : Nat → Nat, (∀ k, U (f k)) ∧ ∀ k, S (f (k + 1)) (f k) := by
    have hp' : ∀ u : { u // U u }, ∃ i : { u // U u }, S i.1 u.1 := fun u => by
      obtain ⟨i, h1, h2⟩ := hp u.1 u.2
      exact ⟨⟨i, h2⟩, h1⟩
    let pr : { u // U u } → { u // U u } := fun u => (hp' u).choose
    have hpr : ∀ u, S (pr u).1 u.1 := fun u => (hp' u).choose_spec
    let f : Nat → { u // U u } := fun k => Nat.rec ⟨u0, h0⟩ (fun _ u => pr u) k
    exact ⟨fun k => (f k).1, fun k => (f k).2, fun k => hpr (f k)⟩
  obtain ⟨f, hf, hs⟩ := hch
  have way : ∀ i d, Way S (f (i + d + 1)) (f i) := fun i d => by
    induction d with
    | zero => exact .single (hs i)
    | succ d ih => exact (Relation.TransGen.single (hs (i + d + 1))).trans ih
  have hex : ∃ i j, i < j ∧ f i = f j := by
    apply Classical.byContradiction
    intro hn
    have hnd : ((List.range (n + 1)).map f).Nodup := List.pairwise_map.2 ((List.pairwise_lt_range (n := n + 1)).imp fun {a b} hab he => hn ⟨a, b, hab, he⟩)
    have := fits (b := List.range n) hnd fun v hv => by
      obtain ⟨k, _, rfl⟩ := List.mem_map.1 hv
      exact List.mem_range.2 (hU _ (hf k))
    simp at this
    omega
  obtain ⟨i, j, hij, he⟩ := hex
  refine ⟨f j, hU _ (hf j), ?_⟩
  have := way i (j - i - 1)
  rw [show i + (j - i - 1) + 1 = j by omega, he] at this
  exact this
/-! ### orders -/
theorem Ord.at {n : Nat} {S : Nat → Nat → Prop} {l : List Nat} (h : Ord n S l) : ∀ k (hk : k < l.length), Free S (l.take k) l[k] := by
  induction h with
  | nil => intro k hk; simp at hk
  | @snoc l j hl hj hf hm ih =>
    intro k hk
    by_cases hc : k < l.length
    · rw [List.take_append_of_le_length (by omega), List.getElem_append_left hc]; exact ih k hc
    · have : k = l.length := by rw [List.length_append, List.length_singleton] at hk; omega
      subst this
      simpa using hf
theorem Ord.nodup {n : Nat} {S : Nat → Nat → Prop} {l : List Nat} (h : Ord n S l) : l.Nodup := by
  induction h with
  | nil => simp
  | @snoc l j hl hj hf hm ih =>
    rw [List.nodup_append]
    exact ⟨ih, by simp, fun a ha b hb e => by rw [List.mem_singleton.1 hb] at e; exact hf.1 (e ▸ ha)⟩
theorem Ord.way {n : Nat} {S : Nat → Nat → Prop} {l : List Nat} (h : Ord n S l) : ∀ j ∈ l, ¬ Way S j j ∧ ∀ i, Way S i j → i ∈ l := by
  induction h with
  | nil => intro j hj; cases hj
  | @snoc l j hl hj hf hm ih =>
    have hw : ∀ i, Way S i j → i ∈ l := fun i hw => by
      cases hw with
      | single hs => exact hf.2 _ hs
      | tail hw hs => exact (ih _ (hf.2 _ hs)).2 _ hw
    intro v hv
    rcases List.mem_append.1 hv with hv | hv
    · exact ⟨(ih v hv).1, fun i hi => List.mem_append_left _ ((ih v hv).2 i hi)⟩
    · rw [List.mem_singleton.1 hv]
      exact ⟨fun hr => hf.1 (hw j hr), fun i hi => List.mem_append_left _ (hw i hi)⟩
theorem OrdOut.round {n : Nat} {S : Nat → Nat → Prop} (hS : ∀ i j, S i j → i < n ∧ j < n) {r : List Int × Bool × Int} (h : OrdOut n S r) : r.2.1 = true ↔ ¬ ∃ v, v < n ∧ Way S v v := by
  rcases h with ⟨l, h1, h2, rfl⟩ | ⟨l, h1, h2, h3, rfl⟩
  · simp only [true_iff]
    rintro ⟨v, hv, hw⟩
    exact (h1.way v (covers h1.nodup h1.lt h2 hv)).1 hw
  · simp only [Bool.false_eq_true, false_iff, Classical.not_not]
    obtain ⟨u, hu, hul⟩ := missing h2
    refine round_of (U := fun u => u < n ∧ u ∉ l) (fun u h => h.1) (fun u h => ?_) ⟨hu, hul⟩
    apply Classical.byContradiction
    intro hn
    exact h3 u h.1 ⟨h.2, fun i hs => Classical.byContradiction fun hni => hn ⟨i, hs, (hS i u hs).1, hni⟩⟩
/-! ### parts -/
theorem firsts_mono {E : Nat → Nat → Prop} : ∀ {i j : Nat}, i ≤ j → firsts E i ≤ firsts E j
  | i, 0, h => by have : i = 0 := by omega
                  subst this; exact Nat.le_refl _
  | i, j + 1, h => by
    by_cases e : i = j + 1
    · rw [e]; exact Nat.le_refl _
    · have := firsts_mono (E := E) (show i ≤ j by omega)
      show firsts E i ≤ firsts E j + _
      omega
theorem Canon.iff {n : Nat} {E : Nat → Nat → Prop} {l : List Int} (h : Canon n E l) (hr : ∀ i, E i i) (hs : ∀ i j, E i j → E j i) (ht : ∀ i j k, E i j → E j k → E i k) {i j : Nat} (hi : i < n) (hj : j < n) : idx l (i : Int) = idx l (j : Int) ↔ E i j := by
  have rep : ∀ i, i < n → ∃ r, r ≤ i ∧ E r i ∧ (∀ q, q < r → ¬ E q r) ∧ idx l (i : Int) = (firsts E r : Nat) := by
    intro i
    induction i using Nat.strongRecOn with
    | ind i ih =>
      intro hi
      by_cases hc : ∃ q, q < i ∧ E q i
      · obtain ⟨q, hq, he⟩ := hc
        obtain ⟨r, h1, h2, h3, h4⟩ := ih q hq (by omega)
        exact ⟨r, by omega, ht _ _ _ h2 he, h3, by rw [h.same i hi q hq he]; exact h4⟩
      · have hc : ∀ q, q < i → ¬ E q i := fun q hq he => hc ⟨q, hq, he⟩
        exact ⟨i, Nat.le_refl _, hr i, hc, h.new i hi hc⟩
  constructor
  · intro he
    obtain ⟨r, h1, h2, h3, h4⟩ := rep i hi
    obtain ⟨s, g1, g2, g3, g4⟩ := rep j hj
    have hrs : r = s := by
      have step : ∀ r s, r < s → (∀ q, q < r → ¬ E q r) → firsts E r < firsts E s := fun r s hlt hf => by
        have h5 : firsts E (r + 1) = firsts E r + 1 := by
          show firsts E r + _ = _
          rw [if_neg (fun ⟨q, hq, he⟩ => hf q hq he)]
        have := firsts_mono (E := E) (show r + 1 ≤ s by omega)
        omega
      rcases Nat.lt_trichotomy r s with h5 | h5 | h5
      · have := step r s h5 h3; omega
      · exact h5
      · have := step s r h5 g3; omega
    subst hrs
    exact ht _ _ _ (hs _ _ h2) g2
  · intro he
    rcases Nat.lt_trichotomy i j with h5 | h5 | h5
    · exact (h.same j hj i h5 he).symm
    · rw [h5]
    · exact h.same i hi j h5 (hs _ _ he)
theorem GraphRounds_true (g : Graph) (mask : Int) (hb : g.Edges.length * 32 ≤ 140737488351232) : assizelaw06zGraphRounds g mask = some true := by
  unfold assizelaw06zGraphRounds
  rw [assizelaw06zalive_true]
  refine tri_eq.1 ?_
  by_cases hg : Good g
  case neg =>
    have h1 : graph_Order g mask = some ([], false, 60) := by unfold graph_Order; rw [check_bad hg]; rfl
    have h2 : graph_Closure g mask = some ([], 60) := by unfold graph_Closure; rw [check_bad hg]; rfl
    have h3 : graph_Parts g mask = some ([], 60) := by unfold graph_Parts; rw [check_bad hg]; rfl
    rw [h1, h2, h3]
    exact ⟨_, rfl, rfl⟩
  have hn0 := hg.n0
  have hn1 := hg.n1
  have hS : ∀ i j, Sel g mask i j → i < g.N.toNat ∧ j < g.N.toNat := fun i j h => sel_lt hg h
  obtain ⟨⟨a, a1⟩, ha, i1, i2⟩ := graph_Closure_told mask hg
  obtain ⟨⟨li, ok, b1⟩, hb', hord⟩ := graph_Order_told mask hg
  obtain ⟨⟨p, p1⟩, hp, i5, i6⟩ := graph_Parts_told mask hg
  have e1 : a1 = 0 := i1
  have e3 : p1 = 0 := i5
  have ham : Mx a g.N.toNat (Way (Sel g mask)) := i2
  have hpm : Canon g.N.toNat (Eqv (Sel g mask)) p := i6
  clear i1 i2 i5 i6
  have e2 : b1 = 0 := by rcases hord with ⟨l, _, _, h⟩ | ⟨l, _, _, _, h⟩ <;> cases h <;> rfl
  subst e1 e2 e3
  rw [ha, hb', hp]
  generalize hn : g.N.toNat = n at ham hpm hord hS
  have hN : g.N = n := by omega
  have hround := hord.round hS
  have hround : ok = true ↔ ¬ ∃ v, v < n ∧ Way (Sel g mask) v v := hround
  have la : a.length = n := ham.1
  have lp : p.length = n := hpm.len
  show Tri (bif ((a.length : Int) != g.N) then assizelaw06zGraphRounds.j1 g mask (a, 0) (li, ok, 0) (p, 0) true else (assizelaw06zGraphRounds.j1 g mask (a, 0) (li, ok, 0) (p, 0) ((p.length : Int) != g.N))) _
  rw [show ((a.length : Int) != g.N) = false by rw [la, hN]; simp, cond_false, show ((p.length : Int) != g.N) = false by rw [lp, hN]; simp]
  unfold assizelaw06zGraphRounds.j1
  rw [cond_false]
  refine tri_up n (fun _ => True) trivial (fun k hk _ => ?_)
  show Tri (bif decide ((k : Int) < g.N) then must (0 ≤ (k : Int) ∧ (k : Int) < (a.length : Int)) (bif (((idx a (k : Int)).length : Int) != g.N) then out (some false) else (some (.inl (w64 ((k : Int) + 1))))) else (iter (assizelaw06zGraphRounds.s3 g mask (a, 0) (li, ok, 0) (p, 0)) (false, 0))) _
  refine tri_bif (fun h => ?_) (fun h => ?_)
  · have h : (k : Int) < g.N := of_decide_eq_true h
    have lr : (idx a (k : Int)).length = n := (ham.2 k (by omega)).1
    refine tri_must ⟨by omega, by omega⟩ ?_
    rw [show (((idx a (k : Int)).length : Int) != g.N) = false by rw [lr, hN]; simp, cond_false]
    exact ⟨_, rfl, w64zsucc (by omega), by omega, trivial⟩
  clear h
  -- which nodes lead to themselves; who is of whose part
  refine tri_up2 n (fun i b => b = true ↔ ∃ v, v < i ∧ Way (Sel g mask) v v) (by simp) (fun i b hi hb1 => ?_)
  show Tri (bif decide ((i : Int) < g.N) then bif b then assizelaw06zGraphRounds.j4 g (a, 0) (p, 0) (i : Int) true else (must (0 ≤ (i : Int) ∧ (i : Int) < (a.length : Int)) (must (0 ≤ (i : Int) ∧ (i : Int) < ((idx a (i : Int)).length : Int)) (assizelaw06zGraphRounds.j4 g (a, 0) (p, 0) (i : Int) (idx (idx a (i : Int)) (i : Int))))) else (bif (ok == b) then out (out (some false)) else (must (0 ≤ g.N ∧ g.N ≤ 9223372036854775807 ∧ (8 : Int) * g.N ≤ 281474976710656) (iter (assizelaw06zGraphRounds.s7 g mask (a, 0) (li, ok, 0)) (List.replicate g.N.toNat (default : Int), 0))))) _
  refine tri_bif (fun h => ?_) (fun h => ?_)
  · have h : (i : Int) < g.N := of_decide_eq_true h
    have hin : i < n := by omega
    have ri := ham.2 i hin
    have lri := ri.1
    have inner : ∀ (b' : Bool) {Q : Int ⊕ Bool → Prop}, (b' = true ↔ ∃ v, v < i + 1 ∧ Way (Sel g mask) v v) → Tri (assizelaw06zGraphRounds.j4 g (a, 0) (p, 0) (i : Int) b') (Up2 n i (fun i b => b = true ↔ ∃ v, v < i ∧ Way (Sel g mask) v v) Q) := by
      intro b' Q hb2
      unfold assizelaw06zGraphRounds.j4
      refine tri_up n (fun _ => True) trivial (fun j hj _ => ?_)
      show Tri (bif decide ((j : Int) < g.N) then must (0 ≤ (i : Int) ∧ (i : Int) < (p.length : Int)) (must (0 ≤ (j : Int) ∧ (j : Int) < (p.length : Int)) (bif ((i : Int) == (j : Int)) then assizelaw06zGraphRounds.j6 (j : Int) ((idx p (i : Int) == idx p (j : Int)) != true) else (must (0 ≤ (i : Int) ∧ (i : Int) < (a.length : Int)) (must (0 ≤ (j : Int) ∧ (j : Int) < ((idx a (i : Int)).length : Int)) (bif idx (idx a (i : Int)) (j : Int) then must (0 ≤ (j : Int) ∧ (j : Int) < (a.length : Int)) (must (0 ≤ (i : Int) ∧ (i : Int) < ((idx a (j : Int)).length : Int)) (assizelaw06zGraphRounds.j6 (j : Int) ((idx p (i : Int) == idx p (j : Int)) != idx (idx a (j : Int)) (i : Int)))) else (assizelaw06zGraphRounds.j6 (j : Int) ((idx p (i : Int) == idx p (j : Int)) != false))))))) else (out (some (.inl (b', w64 ((i : Int) + 1)))))) _
      refine tri_bif (fun h2 => ?_) (fun h2 => tri_out ⟨_, rfl, w64zsucc (by omega), hin, hb2⟩)
      have h2 : (j : Int) < g.N := of_decide_eq_true h2
      have hjn : j < n := by omega
      have rj := ham.2 j hjn
      have lrj := rj.1
      have hpi := hpm.iff (fun i => ⟨Rch.refl i, Rch.refl i⟩) (fun i j h => h.symm) (fun i j k h h' => h.trans h') hin hjn
      have go : Tri (assizelaw06zGraphRounds.j6 (j : Int) false) (Up n j (fun _ => True) (Up2 n i (fun i b => b = true ↔ ∃ v, v < i ∧ Way (Sel g mask) v v) Q)) := ⟨_, rfl, w64zsucc (by omega), hjn, trivial⟩
      refine tri_must ⟨by omega, by omega⟩ (tri_must ⟨by omega, by omega⟩ ?_)
      refine tri_bif (fun h3 => ?_) (fun h3 => ?_)
      · have h3 : i = j := by have : (i : Int) = j := by simpa using h3
                              omega
        subst h3
        rw [show ((idx p (i : Int) == idx p (i : Int)) != true) = false by simp]
        exact go
      · have h3 : i ≠ j := by
          have : ¬ (i : Int) = j := by simpa using h3
          omega
        refine tri_must ⟨by omega, by omega⟩ (tri_must ⟨by omega, by omega⟩ ?_)
        have hrch : ∀ u v, u ≠ v → (Rch (Sel g mask) u v ↔ Way (Sel g mask) u v) := fun u v hne => ⟨fun h => h.elim (fun e => absurd e hne) id, Or.inr⟩
        refine tri_bif (fun h4 => ?_) (fun h4 => ?_)
        · have w1 := (ri.2 j hjn).1 h4
          refine tri_must ⟨by omega, by omega⟩ (tri_must ⟨by omega, by omega⟩ ?_)
          have hx : (idx p (i : Int) == idx p (j : Int)) = idx (idx a (j : Int)) (i : Int) := by
            cases hv : idx (idx a (j : Int)) (i : Int) with
            | false =>
              rw [beq_eq_false_iff_ne]
              intro he
              have := (rj.2 i hin).2 ((hrch j i (fun e => h3 e.symm)).1 (hpi.1 he).2)
              rw [hv] at this
              exact Bool.noConfusion this
            | true =>
              have w2 := (rj.2 i hin).1 hv
              rw [beq_iff_eq]
              exact hpi.2 ⟨Or.inr w1, Or.inr w2⟩
          rw [hx, show (idx (idx a (j : Int)) (i : Int) != idx (idx a (j : Int)) (i : Int)) = false by simp]
          exact go
        · have hx : (idx p (i : Int) == idx p (j : Int)) = false := by
            rw [beq_eq_false_iff_ne]
            intro he
            have := (ri.2 j hjn).2 ((hrch i j h3).1 (hpi.1 he).1)
            rw [h4] at this
            exact Bool.noConfusion this
          rw [hx, show (false != false) = false by rfl]
          exact go
    refine tri_bif (fun h3 => ?_) (fun h3 => ?_)
    · refine inner true ⟨fun _ => ?_, fun _ => rfl⟩
      obtain ⟨v, hv, hw⟩ := hb1.1 h3
      exact ⟨v, by omega, hw⟩
    · refine tri_must ⟨by omega, by omega⟩ (tri_must ⟨by omega, by omega⟩ (inner _ ⟨fun h4 => ⟨i, by omega, (ri.2 i hin).1 h4⟩, ?_⟩))
      rintro ⟨v, hv, hw⟩
      by_cases e : v = i
      · subst e; exact (ri.2 v hin).2 hw
      · have := hb1.2 ⟨v, by omega, hw⟩
        rw [h3] at this
        cases this
  have h : ¬ (i : Int) < g.N := of_decide_eq_false h
  have hin : i = n := by omega
  subst hin
  have hokb : (ok == b) = false := by
    have hx : ok = true ↔ ¬ (b = true) := by rw [hround, hb1]
    cases ok <;> cases b <;> simp at hx ⊢
  rw [hokb, cond_false]
  refine tri_must ⟨by omega, by omega, by omega⟩ ?_
  rw [hn]
  -- the places in the order
  obtain ⟨L, hL, hlL, hLi, hfull⟩ : ∃ L : List Nat, Ord i (Sel g mask) L ∧ li = L.map (fun v : Nat => (v : Int)) ∧ L.length ≤ i ∧ ((ok = true ∧ L.length = i) ∨ (ok = false ∧ L = [] ∧ 0 < i)) := by
    rcases hord with ⟨L, h1, h2, h3⟩ | ⟨L, h1, h2, h3, h4⟩
    · cases h3; exact ⟨L, h1, rfl, by omega, Or.inl ⟨rfl, h2⟩⟩
    · cases h4; exact ⟨[], .nil, rfl, by simp, Or.inr ⟨rfl, rfl, by omega⟩⟩
  have hll : li.length = L.length := by rw [hlL]; simp
  have hidx : ∀ k (hk : k < L.length), idx li (k : Int) = (L[k] : Nat) := fun k hk => by
    rw [idx_eq (n := k) rfl (by omega)]
    simp [hlL]
  refine tri_up2 L.length (fun k at_ => at_.length = i ∧ (∀ q (hq : q < L.length), q < k → idx at_ (L[q] : Int) = ((q + 1 : Nat) : Int)) ∧ ∀ v : Nat, v < i → v ∉ L.take k → idx at_ (v : Int) = 0) ⟨by simp, fun q hq hk => by omega, fun v hv _ => idx_rep i v⟩ (fun k at_ hk hJ => ?_)
  obtain ⟨g1, g2, g3⟩ := hJ
  show Tri (bif decide ((k : Int) < (li.length : Int)) then must (0 ≤ (k : Int) ∧ (k : Int) < (li.length : Int)) (bif decide (idx li (k : Int) < 0) then assizelaw06zGraphRounds.j8 (li, ok, 0) at_ (k : Int) true else (bif decide (idx li (k : Int) ≥ g.N) then assizelaw06zGraphRounds.j8 (li, ok, 0) at_ (k : Int) true else (must (0 ≤ idx li (k : Int) ∧ idx li (k : Int) < (at_.length : Int)) (assizelaw06zGraphRounds.j8 (li, ok, 0) at_ (k : Int) (idx at_ (idx li (k : Int)) != 0))))) else (iter (assizelaw06zGraphRounds.s9 g mask (a, 0) (li, ok, 0) at_) 0)) _
  refine tri_bif (fun h => ?_) (fun h => ?_)
  · have h : (k : Int) < li.length := of_decide_eq_true h
    have hkL : k < L.length := by omega
    have hlt := hL.lt L[k] (List.getElem_mem hkL)
    have hfr := hL.at k hkL
    refine tri_must ⟨by omega, h⟩ ?_
    rw [hidx k hkL, decide_eq_false (show ¬ ((L[k] : Nat) : Int) < 0 by omega), cond_false, decide_eq_false (show ¬ ((L[k] : Nat) : Int) ≥ g.N by omega), cond_false]
    refine tri_must ⟨by omega, by omega⟩ ?_
    rw [g3 L[k] hlt hfr.1, show ((0 : Int) != 0) = false from rfl]
    unfold assizelaw06zGraphRounds.j8
    rw [cond_false]
    show Tri (must (0 ≤ (k : Int) ∧ (k : Int) < (li.length : Int)) (must (0 ≤ idx li (k : Int) ∧ idx li (k : Int) < (at_.length : Int)) (some (Sum.inl (at_.set (idx li (k : Int)).toNat (w64 ((k : Int) + 1)), w64 ((k : Int) + 1)) : (List Int × Int) ⊕ ((Bool × Int) ⊕ (Int ⊕ Bool)))))) _
    rw [hidx k hkL]
    have hset : ∀ v : Nat, idx (at_.set L[k] (w64 ((k : Int) + 1))) (v : Int) = if v = L[k] then w64 ((k : Int) + 1) else idx at_ (v : Int) := fun v => idx_setn (by omega)
    refine tri_must ⟨by omega, h⟩ (tri_must ⟨by omega, by omega⟩ ⟨_, rfl, w64zsucc (by omega), hkL, by simp [g1], fun q hq hqk => ?_, fun v hv hni => ?_⟩)
    · rw [Int.toNat_natCast, hset]
      by_cases e : q = k
      · subst e; rw [if_pos rfl, w64zsucc (by omega)]
      · rw [if_neg (fun he => ?_)]
        · exact g2 q hq (by omega)
        · have hlt2 : q < k := by omega
          exact hfr.1 (by rw [← he]; exact List.mem_take_iff_getElem.2 ⟨q, by omega, rfl⟩)
    · rw [List.take_succ_eq_append_getElem hkL] at hni
      simp only [List.mem_append, List.mem_singleton, not_or] at hni
      rw [Int.toNat_natCast, hset, if_neg hni.2]
      exact g3 v hv hni.1
  have h : ¬ (k : Int) < li.length := of_decide_eq_false h
  have hkL : k = L.length := by omega
  subst hkL
  refine tri_up g.Edges.length (fun _ => True) trivial (fun k hk _ => ?_)
  have hfin : (bif (ok == ((li.length : Int) == g.N)) then true else (g.N == 0)) = true := by
    rcases hfull with ⟨h1, h2⟩ | ⟨h1, h2, h3⟩
    · rw [h1, show ((li.length : Int) == g.N) = true by rw [beq_iff_eq]; omega]; rfl
    · rw [h1, show ((li.length : Int) == g.N) = false by rw [beq_eq_false_iff_ne, hll, h2]; simp; omega]; rfl
  show Tri (bif decide ((k : Int) < (g.Edges.length : Int)) then must (0 ≤ (k : Int) ∧ (k : Int) < (g.Edges.length : Int)) (bif (bAnd .i64 ((idx g.Edges (k : Int)).Kind) mask == 0) then assizelaw06zGraphRounds.j10 (k : Int) else (must (0 ≤ (idx g.Edges (k : Int)).From ∧ (idx g.Edges (k : Int)).From < (a.length : Int)) (must (0 ≤ (idx g.Edges (k : Int)).To ∧ (idx g.Edges (k : Int)).To < ((idx a ((idx g.Edges (k : Int)).From)).length : Int)) (bif !(idx (idx a ((idx g.Edges (k : Int)).From)) ((idx g.Edges (k : Int)).To)) then assizelaw06zGraphRounds.j11 g (a, 0) (k : Int) true else (bif ok then must (0 ≤ (idx g.Edges (k : Int)).From ∧ (idx g.Edges (k : Int)).From < (at_.length : Int)) (bif (idx at_ ((idx g.Edges (k : Int)).From) == 0) then assizelaw06zGraphRounds.j11 g (a, 0) (k : Int) true else (must (0 ≤ (idx g.Edges (k : Int)).To ∧ (idx g.Edges (k : Int)).To < (at_.length : Int)) (assizelaw06zGraphRounds.j11 g (a, 0) (k : Int) (decide (idx at_ ((idx g.Edges (k : Int)).From) ≥ idx at_ ((idx g.Edges (k : Int)).To)))))) else (assizelaw06zGraphRounds.j11 g (a, 0) (k : Int) false)))))) else (bif (ok == ((li.length : Int) == g.N)) then out (out (out (out (some true)))) else (out (out (out (out (some (g.N == 0)))))))) _
  refine tri_bif (fun h => ?_) (fun h => ?_)
  · have h : (k : Int) < g.Edges.length := of_decide_eq_true h
    have hke : k < g.Edges.length := by omega
    have ho := hg.e k hke
    unfold okEdge at ho
    obtain ⟨x, hx⟩ : ∃ t : Nat, (idx g.Edges (k : Int)).From = t := ⟨(idx g.Edges (k : Int)).From.toNat, by omega⟩
    obtain ⟨y, hy⟩ : ∃ t : Nat, (idx g.Edges (k : Int)).To = t := ⟨(idx g.Edges (k : Int)).To.toNat, by omega⟩
    refine tri_must ⟨by omega, h⟩ ?_
    refine tri_bif (fun h2 => ⟨_, rfl, w64zsucc (by omega), hke, trivial⟩) (fun h2 => ?_)
    have h2 : bAnd .i64 ((idx g.Edges (k : Int)).Kind) mask ≠ 0 := by simpa using h2
    have hsel : Sel g mask x y := ⟨k, hke, h2, hx, hy⟩
    have hxn : x < i := by omega
    have hyn : y < i := by omega
    have rx := ham.2 x hxn
    have lrx := rx.1
    have hxy : idx (idx a (x : Int)) (y : Int) = true := (rx.2 y hyn).2 (.single hsel)
    have fine : Tri (assizelaw06zGraphRounds.j11 g (a, 0) (k : Int) false) (Up g.Edges.length k (fun _ => True) (fun r : (List Int × Int) ⊕ ((Bool × Int) ⊕ (Int ⊕ Bool)) => False)) ∨ True := Or.inr trivial
    have inner : ∀ {Q : (List Int × Int) ⊕ ((Bool × Int) ⊕ (Int ⊕ Bool)) → Prop}, Tri (assizelaw06zGraphRounds.j11 g (a, 0) (k : Int) false) (Up g.Edges.length k (fun _ => True) Q) := by
      intro Q
      unfold assizelaw06zGraphRounds.j11
      rw [cond_false]
      refine tri_up i (fun _ => True) trivial (fun z hz _ => ?_)
      show Tri (bif decide ((z : Int) < g.N) then must (0 ≤ (z : Int) ∧ (z : Int) < (a.length : Int)) (must (0 ≤ (idx g.Edges (k : Int)).From ∧ (idx g.Edges (k : Int)).From < ((idx a (z : Int)).length : Int)) (bif idx (idx a (z : Int)) ((idx g.Edges (k : Int)).From) then must (0 ≤ (idx g.Edges (k : Int)).To ∧ (idx g.Edges (k : Int)).To < ((idx a (z : Int)).length : Int)) (assizelaw06zGraphRounds.j13 (z : Int) (!(idx (idx a (z : Int)) ((idx g.Edges (k : Int)).To)))) else (assizelaw06zGraphRounds.j13 (z : Int) false))) else (out (assizelaw06zGraphRounds.j10 (k : Int)))) _
      refine tri_bif (fun h3 => ?_) (fun h3 => tri_out ⟨_, rfl, w64zsucc (by omega), hke, trivial⟩)
      have h3 : (z : Int) < g.N := of_decide_eq_true h3
      have hzn : z < i := by omega
      have rz := ham.2 z hzn
      have lrz := rz.1
      rw [hx, hy]
      refine tri_must ⟨by omega, by omega⟩ (tri_must ⟨by omega, by omega⟩ ?_)
      refine tri_bif (fun h4 => ?_) (fun h4 => ⟨_, rfl, w64zsucc (by omega), hzn, trivial⟩)
      refine tri_must ⟨by omega, by omega⟩ ?_
      have := (rz.2 y hyn).2 (.tail ((rz.2 x hxn).1 h4) hsel)
      rw [this]
      exact ⟨_, rfl, w64zsucc (by omega), hzn, trivial⟩
    rw [hx, hy]
    refine tri_must ⟨by omega, by omega⟩ (tri_must ⟨by omega, by omega⟩ ?_)
    rw [hxy, Bool.not_true, cond_false]
    refine tri_bif (fun hok => ?_) (fun hok => inner)
    have hLl : L.length = i := by
      rcases hfull with ⟨h1, h2⟩ | ⟨h1, _⟩
      · exact h2
      · rw [h1] at hok; cases hok
    have cov : ∀ v, v < i → ∃ q, ∃ hq : q < L.length, L[q] = v := fun v hv => List.getElem_of_mem (covers hL.nodup hL.lt hLl hv)
    obtain ⟨qx, hqx, ex⟩ := cov x hxn
    obtain ⟨qy, hqy, ey⟩ := cov y hyn
    have ax : idx at_ (x : Int) = ((qx + 1 : Nat) : Int) := by have := g2 qx hqx hqx; rw [ex] at this; exact this
    have ay : idx at_ (y : Int) = ((qy + 1 : Nat) : Int) := by have := g2 qy hqy hqy; rw [ey] at this; exact this
    have hlt : qx < qy := by
      have hfr := hL.at qy hqy
      rw [ey] at hfr
      obtain ⟨q, hq, he⟩ := List.mem_take_iff_getElem.1 (hfr.2 x hsel)
      have hq' : q < L.length := by omega
      have : q = qx := by
        have h5 : L[q] = L[qx] := he.trans ex.symm
        exact (List.getElem_inj hL.nodup).1 h5
      omega
    refine tri_must ⟨by omega, by omega⟩ ?_
    rw [ax, ay, show (((qx + 1 : Nat) : Int) == 0) = false by rw [beq_eq_false_iff_ne]; omega, cond_false]
    refine tri_must ⟨by omega, by omega⟩ ?_
    rw [decide_eq_false (show ¬ ((qx + 1 : Nat) : Int) ≥ ((qy + 1 : Nat) : Int) by omega)]
    exact inner
  · cases hc : (ok == ((li.length : Int) == g.N)) with
    | true => exact tri_out (tri_out (tri_out (tri_out ⟨_, rfl, rfl⟩)))
    | false =>
      rw [hc] at hfin
      exact tri_out (tri_out (tri_out (tri_out ⟨_, rfl, hfin⟩)))
theorem GraphRounds_law (g : Graph) (mask : Int) {p q r : Prop} (g0 : p ∧ (q ∧ g.Edges.length * 32 ≤ 140737488351232)) (_ : r) : assizelaw06zGraphRounds g mask = some true :=
  GraphRounds_true g mask g0.2.2
end Go.Proofs.YtncapkloanfmnaaDoorT
