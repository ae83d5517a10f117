/- Orders of a graph: both answers take the least node that may come next, as long as there is one. -/
import Derived.Test.YtncapkloanfmnaaDoorTPG
namespace Go.Proofs.YtncapkloanfmnaaDoorT
open Go Go.Proofs Go.Proofs.YtncapkloanfmnaaDoorE
set_option linter.unusedVariables false
set_option linter.unusedSimpArgs false
set_option maxRecDepth 4096

def Free (S : Nat → Nat → Prop) (l : List Nat) (j : Nat) : Prop := j ∉ l ∧ ∀ i, S i j → i ∈ l
inductive Ord (n : Nat) (S : Nat → Nat → Prop) : List Nat → Prop
  | nil : Ord n S []
  | snoc {l : List Nat} {j : Nat} : Ord n S l → j < n → Free S l j → (∀ i, i < j → ¬ Free S l i) → Ord n S (l ++ [j])
theorem Ord.det {n : Nat} {S : Nat → Nat → Prop} {l' : List Nat} (h' : Ord n S l') : ∀ l, Ord n S l → l.length ≤ l'.length → l = l'.take l.length := by
  induction h' with
  | nil => intro l _ hl; cases l <;> simp at hl ⊢
  | @snoc l' j hl' hj hf hm ih =>
    intro l h hle
    by_cases hc : l.length ≤ l'.length
    · rw [List.take_append_of_le_length hc]; exact ih l h hc
    · rw [List.length_append, List.length_singleton] at hle
      cases h with
      | nil => simp
      | @snoc l1 j1 h1 hj1 hf1 hm1 =>
        rw [List.length_append, List.length_singleton] at hle hc
        have e : l1 = l' := by
          have := ih l1 h1 (by omega)
          rw [List.take_of_length_le (by omega)] at this
          exact this
        subst e
        have : j1 = j := by
          rcases Nat.lt_trichotomy j1 j with h | h | h
          · exact absurd hf1 (hm j1 h)
          · exact h
          · exact absurd hf (hm1 j h)
        subst this
        rw [List.take_of_length_le (by simp)]
theorem Ord.next {n : Nat} {S : Nat → Nat → Prop} {l : List Nat} (h : Ord n S l) : ∀ k, k < l.length → ∃ j, j < n ∧ Free S (l.take k) j := by
  induction h with
  | nil => intro k hk; simp at hk
  | @snoc l j hl hj hf hm ih =>
    intro k hk
    by_cases hc : k < l.length
    · rw [List.take_append_of_le_length (by omega)]; exact ih k hc
    · have : k = l.length := by rw [List.length_append, List.length_singleton] at hk; omega
      subst this
      exact ⟨j, hj, by simpa using hf⟩
theorem Ord.lt {n : Nat} {S : Nat → Nat → Prop} {l : List Nat} (h : Ord n S l) : ∀ v ∈ l, v < n := by
  induction h with
  | nil => intro v hv; cases hv
  | @snoc l j hl hj hf hm ih =>
    intro v hv
    rcases List.mem_append.1 hv with hv | hv
    · exact ih v hv
    · rw [List.mem_singleton.1 hv]; exact hj
def OrdOut (n : Nat) (S : Nat → Nat → Prop) (r : List Int × Bool × Int) : Prop :=
  (∃ l, Ord n S l ∧ l.length = n ∧ r = (l.map (fun v : Nat => (v : Int)), true, 0)) ∨ (∃ l, Ord n S l ∧ l.length < n ∧ (∀ j, j < n → ¬ Free S l j) ∧ r = ([], false, 0))
theorem OrdOut.eq {n : Nat} {S : Nat → Nat → Prop} {r r' : List Int × Bool × Int} (h : OrdOut n S r) (h' : OrdOut n S r') : r = r' := by
  have apart : ∀ l l' : List Nat, Ord n S l → l.length = n → Ord n S l' → l'.length < n → (∀ j, j < n → ¬ Free S l' j) → False := by
    intro l l' h1 h2 h3 h4 h5
    have e := h1.det l' h3 (by omega)
    obtain ⟨j, hj, hf⟩ := h1.next l'.length (by omega)
    rw [← e] at hf
    exact h5 j hj hf
  rcases h with ⟨l, h1, h2, rfl⟩ | ⟨l, h1, h2, h3, rfl⟩ <;> rcases h' with ⟨l', g1, g2, rfl⟩ | ⟨l', g1, g2, g3, rfl⟩
  · have e := g1.det l h1 (by omega)
    rw [List.take_of_length_le (by omega)] at e
    rw [e]
  · exact (apart l l' h1 h2 g1 g2 g3).elim
  · exact (apart l' l g1 g2 h1 h2 h3).elim
  · rfl
theorem mem_snoc {l : List Nat} {j v : Nat} : v ∈ l ++ [j] ↔ v ∈ l ∨ v = j := by simp

theorem graph_Order_told {g : Graph} (mask : Int) (hg : Good g) : Tri (graph_Order g mask) (OrdOut g.N.toNat (Sel g mask)) := by
  have hn0 := hg.n0
  have hn1 := hg.n1
  generalize hn : g.N.toNat = n
  have hN : g.N = n := by omega
  have hrt := graph_rows_told mask hg
  have hS : ∀ i j, Sel g mask i j → i < n ∧ j < n := fun i j h => by subst hn; exact sel_lt hg h
  generalize Sel g mask = S at hrt hS ⊢
  rw [hn] at hrt
  unfold graph_Order
  rw [check_good hg]
  show Tri (must (0 ≤ g.N ∧ g.N ≤ 9223372036854775807 ∧ (8 : Int) * g.N ≤ 281474976710656) ((graph_rows g mask).bind fun y501 => iter (graph_Order.s1 g y501) (List.replicate g.N.toNat (default : Int), 0))) _
  refine tri_must ⟨by omega, by omega, by omega⟩ (tri_bind hrt (fun ws hws => ?_))
  rw [hn]
  have hwl := hws.1
  refine tri_up2 n (fun k into => into.length = n ∧ ∀ j : Nat, j < n → Wd (idx into (j : Int)) (fun i => i < k ∧ S i j)) ⟨by simp, fun j hj => by rw [idx_rep]; exact Wd.zero.congr fun i => ⟨fun h => h.elim, fun h => by omega⟩⟩ (fun k into hk hJ => ?_)
  obtain ⟨hil, hiw⟩ := hJ
  show Tri (bif decide ((k : Int) < (ws.length : Int)) then must (0 ≤ (k : Int) ∧ (k : Int) < (ws.length : Int)) (iter (graph_Order.s2 (k : Int)) (into, idx ws (k : Int))) else (iter (graph_Order.s3 g into) ([], 0))) _
  refine tri_bif (fun h => ?_) (fun h => ?_)
  · have h : (k : Int) < ws.length := of_decide_eq_true h
    have hkn : k < n := by omega
    refine tri_must ⟨by omega, h⟩ ?_
    refine tri_iter (fun s : List Int × Int => ∃ R : Nat → Prop, s.1.length = n ∧ Wd s.2 R ∧ (∀ j, R j → S k j) ∧ ∀ j : Nat, j < n → Wd (idx s.1 (j : Int)) (fun i => (i < k ∧ S i j) ∨ (i = k ∧ S k j ∧ ¬ R j))) (fun s => s.2.toNat) ?_ ?_
    · exact ⟨S k, hil, hws.2 k hkn, fun j h => h, fun j hj => (hiw j hj).congr fun i => ⟨Or.inl, fun h => h.elim id fun h => absurd h.2.1 h.2.2⟩⟩
    rintro ⟨l, row⟩ ⟨R, i1, i2, hR, i3⟩
    have hl : l.length = n := i1
    have wR : Wd row R := i2
    have hlw : ∀ j : Nat, j < n → Wd (idx l (j : Int)) (fun i => (i < k ∧ S i j) ∨ (i = k ∧ S k j ∧ ¬ R j)) := i3
    clear i1 i2 i3
    show Tri (bif (row != 0) then _ else _) _
    refine tri_bif (fun h => ?_) (fun h => ?_)
    · have h0 : row ≠ 0 := by simpa using h
      obtain ⟨b, hb, b64, f0, f1, pb, wb, dec⟩ := wR.low h0
      have hsb := hR b pb
      have hbn := (hS k b hsb).2
      refine tri_bind (R := fun y => y = (b : Int)) ?_ ?_
      · unfold bits_TrailingZeros64
        exact tri_must ⟨f0, f1⟩ ⟨_, rfl, by rw [hb]⟩
      rintro y rfl
      refine tri_must ⟨by omega, by omega⟩ (tri_must ⟨by omega, by unfold far; omega⟩ ⟨_, rfl, ⟨_, by simp [hl], wb, fun j h => hR j h.1, fun j hj => ?_⟩, dec⟩)
      rw [idx_set (by omega) (by omega)]
      split
      · rename_i e
        have e : j = b := by omega
        subst e
        refine ((hlw j hbn).or (Wd.bit (n := k) rfl (by omega))).congr fun i => ⟨?_, ?_⟩
        · rintro ((h | h) | h)
          · exact Or.inl h
          · exact absurd pb h.2.2
          · exact Or.inr ⟨h, hsb, fun h => h.2 rfl⟩
        · rintro (h | h)
          · exact Or.inl (Or.inl h)
          · exact Or.inr h.1
      · rename_i e
        refine (hlw j hj).congr fun i => ⟨?_, ?_⟩
        · rintro (h | h)
          · exact Or.inl h
          · exact Or.inr ⟨h.1, h.2.1, fun h' => h.2.2 h'.1⟩
        · rintro (h | h)
          · exact Or.inl h
          · exact Or.inr ⟨h.1, h.2.1, fun h' => h.2.2 ⟨h', by omega⟩⟩
    · have h0 : row = 0 := by simpa using h
      have hno := wR.none.1 h0
      refine tri_out ⟨_, rfl, w64zsucc (by omega), hkn, hl, fun j hj => (hlw j hj).congr fun i => ⟨?_, ?_⟩⟩
      · rintro (h | h)
        · exact ⟨by omega, h.2⟩
        · rw [h.1]; exact ⟨by omega, h.2.1⟩
      · rintro ⟨h1, h2⟩
        by_cases e : i = k
        · subst e; exact Or.inr ⟨rfl, h2, hno j⟩
        · exact Or.inl ⟨by omega, h2⟩
  · have h : ¬ (k : Int) < ws.length := of_decide_eq_false h
    have hkn : k = n := by omega
    subst hkn
    have hiw : ∀ j : Nat, j < k → Wd (idx into (j : Int)) (fun i => S i j) := fun j hj => (hiw j hj).congr fun i => ⟨fun h => h.2, fun h => ⟨(hS i j h).1, h⟩⟩
    refine tri_iter (fun s : List Int × Int => ∃ l, s.1 = l.map (fun v : Nat => (v : Int)) ∧ Ord k S l ∧ l.length ≤ k ∧ Wd s.2 (fun v => v ∈ l)) (fun s => k - s.1.length) ⟨[], rfl, .nil, by simp, Wd.zero.congr fun v => by simp⟩ ?_
    rintro ⟨li, told⟩ ⟨l, i1, hl, hlk, i2⟩
    have e1 : li = l.map (fun v : Nat => (v : Int)) := i1
    have wt : Wd told (fun v => v ∈ l) := i2
    clear i1 i2
    have hll : li.length = l.length := by rw [e1]; simp
    show Tri (bif decide ((li.length : Int) < g.N) then iter (graph_Order.s4 into li told) 0 else (out (out (some (li, true, 0))))) _
    refine tri_bif (fun h => ?_) (fun h => ?_)
    · have h : (li.length : Int) < g.N := of_decide_eq_true h
      refine tri_up k (fun j => ∀ i, i < j → ¬ Free S l i) (fun i hi => by omega) (fun j hj hJ => ?_)
      show Tri (bif decide ((j : Int) < (into.length : Int)) then _ else _) _
      refine tri_bif (fun h' => ?_) (fun h' => ?_)
      · have h' : (j : Int) < into.length := of_decide_eq_true h'
        have hjk : j < k := by omega
        have next : ∀ {Q : (List Int × Int) ⊕ ((List Int × Int) ⊕ (List Int × Bool × Int)) → Prop}, ¬ Free S l j → Tri (graph_Order.j5 li told (j : Int) false) (Up k j (fun j => ∀ i, i < j → ¬ Free S l i) Q) := fun hn' => ⟨_, rfl, w64zsucc (by omega), hjk, fun i hi => by
          by_cases e : i = j
          · rw [e]; exact hn'
          · exact hJ i (by omega)⟩
        refine tri_must ⟨by omega, h'⟩ (tri_must ⟨by omega, by unfold far; omega⟩ ?_)
        rcases wt.look (n := j) rfl (by omega) with ⟨e, hm⟩ | ⟨e, hm⟩
        · rw [e, show ((1 : Int) == 0) = false from rfl, cond_false]
          exact next fun hf => hf.1 hm
        · rw [e, show ((0 : Int) == 0) = true from rfl, cond_true]
          have wx := (hiw j hjk).andNot wt
          by_cases hz : bAndNot .u64 (idx into (j : Int)) told = 0
          · rw [show (bAndNot .u64 (idx into (j : Int)) told == 0) = true by simp [hz]]
            have hno := wx.none.1 hz
            have hf : Free S l j := ⟨hm, fun i hs => Classical.byContradiction fun hni => hno i ⟨hs, hni⟩⟩
            unfold graph_Order.j5
            rw [cond_true]
            refine tri_must ⟨by omega, by unfold far; omega⟩ ?_
            refine tri_must ⟨by omega, by omega⟩ ?_
            refine tri_out ⟨_, rfl, ?_⟩
            refine ⟨⟨l ++ [j], by rw [e1]; simp, .snoc hl hjk hf hJ, by simp; omega, ?_⟩, ?_⟩
            · refine (wt.or (Wd.bit (n := j) rfl (by omega))).congr fun v => ?_
              rw [mem_snoc]
            · show k - (li ++ [(j : Int)]).length < k - li.length
              rw [List.length_append, List.length_singleton]
              omega
          · rw [show (bAndNot .u64 (idx into (j : Int)) told == 0) = false by simp [hz]]
            exact next fun hf => hz (wx.none.2 fun i hi => hi.2 (hf.2 i hi.1))
      · have h' : ¬ (j : Int) < into.length := of_decide_eq_false h'
        refine tri_out (tri_out (tri_out ⟨_, rfl, Or.inr ⟨l, hl, by omega, fun i hi => hJ i (by omega), rfl⟩⟩))
    · have h : ¬ (li.length : Int) < g.N := of_decide_eq_false h
      refine tri_out (tri_out ⟨_, rfl, Or.inl ⟨l, hl, by omega, by rw [e1]⟩⟩)
end Go.Proofs.YtncapkloanfmnaaDoorT
