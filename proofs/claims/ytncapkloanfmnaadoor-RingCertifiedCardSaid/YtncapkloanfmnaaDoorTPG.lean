/- Graphs: the program's answers and the document's, both as the ways of one and more edges. -/
import Derived.Test.YtncapkloanfmnaaDoorTD
import Derived.Test.YtncapkloanfmnaaDoorP
namespace Go.Proofs.YtncapkloanfmnaaDoorT
open Go Go.Proofs Go.Proofs.YtncapkloanfmnaaDoorE
set_option linter.unusedVariables false
set_option linter.unusedSimpArgs false
set_option maxRecDepth 4096

/-! ### right graphs -/
def okEdge (N : Int) (e : Edge) : Prop := 0 ≤ e.From ∧ e.From < N ∧ 0 ≤ e.To ∧ e.To < N ∧ 1 ≤ e.Kind ∧ e.Kind ≤ 16 ∧ bAnd .i64 e.Kind (w64 (e.Kind - 1)) = 0
structure Good (g : Graph) : Prop where
  n0 : 0 ≤ g.N
  n1 : g.N ≤ 64
  m : g.Edges.length ≤ 262144
  e : ∀ k : Nat, k < g.Edges.length → okEdge g.N (idx g.Edges k)
theorem ones (k : Int) (h1 : 1 ≤ k) (h2 : k ≤ 16) : Tri (bits_OnesCount (IntKind.wrap .u64 k)) (fun c => (c != 1) = (bAnd .i64 k (w64 (k - 1)) != 0)) := by
  have h : k = 1 ∨ k = 2 ∨ k = 3 ∨ k = 4 ∨ k = 5 ∨ k = 6 ∨ k = 7 ∨ k = 8 ∨ k = 9 ∨ k = 10 ∨ k = 11 ∨ k = 12 ∨ k = 13 ∨ k = 14 ∨ k = 15 ∨ k = 16 := by omega
  have key : ∀ n : Fin 17, 1 ≤ n.1 → (bits_OnesCount (IntKind.wrap .u64 (n.1 : Int))).map (fun c => (c != 1)) = some (bAnd .i64 (n.1 : Int) (w64 ((n.1 : Int) - 1)) != 0) := by decide +kernel
  obtain ⟨n, rfl⟩ : ∃ n : Nat, k = n := ⟨k.toNat, by omega⟩
  have := key ⟨n, by omega⟩ (by simp; omega)
  simp only at this
  cases hb : bits_OnesCount (IntKind.wrap .u64 (n : Int)) with
  | none => rw [hb] at this; cases this
  | some c => rw [hb] at this; exact ⟨c, rfl, Option.some.inj this⟩
theorem Check_1 (x : Int) (g : Graph) : graph_Check_1 x g = some (decide (0 ≤ x) && decide (x < g.N)) := by
  unfold graph_Check_1
  by_cases h : x ≥ 0
  · have h' : 0 ≤ x := h
    simp [h']
  · have h' : ¬ 0 ≤ x := h
    simp [h']
theorem check_tail {g : Graph} {c : Bool} (hc : ¬ Good g ∨ c = false) (h : c = false → ∀ k : Nat, k < g.Edges.length → False) : True := trivial
def Told (g : Graph) (r : Int) : Prop := (r = 0 ∧ Good g) ∨ (r = 60 ∧ ¬ Good g)
theorem j3ztold {g : Graph} {k : Nat} (b : Bool) (hk : k < g.Edges.length) (hm : g.Edges.length ≤ 262144) (hb : b = true → ¬ okEdge g.N (idx g.Edges k)) (hb' : b = false → okEdge g.N (idx g.Edges k))
    (hJ : ∀ i : Nat, i < k → okEdge g.N (idx g.Edges i)) : Tri (graph_Check.j3 (k : Int) b) (Up g.Edges.length k (fun k => ∀ i : Nat, i < k → okEdge g.N (idx g.Edges i)) (Told g)) := by
  unfold graph_Check.j3
  cases b with
  | true => exact ⟨_, rfl, Or.inr ⟨rfl, fun hg => hb rfl (hg.e k hk)⟩⟩
  | false =>
    refine ⟨_, rfl, w64zsucc (by omega), hk, fun i hi => ?_⟩
    by_cases e : i = k
    · subst e; exact hb' rfl
    · exact hJ i (by omega)
theorem graph_Check_told (g : Graph) : Tri (graph_Check g) (Told g) := by
  have hj : ∀ b : Bool, 0 ≤ g.N → g.N ≤ 64 → b = decide ((g.Edges.length : Int) > 262144) → Tri (graph_Check.j1 g b) (Told g) := by
    intro b h0 h1 hb
    unfold graph_Check.j1
    refine tri_bif (fun h => ?_) (fun h => ?_)
    · subst hb
      have : (g.Edges.length : Int) > 262144 := of_decide_eq_true h
      exact ⟨_, rfl, Or.inr ⟨rfl, fun hg => by have := hg.m; omega⟩⟩
    · subst hb
      have hm : ¬ (g.Edges.length : Int) > 262144 := of_decide_eq_false h
      refine tri_up g.Edges.length (fun k => ∀ i : Nat, i < k → okEdge g.N (idx g.Edges i)) (fun i hi => by omega) (fun k hk hJ => ?_)
      show Tri (bif decide ((k : Int) < (g.Edges.length : Int)) then _ else _) _
      refine tri_bif (fun h => ?_) (fun h => ?_)
      · have h : (k : Int) < g.Edges.length := of_decide_eq_true h
        have hk' : k < g.Edges.length := by omega
        refine tri_must ⟨by omega, h⟩ ?_
        rw [Check_1, Check_1]
        refine tri_bif (fun h => ?_) (fun h => ?_)
        · refine j3ztold true hk' (by omega) (fun _ ho => ?_) (fun h => by cases h) hJ
          simp [ho.1, ho.2.1] at h
        · simp only [Bool.not_eq_false', Bool.and_eq_true, decide_eq_true_eq] at h
          refine tri_bif (fun h' => ?_) (fun h' => ?_)
          · refine j3ztold true hk' (by omega) (fun _ ho => ?_) (fun h => by cases h) hJ
            simp [ho.2.2.1, ho.2.2.2.1] at h'
          · simp only [Bool.not_eq_false', Bool.and_eq_true, decide_eq_true_eq] at h'
            refine tri_bif (fun h1 => ?_) (fun h1 => ?_)
            · refine j3ztold true hk' (by omega) (fun _ ho => ?_) (fun h => by cases h) hJ
              have := of_decide_eq_true h1
              have := ho.2.2.2.2.1
              omega
            · refine tri_bif (fun h2 => ?_) (fun h2 => ?_)
              · refine j3ztold true hk' (by omega) (fun _ ho => ?_) (fun h => by cases h) hJ
                have := of_decide_eq_true h2
                have := ho.2.2.2.2.2.1
                omega
              · have h1 := of_decide_eq_false h1
                have h2 := of_decide_eq_false h2
                refine tri_bind (ones _ (by omega) (by omega)) (fun c hc => ?_)
                rw [hc]
                refine j3ztold _ hk' (by omega) (fun hx ho => ?_) (fun hx => ?_) hJ
                · have := ho.2.2.2.2.2.2
                  rw [this] at hx
                  cases hx
                · refine ⟨h.1, h.2, h'.1, h'.2, by omega, by omega, ?_⟩
                  simpa using hx
      · have h : ¬ (k : Int) < g.Edges.length := of_decide_eq_false h
        exact tri_out ⟨_, rfl, Or.inl ⟨rfl, h0, h1, by omega, fun i hi => hJ i (by omega)⟩⟩
  unfold graph_Check
  refine tri_bif (fun h => ?_) (fun h => ?_)
  · exact ⟨_, rfl, Or.inr ⟨rfl, fun hg => by have := of_decide_eq_true h; have := hg.n0; omega⟩⟩
  · have h := of_decide_eq_false h
    refine tri_bif (fun h' => ?_) (fun h' => ?_)
    · exact ⟨_, rfl, Or.inr ⟨rfl, fun hg => by have := of_decide_eq_true h'; have := hg.n1; omega⟩⟩
    · have h' := of_decide_eq_false h'
      exact hj _ (by omega) (by omega) rfl
theorem graph_Check_eq (g : Graph) : (Good g ∧ graph_Check g = some 0) ∨ (¬ Good g ∧ graph_Check g = some 60) := by
  obtain ⟨r, h, h' | h'⟩ := graph_Check_told g
  · exact Or.inl ⟨h'.2, h'.1 ▸ h⟩
  · exact Or.inr ⟨h'.2, h'.1 ▸ h⟩
theorem check_good {g : Graph} (hg : Good g) : graph_Check g = some 0 := by
  rcases graph_Check_eq g with h | h
  · exact h.2
  · exact absurd hg h.1
theorem check_bad {g : Graph} (hg : ¬ Good g) : graph_Check g = some 60 := by
  rcases graph_Check_eq g with h | h
  · exact absurd h.1 hg
  · exact h.2
/-! ### the edges of a mask -/
def SelK (g : Graph) (mask : Int) (x i j : Nat) : Prop := ∃ k : Nat, k < x ∧ bAnd .i64 (idx g.Edges (k : Int)).Kind mask ≠ 0 ∧ (idx g.Edges (k : Int)).From = i ∧ (idx g.Edges (k : Int)).To = j
def Sel (g : Graph) (mask : Int) (i j : Nat) : Prop := SelK g mask g.Edges.length i j
theorem sel_lt {g : Graph} {mask : Int} (hg : Good g) {i j : Nat} (h : Sel g mask i j) : i < g.N.toNat ∧ j < g.N.toNat := by
  obtain ⟨k, hk, _, h1, h2⟩ := h
  have := hg.e k hk
  unfold okEdge at this
  omega
/-- words: a row for each node -/
def Rows (ws : List Int) (n : Nat) (p : Nat → Nat → Prop) : Prop := ws.length = n ∧ ∀ i : Nat, i < n → Wd (idx ws (i : Int)) (p i)
theorem graph_rows_told {g : Graph} (mask : Int) (hg : Good g) : Tri (graph_rows g mask) (fun ws => Rows ws g.N.toNat (Sel g mask)) := by
  have := hg.n0
  have := hg.n1
  have := hg.m
  unfold graph_rows
  refine tri_must ⟨by omega, by omega, by omega⟩ ?_
  refine tri_up2 g.Edges.length (fun k ws => Rows ws g.N.toNat (SelK g mask k)) ⟨by simp, fun i hi => ?_⟩ (fun k ws hk hJ => ?_)
  · rw [idx_rep]
    exact Wd.zero.congr fun j => ⟨fun h => h.elim, fun ⟨k, h, _⟩ => by omega⟩
  show Tri (bif decide ((k : Int) < (g.Edges.length : Int)) then _ else _) _
  refine tri_bif (fun h => ?_) (fun h => ?_)
  · have h : (k : Int) < g.Edges.length := of_decide_eq_true h
    have hk' : k < g.Edges.length := by omega
    have ho := hg.e k hk'
    unfold okEdge at ho
    refine tri_must ⟨by omega, h⟩ ?_
    have hlen := hJ.1
    refine tri_bif (fun h => ?_) (fun h => ?_)
    · refine tri_must ⟨by omega, by omega⟩ (tri_must ⟨by omega, by unfold far; omega⟩ ?_)
      refine ⟨_, rfl, w64zsucc (by omega), hk', by simp [hJ.1], fun i hi => ?_⟩
      rw [idx_set ho.1 (by omega)]
      obtain ⟨t, ht⟩ : ∃ t : Nat, (idx g.Edges (k : Int)).To = t := ⟨(idx g.Edges (k : Int)).To.toNat, by omega⟩
      split
      · rename_i e
        rw [← e]
        refine ((hJ.2 i hi).or (Wd.bit ht (by omega))).congr fun j => ⟨?_, ?_⟩
        · rintro (⟨q, h1, h2⟩ | rfl)
          · exact ⟨q, by omega, h2⟩
          · exact ⟨k, by omega, by simpa using h, e.symm, ht⟩
        · rintro ⟨q, h1, h2, h3, h4⟩
          by_cases e' : q = k
          · subst e'
            right
            omega
          · exact Or.inl ⟨q, by omega, h2, h3, h4⟩
      · rename_i e
        refine (hJ.2 i hi).congr fun j => ⟨fun ⟨q, h1, h2⟩ => ⟨q, by omega, h2⟩, ?_⟩
        rintro ⟨q, h1, h2, h3, h4⟩
        by_cases e' : q = k
        · subst e'; exact absurd h3.symm e
        · exact ⟨q, by omega, h2, h3, h4⟩
    · refine ⟨_, rfl, w64zsucc (by omega), hk', hJ.1, fun i hi => ?_⟩
      refine (hJ.2 i hi).congr fun j => ⟨fun ⟨q, h1, h2⟩ => ⟨q, by omega, h2⟩, ?_⟩
      rintro ⟨q, h1, h2, h3, h4⟩
      by_cases e' : q = k
      · subst e'
        exact absurd (by simpa using h) h2
      · exact ⟨q, by omega, h2, h3, h4⟩
  · have h : ¬ (k : Int) < g.Edges.length := of_decide_eq_false h
    have e : k = g.Edges.length := by omega
    subst e
    exact tri_out ⟨_, rfl, hJ⟩

/-! ### what is reached -/
open Relation in
abbrev Way (S : Nat → Nat → Prop) : Nat → Nat → Prop := TransGen S
/-- a row of bools -/
def Row (l : List Bool) (n : Nat) (p : Nat → Prop) : Prop := l.length = n ∧ ∀ j : Nat, j < n → (idx l (j : Int) = true ↔ p j)
theorem Row.eq {l l' : List Bool} {n : Nat} {p : Nat → Prop} (h : Row l n p) (h' : Row l' n p) : l = l' := by
  refine list_ext (h.1.trans h'.1.symm) fun j hj => ?_
  have := (h.2 j (h.1 ▸ hj)).trans (h'.2 j (h.1 ▸ hj)).symm
  cases hx : idx l (j : Int) <;> cases hy : idx l' (j : Int) <;> simp_all
def Mx (m : List (List Bool)) (n : Nat) (p : Nat → Nat → Prop) : Prop := m.length = n ∧ ∀ i : Nat, i < n → Row (idx m (i : Int)) n (p i)
theorem Mx.eq {m m' : List (List Bool)} {n : Nat} {p : Nat → Nat → Prop} (h : Mx m n p) (h' : Mx m' n p) : m = m' :=
  list_ext (h.1.trans h'.1.symm) fun j hj => (h.2 j (h.1 ▸ hj)).eq (h'.2 j (h.1 ▸ hj))
/-! ### the document's way -/
theorem mx_set {m : List (List Bool)} {n : Nat} {p q : Nat → Nat → Prop} (h : Mx m n p) {a b : Int} {x y : Nat} (ha : a = x) (hb : b = y) (hx : x < n) (hy : y < n)
    (hq : ∀ i j, i < n → j < n → (q i j ↔ p i j ∨ (i = x ∧ j = y))) : Mx (m.set a.toNat ((idx m a).set b.toNat true)) n q := by
  subst ha hb
  have hl := h.1
  refine ⟨by simp [h.1], fun i hi => ?_⟩
  rw [idx_set (by omega) (by omega)]
  split
  · rename_i e
    have e : i = x := by omega
    subst e
    have hr := h.2 i hi
    have hrl := hr.1
    refine ⟨by simp [hr.1], fun j hj => ?_⟩
    rw [idx_set (by omega) (by omega)]
    split
    · rename_i e
      have e : j = y := by omega
      subst e
      simp [hq i j hi hj]
    · rename_i e
      rw [hr.2 j hj, hq i j hi hj]
      exact ⟨Or.inl, fun h => h.elim id fun h => absurd (by rw [h.2]) e⟩
  · rename_i e
    have hr := h.2 i hi
    refine ⟨hr.1, fun j hj => ?_⟩
    rw [hr.2 j hj, hq i j hi hj]
    exact ⟨Or.inl, fun h => h.elim id fun h => absurd (by rw [h.1]) e⟩
theorem Mx.congr {m : List (List Bool)} {n : Nat} {p q : Nat → Nat → Prop} (h : Mx m n p) (e : ∀ i j, i < n → j < n → (p i j ↔ q i j)) : Mx m n q :=
  ⟨h.1, fun i hi => ⟨(h.2 i hi).1, fun j hj => ((h.2 i hi).2 j hj).trans (e i j hi hj)⟩⟩
/-- ways through nodes below k -/
def Thru (S : Nat → Nat → Prop) : Nat → Nat → Nat → Prop
  | 0, i, j => S i j
  | k + 1, i, j => Thru S k i j ∨ (Thru S k i k ∧ Thru S k k j)
theorem thru_to {S : Nat → Nat → Prop} {k i : Nat} : Thru S (k + 1) i k ↔ Thru S k i k := ⟨fun h => h.elim id (·.1), Or.inl⟩
theorem thru_of {S : Nat → Nat → Prop} {k j : Nat} : Thru S (k + 1) k j ↔ Thru S k k j := ⟨fun h => h.elim id (·.2), Or.inl⟩
theorem thru_way {S : Nat → Nat → Prop} : ∀ {k i j : Nat}, Thru S k i j → Way S i j
  | 0, _, _, h => .single h
  | k + 1, _, _, h => h.elim thru_way fun ⟨h1, h2⟩ => (thru_way h1).trans (thru_way h2)
theorem thru_base {S : Nat → Nat → Prop} : ∀ {k i j : Nat}, S i j → Thru S k i j
  | 0, _, _, h => h
  | k + 1, _, _, h => Or.inl (thru_base h)
theorem thru_trans {S : Nat → Nat → Prop} : ∀ {k a b c : Nat}, c < k → Thru S k a c → Thru S k c b → Thru S k a b
  | 0, _, _, _, h, _, _ => by omega
  | k + 1, a, b, c, h, h1, h2 => by
    by_cases e : c = k
    · subst e
      exact Or.inr ⟨thru_to.1 h1, thru_of.1 h2⟩
    · have hc : c < k := by omega
      rcases h1 with h1 | ⟨h1, h1'⟩ <;> rcases h2 with h2 | ⟨h2, h2'⟩
      · exact Or.inl (thru_trans hc h1 h2)
      · exact Or.inr ⟨thru_trans hc h1 h2, h2'⟩
      · exact Or.inr ⟨h1, thru_trans hc h1' h2⟩
      · exact Or.inr ⟨h1, h2'⟩
theorem thru_iff {S : Nat → Nat → Prop} {n : Nat} (hS : ∀ i j, S i j → i < n) (i j : Nat) : Thru S n i j ↔ Way S i j := by
  refine ⟨thru_way, fun h => ?_⟩
  induction h with
  | single h => exact thru_base h
  | tail _ h ih => exact thru_trans (hS _ _ h) ih (thru_base h)
def Mid (S : Nat → Nat → Prop) (k x y i j : Nat) : Prop := (i < x ∨ (i = x ∧ j < y) → Thru S (k + 1) i j) ∧ (¬ (i < x ∨ (i = x ∧ j < y)) → Thru S k i j)
theorem mid_done {S : Nat → Nat → Prop} {k x y i j : Nat} (h : i < x ∨ (i = x ∧ j < y)) : Mid S k x y i j ↔ Thru S (k + 1) i j := ⟨fun hm => hm.1 h, fun hm => ⟨fun _ => hm, fun hn => absurd h hn⟩⟩
theorem mid_todo {S : Nat → Nat → Prop} {k x y i j : Nat} (h : ¬ (i < x ∨ (i = x ∧ j < y))) : Mid S k x y i j ↔ Thru S k i j := ⟨fun hm => hm.2 h, fun hm => ⟨fun hn => absurd hn h, fun _ => hm⟩⟩
theorem mid_to {S : Nat → Nat → Prop} {k x y i : Nat} : Mid S k x y i k ↔ Thru S k i k := by
  by_cases h : i < x ∨ (i = x ∧ k < y)
  · rw [mid_done h, thru_to]
  · rw [mid_todo h]
theorem mid_of {S : Nat → Nat → Prop} {k x y j : Nat} : Mid S k x y k j ↔ Thru S k k j := by
  by_cases h : k < x ∨ (k = x ∧ j < y)
  · rw [mid_done h, thru_of]
  · rw [mid_todo h]
theorem mid_next {S : Nat → Nat → Prop} {k x y i j : Nat} : Mid S k x (y + 1) i j ↔ Mid S k x y i j ∨ ((i = x ∧ j = y) ∧ Thru S k x k ∧ Thru S k k y) := by
  by_cases e : i = x ∧ j = y
  · obtain ⟨rfl, rfl⟩ := e
    rw [mid_done (by omega), mid_todo (by omega)]
    simp [Thru]
  · by_cases h : i < x ∨ (i = x ∧ j < y)
    · rw [mid_done h, mid_done (by omega)]; simp [e]
    · rw [mid_todo h, mid_todo (by omega)]; simp [e]
end Go.Proofs.YtncapkloanfmnaaDoorT
