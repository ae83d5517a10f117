/- The law StateTurns: the plain function answers true. -/
import Derived.Test.YtmfihodpbladeaaTPSA
namespace Go.Proofs.YtmfihodpbladeaaT
open Go Go.Proofs Go.Proofs.YtmfihodpbladeaaE
set_option linter.unusedVariables false
set_option linter.unusedSimpArgs false
/-! ### sets as lists that rise -/
theorem asc_ext : ∀ {s t : List Int}, s.Pairwise (· < ·) → t.Pairwise (· < ·) → (∀ x, x ∈ s ↔ x ∈ t) → s = t
  | [], [], _, _, _ => rfl
  | [], y :: t, _, _, h => by have := (h y).2 (by simp); cases this
  | x :: s, [], _, _, h => by have := (h x).1 (by simp); cases this
  | x :: s, y :: t, hs, ht, h => by
    rw [List.pairwise_cons] at hs ht
    have hxy : x = y := by
      have h1 := (h x).1 (by simp)
      have h2 := (h y).2 (by simp)
      rcases List.mem_cons.1 h1 with e | h1
      · exact e
      · rcases List.mem_cons.1 h2 with e | h2
        · exact e.symm
        · have := ht.1 _ h1
          have := hs.1 _ h2
          omega
    subst hxy
    rw [asc_ext hs.2 ht.2 (fun z => ?_)]
    constructor
    · intro hz
      rcases List.mem_cons.1 ((h z).1 (List.mem_cons_of_mem _ hz)) with e | h1
      · have := hs.1 _ hz; omega
      · exact h1
    · intro hz
      rcases List.mem_cons.1 ((h z).2 (List.mem_cons_of_mem _ hz)) with e | h1
      · have := ht.1 _ hz; omega
      · exact h1
theorem asc_len : ∀ {t s : List Int}, s.Pairwise (· < ·) → t.Pairwise (· < ·) → (∀ x, x ∈ s → x ∈ t) → s.length ≤ t.length
  | [], [], _, _, _ => Nat.le_refl _
  | [], x :: s, _, _, h => by have := h x (by simp); cases this
  | y :: t, [], _, _, _ => by simp
  | y :: t, x :: s, hs, ht, h => by
    have hs' := List.pairwise_cons.1 hs
    have ht' := List.pairwise_cons.1 ht
    rcases List.mem_cons.1 (h x (by simp)) with e | h1
    · subst e
      have := asc_len hs'.2 ht'.2 (fun z hz => by
        rcases List.mem_cons.1 (h z (List.mem_cons_of_mem _ hz)) with e | h1
        · have := hs'.1 _ hz; omega
        · exact h1)
      simp only [List.length_cons]
      omega
    · have := asc_len hs ht'.2 (fun z hz => by
        rcases List.mem_cons.1 (h z hz) with e | h2
        · have h3 := ht'.1 _ h1
          rcases List.mem_cons.1 hz with e2 | h4
          · omega
          · have := hs'.1 _ h4; omega
        · exact h2)
      simp only [List.length_cons] at this ⊢
      omega
theorem ins_asc {s : List Int} (a : Int) (h : Asc s) : Asc (ins s a) := by
  cases hh : hit s a
  · rw [ins_new hh]
    have hP := asc_iff.1 h
    have hG := List.pairwise_iff_getElem.1 hP
    have hgt : ∀ x ∈ s.drop (lb s a), a < x := by
      intro x hx
      obtain ⟨j, hj, rfl⟩ := List.getElem_of_mem hx
      have hj' : lb s a + j < s.length := by simp at hj; omega
      rw [List.getElem_drop]
      have h1 := lb_at (s := s) (a := a) (by omega)
      have h2 : idx s (lb s a : Int) ≠ a := by
        intro e
        simp only [hit, e, beq_self_eq_true, Bool.and_true, decide_eq_false_iff_not] at hh
        omega
      rw [idx_get (by omega)] at h1 h2
      rcases Nat.eq_zero_or_pos j with h0 | h0
      · subst h0; simp only [Nat.add_zero]; omega
      · have := hG (lb s a) (lb s a + j) (by omega) hj' (by omega)
        omega
    have hlt : ∀ x ∈ s.take (lb s a), x < a := by
      intro x hx
      obtain ⟨j, hj, rfl⟩ := List.getElem_of_mem hx
      have hj' : j < lb s a := by simp at hj; omega
      have := lb_lt (s := s) (a := a) hj'
      have hl := lb_le s a
      rw [idx_get (by omega)] at this
      rw [List.getElem_take]
      exact this
    refine asc_iff.2 (List.pairwise_append.2 ⟨List.pairwise_append.2 ⟨hP.sublist (List.take_sublist _ _), by simp, ?_⟩, hP.sublist (List.drop_sublist _ _), ?_⟩)
    · intro x hx y hy
      rw [List.mem_singleton] at hy
      subst hy
      exact hlt x hx
    · intro x hx y hy
      have hy := hgt y hy
      rcases List.mem_append.1 hx with hx | hx
      · have := hlt x hx; omega
      · rw [List.mem_singleton] at hx; omega
  · rw [ins_old hh]; exact h
theorem mem_ins {s : List Int} {a x : Int} (h : Asc s) : x ∈ ins s a ↔ x ∈ s ∨ x = a := by
  cases hh : hit s a
  · rw [ins_new hh]
    have : x ∈ s ↔ x ∈ s.take (lb s a) ∨ x ∈ s.drop (lb s a) := by
      rw [← List.mem_append, List.take_append_drop]
    simp only [List.mem_append, List.mem_singleton, this]
    constructor
    · rintro ((h | h) | h)
      · exact .inl (.inl h)
      · exact .inr h
      · exact .inl (.inr h)
    · rintro ((h | h) | h)
      · exact .inl (.inl h)
      · exact .inr h
      · exact .inl (.inr h)
  · rw [ins_old hh]
    have := (hit_mem h).1 hh
    constructor
    · exact .inl
    · rintro (h | rfl)
      · exact h
      · exact this
theorem chk_of {t : Int} {s : List Int} (h : 1 ≤ t ∧ t ≤ 4) (hs : SOk t s = true) : chk t s = 0 := by rw [chk_range h, if_pos hs]
theorem app_ok {t : Int} {s : List Int} {a : Int} (h : (app t s a).2 = 0) : chk t (app t s a).1 = 0 := by
  unfold app at h ⊢
  by_cases hc : chk t s = 0
  · obtain ⟨h1, h2, h3⟩ := chk_ok hc
    rw [if_neg (by simpa using hc)] at h ⊢
    by_cases hl : (next t s a).length > 64
    · rw [if_pos hl] at h; cases h
    · rw [if_neg hl]
      show chk t (next t s a) = 0
      refine chk_of ⟨h1, h2⟩ ?_
      rcases four ⟨h1, h2⟩ with rfl | rfl | rfl | rfl
      · simp [SOk, next]
      · simp only [SOk, next] at hl ⊢
        simp at hl ⊢
        omega
      · have := ins_asc a (ok_asc h3)
        simp only [SOk, next] at hl ⊢
        simp at hl ⊢
        exact ⟨this, hl⟩
      · simp [SOk, next]
  · rw [if_pos hc] at h
    exact absurd h hc
theorem w64zbmod (x : Int) : w64 x = Int.bmod x 18446744073709551616 := by
  unfold w64 IntKind.wrap
  simp only [IntKind.bits, IntKind.signed, Bool.true_and, Int.bmod_def]
  have h1 : (2 ^ 64 : Int) = 18446744073709551616 := by decide
  have h2 := Int.emod_nonneg x (show (18446744073709551616 : Int) ≠ 0 by decide)
  have h3 := Int.emod_lt_of_pos x (show (0 : Int) < 18446744073709551616 by decide)
  simp only [h1]
  by_cases h : x % 18446744073709551616 < 9223372036854775808
  · rw [if_neg (by simp; omega), if_pos (by simp; omega)]
    rfl
  · rw [if_pos (by simp; omega), if_neg (by simp; omega)]
    rfl
theorem w64zsub (x y : Int) : w64 (w64 x - y) = w64 (x - y) := by rw [w64zbmod, w64zbmod, w64zbmod, Int.bmod_sub_bmod]
theorem w64zadd (x y : Int) : w64 (w64 x + y) = w64 (x + y) := by rw [w64zbmod, w64zbmod, w64zbmod, Int.bmod_add_bmod]
theorem foldl_sub : ∀ (args : List Int) (v : Int), args.foldl (fun v a => w64 (v - a)) (w64 v) = w64 (v - args.sum)
  | [], v => by simp
  | a :: l, v => by rw [List.foldl_cons, w64zsub, foldl_sub l, List.sum_cons]; congr 1; omega
theorem foldl_add : ∀ (args : List Int) (v : Int), args.foldl (fun v a => w64 (v + a)) (w64 v) = w64 (v + args.sum)
  | [], v => by simp
  | a :: l, v => by rw [List.foldl_cons, w64zadd, foldl_add l, List.sum_cons]; congr 1; omega
theorem sum_take {args : List Int} {k : Nat} (h : k < args.length) : (args.take (k + 1)).sum = (args.take k).sum + idx args (k : Int) := by
  rw [take_next h, List.sum_append, List.sum_cons, List.sum_nil]; omega

/-- behind the first writes, on what stood ahead of them -/
def mids (t : Int) (s args : List Int) (k : Nat) : List Int → Prop := fun l =>
  if t = 2 then l = s.take (s.length - args.length + k) else if t = 3 then Asc l ∧ ∀ x, x ∈ l ↔ (x ∈ s ∧ x ∉ args) ∨ x ∈ args.take k else l = [w64 (idx s 0 - args.sum + (args.take k).sum)]
theorem before_chk {t : Int} {s args : List Int} (h : (before t s args).2 = true) : chk t s = 0 ∧ args ≠ [] := by
  unfold before at h
  split at h
  · cases h
  · rename_i hn
    exact ⟨Decidable.not_not.1 (fun h => hn (.inl h)), fun h => hn (.inr h)⟩
theorem before_mid {t : Int} {s args : List Int} (h : (before t s args).2 = true) (h1 : t ≠ 1) (hw : ∀ y ∈ s, -(2 ^ 63) ≤ y ∧ y < 2 ^ 63) :
    (t = 2 → args.length ≤ s.length ∧ s.drop (s.length - args.length) = args) ∧ (t = 3 → Fit s args) ∧ mids t s args 0 (before t s args).1 := by
  obtain ⟨hc, h0⟩ := before_chk h
  obtain ⟨h2, h3, h4⟩ := chk_ok hc
  unfold before at h ⊢
  have hn : ¬ (chk t s ≠ 0 ∨ args = []) := by simp [hc, h0]
  rw [if_neg hn] at h ⊢
  rcases four ⟨h2, h3⟩ with rfl | rfl | rfl | rfl
  · exact absurd rfl h1
  · simp at h ⊢
    by_cases hq : args.length ≤ s.length ∧ s.drop (s.length - args.length) = args
    · rw [if_pos hq]; simp [mids, hq]
    · rw [if_neg hq] at h; cases h
  · simp at h ⊢
    by_cases hq : Fit s args
    · rw [if_pos hq]
      refine ⟨hq, ?_⟩
      simp only [mids, show ¬ (3 : Int) = 2 by decide, if_false, if_true]
      refine ⟨asc_filter _ (ok_asc h4), fun x => ?_⟩
      rw [List.mem_filter]
      simp
    · rw [if_neg hq] at h; cases h
  · simp
    have hl := ok_one h4
    have hy := hw (idx s (0 : Nat)) (by rw [idx_get (by omega)]; exact List.getElem_mem _)
    have e := foldl_sub args (idx s 0)
    have e0 : w64 (idx s 0) = idx s 0 := w64zid (by simpa using hy.1) (by simpa using hy.2)
    rw [e0] at e
    simp only [mids, show ¬ (4 : Int) = 2 by decide, show ¬ (4 : Int) = 3 by decide, if_false, e]
    simp
theorem mid_chk {t : Int} {s args l : List Int} {k : Nat} (hk : k ≤ args.length) (hc : chk t s = 0) (h1 : t ≠ 1) (hF : t = 3 → Fit s args) (hm : mids t s args k l) : chk t l = 0 ∧ l.length ≤ 64 := by
  obtain ⟨h2, h3, h4⟩ := chk_ok hc
  have hl := ok_len h4
  unfold mids at hm
  rcases four ⟨h2, h3⟩ with rfl | rfl | rfl | rfl
  · exact absurd rfl h1
  · simp at hm
    have : l.length ≤ 64 := by rw [hm]; simp; omega
    exact ⟨chk_of (by decide) (by simp [SOk, this]), this⟩
  · simp at hm
    have hlen : l.length ≤ s.length := by
      refine asc_len (asc_iff.1 hm.1) (asc_iff.1 (ok_asc h4)) (fun x hx => ?_)
      rcases (hm.2 x).1 hx with h | h
      · exact h.1
      · obtain ⟨j, hj, rfl⟩ := List.getElem_of_mem h
        have hj' : j < args.length := by simp at hj; omega
        have := (hF rfl j hj').1
        rw [idx_get hj'] at this
        rw [List.getElem_take]
        exact this
    exact ⟨chk_of (by decide) (by simp [SOk, hm.1]; omega), by omega⟩
  · simp at hm
    subst hm
    exact ⟨chk_of (by decide) (by simp [SOk]), by simp⟩
theorem mid_next {t : Int} {s args l : List Int} {k : Nat} (hk : k < args.length) (hc : chk t s = 0) (h1 : t ≠ 1) (h2 : t = 2 → args.length ≤ s.length ∧ s.drop (s.length - args.length) = args) (hF : t = 3 → Fit s args) (hm : mids t s args k l) :
    (app t l (idx args (k : Int))).2 = 0 ∧ mids t s args (k + 1) (app t l (idx args (k : Int))).1 := by
  have hcl := mid_chk (by omega) hc h1 hF hm
  obtain ⟨g2, g3, g4⟩ := chk_ok hc
  have hN : mids t s args (k + 1) (next t l (idx args (k : Int))) := by
    unfold mids at hm ⊢
    rcases four ⟨g2, g3⟩ with rfl | rfl | rfl | rfl
    · exact absurd rfl h1
    · obtain ⟨q1, q2⟩ := h2 rfl
      simp at hm
      simp [next]
      have hi : s.length - args.length + k < s.length := by omega
      have : idx args (k : Int) = s[s.length - args.length + k] := by
        have h3 : (s.drop (s.length - args.length))[k]? = args[k]? := by rw [q2]
        rw [List.getElem?_drop, List.getElem?_eq_getElem hi, List.getElem?_eq_getElem hk] at h3
        rw [idx_get hk]
        exact (Option.some.inj h3).symm
      rw [hm, this, show s.length - args.length + (k + 1) = s.length - args.length + k + 1 by omega, List.take_add_one, List.getElem?_eq_getElem hi]
      rfl
    · simp at hm
      simp [next]
      refine ⟨ins_asc _ hm.1, fun x => ?_⟩
      rw [mem_ins hm.1, hm.2 x, take_next hk, List.mem_append, List.mem_singleton, or_assoc]
    · simp at hm
      simp [next]
      subst hm
      have : idx [w64 (idx s 0 - args.sum + (args.take k).sum)] 0 = w64 (idx s 0 - args.sum + (args.take k).sum) := rfl
      rw [this, w64zadd, sum_take hk]
      congr 1
      omega
  have hl := (mid_chk (by omega) hc h1 hF hN).2
  unfold app
  rw [if_neg (by simpa using hcl.1), if_neg (by omega)]
  exact ⟨rfl, hN⟩
theorem mid_end {t : Int} {s args l : List Int} (hc : chk t s = 0) (h1 : t ≠ 1) (h2 : t = 2 → args.length ≤ s.length ∧ s.drop (s.length - args.length) = args) (hF : t = 3 → Fit s args) (hw : ∀ y ∈ s, -(2 ^ 63) ≤ y ∧ y < 2 ^ 63) (hm : mids t s args args.length l) : l = s := by
  obtain ⟨g2, g3, g4⟩ := chk_ok hc
  unfold mids at hm
  rcases four ⟨g2, g3⟩ with rfl | rfl | rfl | rfl
  · exact absurd rfl h1
  · obtain ⟨q1, q2⟩ := h2 rfl
    simp at hm
    rw [hm, List.take_of_length_le (by omega)]
  · simp at hm
    refine asc_ext (asc_iff.1 hm.1) (asc_iff.1 (ok_asc g4)) (fun x => ?_)
    rw [hm.2 x]
    constructor
    · rintro (h | h)
      · exact h.1
      · obtain ⟨j, hj, rfl⟩ := List.getElem_of_mem h
        have := (hF rfl j hj).1
        rwa [idx_get hj] at this
    · intro h
      by_cases hx : x ∈ args
      · exact .inr hx
      · exact .inl ⟨h, hx⟩
  · simp at hm
    have hl := ok_one g4
    have hy := hw (idx s (0 : Nat)) (by rw [idx_get (by omega)]; exact List.getElem_mem _)
    have e0 : w64 (idx s 0) = idx s 0 := w64zid (by simpa using hy.1) (by simpa using hy.2)
    obtain ⟨v, rfl⟩ := List.length_eq_one_iff.1 hl
    have : idx [v] 0 = v := rfl
    rw [this] at hm e0
    rw [hm, e0]
theorem wf_range {y : Int} (h : (Lit.int .i64 y).wf = true) : -(2 ^ 63) ≤ y ∧ y < 2 ^ 63 := by
  simp only [Lit.wf, Bool.and_eq_true, decide_eq_true_eq] at h
  have h1 : IntKind.min .i64 = -(2 ^ 63) := by decide
  have h2 : IntKind.max .i64 = 2 ^ 63 - 1 := by decide
  rw [h1, h2] at h
  omega
end Go.Proofs.YtmfihodpbladeaaT
