/- States: what stood ahead of some writes. -/
import Derived.Test.YtnlkggppokcmfaaTPS
namespace Go.Proofs.YtnlkggppokcmfaaT
open Go Go.Proofs Go.Proofs.YtnlkggppokcmfaaE
set_option linter.unusedVariables false
set_option linter.unusedSimpArgs false
theorem in_told {s : List Int} (a : Int) (hs : s.length < 2 ^ 62) : assizeref08zin s a = some (decide (a ∈ s)) := by
  unfold assizeref08zin
  refine tri_eq.1 ?_
  refine tri_up s.length (fun k => ∀ j : Nat, j < k → idx s (j : Int) ≠ a) (fun j h => by omega) (fun k hk hJ => ?_)
  unfold assizeref08zin.s1
  refine tri_bif (fun h => ?_) (fun h => ?_)
  · have h : (k : Int) < s.length := of_decide_eq_true h
    have hks : k < s.length := by omega
    refine tri_must (by omega) (tri_bif (fun h2 => ?_) (fun h2 => ?_))
    · have h2 : idx s (k : Int) = a := by simpa using h2
      refine tri_out (tri_some ?_)
      show true = _
      have : a ∈ s := by rw [← h2, idx_get hks]; exact List.getElem_mem _
      simp [this]
    · have h2 : idx s (k : Int) ≠ a := by simpa using h2
      refine ⟨_, rfl, w64zsucc (by omega), by omega, fun j hj => ?_⟩
      rcases Nat.lt_or_ge j k with h3 | h3
      · exact hJ j h3
      · have : j = k := by omega
        subst this
        exact h2
  · have h : ¬ (k : Int) < s.length := of_decide_eq_false h
    refine tri_out (tri_some ?_)
    show false = _
    have : a ∉ s := by
      intro hm
      obtain ⟨j, hj, e⟩ := List.getElem_of_mem hm
      exact hJ j (by omega) (by rw [idx_get hj, e])
    simp [this]
theorem equal_told {a b : List Int} (ha : a.length < 2 ^ 62) : slices_Equal_int64 a b = some (decide (a = b)) := by
  rw [← same_vals ha]
  rfl
def Fit (s args : List Int) : Prop := ∀ k : Nat, k < args.length → idx args (k : Int) ∈ s ∧ idx args (k : Int) ∉ args.take k
instance (s args : List Int) : Decidable (Fit s args) := by unfold Fit; infer_instance
def before (t : Int) (s args : List Int) : List Int × Bool :=
  if chk t s ≠ 0 ∨ args = [] then ([], false)
  else if t = 1 then ([], decide (s.length = 1 ∧ idx s 0 = idx args ((args.length - 1 : Nat) : Int)))
  else if t = 2 then (if args.length ≤ s.length ∧ s.drop (s.length - args.length) = args then (s.take (s.length - args.length), true) else ([], false))
  else if t = 3 then (if Fit s args then (s.filter (fun x => decide (x ∉ args)), true) else ([], false))
  else ([args.foldl (fun v a => w64 (v - a)) (idx s 0)], true)
theorem counter_loop {s args : List Int} (hs : args.length < 2 ^ 62) (v : Int) : iter (state_counter_without.s1 args) (v, 0) = some ([args.foldl (fun v a => w64 (v - a)) v], true) := by
  refine tri_eq.1 ?_
  refine tri_up2 args.length (fun k x => x = (args.take k).foldl (fun v a => w64 (v - a)) v) rfl (fun k x hk hJ => ?_)
  subst hJ
  unfold state_counter_without.s1
  refine tri_bif (fun h => ?_) (fun h => ?_)
  · have h : (k : Int) < args.length := of_decide_eq_true h
    have hks : k < args.length := by omega
    refine tri_must (by omega) ⟨_, rfl, w64zsucc (by omega), hks, ?_⟩
    show _ = List.foldl _ _ _
    rw [List.take_add_one, List.getElem?_eq_getElem hks, List.foldl_append, idx_get hks]
    rfl
  · have h : ¬ (k : Int) < args.length := of_decide_eq_false h
    refine tri_out (tri_some ?_)
    show ([_], true) = _
    rw [List.take_of_length_le (by omega)]
theorem list_loop {s args : List Int} (hs : s.length < 2 ^ 43) (hm : args.length ≤ s.length) : iter (assizeref08zBefore.s3 s args) 0 = some (if s.drop (s.length - args.length) = args then (s.take (s.length - args.length), true) else ([], false)) := by
  have e1 : w64 ((s.length : Int) - (args.length : Int)) = ((s.length - args.length : Nat) : Int) := by rw [w64zid (by omega) (by omega)]; omega
  refine tri_eq.1 ?_
  refine tri_up args.length (fun k => ∀ j : Nat, j < k → idx s ((s.length - args.length + j : Nat) : Int) = idx args (j : Int)) (fun j h => by omega) (fun k hk hJ => ?_)
  unfold assizeref08zBefore.s3
  refine tri_bif (fun h => ?_) (fun h => ?_)
  · have h : (k : Int) < args.length := of_decide_eq_true h
    have hks : k < args.length := by omega
    have e2 : w64 (w64 ((s.length : Int) - (args.length : Int)) + (k : Int)) = ((s.length - args.length + k : Nat) : Int) := by rw [e1, w64zid (by omega) (by omega)]; omega
    rw [e2]
    refine tri_must (by omega) (tri_must (by omega) (tri_bif (fun h2 => ?_) (fun h2 => ?_)))
    · have h2 : idx s ((s.length - args.length + k : Nat) : Int) ≠ idx args (k : Int) := by simpa using h2
      refine tri_out (tri_some ?_)
      show ([], false) = _
      have : ¬ s.drop (s.length - args.length) = args := by
        intro e
        apply h2
        have h3 : (s.drop (s.length - args.length))[k]? = args[k]? := by rw [e]
        rw [List.getElem?_drop, List.getElem?_eq_getElem (by omega), List.getElem?_eq_getElem hks] at h3
        rw [idx_get (by omega), idx_get hks]
        exact Option.some.inj h3
      rw [if_neg this]
    · have h2 : idx s ((s.length - args.length + k : Nat) : Int) = idx args (k : Int) := by simpa using h2
      refine ⟨_, rfl, w64zsucc (by omega), by omega, fun j hj => ?_⟩
      rcases Nat.lt_or_ge j k with h3 | h3
      · exact hJ j h3
      · have : j = k := by omega
        subst this
        exact h2
  · have h : ¬ (k : Int) < args.length := of_decide_eq_false h
    have hd : s.drop (s.length - args.length) = args := by
      refine List.ext_getElem (by simp; omega) (fun j h1 h2 => ?_)
      have := hJ j (by omega)
      rw [idx_get (by omega), idx_get h2] at this
      rw [List.getElem_drop]
      exact this
    rw [e1]
    have hsl : subl s (0 : Int) ((s.length - args.length : Nat) : Int) = s.take (s.length - args.length) := by simp [subl]
    rw [hsl]
    refine tri_must (by omega) (tri_must ⟨by simp; omega, by simp; omega⟩ (tri_out (tri_some ?_)))
    show ([] ++ s.take _, true) = _
    rw [if_pos hd, List.nil_append]
theorem list_without_told {s args : List Int} (hs : s.length < 2 ^ 43) (ha : args.length < 2 ^ 62) : state_list_without () s args = some (if args.length ≤ s.length ∧ s.drop (s.length - args.length) = args then (s.take (s.length - args.length), true) else ([], false)) := by
  unfold state_list_without
  by_cases hm : args.length ≤ s.length
  · have e1 : w64 ((s.length : Int) - (args.length : Int)) = ((s.length - args.length : Nat) : Int) := by rw [w64zid (by omega) (by omega)]; omega
    have hlt : decide (w64 ((s.length : Int) - (args.length : Int)) < 0) = false := decide_eq_false (by rw [e1]; omega)
    rw [hlt, cond_false, must_pos _ (by rw [e1]; omega), e1]
    have hsl : subl s ((s.length - args.length : Nat) : Int) (s.length : Int) = s.drop (s.length - args.length) := by simp [subl]
    have hsl2 : subl s (0 : Int) ((s.length - args.length : Nat) : Int) = s.take (s.length - args.length) := by simp [subl]
    rw [hsl, equal_told (by simp; omega)]
    simp only [Option.bind_some]
    unfold state_list_without.j1
    rw [e1, hsl2, must_pos _ (by omega)]
    have hc : slices_Clone_int64 (s.take (s.length - args.length)) = some (s.take (s.length - args.length)) := must_pos _ (by simp; omega)
    rw [hc]
    by_cases he : s.drop (s.length - args.length) = args
    · simp [he, hm]
    · simp [he]
  · have hlt : decide (w64 ((s.length : Int) - (args.length : Int)) < 0) = true := decide_eq_true (by rw [w64zid (by omega) (by omega)]; omega)
    rw [hlt, cond_true, state_list_without.j1, cond_true, if_neg (fun h => hm h.1)]
theorem asc_filter {s : List Int} (p : Int → Bool) (h : Asc s) : Asc (s.filter p) := asc_iff.2 ((asc_iff.1 h).filter p)
theorem take_next {args : List Int} {k : Nat} (h : k < args.length) : args.take (k + 1) = args.take k ++ [idx args (k : Int)] := by
  rw [List.take_add_one, List.getElem?_eq_getElem h, idx_get h]; rfl
theorem filter_next {s args : List Int} {k : Nat} (h : k < args.length) : s.filter (fun x => decide (x ∉ args.take (k + 1))) = (s.filter (fun x => decide (x ∉ args.take k))).filter (fun x => decide (x ≠ idx args (k : Int))) := by
  rw [List.filter_filter]
  apply List.filter_congr
  intro x _
  rw [take_next h]
  simp only [List.mem_append, List.mem_singleton, not_or]
  rw [Bool.eq_iff_iff]
  simp only [decide_eq_true_eq, Bool.and_eq_true]
  exact ⟨fun h => ⟨h.2, h.1⟩, fun h => ⟨h.2, h.1⟩⟩
theorem del_filter {l : List Int} {a : Int} (hA : Asc l) (h : hit l a = true) : l.take (lb l a) ++ l.drop (lb l a + 1) = l.filter (fun x => decide (x ≠ a)) := by
  have hP := List.pairwise_iff_getElem.1 (asc_iff.1 hA)
  simp only [hit, Bool.and_eq_true, decide_eq_true_eq, beq_iff_eq] at h
  obtain ⟨h1, h2⟩ := h
  rw [idx_get h1] at h2
  generalize lb l a = i at h1 h2
  conv => rhs; rw [← List.take_append_drop i l, List.drop_eq_getElem_cons h1, List.filter_append, List.filter_cons, h2]
  rw [if_neg (by simp)]
  congr 1
  · symm
    rw [List.filter_eq_self]
    intro x hx
    obtain ⟨j, hj, rfl⟩ := List.getElem_of_mem hx
    have hj' : j < i := by simp at hj; omega
    have := hP j i (by omega) h1 hj'
    rw [List.getElem_take, decide_eq_true_eq]
    omega
  · symm
    rw [List.filter_eq_self]
    intro x hx
    obtain ⟨j, hj, rfl⟩ := List.getElem_of_mem hx
    have hj' : i + 1 + j < l.length := by simp at hj; omega
    have := hP i (i + 1 + j) h1 hj' (by omega)
    rw [List.getElem_drop, decide_eq_true_eq]
    omega
theorem set_without_told {s args : List Int} (hA : Asc s) (hs : s.length < 2 ^ 43) (ha : args.length < 2 ^ 62) : state_set_without () s args = some (if Fit s args then (s.filter (fun x => decide (x ∉ args)), true) else ([], false)) := by
  unfold state_set_without
  have hc : slices_Clone_int64 s = some s := must_pos _ (by omega)
  rw [hc]
  refine tri_eq.1 ?_
  show Tri (iter (state_set_without.s1 args) (s, 0)) _
  refine tri_up2 args.length (fun k l => l = s.filter (fun x => decide (x ∉ args.take k)) ∧ ∀ j : Nat, j < k → idx args (j : Int) ∈ s ∧ idx args (j : Int) ∉ args.take j) ⟨by simp; exact (List.filter_eq_self.2 (fun _ _ => rfl)).symm, fun j h => by omega⟩ (fun k l hk hJ => ?_)
  obtain ⟨hl, hJ⟩ := hJ
  have hAl : Asc l := by rw [hl]; exact asc_filter _ hA
  have hll : l.length ≤ s.length := by rw [hl]; exact List.length_filter_le _ _
  unfold state_set_without.s1
  refine tri_bif (fun h => ?_) (fun h => ?_)
  · have h : (k : Int) < args.length := of_decide_eq_true h
    have hks : k < args.length := by omega
    refine tri_must (by omega) ?_
    rw [search_told _ hAl (by omega)]
    have hm := hit_mem (s := l) (a := idx args (k : Int)) hAl
    show Tri (bif !hit l (idx args (k : Int)) then _ else _) _
    cases hh : hit l (idx args (k : Int))
    · simp only [Bool.not_false, cond_true]
      refine tri_out (tri_some ?_)
      show ([], false) = _
      have hn : ¬ Fit s args := by
        intro hF
        have h1 := hF k hks
        have : idx args (k : Int) ∈ l := by rw [hl, List.mem_filter]; exact ⟨h1.1, by simpa using h1.2⟩
        rw [hm.2 this] at hh
        cases hh
      rw [if_neg hn]
    · simp only [Bool.not_true, cond_false]
      have hi := lb_le l (idx args (k : Int))
      have hlt : lb l (idx args (k : Int)) < l.length := by
        simp only [hit, Bool.and_eq_true, decide_eq_true_eq] at hh
        exact hh.1
      have hd : slices_Delete_int64 l (lb l (idx args (k : Int)) : Int) (w64 ((lb l (idx args (k : Int)) : Int) + 1)) = some (l.filter (fun x => decide (x ≠ idx args (k : Int)))) := by
        unfold slices_Delete_int64
        rw [w64zsucc (by omega), must_pos _ ⟨by omega, by omega, by omega⟩, Int.toNat_natCast, Int.toNat_natCast, del_filter hAl hh]
      rw [hd]
      refine ⟨_, rfl, w64zsucc (by omega), hks, ?_, fun j hj => ?_⟩
      · rw [filter_next hks, ← hl]
      · rcases Nat.lt_or_ge j k with h3 | h3
        · exact hJ j h3
        · have : j = k := by omega
          subst this
          have hmem := hm.1 hh
          rw [hl, List.mem_filter] at hmem
          exact ⟨hmem.1, by simpa using hmem.2⟩
  · have h : ¬ (k : Int) < args.length := of_decide_eq_false h
    have hF : Fit s args := fun j hj => hJ j (by omega)
    refine tri_out (tri_some ?_)
    show (l, true) = _
    rw [if_pos hF, hl, List.take_of_length_le (by omega)]
theorem ref_filter_loop {s args : List Int} (hs : s.length < 2 ^ 43) (ha : args.length < 2 ^ 62) : iter (assizeref08zBefore.s6 s args) ([], 0) = some (.inr (s.filter (fun x => decide (x ∉ args)), true)) := by
  refine tri_eq.1 ?_
  refine tri_up2 s.length (fun k l => l = (s.take k).filter (fun x => decide (x ∉ args))) (by simp) (fun k l hk hJ => ?_)
  have hll : l.length ≤ k := by rw [hJ]; exact Nat.le_trans (List.length_filter_le _ _) (by simp; omega)
  unfold assizeref08zBefore.s6
  refine tri_bif (fun h => ?_) (fun h => ?_)
  · have h : (k : Int) < s.length := of_decide_eq_true h
    have hks : k < s.length := by omega
    refine tri_must (by omega) ?_
    rw [in_told _ ha]
    show Tri (bif !decide _ then _ else _) _
    have hn : (s.take (k + 1)).filter (fun x => decide (x ∉ args)) = l ++ (if idx s (k : Int) ∈ args then [] else [idx s (k : Int)]) := by
      rw [take_next hks, List.filter_append, ← hJ]
      congr 1
      by_cases hm : idx s (k : Int) ∈ args <;> simp [hm]
    by_cases hm : idx s (k : Int) ∈ args
    · simp only [hm, decide_true, Bool.not_true, cond_false]
      refine ⟨_, rfl, w64zsucc (by omega), hks, ?_⟩
      show l = _
      rw [hn, if_pos hm, List.append_nil]
    · simp only [hm, decide_false, Bool.not_false, cond_true]
      refine tri_must ⟨by omega, by omega⟩ ⟨_, rfl, w64zsucc (by omega), hks, ?_⟩
      show l ++ [idx s (k : Int)] = _
      rw [hn, if_neg hm]
  · have h : ¬ (k : Int) < s.length := of_decide_eq_false h
    refine tri_out (tri_out (tri_some ?_))
    show Sum.inr (l, true) = _
    rw [hJ, List.take_of_length_le (by omega)]
theorem ref_set_told {s args : List Int} (hs : s.length < 2 ^ 43) (ha : args.length < 2 ^ 62) : iter (assizeref08zBefore.s4 s args) 0 = some (if Fit s args then (s.filter (fun x => decide (x ∉ args)), true) else ([], false)) := by
  refine tri_eq.1 ?_
  refine tri_up args.length (fun k => ∀ j : Nat, j < k → idx args (j : Int) ∈ s ∧ idx args (j : Int) ∉ args.take j) (fun j h => by omega) (fun k hk hJ => ?_)
  unfold assizeref08zBefore.s4
  refine tri_bif (fun h => ?_) (fun h => ?_)
  · have h : (k : Int) < args.length := of_decide_eq_true h
    have hks : k < args.length := by omega
    refine tri_must (by omega) ?_
    rw [in_told _ (by omega)]
    have hfail : ¬ (idx args (k : Int) ∈ s ∧ idx args (k : Int) ∉ args.take k) → Tri (assizeref08zBefore.j5 (k : Int) true) (Up args.length k (fun k => ∀ j : Nat, j < k → idx args (j : Int) ∈ s ∧ idx args (j : Int) ∉ args.take j) (fun r => r = (if Fit s args then (s.filter (fun x => decide (x ∉ args)), true) else ([], false)))) := by
      intro hn
      refine tri_out (tri_some ?_)
      show ([], false) = _
      rw [if_neg (fun hF => hn (hF k hks))]
    have hsl : subl args (0 : Int) (k : Int) = args.take k := by simp [subl]
    show Tri (bif !decide _ then _ else _) _
    by_cases hm : idx args (k : Int) ∈ s
    · simp only [hm, decide_true, Bool.not_true, cond_false]
      refine tri_must (by omega) ?_
      rw [hsl, in_told _ (by simp; omega)]
      show Tri (assizeref08zBefore.j5 (k : Int) (decide _)) _
      by_cases hm2 : idx args (k : Int) ∈ args.take k
      · simp only [hm2, decide_true]
        exact hfail (fun h => h.2 hm2)
      · simp only [hm2, decide_false]
        refine ⟨_, rfl, w64zsucc (by omega), hks, fun j hj => ?_⟩
        rcases Nat.lt_or_ge j k with h3 | h3
        · exact hJ j h3
        · have : j = k := by omega
          subst this
          exact ⟨hm, hm2⟩
    · simp only [hm, decide_false, Bool.not_false, cond_true]
      exact hfail (fun h => hm h.1)
  · have h : ¬ (k : Int) < args.length := of_decide_eq_false h
    have hF : Fit s args := fun j hj => hJ j (by omega)
    rw [ref_filter_loop hs ha]
    rw [if_pos hF]
    exact ⟨_, rfl, rfl⟩
theorem reg_told {s args : List Int} (ha : args.length < 2 ^ 62) (h0 : args ≠ []) : state_register_without () s args = some ([], decide (s.length = 1 ∧ idx s 0 = idx args ((args.length - 1 : Nat) : Int))) := by
  unfold state_register_without
  have hp : 0 < args.length := List.length_pos_iff.2 h0
  have e1 : w64 ((args.length : Int) - 1) = ((args.length - 1 : Nat) : Int) := w64zpred ha hp
  rw [e1]
  by_cases h1 : s.length = 1
  · have h2 : ((s.length : Int) == 1) = true := by rw [beq_iff_eq]; omega
    rw [h2, cond_true, must_pos _ (by omega), must_pos _ (by omega)]
    simp [h1]
    rw [Bool.eq_iff_iff]; simp
  · have h2 : ((s.length : Int) == 1) = false := by rw [beq_eq_false_iff_ne]; omega
    rw [h2, cond_false]
    simp [h1]
theorem state_Before_told (t : Int) {s args : List Int} (hs : s.length < 2 ^ 62) (ha : args.length < 2 ^ 62) : state_Before t s args = some (before t s args) := by
  unfold state_Before before
  rw [state_Check_told t hs]
  by_cases hc : chk t s = 0
  · obtain ⟨h1, h2, h3⟩ := chk_ok hc
    have hl := ok_len h3
    simp only [hc, Option.bind_some, bne_self_eq_false, cond_false, ne_eq, not_true, false_or]
    by_cases h0 : args = []
    · subst h0
      simp [state_Before.j1]
    · have hp : ((args.length : Int) == 0) = false := by
        have : 0 < args.length := List.length_pos_iff.2 h0
        rw [beq_eq_false_iff_ne]; omega
      rw [hp, if_neg h0]
      unfold state_Before.j1
      rcases four ⟨h1, h2⟩ with rfl | rfl | rfl | rfl
      · simp [state_of, reg_told ha h0]
      · simp [state_of, list_without_told (s := s) (by omega) ha]
      · simp [state_of, set_without_told (ok_asc h3) (by omega) ha]
      · have := ok_one h3
        simp [state_of, state_counter_without]
        rw [must_pos _ (by omega), counter_loop (s := s) ha]
        simp
  · have : (chk t s != 0) = true := by simpa using hc
    simp [hc, this, state_Before.j1]
theorem ref_Before_told (t : Int) {s args : List Int} (hs : s.length < 2 ^ 62) (ha : args.length < 2 ^ 62) : assizeref08zBefore t s args = some (before t s args) := by
  unfold assizeref08zBefore before
  rw [ref_Check_told t hs]
  by_cases hc : chk t s = 0
  · obtain ⟨h1, h2, h3⟩ := chk_ok hc
    have hl := ok_len h3
    simp only [hc, Option.bind_some, bne_self_eq_false, cond_false, ne_eq, not_true, false_or]
    by_cases h0 : args = []
    · subst h0
      simp [assizeref08zBefore.j1]
    · have hp : ((args.length : Int) == 0) = false := by
        have : 0 < args.length := List.length_pos_iff.2 h0
        rw [beq_eq_false_iff_ne]; omega
      rw [hp, if_neg h0]
      unfold assizeref08zBefore.j1
      rcases four ⟨h1, h2⟩ with rfl | rfl | rfl | rfl
      · simp only [cond_false, show ((1 : Int) == 1) = true from rfl, cond_true, if_true]
        exact reg_told ha h0
      · by_cases hm : args.length ≤ s.length
        · have : ¬ (args.length : Int) > s.length := by omega
          simp [this, list_loop (s := s) (by omega) hm, hm]
        · have : (args.length : Int) > s.length := by omega
          simp [this, hm]
      · simp [ref_set_told (s := s) (by omega) ha]
      · have := ok_one h3
        simp
        rw [must_pos _ (by omega)]
        exact counter_loop (s := s) ha _
  · have : (chk t s != 0) = true := by simpa using hc
    simp [hc, this, assizeref08zBefore.j1]
theorem before_small (t : Int) (s args : List Int) : (before t s args).1.length ≤ s.length + 1 := by
  unfold before
  split
  · simp
  · split
    · simp
    · split
      · split <;> simp <;> omega
      · split
        · split
          · exact Nat.le_trans (List.length_filter_le _ _) (by omega)
          · simp
        · simp
end Go.Proofs.YtnlkggppokcmfaaT
