/- The law StateOrders: the plain function answers true. -/
import Derived.Test.YtmfihodpbladeaaTPST
namespace Go.Proofs.YtmfihodpbladeaaT
open Go Go.Proofs Go.Proofs.YtmfihodpbladeaaE
set_option linter.unusedVariables false
set_option linter.unusedSimpArgs false
theorem fold_snoc (t : Int) (args : List Int) (a : Int) : fold t (args ++ [a]) = step t (fold t args) a := by simp [fold]
theorem snoc_ind {P : List Int → Prop} (h0 : P []) (h1 : ∀ l a, P l → P (l ++ [a])) : ∀ l, P l := by
  intro l
  have : ∀ n (l : List Int), l.length = n → P l := by
    intro n
    induction n with
    | zero => intro l hl; rw [List.eq_nil_of_length_eq_zero hl]; exact h0
    | succ n ih =>
      intro l hl
      have hne : l ≠ [] := by intro e; rw [e] at hl; cases hl
      rw [← List.dropLast_concat_getLast hne]
      exact h1 _ _ (ih _ (by simp; omega))
  exact this _ l rfl
theorem fold_one : ∀ args : List Int, (fold 1 args).2 = 0 ∧ (fold 1 args).1 = (if args = [] then [] else [idx args ((args.length - 1 : Nat) : Int)]) := by
  refine snoc_ind ⟨rfl, rfl⟩ (fun l a ih => ?_)
  have h1 : (fold 1 l).1.length ≤ 1 := by rw [ih.2]; split <;> simp
  have hc : chk 1 (fold 1 l).1 = 0 := chk_of (by decide) (by simp [SOk, h1])
  rw [fold_snoc, step, if_pos ih.1]
  have : app 1 (fold 1 l).1 a = ([a], 0) := by simp [app, hc, next]
  rw [this]
  refine ⟨rfl, ?_⟩
  rw [if_neg (by simp)]
  have := idx_last l a
  simp only [List.length_append, List.length_singleton, Nat.add_sub_cancel]
  rw [this]
theorem fold_two : ∀ args : List Int, fold 2 args = if args.length ≤ 64 then (args, 0) else ([], 2) := by
  refine snoc_ind rfl (fun l a ih => ?_)
  rw [fold_snoc, step, ih]
  by_cases h : l.length ≤ 64
  · have hc : chk 2 l = 0 := chk_of (by decide) (by simp [SOk, h])
    simp only [h, if_true, app, hc, next]
    by_cases h2 : l.length + 1 ≤ 64
    · simp [h2, show ¬ l.length + 1 > 64 by omega]
    · simp [h2, show l.length + 1 > 64 by omega]
  · simp [h, show ¬ l.length + 1 ≤ 64 by omega]
def sets (args : List Int) : List Int := args.foldl ins []
theorem sets_asc : ∀ args : List Int, Asc (sets args) ∧ ∀ x, x ∈ sets args ↔ x ∈ args := by
  refine snoc_ind ⟨asc_nil, fun x => Iff.rfl⟩ (fun l a ih => ?_)
  have e : sets (l ++ [a]) = ins (sets l) a := by simp [sets]
  rw [e]
  refine ⟨ins_asc a ih.1, fun x => ?_⟩
  rw [mem_ins ih.1, ih.2 x, List.mem_append, List.mem_singleton]
theorem sets_more (args : List Int) (a : Int) : (sets args).length ≤ (sets (args ++ [a])).length :=
  asc_len (asc_iff.1 (sets_asc _).1) (asc_iff.1 (sets_asc _).1) (fun x hx => by rw [(sets_asc _).2] at hx ⊢; exact List.mem_append_left _ hx)
theorem fold_three : ∀ args : List Int, fold 3 args = if (sets args).length ≤ 64 then (sets args, 0) else ([], 2) := by
  refine snoc_ind rfl (fun l a ih => ?_)
  have hm := sets_more l a
  have e : sets (l ++ [a]) = ins (sets l) a := by simp [sets]
  rw [fold_snoc, step, ih]
  by_cases h : (sets l).length ≤ 64
  · have hc : chk 3 (sets l) = 0 := chk_of (by decide) (by simp [SOk, h, (sets_asc l).1])
    simp only [h, if_true, app, hc, next, ← e]
    by_cases h2 : (sets (l ++ [a])).length ≤ 64
    · simp [h2, show ¬ (sets (l ++ [a])).length > 64 by omega]
    · simp [h2, show (sets (l ++ [a])).length > 64 by omega]
  · simp [h, show ¬ (sets (l ++ [a])).length ≤ 64 by omega]
theorem fold_four : ∀ args : List Int, fold 4 args = ([w64 args.sum], 0) := by
  refine snoc_ind rfl (fun l a ih => ?_)
  have hc : ∀ v : Int, chk 4 [v] = 0 := fun v => chk_of (by decide) (by simp [SOk])
  rw [fold_snoc, step, ih]
  simp only [if_true, app, hc, next]
  have : idx [w64 l.sum] 0 = w64 l.sum := rfl
  simp [this, w64zadd]
theorem fold_else {t : Int} (ht : ¬ (1 ≤ t ∧ t ≤ 4)) : ∀ args : List Int, fold t args = ([], 1) := by
  refine snoc_ind (by simp [fold, start, ht]) (fun l a ih => ?_)
  rw [fold_snoc, step, ih]
  simp
theorem sets_rev (args : List Int) : sets args.reverse = sets args :=
  asc_ext (asc_iff.1 (sets_asc _).1) (asc_iff.1 (sets_asc _).1) (fun x => by rw [(sets_asc _).2, (sets_asc _).2, List.mem_reverse])
theorem sum_rev : ∀ args : List Int, args.reverse.sum = args.sum
  | [] => rfl
  | a :: l => by rw [List.reverse_cons, List.sum_append, sum_rev l, List.sum_cons, List.sum_cons, List.sum_nil]; omega
theorem fold_rev {t : Int} (h1 : t ≠ 1) (h2 : t ≠ 2) (args : List Int) : fold t args.reverse = fold t args := by
  by_cases ht : 1 ≤ t ∧ t ≤ 4
  · rcases four ht with rfl | rfl | rfl | rfl
    · exact absurd rfl h1
    · exact absurd rfl h2
    · rw [fold_three, fold_three, sets_rev]
    · rw [fold_four, fold_four, sum_rev]
  · rw [fold_else ht, fold_else ht]
theorem StateOrders_law (t : Int) (args : List Int) {p q : Prop} (_ : p) (g1 : q ∧ args.length * 8 ≤ 140737488351232) : assizelaw08zStateOrders t args = some true := by
  unfold assizelaw08zStateOrders
  have ha : args.length < 2 ^ 62 := by omega
  have har : args.reverse.length < 2 ^ 62 := by simpa using ha
  rw [assizelaw08zalive_true]
  have hw : w64 ((args.length : Int) - 1) = (args.length : Int) - 1 := w64zid (by omega) (by omega)
  simp only [Option.bind_some, Bool.not_true, cond_false, hw]
  refine tri_eq.1 ?_
  refine tri_upm (k0 := 0) args.length (fun k x => x.2 = (args.length : Int) - 1 - k ∧ x.1 = (args.drop (args.length - k)).reverse) (by omega) ⟨by simp, by simp⟩ ?_
  rintro k ⟨l, x⟩ hk ⟨hx, hl⟩
  replace hx : x = (args.length : Int) - 1 - k := hx
  replace hl : l = (args.drop (args.length - k)).reverse := hl
  have hll : l.length = k := by rw [hl]; simp; omega
  unfold assizelaw08zStateOrders.s1
  refine tri_bif (fun h => ?_) (fun h => ?_)
  · have h : x ≥ 0 := of_decide_eq_true h
    have hx2 : x = ((args.length - 1 - k : Nat) : Int) := by omega
    refine tri_must (by omega) (tri_must ⟨by omega, by omega⟩ ⟨_, rfl, by omega, ?_, ?_⟩)
    · show w64 (x - 1) = _
      rw [w64zid (by omega) (by omega)]
      omega
    · show l ++ [idx args x] = _
      have hi : args.length - 1 - k < args.length := by omega
      rw [hl, hx2, idx_get hi, show args.length - (k + 1) = args.length - 1 - k by omega, List.drop_eq_getElem_cons hi, List.reverse_cons, show args.length - 1 - k + 1 = args.length - k by omega]
  · have h : ¬ x ≥ 0 := of_decide_eq_false h
    have hk' : k = args.length := by omega
    have hlr : l = args.reverse := by rw [hl, hk', Nat.sub_self, List.drop_zero]
    rw [hlr, state_Fold_told t ha, state_Fold_told t har]
    simp only [Option.bind_some]
    have hsm := fold_small t args
    have hsr := fold_small t args.reverse
    by_cases h1 : t = 1
    · subst h1
      obtain ⟨e1, e2⟩ := fold_one args
      obtain ⟨r1, r2⟩ := fold_one args.reverse
      rw [e1, r1]
      simp only [beq_self_eq_true, cond_true]
      by_cases h0 : args = []
      · subst h0
        simp [fold_one, out, Tri, Upm]
      · have hp : 0 < args.length := List.length_pos_iff.2 h0
        have hr0 : args.reverse ≠ [] := by simpa using h0
        rw [if_neg h0] at e2
        rw [if_neg hr0] at r2
        have hl0 : ((args.length : Int) == 0) = false := by rw [beq_eq_false_iff_ne]; omega
        rw [hl0, e2, r2, hw]
        have h9 : ((args.length - 1 : Nat) : Int) = (args.length : Int) - 1 := by omega
        have e3 : idx args.reverse ((args.reverse.length - 1 : Nat) : Int) = idx args 0 := by
          have : idx args (0 : Int) = idx args ((0 : Nat) : Int) := rfl
          rw [this, idx_get (by simp; omega), idx_get hp, List.getElem_reverse]
          congr 1
          simp
        rw [e3]
        have i1 : ∀ v : Int, idx [v] (0 : Int) = v := fun v => rfl
        simp only [cond_false, i1, h9, List.length_singleton, Int.natCast_one, beq_self_eq_true, cond_true]
        refine tri_must (by decide) (tri_must (by omega) (tri_must (by decide) (tri_must (by omega) ?_)))
        exact ⟨_, rfl, rfl⟩
    · have e1 : (t == 1) = false := by rw [beq_eq_false_iff_ne]; exact h1
      rw [e1, cond_false]
      by_cases h2 : t = 2
      · subst h2
        rw [fold_two, fold_two, List.length_reverse]
        by_cases h64 : args.length ≤ 64
        · simp [h64, same_vals ha, same_vals har]
          exact ⟨_, rfl, rfl⟩
        · simp [h64]
          exact ⟨_, rfl, rfl⟩
      · have e2 : (t == 2) = false := by rw [beq_eq_false_iff_ne]; exact h2
        rw [e2, cond_false, fold_rev h1 h2]
        simp [same_vals (a := (fold t args).1) (by omega)]
        exact ⟨_, rfl, rfl⟩
end Go.Proofs.YtmfihodpbladeaaT
