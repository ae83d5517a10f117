/- The laws of layer 9 that compare with the document. -/
import Derived.Test.YtmfihodpbladeaaTPLB
import Derived.Test.YtmfihodpbladeaaTF
namespace Go.Proofs.YtmfihodpbladeaaT
open Go Go.Proofs Go.Proofs.YtmfihodpbladeaaE
set_option linter.unusedVariables false
set_option linter.unusedSimpArgs false

abbrev OG (y : Op) : Prop := ((Lit.int .i64 (y).Kind).wf = true) ∧ ((Lit.int .i64 (y).Key).wf = true) ∧ ((Lit.int .i64 (y).Arg).wf = true) ∧ (True) ∧ ((∀ z ∈ (y).Vals, (Lit.int .i64 z).wf = true) ∧ ((y).Vals).length * 8 ≤ 140737488351232)
abbrev TG (y : Txn) : Prop := ((Lit.int .i64 (y).Proc).wf = true) ∧ ((Lit.int .i64 (y).Status).wf = true) ∧ ((Lit.int .i64 (y).From).wf = true) ∧ ((Lit.int .i64 (y).To).wf = true) ∧ ((∀ z ∈ (y).Ops, OG z) ∧ ((y).Ops).length * 56 ≤ 140737488351232)
/-- what the world says of a history's sizes -/
abbrev HG (K : ByteArray → Prop) (x : History) : Prop := ((∀ y ∈ (x).Keys, K y) ∧ ((x).Keys).length * 16 ≤ 140737488351232) ∧ ((∀ y ∈ (x).Txns, TG y) ∧ ((x).Txns).length * 56 ≤ 140737488351232)
theorem HG.small {K : ByteArray → Prop} {h : History} (g : HG K h) : HSmall h :=
  ⟨g.1.2, g.2.2, alli_iff.2 fun t ht => ⟨(g.2.1 t ht).2.2.2.2.2, alli_iff.2 fun o ho => ((g.2.1 t ht).2.2.2.2.1 o ho).2.2.2.2.2⟩⟩
theorem asksOf_small {h : History} {t : Nat} (ho : OpsOk (idx h.Txns (t : Int)).Ops) : (asksOf h (t : Int)).length ≤ 16 ∧ (spotsOf h (t : Int)).length ≤ 16 ∧ AllI (asksOf h (t : Int)) (fun x => x.Base.length < 2 ^ 62) := by
  have h1 := asksUp_len (ops := (idx h.Txns (t : Int)).Ops) (t := (t : Int)) (k := (idx h.Txns (t : Int)).Ops.length)
  have h2 := spotsUp_len (ops := (idx h.Txns (t : Int)).Ops) (t := (t : Int)) (k := (idx h.Txns (t : Int)).Ops.length)
  have h3 := ho.1
  refine ⟨?_, ?_, ?_⟩
  · unfold asksOf; split
    · omega
    · simp
  · unfold spotsOf; split
    · omega
    · simp
  · rw [alli_iff]
    intro x hx
    unfold asksOf at hx
    split at hx
    · unfold asksUp at hx
      rw [List.mem_flatMap] at hx
      obtain ⟨p, hp, hx⟩ := hx
      have hp : p < _ := List.mem_range.1 hp
      have hv := (ho.2 p hp).2.2
      have hb := before_small ((idx (idx h.Txns (t : Int)).Ops (p : Int)).Kind - 4) (idx (idx h.Txns (t : Int)).Ops (p : Int)).Vals (ownL (idx h.Txns (t : Int)).Ops (idx (idx h.Txns (t : Int)).Ops (p : Int)).Key p)
      unfold askAt at hx
      dsimp only at hx
      split at hx
      · simp at hx
      · split at hx
        · simp at hx; subst hx; dsimp only; omega
        · split at hx
          · simp at hx; subst hx; dsimp only; omega
          · simp at hx
    · simp at hx
/-- one transaction's -/
theorem Look_told {h : History} (hs : HSmall h) (t : Int) :
    (local_Look h t = some ([], [], 1) ∧ assizeref09zLook h t = some ([], [], 1) ∧ (index_Check h ≠ some 0 ∨ t < 0 ∨ t ≥ (h.Txns.length : Int))) ∨
    (Sound h ∧ ∃ k : Nat, t = (k : Int) ∧ k < h.Txns.length ∧ local_Look h t = some (asksOf h t, spotsOf h t, 0) ∧ assizeref09zLook h t = some (asksOf h t, spotsOf h t, 0) ∧ index_Check h = some 0) := by
  obtain ⟨v, hv, hv', h01, hS⟩ := Check_told hs
  by_cases hb : v = 0 ∧ 0 ≤ t ∧ t < (h.Txns.length : Int)
  · obtain ⟨rfl, h0, h1⟩ := hb
    right
    obtain ⟨k, rfl⟩ : ∃ k : Nat, t = (k : Int) := ⟨t.toNat, by omega⟩
    have hk : k < h.Txns.length := by omega
    have hS := hS.1 rfl
    have ho := (hS.txn k hk).ops
    have hl := look_told (f := ⟨[], []⟩) hk ho (by simp) (by simp)
    have hr := ref_of_told hk ho
    refine ⟨hS, k, rfl, hk, ?_, ?_, hv⟩
    · refine tri_eq.1 ?_
      unfold local_Look local_Look.j1
      simp only [cond_true, cond_false]
      repeat' (first | contradiction | with_reducible refine tri_if (fun hq => ?_) (fun hq => ?_) | with_reducible refine tri_must (by first | omega | grind [w64zin]) ?_ | with_reducible refine tri_out ?_ | with_reducible refine tri_sb ?_ | with_reducible refine tri_cb ?_ | with_reducible refine tri_mb ?_ | with_reducible refine tri_bb ?_ | with_reducible refine tri_some ?_ | refine tri_bnd hv ?_ | refine tri_bind hl (fun r hr => ?_))
      all_goals first | omega | skip
      subst hr
      simp
    · refine tri_eq.1 ?_
      unfold assizeref09zLook assizeref09zLook.j1
      simp only [cond_true, cond_false]
      repeat' (first | contradiction | with_reducible refine tri_if (fun hq => ?_) (fun hq => ?_) | with_reducible refine tri_must (by first | omega | grind [w64zin]) ?_ | with_reducible refine tri_out ?_ | with_reducible refine tri_sb ?_ | with_reducible refine tri_cb ?_ | with_reducible refine tri_mb ?_ | with_reducible refine tri_bb ?_ | with_reducible refine tri_some ?_ | refine tri_bnd hv' ?_ | refine tri_bnd hr ?_)
      all_goals first | omega | rfl
  · left
    refine ⟨?_, ?_, ?_⟩
    · refine tri_eq.1 ?_
      unfold local_Look local_Look.j1
      simp only [cond_true, cond_false]
      repeat' (first | contradiction | with_reducible refine tri_if (fun hq => ?_) (fun hq => ?_) | with_reducible refine tri_must (by first | omega | grind [w64zin]) ?_ | with_reducible refine tri_out ?_ | with_reducible refine tri_sb ?_ | with_reducible refine tri_cb ?_ | with_reducible refine tri_mb ?_ | with_reducible refine tri_bb ?_ | with_reducible refine tri_some ?_ | refine tri_bnd hv ?_)
      all_goals first | rfl | exact absurd ⟨by omega, by omega, by omega⟩ hb
    · refine tri_eq.1 ?_
      unfold assizeref09zLook assizeref09zLook.j1
      simp only [cond_true, cond_false]
      repeat' (first | contradiction | with_reducible refine tri_if (fun hq => ?_) (fun hq => ?_) | with_reducible refine tri_must (by first | omega | grind [w64zin]) ?_ | with_reducible refine tri_out ?_ | with_reducible refine tri_sb ?_ | with_reducible refine tri_cb ?_ | with_reducible refine tri_mb ?_ | with_reducible refine tri_bb ?_ | with_reducible refine tri_some ?_ | refine tri_bnd hv' ?_)
      all_goals first | rfl | exact absurd ⟨by omega, by omega, by omega⟩ hb
    · rw [hv]
      by_cases h0 : v = 0
      · right; omega
      · left; intro e; exact h0 (Option.some.inj e)
end Go.Proofs.YtmfihodpbladeaaT
