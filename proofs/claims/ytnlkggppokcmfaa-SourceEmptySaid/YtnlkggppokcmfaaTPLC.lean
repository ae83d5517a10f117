/- The laws of layer 9 that compare with the document. -/
import Derived.Test.YtnlkggppokcmfaaTPLB
import Derived.Test.YtnlkggppokcmfaaTF
namespace Go.Proofs.YtnlkggppokcmfaaT
open Go Go.Proofs Go.Proofs.YtnlkggppokcmfaaE
set_option linter.unusedVariables false
set_option linter.unusedSimpArgs false
abbrev OG (y : Op) : Prop := ((Lit.int .i64 (y).Kind).wf = true) ∧ ((Lit.int .i64 (y).Key).wf = true) ∧ ((Lit.int .i64 (y).Arg).wf = true) ∧ (True) ∧ ((∀ z ∈ (y).Vals, (Lit.int .i64 z).wf = true) ∧ ((y).Vals).length * 8 ≤ 140737488351232)
abbrev TG (y : Txn) : Prop := ((Lit.int .i64 (y).Proc).wf = true) ∧ ((Lit.int .i64 (y).Status).wf = true) ∧ ((Lit.int .i64 (y).From).wf = true) ∧ ((Lit.int .i64 (y).To).wf = true) ∧ ((∀ z ∈ (y).Ops, OG z) ∧ ((y).Ops).length * 56 ≤ 140737488351232)
abbrev HG (K : ByteArray → Prop) (x : History) : Prop := ((∀ y ∈ (x).Keys, K y) ∧ ((x).Keys).length * 16 ≤ 140737488351232) ∧ ((∀ y ∈ (x).Txns, TG y) ∧ ((x).Txns).length * 56 ≤ 140737488351232)
theorem HG.small {K : ByteArray → Prop} {h : History} (g : HG K h) : HSmall h :=
  ⟨g.1.2, g.2.2, alli_iff.2 fun t ht => ⟨(g.2.1 t ht).2.2.2.2.2, alli_iff.2 fun o ho => ((g.2.1 t ht).2.2.2.2.1 o ho).2.2.2.2.2⟩⟩
theorem asksOf_small {h : History} {t : Nat} (ho : OpsOk (idx h.Txns (t : Int)).Ops) : (asksOf h (t : Int)).length ≤ 16 ∧ (spotsOf h (t : Int)).length ≤ 16 ∧ AllI (asksOf h (t : Int)) (fun x => x.Base.length < 2 ^ 62) := by
  have h1 := asksUp_len (ops := (idx h.Txns (t : Int)).Ops) (t := (t : Int)) (k := (idx h.Txns (t : Int)).Ops.length)
  have h2 := spotsUp_len (ops := (idx h.Txns (t : Int)).Ops) (t := (t : Int)) (k := (idx h.Txns (t : Int)).Ops.length)
  have h3 := ho.1
  refine ⟨?_, ?_, ?_⟩
  · unfold asksOf; split
    · omega
    · simp
  · unfold spotsOf; split
    · omega
    · simp
  · rw [alli_iff]
    intro x hx
    unfold asksOf at hx
    split at hx
    · unfold asksUp at hx
      rw [List.mem_flatMap] at hx
      obtain ⟨p, hp, hx⟩ := hx
      have hp : p < _ := List.mem_range.1 hp
      have hv := (ho.2 p hp).2.2
      have hb := before_small ((idx (idx h.Txns (t : Int)).Ops (p : Int)).Kind - 4) (idx (idx h.Txns (t : Int)).Ops (p : Int)).Vals (ownL (idx h.Txns (t : Int)).Ops (idx (idx h.Txns (t : Int)).Ops (p : Int)).Key p)
      unfold askAt at hx
      dsimp only at hx
      split at hx
      · simp at hx
      · split at hx
        · simp at hx; subst hx; dsimp only; omega
        · split at hx
          · simp at hx; subst hx; dsimp only; omega
          · simp at hx
    · simp at hx
end Go.Proofs.YtnlkggppokcmfaaT
