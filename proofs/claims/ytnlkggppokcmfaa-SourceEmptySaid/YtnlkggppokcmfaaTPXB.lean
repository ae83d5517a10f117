/- Layer 10: the type of an ask's key. -/
import Derived.Test.YtnlkggppokcmfaaTPXA
namespace Go.Proofs.YtnlkggppokcmfaaT
open Go Go.Proofs Go.Proofs.YtnlkggppokcmfaaE
set_option linter.unusedVariables false
set_option linter.unusedSimpArgs false
def opAt (h : History) (t p : Int) : Op := idx (idx h.Txns t).Ops p
theorem ent_mem {h : History} {n t p : Nat} (ht : t < n) (hp : p < (idx h.Txns (t : Int)).Ops.length) : (callOf h (opAt h (t : Int) (p : Int)), (t : Int)) ∈ entUp h n := by
  unfold entUp entOf callsOf opAt
  rw [List.mem_flatMap]
  refine ⟨t, List.mem_range.2 ht, ?_⟩
  rw [List.map_map, List.mem_map]
  refine ⟨idx (idx h.Txns (t : Int)).Ops (p : Int), ?_, rfl⟩
  rw [idx_eq (n := p) rfl hp]
  exact List.getElem_mem _
theorem ents_typ {L : List (Call × Int)} (h : EntsOk [] L) {e f : Call × Int} (he : e ∈ L) (hf : f ∈ L) (hk : e.1.Key = f.1.Key) : typ e.1.Kind = typ f.1.Kind := by
  obtain ⟨i, hi, rfl⟩ := List.getElem_of_mem he
  obtain ⟨j, hj, rfl⟩ := List.getElem_of_mem hf
  rcases Nat.lt_trichotomy i j with hij | hij | hij
  · have := (h j hj).1 L[i] (by rw [List.nil_append]; exact List.mem_take_iff_getElem.2 ⟨i, by omega, rfl⟩) (by rw [idx_eq (n := j) rfl hj]; exact hk)
    rwa [idx_eq (n := j) rfl hj] at this
  · subst hij; rfl
  · have := (h i hi).1 L[j] (by rw [List.nil_append]; exact List.mem_take_iff_getElem.2 ⟨j, by omega, rfl⟩) (by rw [idx_eq (n := i) rfl hi]; exact hk.symm)
    rw [idx_eq (n := i) rfl hi] at this
    exact this.symm
theorem typ_same {h : History} (hS : Sound h) {t p t' p' : Nat} (ht : t < h.Txns.length) (hp : p < (idx h.Txns (t : Int)).Ops.length) (ht' : t' < h.Txns.length) (hp' : p' < (idx h.Txns (t' : Int)).Ops.length)
    (hk : (opAt h (t : Int) (p : Int)).Key = (opAt h (t' : Int) (p' : Int)).Key) : typ (opAt h (t : Int) (p : Int)).Kind = typ (opAt h (t' : Int) (p' : Int)).Kind :=
  ents_typ hS.ents (ent_mem ht hp) (ent_mem ht' hp') (by show idx h.Keys _ = idx h.Keys _; rw [hk])
theorem op_kind {h : History} (hS : Sound h) {t p : Nat} (ht : t < h.Txns.length) (hp : p < (idx h.Txns (t : Int)).Ops.length) : 1 ≤ (opAt h (t : Int) (p : Int)).Kind ∧ (opAt h (t : Int) (p : Int)).Kind ≤ 8 := by
  obtain ⟨h1, h2⟩ := (hS.txn t ht).ops
  have := h2 p hp
  exact ⟨this.1, this.2.1⟩
theorem kind_told {h : History} (hS : Sound h) {a : Ask} {t p : Nat} (ht : t < h.Txns.length) (hp : p < (idx h.Txns (t : Int)).Ops.length) (e1 : a.Txn = (t : Int)) (e2 : a.Place = (p : Int)) :
    assizeref10zkind h a = some (typ (opAt h (t : Int) (p : Int)).Kind) := by
  obtain ⟨k1, k2⟩ := op_kind hS ht hp
  refine tri_eq.1 ?_
  unfold assizeref10zkind
  rw [e1, e2]
  refine tri_must (by omega) (tri_must (by omega) ?_)
  exact tri_bnd (Of_told k1 k2) (tri_some rfl)
theorem Type_told {h : History} (hS : Sound h) (hc : index_Check h = some 0) {key : Int} {t0 p0 : Nat} (ht0 : t0 < h.Txns.length) (hp0 : p0 < (idx h.Txns (t0 : Int)).Ops.length) (hk0 : (opAt h (t0 : Int) (p0 : Int)).Key = key) :
    index_Type h key = some (typ (opAt h (t0 : Int) (p0 : Int)).Kind) := by
  have h32 := hS.len
  refine tri_eq.1 ?_
  unfold index_Type
  refine tri_bnd hc ?_
  rw [bne_self_eq_false, cond_false]
  refine tri_upm (k0 := 0) h.Txns.length (fun k s => s = (k : Int) ∧ ∀ t p : Nat, t < k → p < (idx h.Txns (t : Int)).Ops.length → (opAt h (t : Int) (p : Int)).Key ≠ key) (Nat.zero_le _) ⟨rfl, fun t p h => absurd h (Nat.not_lt_zero _)⟩ ?_
  rintro k s hk ⟨rfl, hno⟩
  have hw : w64 ((k : Int) + 1) = ((k + 1 : Nat) : Int) := w64zsucc (by omega)
  unfold index_Type.s1
  refine tri_if (fun hk1 => ?_) (fun hk1 => ?_)
  · have hk2 : k < h.Txns.length := by omega
    refine tri_must (by omega) ?_
    have h16 := (hS.txn k hk2).ops.1
    refine tri_upm (k0 := 0) (idx h.Txns (k : Int)).Ops.length (fun m s => s = (m : Int) ∧ ∀ p : Nat, p < m → (opAt h (k : Int) (p : Int)).Key ≠ key) (Nat.zero_le _) ⟨rfl, fun p h => absurd h (Nat.not_lt_zero _)⟩ ?_
    rintro m s hm ⟨rfl, hno2⟩
    have hw2 : w64 ((m : Int) + 1) = ((m + 1 : Nat) : Int) := w64zsucc (by omega)
    unfold index_Type.s2
    dsimp only
    rw [hw, hw2]
    refine tri_if (fun hm1 => ?_) (fun hm1 => ?_)
    · have hm2 : m < (idx h.Txns (k : Int)).Ops.length := by omega
      refine tri_must (by omega) ?_
      refine tri_if (fun he => ?_) (fun he => ?_)
      · obtain ⟨k1, k2⟩ := op_kind hS hk2 hm2
        refine tri_bnd (typeOf_told k1 k2) (tri_out (tri_out (tri_some ?_)))
        exact typ_same hS hk2 hm2 ht0 hp0 ((show (opAt h (k : Int) (m : Int)).Key = key from he).trans hk0.symm)
      · refine tri_some ⟨hm2, rfl, fun p hp => ?_⟩
        rcases Nat.lt_or_ge p m with h1 | h1
        · exact hno2 p h1
        · have : p = m := by omega
          subst this
          exact he
    · have : m = (idx h.Txns (k : Int)).Ops.length := by omega
      subst this
      refine tri_out (tri_some ⟨hk2, rfl, fun t p ht hp => ?_⟩)
      rcases Nat.lt_or_ge t k with h1 | h1
      · exact hno t p h1 hp
      · have : t = k := by omega
        subst this
        exact hno2 p hp
  · have : k = h.Txns.length := by omega
    subst this
    exact absurd hk0 (hno t0 p0 ht0 hp0)
end Go.Proofs.YtnlkggppokcmfaaT
