/- Layer 10: the parts of a list, of the code and of the document. -/
import Derived.Test.YtnlkggppokcmfaaTPXC
namespace Go.Proofs.YtnlkggppokcmfaaT
open Go Go.Proofs Go.Proofs.YtnlkggppokcmfaaE
set_option linter.unusedVariables false
set_option linter.unusedSimpArgs false
theorem subl_back {α : Type} [Inhabited α] {l : List α} {k : Nat} : subl l (k : Int) (l.length : Int) = l.drop k := by
  unfold subl
  simp
theorem cont_told {l : List Int} {v : Int} (hl : l.length < 2 ^ 60) : slices_Contains_int l v = some (decide (v ∈ l)) := by
  have h1 : Tri (slices_Index_int l v) (fun r => 0 ≤ r ↔ ∃ j : Nat, j < l.length ∧ idx l (j : Int) = v) := by
    unfold slices_Index_int
    refine tri_all l.length (fun j => idx l (j : Int) ≠ v) ?_
    intro k hk hJ
    unfold slices_Index_int.s1
    dsimp only
    repeat' (first | contradiction | with_reducible refine tri_if (fun hq => ?_) (fun hq => ?_) | with_reducible refine tri_must (by first | omega | grind [w64zin]) ?_ | with_reducible refine tri_out ?_ | with_reducible refine tri_sb ?_ | with_reducible refine tri_cb ?_ | with_reducible refine tri_mb ?_ | with_reducible refine tri_bb ?_ | with_reducible refine tri_some ?_)
    all_goals grind [Nxt, w64zin]
  refine tri_eq.1 ?_
  unfold slices_Contains_int
  refine tri_bind h1 (fun r hr => tri_some ?_)
  have : (∃ j : Nat, j < l.length ∧ idx l (j : Int) = v) ↔ v ∈ l := by
    rw [List.mem_iff_getElem]
    constructor
    · rintro ⟨j, hj, e⟩; exact ⟨j, hj, by rw [← e, idx_eq (n := j) rfl hj]⟩
    · rintro ⟨j, hj, e⟩; exact ⟨j, hj, by rw [← e, idx_eq (n := j) rfl hj]⟩
  rw [decide_eq_decide]
  exact hr.trans this
theorem begins_told {s p : List Int} (hs : s.length < 2 ^ 60) : assizeref10zbegins s p = some (decide (p <+: s)) := by
  refine tri_eq.1 ?_
  unfold assizeref10zbegins
  refine tri_if (fun h => ?_) (fun h => ?_)
  · refine tri_some ?_
    rw [eq_comm, decide_eq_false_iff_not]
    intro hp
    have := hp.length_le
    omega
  · have hl : p.length ≤ s.length := by omega
    refine tri_must (by omega) ?_
    have hsv : assizeref03zSameVals (subl s (0 : Int) (p.length : Int)) p = some (decide (subl s (0 : Int) (p.length : Int) = p)) := SameVals_told (by rw [subl_front hl, List.length_take]; omega)
    refine tri_bnd hsv (tri_some ?_)
    rw [decide_eq_decide, subl_front hl, List.prefix_iff_eq_take, eq_comm]
structure Parts (O : List Int) (W : Int → List Int) : Prop where
  ne : ∀ t ∈ O, 0 < (W t).length
  ap : ∀ t ∈ O, ∀ u ∈ O, ∀ v, v ∈ W t → v ∈ W u → t = u
  nd : ∀ t ∈ O, (W t).Nodup
  ol : O.length ≤ 32
  wl : ∀ t ∈ O, (W t).length ≤ 16
  pos : ∀ t ∈ O, 0 ≤ t
theorem parts_of {h : History} (hS : Sound h) {a : Ask} {t p : Nat} (ha : AskOk h a t p) (h23 : typ (opAt h (t : Int) (p : Int)).Kind = 2 ∨ typ (opAt h (t : Int) (p : Int)).Kind = 3) :
    Parts (othersUp h a h.Txns.length) (fun t => wroteOf h t a.Key) := by
  have h32 := hS.len
  have hty : KeyTy h a.Key (typ (opAt h (t : Int) (p : Int)).Kind) := fun t' p' ht' hp' hk => typ_same hS ht' hp' ha.tl ha.pl (hk.trans ha.e3)
  have hm : ∀ u ∈ othersUp h a h.Txns.length, ∃ n : Nat, u = (n : Int) ∧ n < h.Txns.length ∧ 0 < (wroteOf h u a.Key).length := by
    intro u hu
    obtain ⟨⟨h0, h1, _, h3⟩, _⟩ := others_mem.1 hu
    exact ⟨u.toNat, by omega, by omega, h3⟩
  refine ⟨fun u hu => ?_, fun u hu v hv x h1 h2 => ?_, fun u hu => ?_, Nat.le_trans othersUp_len h32, fun u hu => ?_, fun u hu => (others_mem.1 hu).1.1⟩
  · obtain ⟨n, _, _, h3⟩ := hm u hu; exact h3
  · obtain ⟨n, rfl, hn, _⟩ := hm u hu
    obtain ⟨m, rfl, hm', _⟩ := hm v hv
    by_cases hne : n = m
    · rw [hne]
    · exact absurd h2 (wrote_apart hS hty h23 hn hm' hne h1)
  · obtain ⟨n, rfl, hn, _⟩ := hm u hu
    exact wrote_nodup hS hty h23 hn
  · obtain ⟨n, rfl, hn, _⟩ := hm u hu
    exact Nat.le_trans wroteOf_len (hS.txn n hn).ops.1
section
variable {O : List Int} {W : Int → List Int}
def finL (O : List Int) (W : Int → List Int) : List SourceFinal := O.map (fun t => ⟨t, W t⟩)
theorem finL_len : (finL O W).length = O.length := List.length_map _
theorem finL_at {j : Nat} (hj : j < O.length) : idx (finL O W) (j : Int) = ⟨idx O (j : Int), W (idx O (j : Int))⟩ := idx_map hj
theorem idx_mem {l : List Int} {j : Nat} (hj : j < l.length) : idx l (j : Int) ∈ l := by rw [idx_eq (n := j) rfl hj]; exact List.getElem_mem _
theorem mem_idx {l : List Int} {t : Int} (h : t ∈ l) : ∃ j : Nat, j < l.length ∧ idx l (j : Int) = t := by
  obtain ⟨j, hj, e⟩ := List.getElem_of_mem h
  exact ⟨j, hj, (idx_eq rfl hj).trans e⟩
theorem pre_head {p s : List Int} (hp : p <+: s) (h0 : 0 < p.length) : idx p 0 = idx s 0 := by
  obtain ⟨r, rfl⟩ := hp
  exact (idx_app (j := 0) h0).symm
theorem next_code (hP : Parts O W) {rest : List Int} (hr : 0 < rest.length) : Tri (slices_IndexFunc_final_source_list_1 (finL O W) rest)
    (fun y => (∃ j : Nat, j < O.length ∧ y = (j : Int) ∧ idx (W (idx O (j : Int))) 0 = idx rest 0) ∨ (y = -1 ∧ ∀ t ∈ O, idx (W t) 0 ≠ idx rest 0)) := by
  have hol := hP.ol
  unfold slices_IndexFunc_final_source_list_1
  refine tri_upm (k0 := 0) O.length (fun k s => s = (k : Int) ∧ ∀ j : Nat, j < k → idx (W (idx O (j : Int))) 0 ≠ idx rest 0) (Nat.zero_le _) ⟨rfl, fun j h => absurd h (Nat.not_lt_zero _)⟩ ?_
  rintro k s hk ⟨rfl, hno⟩
  have hw : w64 ((k : Int) + 1) = ((k + 1 : Nat) : Int) := w64zsucc (by omega)
  unfold slices_IndexFunc_final_source_list_1.s1 source_list_1
  dsimp only
  rw [hw, finL_len]
  refine tri_if (fun hk1 => ?_) (fun hk1 => ?_)
  · have hk2 : k < O.length := by omega
    have h0 := hP.ne _ (idx_mem hk2)
    rw [finL_at hk2]
    refine tri_must (by omega) ?_
    simp only [must_pos _ (show 0 ≤ (0 : Int) ∧ (0 : Int) < ((W (idx O (k : Int))).length : Int) by omega), must_pos _ (show 0 ≤ (0 : Int) ∧ (0 : Int) < (rest.length : Int) by omega), Option.bind_some]
    refine tri_if (fun he => ?_) (fun he => ?_)
    · exact tri_out (tri_some (.inl ⟨k, hk2, rfl, he⟩))
    · refine tri_some ⟨hk2, rfl, fun j hj => ?_⟩
      rcases Nat.lt_or_ge j k with h1 | h1
      · exact hno j h1
      · have : j = k := by omega
        subst this
        exact he
  · have : k = O.length := by omega
    subst this
    refine tri_out (tri_some (.inr ⟨rfl, fun t ht => ?_⟩))
    obtain ⟨j, hj, rfl⟩ := mem_idx ht
    exact hno j hj
theorem pre_unique (hP : Parts O W) {rest : List Int} {t u : Int} (ht : t ∈ O) (hu : u ∈ O) (h1 : idx (W t) 0 = idx rest 0) (h2 : idx (W u) 0 = idx rest 0) : t = u := by
  have e1 := hP.ne t ht
  have e2 := hP.ne u hu
  refine hP.ap t ht u hu (idx rest 0) ?_ ?_
  · rw [← h1]; exact idx_mem (j := 0) e1
  · rw [← h2]; exact idx_mem (j := 0) e2
end
end Go.Proofs.YtnlkggppokcmfaaT
