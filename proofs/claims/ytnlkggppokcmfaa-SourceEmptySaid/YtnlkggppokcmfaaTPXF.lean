/- Layer 10: the parts of a list: the same of both, and what they are. -/
import Derived.Test.YtnlkggppokcmfaaTPXE
namespace Go.Proofs.YtnlkggppokcmfaaT
open Go Go.Proofs Go.Proofs.YtnlkggppokcmfaaE
set_option linter.unusedVariables false
set_option linter.unusedSimpArgs false
def Makes (O : List Int) (W : Int → List Int) (base m : List Int) : Prop := (∀ t ∈ m, t ∈ O) ∧ m.Nodup ∧ base = m.flatMap W
def ListTold (O : List Int) (W : Int → List Int) (base : List Int) (r : List Int × Bool) : Prop := (r.2 = true ∧ Makes O W base r.1) ∨ (r = ([], false) ∧ ∀ m, ¬ Makes O W base m)
section
variable {O : List Int} {W : Int → List Int} {rest l : List Int}
theorem flat_next (hP : Parts O W) {m : List Int} (hm : ∀ t ∈ m, t ∈ O) (hr : 0 < rest.length) (e : rest = m.flatMap W) : ∃ u m', m = u :: m' ∧ u ∈ O ∧ W u <+: rest ∧ idx (W u) 0 = idx rest 0 := by
  cases m with
  | nil => rw [e] at hr; simp at hr
  | cons u m' =>
    have hu := hm u (by simp)
    have hp : W u <+: rest := ⟨m'.flatMap W, by rw [e, List.flatMap_cons]⟩
    exact ⟨u, m', rfl, hu, hp, pre_head hp (hP.ne u hu)⟩
theorem list_told (hP : Parts O W) {h : History} {a : Ask} (hW : ∀ t ∈ O, assizeref05zWrote h t a.Key = some (W t)) (ho : assizeref10zothers h a = some O) (hb : a.Base.length ≤ 64) :
    ∃ r, source_list a.Base (finL O W) = some r ∧ assizeref10zlist h a = some r ∧ ListTold O W a.Base r := by
  have key : Tri (source_list a.Base (finL O W)) (fun r => Tri (iter (assizeref10zlist.s1 h a O) ([], a.Base)) (fun r' => r = r' ∧ ListTold O W a.Base r)) := by
    unfold source_list
    refine tri_iter2 (k0 := 0) a.Base.length (fun (k : Nat) (s t : List Int × List Int) => s.1 = t.2 ∧ s.2 = t.1 ∧ s.1.length + k ≤ a.Base.length ∧ s.2.length ≤ k ∧ (∀ t ∈ s.2, t ∈ O) ∧ s.2.Nodup ∧ a.Base = s.2.flatMap W ++ s.1 ∧ ∀ m, Makes O W a.Base m → ∃ m', m = s.2 ++ m')
      (Nat.zero_le _) ⟨rfl, rfl, Nat.le_refl _, Nat.le_refl _, fun t h => (nomatch h), List.nodup_nil, by simp, fun m _ => ⟨m, rfl⟩⟩ ?_
    rintro k ⟨rest, l⟩ ⟨l', rest'⟩ hk ⟨e1, e2, i1, i2, i3, i4, i5, i6⟩
    dsimp only at e1 e2 i1 i2 i3 i4 i5 i6
    subst e1 e2
    refine tri_mono (code_step hP (by omega) (by omega)) ?_
    rintro x ⟨o, hs, rfl⟩
    refine tri_mono (ref_step hP hW (by omega) (by omega)) ?_
    rintro y ⟨o', hs', rfl⟩
    obtain rfl := Stp.det hP hs hs'
    have nxt : ∀ m, Makes O W a.Base m → 0 < rest.length → ∃ u m', m = l ++ u :: m' ∧ u ∈ O ∧ W u <+: rest ∧ idx (W u) 0 = idx rest 0 := by
      intro m hm hr
      obtain ⟨m', rfl⟩ := i6 m hm
      obtain ⟨h1, h2, h3⟩ := hm
      rw [i5, List.flatMap_append, List.append_cancel_left_eq] at h3
      obtain ⟨u, m2, rfl, q1, q2, q3⟩ := flat_next hP (fun t ht => h1 t (List.mem_append_right _ ht)) hr h3
      exact ⟨u, m2, rfl, q1, q2, q3⟩
    match o, hs with
    | none, hs =>
      refine ⟨rfl, .inl ⟨rfl, i3, i4, ?_⟩⟩
      rw [i5, List.length_eq_zero_iff.1 (show rest.length = 0 from hs), List.append_nil]
    | some none, hs =>
      refine ⟨rfl, .inr ⟨rfl, fun m hm => ?_⟩⟩
      obtain ⟨u, m', rfl, q1, q2, q3⟩ := nxt m hm hs.1
      have := (List.nodup_append.1 hm.2.1).2.2
      exact this u (hs.2 u q1 q2) u (by simp) rfl
    | some (some t), ⟨s1, s2, s3, s4⟩ =>
      have h1 := hP.ne t s2
      have h2 := s3.length_le
      refine ⟨by omega, rfl, rfl, by rw [List.length_drop]; omega, by rw [List.length_append, List.length_singleton]; omega, fun u hu => ?_, ?_, ?_, fun m hm => ?_⟩
      · rcases List.mem_append.1 hu with hu | hu
        · exact i3 u hu
        · rw [List.mem_singleton.1 hu]; exact s2
      · rw [List.nodup_append]
        refine ⟨i4, List.nodup_cons.2 ⟨by simp, List.nodup_nil⟩, fun u hu v hv => ?_⟩
        rw [List.mem_singleton.1 hv]
        intro e
        exact s4 (e ▸ hu)
      · dsimp only
        rw [List.flatMap_append, List.append_assoc, i5]
        congr 1
        rw [List.flatMap_cons, List.flatMap_nil, List.append_nil]
        obtain ⟨z, hz⟩ := s3
        rw [← hz, List.drop_left]
      · obtain ⟨u, m', rfl, q1, q2, q3⟩ := nxt m hm s1
        have := pre_unique hP q1 s2 q3 (pre_head s3 h1)
        subst this
        exact ⟨m', by simp⟩
  obtain ⟨r, hr, r', hr', rfl, ht⟩ := key
  refine ⟨r, hr, ?_, ht⟩
  unfold assizeref10zlist
  rw [ho]
  exact hr'
end
end Go.Proofs.YtnlkggppokcmfaaT
