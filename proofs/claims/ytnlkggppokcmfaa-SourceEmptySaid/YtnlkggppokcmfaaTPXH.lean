/- Layer 10: the parts of a set, of the document. -/
import Derived.Test.YtnlkggppokcmfaaTPXG
namespace Go.Proofs.YtnlkggppokcmfaaT
open Go Go.Proofs Go.Proofs.YtnlkggppokcmfaaE
set_option linter.unusedVariables false
set_option linter.unusedSimpArgs false
theorem holds_told {l : List Int} {v : Int} (hl : l.length < 2 ^ 60) : assizeref10zholds l v = some (decide (v ∈ l)) := by
  refine tri_eq.1 ?_
  unfold assizeref10zholds
  refine tri_upm (k0 := 0) l.length (fun k s => s = (k : Int) ∧ ∀ j : Nat, j < k → idx l (j : Int) ≠ v) (Nat.zero_le _) ⟨rfl, fun j h => absurd h (Nat.not_lt_zero _)⟩ ?_
  rintro k s hk ⟨rfl, hno⟩
  have hw : w64 ((k : Int) + 1) = ((k + 1 : Nat) : Int) := w64zsucc (by omega)
  unfold assizeref10zholds.s1
  dsimp only
  rw [hw]
  refine tri_if (fun hk1 => ?_) (fun hk1 => ?_)
  · have hk2 : k < l.length := by omega
    refine tri_must (by omega) ?_
    refine tri_if (fun h1 => ?_) (fun h1 => ?_)
    · refine tri_out (tri_some ?_)
      show true = decide (v ∈ l)
      rw [eq_comm, decide_eq_true_iff, ← h1]
      exact idx_mem hk2
    · refine tri_some ⟨hk2, rfl, fun j hj => ?_⟩
      rcases Nat.lt_or_ge j k with h2 | h2
      · exact hno j h2
      · have : j = k := by omega
        subst this
        exact h1
  · have : k = l.length := by omega
    subst this
    refine tri_out (tri_some ?_)
    show false = decide (v ∈ l)
    rw [eq_comm, decide_eq_false_iff_not]
    intro h
    obtain ⟨j, hj, e⟩ := mem_idx h
    exact hno j hj e
section
variable {O : List Int} {W : Int → List Int} {base : List Int}
def hits (O : List Int) (W : Int → List Int) (base : List Int) : List Int := O.flatMap (fun t => (W t).filter (fun v => decide (v ∈ base)))
theorem hits_succ {k : Nat} (hk : k < O.length) : (hits (O.take (k + 1)) W base).length = (hits (O.take k) W base).length + cnt base (W (idx O (k : Int))) := by
  unfold hits cnt
  rw [List.take_succ_eq_append_getElem hk, List.flatMap_append, List.length_append, (idx_eq (n := k) rfl hk : idx O (k : Int) = O[k])]
  simp
theorem hits_small (hP : Parts O W) : ∀ k, k ≤ O.length → (hits (O.take k) W base).length ≤ 16 * k := by
  intro k
  induction k with
  | zero => intro _; simp [hits]
  | succ k ih =>
    intro hk
    rw [hits_succ (by omega)]
    have := ih (by omega)
    have h1 := hP.wl _ (idx_mem (show k < O.length by omega))
    have h2 : cnt base (W (idx O (k : Int))) ≤ _ := cnt_le
    omega
theorem hits_mem {v : Int} : v ∈ hits O W base ↔ ∃ t ∈ O, v ∈ W t ∧ v ∈ base := by
  unfold hits
  simp only [List.mem_flatMap, List.mem_filter, decide_eq_true_eq]
theorem hits_nodup (hP : Parts O W) (hO : O.Nodup) : (hits O W base).Nodup := by
  unfold hits List.Nodup
  rw [List.pairwise_flatMap]
  refine ⟨fun t ht => (hP.nd t ht).filter _, List.Pairwise.imp_of_mem (fun {t u} ht hu hne => ?_) hO⟩
  intro x hx y hy e
  subst e
  rw [List.mem_filter] at hx hy
  exact hne (hP.ap t ht u hu x hx.1 hy.1)
theorem hits_full (hP : Parts O W) (hO : O.Nodup) (hn : base.Nodup) : (hits O W base).length = base.length ↔ ∀ v ∈ base, ∃ t ∈ O, v ∈ W t := by
  have hN := hits_nodup (base := base) hP hO
  have hS : ∀ v ∈ hits O W base, v ∈ base := fun v hv => by obtain ⟨_, _, _, h⟩ := hits_mem.1 hv; exact h
  constructor
  · intro e v hv
    apply Classical.byContradiction
    intro hno
    have h1 : v ∉ hits O W base := fun h => by
      obtain ⟨t, ht, h2, _⟩ := hits_mem.1 h
      exact hno ⟨t, ht, h2⟩
    have := sub_len (l := v :: hits O W base) (m := base) (List.nodup_cons.2 ⟨h1, hN⟩) (fun x hx => by
      rcases List.mem_cons.1 hx with rfl | hx
      · exact hv
      · exact hS x hx)
    simp at this
    omega
  · intro hc
    refine Nat.le_antisymm (sub_len hN hS) (sub_len hn (fun v hv => ?_))
    obtain ⟨t, ht, h⟩ := hc v hv
    exact hits_mem.2 ⟨t, ht, h, hv⟩
theorem set_ref {h : History} {a : Ask} (hP : Parts O W) (hO : O.Nodup) (hW : ∀ t ∈ O, assizeref05zWrote h t a.Key = some (W t)) (ho : assizeref10zothers h a = some O) (hb : a.Base.length ≤ 64) (hn : a.Base.Nodup) :
    Tri (assizeref10zset h a) (SetTold O W a.Base) := by
  have hol := hP.ol
  unfold assizeref10zset
  refine tri_bnd ho ?_
  refine tri_upm (k0 := 0) O.length (fun k s => s.1 = somes (O.take k) W a.Base ∧ s.2.1 = ((hits (O.take k) W a.Base).length : Int) ∧ s.2.2 = (k : Int) ∧ ∀ j : Nat, j < k → cnt a.Base (W (idx O (j : Int))) = 0 ∨ cnt a.Base (W (idx O (j : Int))) = (W (idx O (j : Int))).length)
    (Nat.zero_le _) ⟨by simp [somes], by simp [hits], rfl, fun j h => absurd h (Nat.not_lt_zero _)⟩ ?_
  rintro k ⟨l, n, x⟩ hk ⟨e1, e2, e4, e5⟩
  dsimp only at e1 e2 e4 e5
  subst e1 e2 e4
  have hw : w64 ((k : Int) + 1) = ((k + 1 : Nat) : Int) := w64zsucc (by omega)
  have hsl := somes_len (O := O) (W := W) (base := a.Base) (k := k)
  have hsm := hits_small (base := a.Base) hP k hk
  unfold assizeref10zset.s1
  dsimp only
  refine tri_if (fun hk1 => ?_) (fun hk1 => ?_)
  · have hk2 : k < O.length := by omega
    refine tri_must (by omega) ?_
    have ht := idx_mem hk2
    have hss := somes_succ (W := W) (base := a.Base) hk2
    have hhs := hits_succ (W := W) (base := a.Base) hk2
    refine tri_bnd (hW _ ht) ?_
    generalize hg : idx O (k : Int) = t at ht hss hhs
    have hwl := hP.wl t ht
    refine tri_upm (k0 := 0) (W t).length (fun i s => s.1 = (cnt a.Base ((W t).take i) : Int) ∧ s.2 = (i : Int)) (Nat.zero_le _) ⟨by simp [cnt], rfl⟩ ?_
    rintro i ⟨c, x⟩ hi ⟨f3, f4⟩
    dsimp only at f3 f4
    subst f3 f4
    have hcl : cnt a.Base ((W t).take i) ≤ i := Nat.le_trans cnt_le (by rw [List.length_take]; omega)
    have hw1 : w64 ((i : Int) + 1) = ((i + 1 : Nat) : Int) := w64zsucc (by omega)
    have hw2 : w64 ((cnt a.Base ((W t).take i) : Int) + 1) = ((cnt a.Base ((W t).take i) + 1 : Nat) : Int) := w64zsucc (by omega)
    unfold assizeref10zset.s3 assizeref10zset.j4 assizeref10zset.j5 assizeref10zset.j2
    dsimp only
    rw [hw1, hw2, hg]
    refine tri_if (fun hi1 => ?_) (fun hi1 => ?_)
    · have hi2 : i < (W t).length := by omega
      refine tri_must (by omega) ?_
      have hct := cnt_take (base := a.Base) hi2
      refine tri_bnd (holds_told (by omega)) ?_
      refine tri_if (fun h1 => ?_) (fun h1 => ?_)
      · refine tri_some ⟨hi2, ?_, rfl⟩
        dsimp only
        rw [hct, if_pos h1]
      · refine tri_some ⟨hi2, ?_, rfl⟩
        dsimp only
        rw [hct, if_neg h1]
    · have : i = (W t).length := by omega
      subst this
      rw [List.take_length]
      have hcw : cnt a.Base (W t) ≤ (W t).length := cnt_le
      have hw3 : w64 (((hits (O.take k) W a.Base).length : Int) + (cnt a.Base (W t) : Int)) = (((hits (O.take k) W a.Base).length + cnt a.Base (W t) : Nat) : Int) := by rw [w64zid (by omega) (by omega)]; omega
      have bad : ¬ (cnt a.Base (W t) = 0 ∨ cnt a.Base (W t) = (W t).length) → SetTold O W a.Base ([], false) := fun hc => .inr ⟨rfl, fun hW => hc (hW.1 t ht)⟩
      have five : (cnt a.Base (W t) = 0 ∨ cnt a.Base (W t) = (W t).length) → ∀ j : Nat, j < k + 1 → cnt a.Base (W (idx O (j : Int))) = 0 ∨ cnt a.Base (W (idx O (j : Int))) = (W (idx O (j : Int))).length := by
        intro hc j hj
        rcases Nat.lt_or_ge j k with h4 | h4
        · exact e5 j h4
        · have : j = k := by omega
          subst this
          rw [hg]; exact hc
      rw [hw, hw3]
      refine tri_if (fun h1 => ?_) (fun h1 => ?_)
      · refine tri_if (fun h2 => ?_) (fun h2 => ?_)
        · exact tri_out (tri_out (tri_some (bad (by omega))))
        · refine tri_if (fun h3 => ?_) (fun h3 => absurd h1 h3)
          refine tri_must (by omega) ?_
          refine tri_out (tri_some ⟨hk2, ?_, ?_, rfl, five (by omega)⟩)
          · dsimp only
            rw [hss, if_pos (by omega)]
          · dsimp only
            rw [hhs]
      · rw [cond_false]
        refine tri_if (fun h3 => absurd h3 h1) (fun h3 => ?_)
        refine tri_out (tri_some ⟨hk2, ?_, ?_, rfl, five (by omega)⟩)
        · dsimp only
          rw [hss, if_neg (by omega)]
        · dsimp only
          rw [hhs]
          omega
  · have : k = O.length := by omega
    subst this
    rw [List.take_length]
    have hall : (∀ t ∈ O, cnt a.Base (W t) = 0 ∨ cnt a.Base (W t) = (W t).length) := by
      intro t ht
      obtain ⟨j, hj, rfl⟩ := mem_idx ht
      exact e5 j hj
    have hfull := hits_full hP hO hn
    refine tri_if (fun h1 => ?_) (fun h1 => ?_)
    · refine tri_out (tri_some (.inr ⟨rfl, fun hW => ?_⟩))
      have := hfull.2 hW.2
      omega
    · exact tri_out (tri_some (.inl ⟨rfl, hall, hfull.1 (by omega)⟩))
theorem set_told {h : History} {a : Ask} (hP : Parts O W) (hO : O.Nodup) (hW : ∀ t ∈ O, assizeref05zWrote h t a.Key = some (W t)) (ho : assizeref10zothers h a = some O) (hb : a.Base.length ≤ 64) (hn : a.Base.Nodup) :
    ∃ r, source_set a.Base (finL O W) = some r ∧ assizeref10zset h a = some r ∧ SetTold O W a.Base r := by
  obtain ⟨r, hr, h1⟩ := set_code hP hO hb hn
  obtain ⟨s, hs, h2⟩ := set_ref hP hO hW ho hb hn
  obtain rfl := h1.det h2
  exact ⟨r, hr, hs, h1⟩
end
theorem writers_nodup {h : History} {key : Int} {k : Nat} : (writersUp h key k).Nodup := by
  unfold writersUp List.Nodup
  rw [List.pairwise_map]
  refine ((List.nodup_range (n := k)).filter _).imp (fun {a b} hne e => hne (by omega))
theorem others_nodup {h : History} {a : Ask} {k : Nat} : (othersUp h a k).Nodup := writers_nodup.filter _
end Go.Proofs.YtnlkggppokcmfaaT
