/- Layer 10: the parts of a set. -/
import Derived.Test.YtnlkggppokcmfaaTPXF
namespace Go.Proofs.YtnlkggppokcmfaaT
open Go Go.Proofs Go.Proofs.YtnlkggppokcmfaaE
set_option linter.unusedVariables false
set_option linter.unusedSimpArgs false
theorem sub_len {l : List Int} : ∀ {m : List Int}, l.Nodup → (∀ x ∈ l, x ∈ m) → l.length ≤ m.length := by
  induction l with
  | nil => intro m _ _; simp
  | cons x l ih =>
    intro m hn hs
    obtain ⟨h1, h2⟩ := List.nodup_cons.1 hn
    have hx := hs x (by simp)
    have := ih (m := m.erase x) h2 (fun y hy => (List.mem_erase_of_ne (fun (e : y = x) => h1 (e ▸ hy))).2 (hs y (by simp [hy])))
    rw [List.length_erase_of_mem hx] at this
    have : 0 < m.length := List.length_pos_of_mem hx
    simp
    omega
def keysOf (m : List (Int × Unit)) : List Int := m.map (·.1)
theorem mhas_keys {m : List (Int × Unit)} {x : Int} : mhas m x = true ↔ x ∈ keysOf m := by
  unfold mhas keysOf
  simp [List.any_eq_true]
theorem mdel_keys {x : Int} : ∀ {m : List (Int × Unit)}, keysOf (mdel m x) = (keysOf m).erase x
  | [] => rfl
  | p :: m => by
    unfold mdel keysOf
    rw [List.map_cons, List.erase_cons]
    by_cases e : p.1 = x
    · simp [e]
    · rw [if_neg e, if_neg (by simpa using e), List.map_cons]
      congr 1
      exact mdel_keys
theorem mput_keys {x : Int} : ∀ {m : List (Int × Unit)}, x ∉ keysOf m → keysOf (mput m x ()) = keysOf m ++ [x]
  | [], _ => rfl
  | p :: m, h => by
    have h1 : ¬ p.1 = x := fun e => h (by simp [keysOf, e])
    have h2 : x ∉ keysOf m := fun h' => h (by simp only [keysOf, List.map_cons, List.mem_cons]; exact .inr h')
    unfold mput
    rw [if_neg h1]
    show p.1 :: keysOf (mput m x ()) = p.1 :: keysOf m ++ [x]
    rw [mput_keys h2]
    rfl
def cnt (base w : List Int) : Nat := (w.filter (fun v => decide (v ∈ base))).length
theorem cnt_le {base w : List Int} : cnt base w ≤ w.length := List.length_filter_le _ _
theorem cnt_take {base w : List Int} {i : Nat} (hi : i < w.length) : cnt base (w.take (i + 1)) = if idx w (i : Int) ∈ base then cnt base (w.take i) + 1 else cnt base (w.take i) := by
  unfold cnt
  rw [List.take_succ_eq_append_getElem hi, List.filter_append, List.length_append, (idx_eq (n := i) rfl hi : idx w (i : Int) = w[i])]
  by_cases h : w[i] ∈ base <;> simp [h]
def Whole (O : List Int) (W : Int → List Int) (base : List Int) : Prop := (∀ t ∈ O, cnt base (W t) = 0 ∨ cnt base (W t) = (W t).length) ∧ ∀ v ∈ base, ∃ t ∈ O, v ∈ W t
def somes (O : List Int) (W : Int → List Int) (base : List Int) : List Int := O.filter (fun t => decide (0 < cnt base (W t)))
def SetTold (O : List Int) (W : Int → List Int) (base : List Int) (r : List Int × Bool) : Prop := (r = (somes O W base, true) ∧ Whole O W base) ∨ (r = ([], false) ∧ ¬ Whole O W base)
theorem SetTold.det {O : List Int} {W : Int → List Int} {base : List Int} {r s : List Int × Bool} (h1 : SetTold O W base r) (h2 : SetTold O W base s) : r = s := by
  rcases h1 with ⟨rfl, h1⟩ | ⟨rfl, h1⟩ <;> rcases h2 with ⟨rfl, h2⟩ | ⟨rfl, h2⟩
  · rfl
  · exact absurd h1 h2
  · exact absurd h2 h1
  · rfl
section
variable {O : List Int} {W : Int → List Int} {base : List Int}
theorem somes_succ {k : Nat} (hk : k < O.length) : somes (O.take (k + 1)) W base = if 0 < cnt base (W (idx O (k : Int))) then somes (O.take k) W base ++ [idx O (k : Int)] else somes (O.take k) W base := by
  unfold somes
  rw [List.take_succ_eq_append_getElem hk, List.filter_append, (idx_eq (n := k) rfl hk : idx O (k : Int) = O[k])]
  by_cases h : 0 < cnt base (W O[k]) <;> simp [h]
theorem somes_len {k : Nat} : (somes (O.take k) W base).length ≤ O.length := Nat.le_trans (List.length_filter_le _ _) (by rw [List.length_take]; omega)
theorem idx_inj {i j : Nat} (hn : O.Nodup) (hi : i < O.length) (hj : j < O.length) (e : idx O (i : Int) = idx O (j : Int)) : i = j := by
  rw [idx_eq (n := i) rfl hi, idx_eq (n := j) rfl hj] at e
  have hp := List.pairwise_iff_getElem.1 hn
  rcases Nat.lt_trichotomy i j with h | h | h
  · exact absurd e (hp i j hi hj h)
  · exact h
  · exact absurd e.symm (hp j i hj hi h)
theorem set_code (hP : Parts O W) (hO : O.Nodup) (hb : base.length ≤ 64) (hn : base.Nodup) : Tri (source_set base (finL O W)) (SetTold O W base) := by
  have hol := hP.ol
  unfold source_set
  refine tri_upm (k0 := 0) base.length (fun k s => s.2 = (k : Int) ∧ keysOf s.1 = base.take k) (Nat.zero_le _) ⟨rfl, rfl⟩ ?_
  rintro k ⟨m, x⟩ hk ⟨e, hm⟩
  dsimp only at e hm
  subst e
  have hw : w64 ((k : Int) + 1) = ((k + 1 : Nat) : Int) := w64zsucc (by omega)
  unfold source_set.s1
  dsimp only
  rw [hw]
  refine tri_if (fun hk1 => ?_) (fun hk1 => ?_)
  · have hk2 : k < base.length := by omega
    refine tri_must (by omega) (tri_some ⟨hk2, rfl, ?_⟩)
    have hni : idx base (k : Int) ∉ keysOf m := by
      rw [hm]
      intro h
      obtain ⟨i, hi, e⟩ := List.mem_take_iff_getElem.1 h
      have := idx_inj (i := i) (j := k) hn (by omega) hk2 ((idx_eq rfl (by omega)).trans e)
      omega
    dsimp only
    rw [mput_keys hni, hm, List.take_succ_eq_append_getElem hk2, (idx_eq (n := k) rfl hk2 : idx base (k : Int) = base[k])]
  · have : k = base.length := by omega
    subst this
    rw [List.take_length] at hm
    refine tri_upm (k0 := 0) O.length (fun k s => s.1 = somes (O.take k) W base ∧ (keysOf s.2.1).Nodup ∧ (∀ v, v ∈ keysOf s.2.1 ↔ v ∈ base ∧ ∀ j : Nat, j < k → v ∉ W (idx O (j : Int))) ∧ s.2.2 = (k : Int) ∧ ∀ j : Nat, j < k → cnt base (W (idx O (j : Int))) = 0 ∨ cnt base (W (idx O (j : Int))) = (W (idx O (j : Int))).length)
      (Nat.zero_le _) ⟨by simp [somes], by rw [hm]; exact hn, fun v => by rw [hm]; exact ⟨fun h => ⟨h, fun j h => absurd h (Nat.not_lt_zero _)⟩, fun h => h.1⟩, rfl, fun j h => absurd h (Nat.not_lt_zero _)⟩ ?_
    rintro k ⟨l, m, x⟩ hk ⟨e1, e2, e3, e4, e5⟩
    dsimp only at e1 e2 e3 e4 e5
    subst e1 e4
    have hw : w64 ((k : Int) + 1) = ((k + 1 : Nat) : Int) := w64zsucc (by omega)
    have hsl := somes_len (O := O) (W := W) (base := base) (k := k)
    unfold source_set.s2
    dsimp only
    rw [finL_len]
    refine tri_if (fun hk1 => ?_) (fun hk1 => ?_)
    · have hk2 : k < O.length := by omega
      refine tri_must (by omega) ?_
      have ht := idx_mem hk2
      have hss := somes_succ (W := W) (base := base) hk2
      generalize hg : idx O (k : Int) = t at ht hss
      have hwl := hP.wl t ht
      have hwn := hP.nd t ht
      refine tri_upm (k0 := 0) (W t).length (fun i s => (keysOf s.1).Nodup ∧ (∀ v, v ∈ keysOf s.1 ↔ (v ∈ base ∧ ∀ j : Nat, j < k → v ∉ W (idx O (j : Int))) ∧ v ∉ (W t).take i) ∧ s.2.1 = (cnt base ((W t).take i) : Int) ∧ s.2.2 = (i : Int))
        (Nat.zero_le _) ⟨e2, fun v => ⟨fun h => ⟨(e3 v).1 h, by simp⟩, fun h => (e3 v).2 h.1⟩, by simp [cnt], rfl⟩ ?_
      rintro i ⟨m2, c, x⟩ hi ⟨f1, f2, f3, f4⟩
      dsimp only at f1 f2 f3 f4
      subst f3 f4
      have hcl : cnt base ((W t).take i) ≤ i := Nat.le_trans cnt_le (by rw [List.length_take]; omega)
      have hw1 : w64 ((i : Int) + 1) = ((i + 1 : Nat) : Int) := w64zsucc (by omega)
      have hw2 : w64 ((cnt base ((W t).take i) : Int) + 1) = ((cnt base ((W t).take i) + 1 : Nat) : Int) := w64zsucc (by omega)
      unfold source_set.s4 source_set.j5 source_set.j6 source_set.j3
      dsimp only
      rw [hw1, hw2, finL_at hk2, hg]
      dsimp only
      refine tri_if (fun hi1 => ?_) (fun hi1 => ?_)
      · have hi2 : i < (W t).length := by omega
        refine tri_must (by omega) ?_
        have hct := cnt_take (base := base) hi2
        have hmem : ∀ v, v ∈ (W t).take (i + 1) ↔ v ∈ (W t).take i ∨ v = idx (W t) (i : Int) := by
          intro v
          rw [List.take_succ_eq_append_getElem hi2, (idx_eq (n := i) rfl hi2 : idx (W t) (i : Int) = (W t)[i]), List.mem_append, List.mem_singleton]
        have hni : idx (W t) (i : Int) ∉ (W t).take i := by
          intro h
          obtain ⟨j, hj, e⟩ := List.mem_take_iff_getElem.1 h
          have := idx_inj (i := j) (j := i) hwn (by omega) hi2 ((idx_eq rfl (by omega)).trans e)
          omega
        have hout : ∀ j : Nat, j < k → idx (W t) (i : Int) ∉ W (idx O (j : Int)) := by
          intro j hj h
          have := hP.ap _ (idx_mem (show j < O.length by omega)) t ht _ h (idx_mem hi2)
          rw [← hg] at this
          have := idx_inj hO (by omega) hk2 this
          omega
        have hb2 : idx (W t) (i : Int) ∈ keysOf m2 ↔ idx (W t) (i : Int) ∈ base := by
          rw [f2]
          exact ⟨fun h => h.1.1, fun h => ⟨⟨h, hout⟩, hni⟩⟩
        cases hmh : mhas m2 (idx (W t) (i : Int))
        · have hnb : idx (W t) (i : Int) ∉ base := fun h => by rw [mhas_keys.2 (hb2.2 h)] at hmh; cases hmh
          rw [cond_false]
          refine tri_some ⟨hi2, f1, fun v => ?_, ?_, rfl⟩
          · dsimp only
            rw [f2, hmem]
            constructor
            · rintro ⟨h1, h2⟩
              refine ⟨h1, ?_⟩
              rintro (h3 | h3)
              · exact h2 h3
              · subst h3
                exact hnb h1.1
            · rintro ⟨h1, h2⟩
              exact ⟨h1, fun h => h2 (.inl h)⟩
          · dsimp only
            rw [hct, if_neg hnb]
        · have hib : idx (W t) (i : Int) ∈ base := hb2.1 (mhas_keys.1 hmh)
          rw [cond_true]
          refine tri_some ⟨hi2, ?_, fun v => ?_, ?_, rfl⟩
          · dsimp only
            rw [mdel_keys]
            exact f1.erase _
          · dsimp only
            rw [mdel_keys, List.Nodup.mem_erase_iff f1, f2, hmem]
            constructor
            · rintro ⟨h1, h2, h3⟩
              exact ⟨h2, fun h => h.elim h3 h1⟩
            · rintro ⟨h1, h2⟩
              exact ⟨fun h => h2 (.inr h), h1, fun h => h2 (.inl h)⟩
          · dsimp only
            rw [hct, if_pos hib]
      · have : i = (W t).length := by omega
        subst this
        rw [List.take_length] at f2 ⊢
        have hcw : cnt base (W t) ≤ (W t).length := cnt_le
        have fin : ∀ (hc : cnt base (W t) = 0 ∨ cnt base (W t) = (W t).length) (l' : List Int), l' = somes (O.take (k + 1)) W base → Upm O.length k (fun k s => s.1 = somes (O.take k) W base ∧ (keysOf s.2.1).Nodup ∧ (∀ v, v ∈ keysOf s.2.1 ↔ v ∈ base ∧ ∀ j : Nat, j < k → v ∉ W (idx O (j : Int))) ∧ s.2.2 = (k : Int) ∧ ∀ j : Nat, j < k → cnt base (W (idx O (j : Int))) = 0 ∨ cnt base (W (idx O (j : Int))) = (W (idx O (j : Int))).length) (SetTold O W base) (.inl (l', m2, ((k + 1 : Nat) : Int))) := by
          intro hc l' hl'
          refine ⟨hk2, hl', f1, fun v => ?_, rfl, fun j hj => ?_⟩
          · dsimp only
            rw [f2]
            constructor
            · rintro ⟨⟨h1, h2⟩, h3⟩
              refine ⟨h1, fun j hj => ?_⟩
              rcases Nat.lt_or_ge j k with h4 | h4
              · exact h2 j h4
              · have : j = k := by omega
                subst this
                rw [hg]; exact h3
            · rintro ⟨h1, h2⟩
              exact ⟨⟨h1, fun j hj => h2 j (by omega)⟩, by have := h2 k (by omega); rwa [hg] at this⟩
          · rcases Nat.lt_or_ge j k with h4 | h4
            · exact e5 j h4
            · have : j = k := by omega
              subst this
              rw [hg]; exact hc
        have bad : ¬ (cnt base (W t) = 0 ∨ cnt base (W t) = (W t).length) → SetTold O W base ([], false) := fun hc => .inr ⟨rfl, fun hW => hc (hW.1 t ht)⟩
        rw [hw]
        refine tri_if (fun h1 => ?_) (fun h1 => ?_)
        · refine tri_if (fun h2 => ?_) (fun h2 => ?_)
          · exact tri_out (tri_out (tri_out (tri_some (bad (by omega)))))
          · refine tri_if (fun h3 => ?_) (fun h3 => ?_)
            · refine tri_must (by omega) ?_
              refine tri_out (tri_some (fin (by omega) _ ?_))
              rw [hss, if_pos (by omega)]
            · exact absurd h1 h3
        · rw [cond_false]
          refine tri_if (fun h3 => absurd h3 h1) (fun h3 => ?_)
          refine tri_out (tri_some (fin (by omega) _ ?_))
          rw [hss, if_neg (by omega)]
    · have : k = O.length := by omega
      subst this
      rw [List.take_length]
      have hml : 0 < m.length ↔ ∃ v, v ∈ keysOf m := by
        unfold keysOf
        cases m with
        | nil => simp
        | cons p m => exact ⟨fun _ => ⟨p.1, by simp⟩, fun _ => by simp⟩
      have hall : (∀ t ∈ O, cnt base (W t) = 0 ∨ cnt base (W t) = (W t).length) := by
        intro t ht
        obtain ⟨j, hj, rfl⟩ := mem_idx ht
        exact e5 j hj
      refine tri_if (fun h1 => ?_) (fun h1 => ?_)
      · refine tri_out (tri_out (tri_some (.inr ⟨rfl, fun hW => ?_⟩)))
        obtain ⟨v, hv⟩ := hml.1 (by omega)
        obtain ⟨hv1, hv2⟩ := (e3 v).1 hv
        obtain ⟨t, ht, hv3⟩ := hW.2 v hv1
        obtain ⟨j, hj, rfl⟩ := mem_idx ht
        exact hv2 j hj hv3
      · refine tri_out (tri_out (tri_some (.inl ⟨rfl, hall, fun v hv => ?_⟩)))
        apply Classical.byContradiction
        intro hno
        refine h1 ?_
        have := hml.2 ⟨v, (e3 v).2 ⟨hv, fun j hj h => hno ⟨_, idx_mem hj, h⟩⟩⟩
        omega
end
end Go.Proofs.YtnlkggppokcmfaaT
