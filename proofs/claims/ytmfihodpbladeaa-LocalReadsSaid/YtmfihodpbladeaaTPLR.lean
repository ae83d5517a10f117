/- The law LocalReads: what each read asks, with the own writes, makes what was read. -/
import Derived.Test.YtmfihodpbladeaaTPLC
import Derived.Test.YtmfihodpbladeaaTPST
namespace Go.Proofs.YtmfihodpbladeaaT
open Go Go.Proofs Go.Proofs.YtmfihodpbladeaaE
set_option linter.unusedVariables false
set_option linter.unusedSimpArgs false

theorem own_told {t : Txn} {key : Int} {p : Nat} (hp : p ≤ t.Ops.length) (h16 : t.Ops.length ≤ 16) : assizelaw09zown t key (p : Int) = some (ownL t.Ops key p) := by
  refine tri_eq.1 ?_
  unfold assizelaw09zown
  refine tri_upm (k0 := 0) p (fun j s => s = (ownL t.Ops key j, (j : Int))) (Nat.zero_le _) rfl ?_
  rintro j s hj rfl
  have l4 := ownL_len (ops := t.Ops) (key := key) (p := j)
  have hwj : w64 ((j : Int) + 1) = ((j + 1 : Nat) : Int) := w64zsucc (by omega)
  have hn : j < t.Ops.length → ownL t.Ops key (j + 1) = _ := fun hk => ownL_succ hk
  unfold assizelaw09zown.s1 assizelaw09zown.j3 assizelaw09zown.j2
  simp only [cond_true, cond_false, hwj]
  repeat' (first | contradiction | with_reducible refine tri_if (fun hq => ?_) (fun hq => ?_) | with_reducible refine tri_must (by first | omega | grind [w64zin]) ?_ | with_reducible refine tri_out ?_ | with_reducible refine tri_sb ?_ | with_reducible refine tri_cb ?_ | with_reducible refine tri_mb ?_ | with_reducible refine tri_bb ?_ | with_reducible refine tri_some ?_)
  all_goals grind [Upm]
/-- those from a place on -/
def asksFrom (ops : List Op) (t : Int) (p n : Nat) : List Ask := (List.range' p n).flatMap (askAt ops t)
def spotsFrom (ops : List Op) (t : Int) (p n : Nat) : List Spot := (List.range' p n).flatMap (spotAt ops t)
theorem asks_split {ops : List Op} {t : Int} {p n : Nat} : asksUp ops t (p + n) = asksUp ops t p ++ asksFrom ops t p n := by
  unfold asksUp asksFrom
  rw [List.range_eq_range', List.range_eq_range', ← List.flatMap_append]
  congr 1
  have := List.range'_append (s := 0) (m := p) (n := n) (step := 1)
  simp at this
  exact this.symm
theorem spots_split {ops : List Op} {t : Int} {p n : Nat} : spotsUp ops t (p + n) = spotsUp ops t p ++ spotsFrom ops t p n := by
  unfold spotsUp spotsFrom
  rw [List.range_eq_range', List.range_eq_range', ← List.flatMap_append]
  congr 1
  have := List.range'_append (s := 0) (m := p) (n := n) (step := 1)
  simp at this
  exact this.symm
theorem askAt_place {ops : List Op} {t : Int} {p : Nat} : ∀ a ∈ askAt ops t p, a.Place = (p : Int) := by
  intro a ha
  unfold askAt at ha
  dsimp only at ha
  split at ha
  · simp at ha
  · split at ha
    · simp at ha; rw [ha]
    · split at ha
      · simp at ha; rw [ha]
      · simp at ha
theorem spotAt_place {ops : List Op} {t : Int} {p : Nat} : ∀ a ∈ spotAt ops t p, a.Place = (p : Int) := by
  intro a ha
  unfold spotAt at ha
  dsimp only at ha
  split at ha
  · simp at ha
  · split at ha
    · simp at ha
    · split at ha
      · simp at ha
      · simp at ha; rw [ha]
theorem asksFrom_place {ops : List Op} {t : Int} {p n : Nat} : ∀ a ∈ asksFrom ops t p n, (p : Int) ≤ a.Place := by
  intro a ha
  unfold asksFrom at ha
  obtain ⟨q, hq, ha⟩ := List.mem_flatMap.1 ha
  rw [askAt_place a ha]
  have := List.mem_range'.1 hq
  obtain ⟨i, hi, rfl⟩ := this
  omega
theorem spotsFrom_place {ops : List Op} {t : Int} {p n : Nat} : ∀ a ∈ spotsFrom ops t p n, (p : Int) ≤ a.Place := by
  intro a ha
  unfold spotsFrom at ha
  obtain ⟨q, hq, ha⟩ := List.mem_flatMap.1 ha
  rw [spotAt_place a ha]
  have := List.mem_range'.1 hq
  obtain ⟨i, hi, rfl⟩ := this
  omega
/-- what stands next among the asks -/
theorem ask_next {ops : List Op} {t : Int} {p n : Nat} (hp : p < n) :
    (askAt ops t p = [] ∧ ((asksUp ops t p).length < (asksUp ops t n).length → (idx (asksUp ops t n) ((asksUp ops t p).length : Int)).Place ≠ (p : Int))) ∨
    (∃ a, askAt ops t p = [a] ∧ (asksUp ops t p).length < (asksUp ops t n).length ∧ idx (asksUp ops t n) ((asksUp ops t p).length : Int) = a ∧ a.Place = (p : Int)) := by
  have hs := asks_split (ops := ops) (t := t) (p := p + 1) (n := n - (p + 1))
  rw [show p + 1 + (n - (p + 1)) = n by omega, asksUp_succ] at hs
  have hcase : askAt ops t p = [] ∨ ∃ a, askAt ops t p = [a] := by
    unfold askAt
    dsimp only
    split
    · exact .inl rfl
    · split
      · exact .inr ⟨_, rfl⟩
      · split
        · exact .inr ⟨_, rfl⟩
        · exact .inl rfl
  rcases hcase with h | ⟨a, h⟩
  · left
    refine ⟨h, fun hl => ?_⟩
    rw [h, List.append_nil] at hs
    rw [hs] at hl ⊢
    have hl2 : 0 < (asksFrom ops t (p + 1) (n - (p + 1))).length := by simp at hl; omega
    have e : idx (asksUp ops t p ++ asksFrom ops t (p + 1) (n - (p + 1))) ((asksUp ops t p).length : Int) = (asksFrom ops t (p + 1) (n - (p + 1)))[0] := by
      rw [idx_eq rfl hl, List.getElem_append_right (Nat.le_refl _)]
      congr 1
      omega
    rw [e]
    have := asksFrom_place _ (List.getElem_mem hl2)
    omega
  · right
    refine ⟨a, h, ?_, ?_, askAt_place a (by rw [h]; simp)⟩
    · rw [hs, h]; simp
    · have hl : (asksUp ops t p).length < (asksUp ops t p ++ [a] ++ asksFrom ops t (p + 1) (n - (p + 1))).length := by simp
      rw [hs, h, idx_eq rfl hl]
      simp
theorem spot_next {ops : List Op} {t : Int} {p n : Nat} (hp : p < n) :
    (spotAt ops t p = [] ∧ ((spotsUp ops t p).length < (spotsUp ops t n).length → (idx (spotsUp ops t n) ((spotsUp ops t p).length : Int)).Place ≠ (p : Int))) ∨
    (∃ a, spotAt ops t p = [a] ∧ (spotsUp ops t p).length < (spotsUp ops t n).length ∧ idx (spotsUp ops t n) ((spotsUp ops t p).length : Int) = a ∧ a.Place = (p : Int)) := by
  have hs := spots_split (ops := ops) (t := t) (p := p + 1) (n := n - (p + 1))
  rw [show p + 1 + (n - (p + 1)) = n by omega, spotsUp_succ] at hs
  have hcase : spotAt ops t p = [] ∨ ∃ a, spotAt ops t p = [a] := by
    unfold spotAt
    dsimp only
    split
    · exact .inl rfl
    · split
      · exact .inl rfl
      · split
        · exact .inl rfl
        · exact .inr ⟨_, rfl⟩
  rcases hcase with h | ⟨a, h⟩
  · left
    refine ⟨h, fun hl => ?_⟩
    rw [h, List.append_nil] at hs
    rw [hs] at hl ⊢
    have hl2 : 0 < (spotsFrom ops t (p + 1) (n - (p + 1))).length := by simp at hl; omega
    have e : idx (spotsUp ops t p ++ spotsFrom ops t (p + 1) (n - (p + 1))) ((spotsUp ops t p).length : Int) = (spotsFrom ops t (p + 1) (n - (p + 1)))[0] := by
      rw [idx_eq rfl hl, List.getElem_append_right (Nat.le_refl _)]
      congr 1
      omega
    rw [e]
    have := spotsFrom_place _ (List.getElem_mem hl2)
    omega
  · right
    refine ⟨a, h, ?_, ?_, spotAt_place a (by rw [h]; simp)⟩
    · rw [hs, h]; simp
    · have hl : (spotsUp ops t p).length < (spotsUp ops t p ++ [a] ++ spotsFrom ops t (p + 1) (n - (p + 1))).length := by simp
      rw [hs, h, idx_eq rfl hl]
      simp
/-- the own writes, on what is asked, make what was read -/
theorem makes_told {h : History} {t : Int} {x y k' : Int} {mine : List Int} {base : List Int} {Q : (Int × Int × Int) ⊕ Bool → Prop} {o : Op} (ho : idx (idx h.Txns t).Ops x = o)
    (h5 : 5 ≤ o.Kind) (h8 : o.Kind ≤ 8) (hv : o.Vals.length ≤ 64) (hm : mine.length ≤ 16) (hw : ∀ z ∈ o.Vals, -(2 ^ 63) ≤ z ∧ z < 2 ^ 63)
    (hb : (mine = [] ∧ base = o.Vals) ∨ (mine ≠ [] ∧ (before (o.Kind - 4) o.Vals mine).2 = true ∧ o.Kind ≠ 5 ∧ base = (before (o.Kind - 4) o.Vals mine).1))
    (hgoal : Tri (assizelaw09zLocalReads.j2 x (w64 (y + 1)) k') Q) :
    Tri (iter (assizelaw09zLocalReads.s10 h t y x mine k') (base, 0, 0)) Q := by
  have hty : w64 (((w64 (o.Kind - 1)).tmod (4 : Int)) + 1) = o.Kind - 4 := by
    have hO := Of_told (k := o.Kind) (by omega) h8
    unfold assizeref05zOf at hO
    rw [Option.some.inj hO, typ_read h5 h8]
  have hmid : mine ≠ [] → chk (o.Kind - 4) o.Vals = 0 ∧ o.Kind - 4 ≠ 1 ∧ (o.Kind - 4 = 2 → mine.length ≤ o.Vals.length ∧ o.Vals.drop (o.Vals.length - mine.length) = mine) ∧ (o.Kind - 4 = 3 → Fit o.Vals mine) ∧ mids (o.Kind - 4) o.Vals mine 0 base := by
    intro hne
    rcases hb with ⟨h0, _⟩ | ⟨_, h1, h2, rfl⟩
    · exact absurd h0 hne
    · obtain ⟨a1, a2, a3⟩ := before_mid h1 (by omega) hw
      exact ⟨(before_chk h1).1, by omega, a1, a2, a3⟩
  have hsmall : mine ≠ [] → ∀ k l, k ≤ mine.length → mids (o.Kind - 4) o.Vals mine k l → l.length ≤ 64 := fun hne k l hk hl => (mid_chk hk (hmid hne).1 (hmid hne).2.1 (hmid hne).2.2.2.1 hl).2
  refine tri_upm (k0 := 0) mine.length (fun k s => s.2.1 = 0 ∧ s.2.2 = (k : Int) ∧ ((mine = [] ∧ s.1 = o.Vals) ∨ (mine ≠ [] ∧ mids (o.Kind - 4) o.Vals mine k s.1))) (Nat.zero_le _) ⟨rfl, rfl, ?_⟩ ?_
  · rcases hb with ⟨h0, h1⟩ | ⟨h1, _⟩
    · exact .inl ⟨h0, h1⟩
    · exact .inr ⟨h1, (hmid h1).2.2.2.2⟩
  rintro k ⟨l, e, j⟩ hk ⟨he, hj, hl⟩
  dsimp only at he hj hl
  subst he hj
  have hwk : w64 ((k : Int) + 1) = ((k + 1 : Nat) : Int) := w64zsucc (by omega)
  have hll : l.length ≤ 64 := by
    rcases hl with ⟨_, rfl⟩ | ⟨h1, h2⟩
    · exact hv
    · exact hsmall h1 k l hk h2
  have hA := state_Apply_told (o.Kind - 4) (s := l) (idx mine (k : Int)) (by omega)
  have hS := SameVals_told (a := l) (b := o.Vals) (by omega)
  unfold assizelaw09zLocalReads.s10 assizelaw09zLocalReads.j11 assizelaw09zLocalReads.j12
  simp only [cond_true, cond_false, ho, hty, hwk]
  refine tri_if (fun hk1 => ?_) (fun hk1 => ?_)
  · have hk2 : k < mine.length := by omega
    have hne : mine ≠ [] := by rintro rfl; simp at hk2
    rcases hl with ⟨h0, _⟩ | ⟨_, hl⟩
    · exact absurd h0 hne
    · obtain ⟨b1, b2, b3, b4, _⟩ := hmid hne
      obtain ⟨c1, c2⟩ := mid_next hk2 b1 b2 b3 b4 hl
      repeat' (first | contradiction | with_reducible refine tri_if (fun hq => ?_) (fun hq => ?_) | with_reducible refine tri_must (by first | omega | grind [w64zin]) ?_ | with_reducible refine tri_out ?_ | with_reducible refine tri_sb ?_ | with_reducible refine tri_cb ?_ | with_reducible refine tri_mb ?_ | with_reducible refine tri_bb ?_ | with_reducible refine tri_some ?_ | refine tri_bnd hA ?_)
      · exact ⟨hk2, c1, rfl, .inr ⟨hne, c2⟩⟩
  · have hk2 : k = mine.length := by omega
    have heq : l = o.Vals := by
      rcases hl with ⟨_, h1⟩ | ⟨hne, hl⟩
      · exact h1
      · obtain ⟨b1, b2, b3, b4, _⟩ := hmid hne
        subst hk2
        exact mid_end b1 b2 b3 b4 hw hl
    repeat' (first | contradiction | with_reducible refine tri_if (fun hq => ?_) (fun hq => ?_) | with_reducible refine tri_must (by first | omega | grind [w64zin]) ?_ | with_reducible refine tri_out ?_ | with_reducible refine tri_sb ?_ | with_reducible refine tri_cb ?_ | with_reducible refine tri_mb ?_ | with_reducible refine tri_bb ?_ | with_reducible refine tri_some ?_ | refine tri_bnd hS ?_ | exact tri_mono hgoal (fun _ h => h))
    all_goals grind
theorem read_cases {ops : List Op} {q : Int} {p : Nat} : ((idx ops (p : Int)).Kind ≤ 4 ∧ askAt ops q p = [] ∧ spotAt ops q p = []) ∨
            (5 ≤ (idx ops (p : Int)).Kind ∧ spotAt ops q p = [] ∧ ∃ a, askAt ops q p = [a] ∧ a.Txn = q ∧ a.Key = (idx ops (p : Int)).Key ∧ ((ownL ops (idx ops (p : Int)).Key p = [] ∧ a.Base = (idx ops (p : Int)).Vals) ∨ (ownL ops (idx ops (p : Int)).Key p ≠ [] ∧ (before ((idx ops (p : Int)).Kind - 4) (idx ops (p : Int)).Vals (ownL ops (idx ops (p : Int)).Key p)).2 = true ∧ (idx ops (p : Int)).Kind ≠ 5 ∧ a.Base = (before ((idx ops (p : Int)).Kind - 4) (idx ops (p : Int)).Vals (ownL ops (idx ops (p : Int)).Key p)).1))) ∨
            (5 ≤ (idx ops (p : Int)).Kind ∧ askAt ops q p = [] ∧ ∃ b, spotAt ops q p = [b]) ∨
            ((idx ops (p : Int)).Kind = 5 ∧ askAt ops q p = [] ∧ spotAt ops q p = [] ∧ ownL ops (idx ops (p : Int)).Key p ≠ []) := by
  by_cases h4 : (idx ops (p : Int)).Kind ≤ 4
  · left; exact ⟨h4, by simp [askAt, h4], by simp [spotAt, h4]⟩
  · by_cases h0 : ownL ops (idx ops (p : Int)).Key p = []
    · right; left
      exact ⟨by omega, by simp [spotAt, h4, h0], _, by unfold askAt; dsimp only; rw [if_neg h4, if_pos h0], rfl, rfl, .inl ⟨h0, rfl⟩⟩
    · by_cases hb : (before ((idx ops (p : Int)).Kind - 4) (idx ops (p : Int)).Vals (ownL ops (idx ops (p : Int)).Key p)).2 = true
      · by_cases h5 : (idx ops (p : Int)).Kind = 5
        · right; right; right
          refine ⟨h5, ?_, ?_, h0⟩
          · unfold askAt; dsimp only; rw [if_neg h4, if_neg h0, if_neg (fun hh => hh.2 h5)]
          · unfold spotAt; dsimp only; rw [if_neg h4, if_neg h0, if_pos hb]
        · right; left
          refine ⟨by omega, ?_, ⟨q, (p : Int), (idx ops (p : Int)).Key, (before ((idx ops (p : Int)).Kind - 4) (idx ops (p : Int)).Vals (ownL ops (idx ops (p : Int)).Key p)).1⟩, ?_, rfl, rfl, .inr ⟨h0, hb, h5, rfl⟩⟩
          · unfold spotAt; dsimp only; rw [if_neg h4, if_neg h0, if_pos hb]
          · unfold askAt; dsimp only; rw [if_neg h4, if_neg h0, if_pos ⟨hb, h5⟩]
      · right; right; left
        refine ⟨by omega, ?_, ⟨q, (p : Int)⟩, ?_⟩
        · unfold askAt; dsimp only; rw [if_neg h4, if_neg h0, if_neg (fun hh => hb hh.1)]
        · unfold spotAt; dsimp only; rw [if_neg h4, if_neg h0, if_neg hb]
theorem LocalReads_law (h : History) (t : Int) {K : ByteArray → Prop} (g : HG K h) (gt : (Lit.int .i64 t).wf = true) : assizelaw09zLocalReads h t = some true := by
  have hs := g.small
  refine tri_eq.1 ?_
  unfold assizelaw09zLocalReads
  rw [assizelaw09zalive_true]
  refine tri_sb ?_
  rw [Bool.not_true, cond_false]
  rcases Look_told hs t with ⟨h1, h2, _⟩ | ⟨hS, q, rfl, hq, h1, h2, _⟩
  · rw [h1]
    repeat' (first | contradiction | with_reducible refine tri_if (fun hq => ?_) (fun hq => ?_) | with_reducible refine tri_must (by first | omega | grind [w64zin]) ?_ | with_reducible refine tri_out ?_ | with_reducible refine tri_sb ?_ | with_reducible refine tri_cb ?_ | with_reducible refine tri_mb ?_ | with_reducible refine tri_bb ?_ | with_reducible refine tri_some ?_)
    all_goals simp_all
  · rw [h1]
    refine tri_sb ?_
    dsimp only
    rw [bne_self_eq_false, cond_false]
    refine tri_must (by omega) ?_
    have hok := hS.txn q hq
    have ho := hok.ops
    have hwf : ∀ p : Nat, p < (idx h.Txns (q : Int)).Ops.length → ∀ z ∈ (idx (idx h.Txns (q : Int)).Ops (p : Int)).Vals, -(2 ^ 63) ≤ z ∧ z < 2 ^ 63 := fun p hp z hz => by
      have hT := g.2.1 (idx h.Txns (q : Int)) (by rw [idx_eq rfl hq]; exact List.getElem_mem hq)
      have hO := hT.2.2.2.2.1 (idx (idx h.Txns (q : Int)).Ops (p : Int)) (by rw [idx_eq rfl hp]; exact List.getElem_mem hp)
      exact wf_range (hO.2.2.2.2.1 z hz)
    have hown : ∀ (key : Int) (p : Nat), p ≤ (idx h.Txns (q : Int)).Ops.length → _ := fun key p hp => own_told (t := idx h.Txns (q : Int)) (key := key) hp ho.1
    unfold asksOf spotsOf
    generalize hT : idx h.Txns (q : Int) = T at ho hwf hown
    obtain ⟨h16, hall⟩ := ho
    refine tri_upm (k0 := 0) T.Ops.length (fun p s => s = (if T.Status = 1 then ((asksUp T.Ops (q : Int) p).length : Int) else 0, if T.Status = 1 then ((spotsUp T.Ops (q : Int) p).length : Int) else 0, (p : Int))) (Nat.zero_le _) (by split <;> rfl) ?_
    rintro p s hp rfl
    have hwp : w64 ((p : Int) + 1) = ((p + 1 : Nat) : Int) := w64zsucc (by omega)
    have l1 := asksUp_len (ops := T.Ops) (t := (q : Int)) (k := p)
    have l2 := spotsUp_len (ops := T.Ops) (t := (q : Int)) (k := p)
    have l3 := ownL_len (ops := T.Ops) (key := (idx T.Ops (p : Int)).Key) (p := p)
    unfold assizelaw09zLocalReads.s1
    simp only [hT]
    refine tri_if (fun hp1 => ?_) (fun hp1 => ?_)
    · have hp2 : p < T.Ops.length := by omega
      obtain ⟨o1, o2, o3⟩ := hall p hp2
      refine tri_must (by omega) ?_
      have hO := hown (idx T.Ops (p : Int)).Key p (by omega)
      by_cases hst : T.Status = 1
      · simp only [if_pos hst]
        have hA := asksUp_succ (ops := T.Ops) (t := (q : Int)) (k := p)
        have hB := spotsUp_succ (ops := T.Ops) (t := (q : Int)) (k := p)
        have hAn := ask_next (ops := T.Ops) (t := (q : Int)) hp2
        have hBn := spot_next (ops := T.Ops) (t := (q : Int)) hp2
        have dA : askAt T.Ops (q : Int) p = if (idx T.Ops (p : Int)).Kind ≤ 4 then [] else if ownL T.Ops (idx T.Ops (p : Int)).Key p = [] then [⟨(q : Int), p, (idx T.Ops (p : Int)).Key, (idx T.Ops (p : Int)).Vals⟩] else if (before ((idx T.Ops (p : Int)).Kind - 4) (idx T.Ops (p : Int)).Vals (ownL T.Ops (idx T.Ops (p : Int)).Key p)).2 = true ∧ (idx T.Ops (p : Int)).Kind ≠ 5 then [⟨(q : Int), p, (idx T.Ops (p : Int)).Key, (before ((idx T.Ops (p : Int)).Kind - 4) (idx T.Ops (p : Int)).Vals (ownL T.Ops (idx T.Ops (p : Int)).Key p)).1⟩] else [] := rfl
        have dB : spotAt T.Ops (q : Int) p = if (idx T.Ops (p : Int)).Kind ≤ 4 then [] else if ownL T.Ops (idx T.Ops (p : Int)).Key p = [] then [] else if (before ((idx T.Ops (p : Int)).Kind - 4) (idx T.Ops (p : Int)).Vals (ownL T.Ops (idx T.Ops (p : Int)).Key p)).2 = true then [] else [⟨(q : Int), p⟩] := rfl
        have hnil : ∀ l : List Int, l = [] ↔ l.length = 0 := fun l => List.length_eq_zero_iff.symm
        have hwA : w64 (((asksUp T.Ops (q : Int) p).length : Int) + 1) = (((asksUp T.Ops (q : Int) p).length + 1 : Nat) : Int) := w64zsucc (by omega)
        have hwB : w64 (((spotsUp T.Ops (q : Int) p).length : Int) + 1) = (((spotsUp T.Ops (q : Int) p).length + 1 : Nat) : Int) := w64zsucc (by omega)
        generalize hAl : asksUp T.Ops (q : Int) T.Ops.length = AL at hAn
        generalize hBl : spotsUp T.Ops (q : Int) T.Ops.length = BL at hBn
        -- whether an ask, whether a bad spot stands here
        have hask : ∀ {Q : (Int × Int × Int) ⊕ Bool → Prop} (f : Bool → Option ((Int × Int × Int) ⊕ Bool)), Tri (f (decide (askAt T.Ops (q : Int) p ≠ []))) Q →
            Tri (bif decide (((asksUp T.Ops (q : Int) p).length : Int) < (AL.length : Int)) then must (0 ≤ ((asksUp T.Ops (q : Int) p).length : Int) ∧ ((asksUp T.Ops (q : Int) p).length : Int) < (AL.length : Int)) (f ((idx AL ((asksUp T.Ops (q : Int) p).length : Int)).Place == (p : Int))) else f false) Q := by
          intro Q f hf
          refine tri_if (fun hl => ?_) (fun hl => ?_)
          · refine tri_must (by omega) ?_
            rcases hAn with ⟨a0, a1⟩ | ⟨a, a0, a1, a2, a3⟩
            · have : ((idx AL ((asksUp T.Ops (q : Int) p).length : Int)).Place == (p : Int)) = false := by rw [beq_eq_false_iff_ne]; exact a1 (by omega)
              rw [this]; rw [a0] at hf; exact hf
            · rw [a2, a3]; rw [a0] at hf; simpa using hf
          · rcases hAn with ⟨a0, a1⟩ | ⟨a, a0, a1, a2, a3⟩
            · rw [a0] at hf; exact hf
            · omega
        have hspot : ∀ {Q : (Int × Int × Int) ⊕ Bool → Prop} (f : Bool → Option ((Int × Int × Int) ⊕ Bool)), Tri (f (decide (spotAt T.Ops (q : Int) p ≠ []))) Q →
            Tri (bif decide (((spotsUp T.Ops (q : Int) p).length : Int) < (BL.length : Int)) then must (0 ≤ ((spotsUp T.Ops (q : Int) p).length : Int) ∧ ((spotsUp T.Ops (q : Int) p).length : Int) < (BL.length : Int)) (f ((idx BL ((spotsUp T.Ops (q : Int) p).length : Int)).Place == (p : Int))) else f false) Q := by
          intro Q f hf
          refine tri_if (fun hl => ?_) (fun hl => ?_)
          · refine tri_must (by omega) ?_
            rcases hBn with ⟨a0, a1⟩ | ⟨a, a0, a1, a2, a3⟩
            · have : ((idx BL ((spotsUp T.Ops (q : Int) p).length : Int)).Place == (p : Int)) = false := by rw [beq_eq_false_iff_ne]; exact a1 (by omega)
              rw [this]; rw [a0] at hf; exact hf
            · rw [a2, a3]; rw [a0] at hf; simpa using hf
          · rcases hBn with ⟨a0, a1⟩ | ⟨a, a0, a1, a2, a3⟩
            · rw [a0] at hf; exact hf
            · omega
        refine hask (assizelaw09zLocalReads.j3 h (q : Int) (AL, BL, 0) ((asksUp T.Ops (q : Int) p).length : Int) ((spotsUp T.Ops (q : Int) p).length : Int) (p : Int)) ?_
        unfold assizelaw09zLocalReads.j3
        refine hspot (assizelaw09zLocalReads.j4 h (q : Int) (AL, BL, 0) ((asksUp T.Ops (q : Int) p).length : Int) ((spotsUp T.Ops (q : Int) p).length : Int) (p : Int) (decide (askAt T.Ops (q : Int) p ≠ []))) ?_
        unfold assizelaw09zLocalReads.j4
        rw [hT]
        refine tri_bnd hO ?_
        have hcase := read_cases (ops := T.Ops) (q := (q : Int)) (p := p)
        unfold assizelaw09zLocalReads.j5 assizelaw09zLocalReads.j6 assizelaw09zLocalReads.j7 assizelaw09zLocalReads.j8 assizelaw09zLocalReads.j9
        simp only [hst, hT]
        rcases hcase with ⟨c1, c2, c3⟩ | ⟨c1, c2, a, c3, c4, c5, c6⟩ | ⟨c1, c2, b, c3⟩ | ⟨c1, c2, c3, c4⟩
        · rw [c2, c3]
          rw [c2, List.append_nil] at hA
          rw [c3, List.append_nil] at hB
          simp only [ne_eq, not_true_eq_false, decide_false, cond_false, cond_true]
          unfold assizelaw09zLocalReads.j2
          repeat' (first | contradiction | with_reducible refine tri_if (fun hq => ?_) (fun hq => ?_) | with_reducible refine tri_must (by first | omega | grind [w64zin]) ?_ | with_reducible refine tri_out ?_ | with_reducible refine tri_sb ?_ | with_reducible refine tri_cb ?_ | with_reducible refine tri_mb ?_ | with_reducible refine tri_bb ?_ | with_reducible refine tri_some ?_)
          all_goals first | omega | skip
          exact ⟨hp2, by dsimp only; rw [hA, hB, hwp]⟩
        · have hne : askAt T.Ops (q : Int) p ≠ [] := by rw [c3]; simp
          have hat : ((asksUp T.Ops (q : Int) p).length : Int) < (AL.length : Int) ∧ idx AL ((asksUp T.Ops (q : Int) p).length : Int) = a := by
            rcases hAn with ⟨a0, a1⟩ | ⟨a', a0, a1, a2, a3⟩
            · exact absurd a0 hne
            · rw [c3] at a0
              have : a = a' := by injection a0
              exact ⟨by omega, by rw [a2, this]⟩
          rw [c2]
          rw [c3] at hA
          rw [c2, List.append_nil] at hB
          have hgo : Tri (assizelaw09zLocalReads.j2 (p : Int) (w64 (((asksUp T.Ops (q : Int) p).length : Int) + 1)) ((spotsUp T.Ops (q : Int) p).length : Int)) (Upm T.Ops.length p (fun p s => s = (((asksUp T.Ops (q : Int) p).length : Int), ((spotsUp T.Ops (q : Int) p).length : Int), (p : Int))) (fun b => b = true)) := by
            unfold assizelaw09zLocalReads.j2
            refine tri_some ⟨hp2, ?_⟩
            dsimp only
            rw [hA, hB, hwp, hwA, List.length_append]
            rfl
          have hmk := makes_told (h := h) (t := (q : Int)) (x := (p : Int)) (y := ((asksUp T.Ops (q : Int) p).length : Int)) (k' := ((spotsUp T.Ops (q : Int) p).length : Int)) (mine := ownL T.Ops (idx T.Ops (p : Int)).Key p) (base := a.Base) (o := idx T.Ops (p : Int)) (by rw [hT]) c1 o2 o3 (by omega) (hwf p hp2) c6 hgo
          simp only [hne, ne_eq, not_false_eq_true, not_true_eq_false, decide_false, decide_true, Bool.not_true, Bool.not_false, cond_false, cond_true, bne_self_eq_false, hat.2, c4, c5]
          repeat' (first | contradiction | with_reducible refine tri_if (fun hq => ?_) (fun hq => ?_) | with_reducible refine tri_must (by first | omega | grind [w64zin]) ?_ | with_reducible refine tri_out ?_ | with_reducible refine tri_sb ?_ | with_reducible refine tri_cb ?_ | with_reducible refine tri_mb ?_ | with_reducible refine tri_bb ?_ | with_reducible refine tri_some ?_ | exact hmk)
          all_goals first | omega | skip
        · have hne : spotAt T.Ops (q : Int) p ≠ [] := by rw [c3]; simp
          rw [c2]
          rw [c3] at hB
          rw [c2, List.append_nil] at hA
          simp only [hne, ne_eq, not_false_eq_true, not_true_eq_false, decide_false, decide_true, Bool.not_true, Bool.not_false, cond_false, cond_true, bne_self_eq_false]
          unfold assizelaw09zLocalReads.j2
          repeat' (first | contradiction | with_reducible refine tri_if (fun hq => ?_) (fun hq => ?_) | with_reducible refine tri_must (by first | omega | grind [w64zin]) ?_ | with_reducible refine tri_out ?_ | with_reducible refine tri_sb ?_ | with_reducible refine tri_cb ?_ | with_reducible refine tri_mb ?_ | with_reducible refine tri_bb ?_ | with_reducible refine tri_some ?_)
          all_goals first | omega | skip
          exact ⟨hp2, by dsimp only; rw [hA, hB, hwp, hwB, List.length_append]; rfl⟩
        · rw [c2, c3]
          rw [c2, List.append_nil] at hA
          rw [c3, List.append_nil] at hB
          simp only [ne_eq, not_true_eq_false, decide_false, Bool.not_true, Bool.not_false, cond_false, cond_true, bne_self_eq_false]
          have : (ownL T.Ops (idx T.Ops (p : Int)).Key p).length ≠ 0 := fun e => c4 (List.length_eq_zero_iff.1 e)
          unfold assizelaw09zLocalReads.j2
          repeat' (first | contradiction | with_reducible refine tri_if (fun hq => ?_) (fun hq => ?_) | with_reducible refine tri_must (by first | omega | grind [w64zin]) ?_ | with_reducible refine tri_out ?_ | with_reducible refine tri_sb ?_ | with_reducible refine tri_cb ?_ | with_reducible refine tri_mb ?_ | with_reducible refine tri_bb ?_ | with_reducible refine tri_some ?_)
          all_goals first | omega | skip
          exact ⟨hp2, by dsimp only; rw [hA, hB, hwp]⟩
      · simp only [if_neg hst]
        unfold assizelaw09zLocalReads.j3 assizelaw09zLocalReads.j4
        simp only [hT]
        unfold assizelaw09zLocalReads.j5 assizelaw09zLocalReads.j6 assizelaw09zLocalReads.j2
        simp only [cond_true, cond_false, hwp]
        repeat' (first | contradiction | with_reducible refine tri_if (fun hq => ?_) (fun hq => ?_) | with_reducible refine tri_must (by first | omega | grind [w64zin]) ?_ | with_reducible refine tri_out ?_ | with_reducible refine tri_sb ?_ | with_reducible refine tri_cb ?_ | with_reducible refine tri_mb ?_ | with_reducible refine tri_bb ?_ | with_reducible refine tri_some ?_ | refine tri_bnd hO ?_)
        all_goals first | omega | (exfalso; simp at *; done) | skip
        all_goals exact ⟨hp2, rfl⟩
    · have : p = T.Ops.length := by omega
      subst this
      by_cases hst : T.Status = 1
      · simp only [if_pos hst]
        repeat' (first | contradiction | with_reducible refine tri_if (fun hq => ?_) (fun hq => ?_) | with_reducible refine tri_must (by first | omega | grind [w64zin]) ?_ | with_reducible refine tri_out ?_ | with_reducible refine tri_sb ?_ | with_reducible refine tri_cb ?_ | with_reducible refine tri_mb ?_ | with_reducible refine tri_bb ?_ | with_reducible refine tri_some ?_)
        all_goals grind [Upm]
      · simp only [if_neg hst]
        repeat' (first | contradiction | with_reducible refine tri_if (fun hq => ?_) (fun hq => ?_) | with_reducible refine tri_must (by first | omega | grind [w64zin]) ?_ | with_reducible refine tri_out ?_ | with_reducible refine tri_sb ?_ | with_reducible refine tri_cb ?_ | with_reducible refine tri_mb ?_ | with_reducible refine tri_bb ?_ | with_reducible refine tri_some ?_)
        all_goals first | rfl | (exfalso; simp at *; done)
end Go.Proofs.YtmfihodpbladeaaT
