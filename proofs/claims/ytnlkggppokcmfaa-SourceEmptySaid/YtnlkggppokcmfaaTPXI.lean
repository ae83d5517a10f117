/- Layer 10: the ways of takes and leaves of a counter, of the code. -/
import Derived.Test.YtnlkggppokcmfaaTPXH
namespace Go.Proofs.YtnlkggppokcmfaaT
open Go Go.Proofs Go.Proofs.YtnlkggppokcmfaaE
set_option linter.unusedVariables false
set_option linter.unusedSimpArgs false
def sumW (s : Int) (w : List Int) : Int := w.foldl (fun x v => w64 (x + v)) s
theorem sumW_take {s : Int} {w : List Int} {k : Nat} (hk : k < w.length) : sumW s (w.take (k + 1)) = w64 (sumW s (w.take k) + idx w (k : Int)) := by
  unfold sumW
  rw [List.take_succ_eq_append_getElem hk, List.foldl_append, (idx_eq (n := k) rfl hk : idx w (k : Int) = w[k])]
  rfl
def Win (want : Int) : List (List Int) → Int → (Nat → Prop) → Nat → Nat → Prop
  | [], s, p, _, j => s = want ∧ p j
  | w :: ls, s, p, i, j => Win want ls s p (i + 1) j ∨ Win want ls (sumW s w) (fun j => p j ∨ j = i) (i + 1) j
section
variable {O : List Int} {W : Int → List Int} {want : Int}
theorem walk_told (hol : O.length ≤ 32) (hwl : ∀ t ∈ O, (W t).length ≤ 16) : ∀ (k i : Nat), i ≤ O.length → O.length - i < k → ∀ (sum tk wi : Int) (p q : Nat → Prop), Wd tk p → Wd wi q →
    Tri (source_counter_1.fuel k (i : Int) sum tk (finL O W) want wi) (fun r => Wd r (fun j => q j ∨ Win want ((O.drop i).map W) sum p i j))
  | 0, i, _, hk => by omega
  | k + 1, i, hi, hk => by
    intro sum tk wi p q hp hq
    have hw : w64 ((i : Int) + 1) = ((i + 1 : Nat) : Int) := w64zsucc (by omega)
    unfold source_counter_1.fuel source_counter_1.body
    rw [finL_len, hw]
    refine tri_if (fun h1 => ?_) (fun h1 => ?_)
    · have : i = O.length := by omega
      subst this
      rw [List.drop_length, List.map_nil]
      refine tri_if (fun h2 => ?_) (fun h2 => ?_)
      · exact tri_some ((hq.or hp).congr fun j => by show q j ∨ p j ↔ q j ∨ (sum = want ∧ p j); simp [h2])
      · exact tri_some (hq.congr fun j => by show q j ↔ q j ∨ (sum = want ∧ p j); simp [h2])
    · have hi2 : i < O.length := by omega
      have hd : (O.drop i).map W = W (idx O (i : Int)) :: (O.drop (i + 1)).map W := by
        rw [List.drop_eq_getElem_cons hi2, List.map_cons, (idx_eq (n := i) rfl hi2 : idx O (i : Int) = O[i])]
      have h16 := hwl _ (idx_mem hi2)
      refine tri_bind (walk_told hol hwl k (i + 1) (by omega) (by omega) sum tk wi p q hp hq) (fun y hy => ?_)
      refine tri_must (by omega) ?_
      refine tri_upm (k0 := 0) (W (idx O (i : Int))).length (fun m s => s.1 = sumW sum ((W (idx O (i : Int))).take m) ∧ s.2 = (m : Int)) (Nat.zero_le _) ⟨by simp [sumW], rfl⟩ ?_
      rintro m ⟨s, x⟩ hm ⟨f1, f2⟩
      dsimp only at f1 f2
      subst f1 f2
      have hw2 : w64 ((m : Int) + 1) = ((m + 1 : Nat) : Int) := w64zsucc (by omega)
      unfold source_counter_1.s1
      dsimp only
      rw [finL_at hi2, hw2, hw]
      dsimp only
      refine tri_if (fun h2 => ?_) (fun h2 => ?_)
      · have hm2 : m < (W (idx O (i : Int))).length := by omega
        refine tri_must (by omega) (tri_some ⟨hm2, ?_, rfl⟩)
        dsimp only
        rw [sumW_take hm2]
      · have : m = (W (idx O (i : Int))).length := by omega
        subst this
        rw [List.take_length]
        refine tri_must (by unfold far; omega) ?_
        refine tri_bind (walk_told hol hwl k (i + 1) (by omega) (by omega) _ _ y _ _ (hp.or (Wd.bit (n := i) rfl (by omega))) hy) (fun z hz => ?_)
        refine tri_out (tri_some (hz.congr fun j => ?_))
        rw [hd]
        show (q j ∨ Win want _ sum p (i + 1) j) ∨ _ ↔ q j ∨ Win want _ sum p (i + 1) j ∨ _
        exact or_assoc
def picks (O : List Int) (f : Nat → Prop) [DecidablePred f] (k : Nat) : List Int := ((List.range k).filter (fun j => decide (f j))).map (fun j : Nat => idx O (j : Int))
theorem picks_succ {f : Nat → Prop} [DecidablePred f] {k : Nat} : picks O f (k + 1) = if f k then picks O f k ++ [idx O (k : Int)] else picks O f k := by
  unfold picks
  rw [List.range_succ, List.filter_append, List.map_append]
  by_cases h : f k <;> simp [h]
theorem picks_len {f : Nat → Prop} [DecidablePred f] {k : Nat} : (picks O f k).length ≤ k := by
  unfold picks
  rw [List.length_map]
  exact Nat.le_trans (List.length_filter_le _ _) (by simp)
open Classical in
theorem counter_told (hol : O.length ≤ 32) (hwl : ∀ t ∈ O, (W t).length ≤ 16) : source_counter want (finL O W) = some (picks O (Win want (O.map W) 0 (fun _ => False) 0) O.length) := by
  refine tri_eq.1 ?_
  unfold source_counter source_counter_1
  have := walk_told (want := want) hol hwl 64 0 (Nat.zero_le _) (by omega) 0 0 0 _ _ Wd.zero Wd.zero
  refine tri_bind this (fun y hy => ?_)
  rw [List.drop_zero] at hy
  replace hy : Wd y (Win want (O.map W) 0 (fun _ => False) 0) := hy.congr fun j => by simp
  generalize Win want (O.map W) 0 (fun _ => False) 0 = f at hy ⊢
  refine tri_upm (k0 := 0) O.length (fun k s => s = (picks O f k, (k : Int))) (Nat.zero_le _) (by simp [picks]) ?_
  rintro k s hk rfl
  have hw : w64 ((k : Int) + 1) = ((k + 1 : Nat) : Int) := w64zsucc (by omega)
  have hl := picks_len (O := O) (f := f) (k := k)
  have hs := picks_succ (O := O) (f := f) (k := k)
  unfold source_counter.s1 source_counter.j2
  dsimp only
  rw [finL_len, hw]
  refine tri_if (fun h1 => ?_) (fun h1 => ?_)
  · have hk2 : k < O.length := by omega
    refine tri_must (by omega) (tri_must (by unfold far; omega) ?_)
    rw [finL_at hk2]
    rcases hy.look (i := (k : Int)) (n := k) rfl (by omega) with ⟨e, hf⟩ | ⟨e, hf⟩
    · rw [e]
      refine tri_if (fun _ => ?_) (fun h => absurd rfl h)
      refine tri_must (by omega) (tri_some ⟨hk2, ?_⟩)
      dsimp only
      rw [hs, if_pos hf]
    · rw [e]
      refine tri_if (fun h => absurd h (by decide)) (fun _ => ?_)
      refine tri_some ⟨hk2, ?_⟩
      dsimp only
      rw [hs, if_neg hf]
  · have : k = O.length := by omega
    subst this
    exact tri_out (tri_some rfl)
end
end Go.Proofs.YtnlkggppokcmfaaT
