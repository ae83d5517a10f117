/- The law LocalKeeps. -/
import Derived.Test.YtmfihodpbladeaaTPLD
namespace Go.Proofs.YtmfihodpbladeaaT
open Go Go.Proofs Go.Proofs.YtmfihodpbladeaaE
set_option linter.unusedVariables false
set_option linter.unusedSimpArgs false

theorem keeps_loop {h : History} (hs : HSmall h) {l : List Ask} {b w : List Ask × Int} (hl : l.length ≤ 100000) (hv : AllI l (fun x => x.Base.length ≤ 100000))
    (hsame : Tri (assizeref09zSameAsks b.1 w.1) (fun r => r = true)) : iter (assizelaw09zLocalKeeps.s2 h h b w) (l, 0) = some true := by
  refine tri_eq.1 ?_
  refine tri_upm (k0 := 0) l.length (fun k s => s.2 = (k : Int) ∧ s.1.length = l.length ∧ ∀ j : Nat, k ≤ j → j < l.length → (idx s.1 (j : Int)).Base.length ≤ 100000) (Nat.zero_le _) ⟨rfl, rfl, fun j _ hj => hv j hj⟩ ?_
  rintro k ⟨m, x⟩ hk ⟨hx, hm, hb⟩
  dsimp only at hx hm hb
  subst hx
  unfold assizelaw09zLocalKeeps.s2
  dsimp only
  refine tri_if (fun hk1 => ?_) (fun hk1 => ?_)
  · have hk2 : k < l.length := by omega
    refine tri_upm (k0 := 0) (idx m (k : Int)).Base.length (fun i s => s.2 = (i : Int) ∧ s.1.length = l.length ∧ (idx s.1 (k : Int)).Base.length = (idx m (k : Int)).Base.length ∧ ∀ j : Nat, j ≠ k → idx s.1 (j : Int) = idx m (j : Int)) (Nat.zero_le _) ⟨rfl, hm, rfl, fun _ _ => rfl⟩ ?_
    rintro i ⟨n, y⟩ hi ⟨hy, hn, hnb, hno⟩
    dsimp only at hy hn hnb hno
    subst hy
    have hbk := hb k (Nat.le_refl _) hk2
    have hwi : w64 ((i : Int) + 1) = ((i + 1 : Nat) : Int) := w64zsucc (by omega)
    have hwk : w64 ((k : Int) + 1) = ((k + 1 : Nat) : Int) := w64zsucc (by omega)
    unfold assizelaw09zLocalKeeps.s3
    dsimp only
    rw [hnb, hwi, hwk, Int.toNat_natCast, Int.toNat_natCast]
    have hset : ∀ (v : Ask) (j : Nat), idx (n.set k v) (j : Int) = if j = k then v else idx n (j : Int) := fun v j => idx_setN (by omega)
    refine tri_must (by omega) (tri_if (fun hi1 => ?_) (fun hi1 => ?_))
    · refine tri_must (by omega) (tri_some ⟨by omega, rfl, by simpa using hn, ?_, ?_⟩)
      · dsimp only; rw [hset, if_pos rfl]; simpa using hnb
      · intro j hj; dsimp only; rw [hset, if_neg hj]; exact hno j hj
    · refine tri_must (by omega) (tri_out (tri_some ⟨hk2, rfl, by simpa using hn, ?_⟩))
      intro j hj hjl
      dsimp only
      rw [hset, if_neg (by omega), hno j (by omega)]
      exact hb j (by omega) hjl
  · refine tri_bind hsame (fun r hr => ?_)
    subst hr
    rw [cond_true, Same_self hs]
    exact tri_sb (tri_out (tri_some rfl))
theorem bases {h : History} {t : Nat} (ho : OpsOk (idx h.Txns (t : Int)).Ops) : ∀ x ∈ asksOf h (t : Int), x.Base.length ≤ 65 := by
  intro x hx
  unfold asksOf at hx
  split at hx
  · unfold asksUp at hx
    rw [List.mem_flatMap] at hx
    obtain ⟨p, hp, hx⟩ := hx
    have hp : p < _ := List.mem_range.1 hp
    have hv := (ho.2 p hp).2.2
    have hb := before_small ((idx (idx h.Txns (t : Int)).Ops (p : Int)).Kind - 4) (idx (idx h.Txns (t : Int)).Ops (p : Int)).Vals (ownL (idx h.Txns (t : Int)).Ops (idx (idx h.Txns (t : Int)).Ops (p : Int)).Key p)
    unfold askAt at hx
    dsimp only at hx
    split at hx
    · simp at hx
    · split at hx
      · simp at hx; subst hx; dsimp only; omega
      · split at hx
        · simp at hx; subst hx; dsimp only; omega
        · simp at hx
  · simp at hx
theorem LocalKeeps_law (h : History) {K : ByteArray → Prop} (g : HG K h) : assizelaw09zLocalKeeps h = some true := by
  have hs := g.small
  refine tri_eq.1 ?_
  unfold assizelaw09zLocalKeeps local_Asks assizelaw09zLocalKeeps.j1
  rw [assizelaw09zalive_true, Copy_told hs]
  refine tri_sb ?_
  simp only [Bool.not_true, cond_true, cond_false]
  refine tri_sb ?_
  rcases All_told hs with ⟨hc, h1, h2, h3⟩ | ⟨hS, hc, h1, h2, h3⟩
  · rw [h1, h2]
    have a1 := SameAsks_told (a := []) (b := []) (by simp) (fun j hj => by simp at hj)
    have hl := keeps_loop hs (l := []) (b := ([], 1)) (w := ([], 1)) (by simp) (fun j hj => by simp at hj) (tri_mono a1 (fun r hr => hr.2 rfl))
    repeat' (first | contradiction | with_reducible refine tri_if (fun hq => ?_) (fun hq => ?_) | with_reducible refine tri_must (by first | omega | grind [w64zin]) ?_ | with_reducible refine tri_out ?_ | with_reducible refine tri_sb ?_ | with_reducible refine tri_cb ?_ | with_reducible refine tri_mb ?_ | with_reducible refine tri_bb ?_ | with_reducible refine tri_some ?_ | exact tri_val hl rfl)
    all_goals simp_all
  · rw [h1, h2]
    obtain ⟨i1, i2, i3⟩ := all_small hS h.Txns.length (Nat.le_refl _)
    have h32 := hS.len
    have a1 := SameAsks_told (a := allAsks h h.Txns.length) (b := allAsks h h.Txns.length) (by omega) i3
    have hb : AllI (allAsks h h.Txns.length) (fun x => x.Base.length ≤ 100000) := by
      rw [alli_iff]
      intro x hx
      unfold allAsks at hx
      rw [List.mem_flatMap] at hx
      obtain ⟨t, ht, hx⟩ := hx
      have := bases (hS.txn t (List.mem_range.1 ht)).ops x hx
      omega
    have hl := keeps_loop hs (l := allAsks h h.Txns.length) (b := (allAsks h h.Txns.length, 0)) (w := (allAsks h h.Txns.length, 0)) (by omega) hb (tri_mono a1 (fun r hr => hr.2 rfl))
    repeat' (first | contradiction | with_reducible refine tri_if (fun hq => ?_) (fun hq => ?_) | with_reducible refine tri_must (by first | omega | grind [w64zin]) ?_ | with_reducible refine tri_out ?_ | with_reducible refine tri_sb ?_ | with_reducible refine tri_cb ?_ | with_reducible refine tri_mb ?_ | with_reducible refine tri_bb ?_ | with_reducible refine tri_some ?_ | exact tri_val hl rfl)
    all_goals simp_all
end Go.Proofs.YtmfihodpbladeaaT
