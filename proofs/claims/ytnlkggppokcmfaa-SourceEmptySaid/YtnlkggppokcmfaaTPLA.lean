/- What a transaction says of itself: the program and the document tell the same. -/
import Derived.Test.YtnlkggppokcmfaaTPK
import Derived.Test.YtnlkggppokcmfaaTPSB
namespace Go.Proofs.YtnlkggppokcmfaaT
open Go Go.Proofs Go.Proofs.YtnlkggppokcmfaaE
set_option linter.unusedVariables false
set_option linter.unusedSimpArgs false
def ownL (ops : List Op) (key : Int) (p : Nat) : List Int := ((ops.take p).filter (fun o => decide (o.Key = key ∧ o.Kind ≤ 4))).map (·.Arg)
theorem ownL_succ {ops : List Op} {key : Int} {p : Nat} (h : p < ops.length) : ownL ops key (p + 1) = if (idx ops (p : Int)).Key = key ∧ (idx ops (p : Int)).Kind ≤ 4 then ownL ops key p ++ [(idx ops (p : Int)).Arg] else ownL ops key p := by
  unfold ownL
  rw [take_succ h, List.filter_append, List.map_append]
  by_cases e : (idx ops (p : Int)).Key = key ∧ (idx ops (p : Int)).Kind ≤ 4
  · simp [e]
  · rw [if_neg e]
    simp only [List.filter_cons, List.filter_nil, decide_eq_true_eq, if_neg e]
    simp
theorem ownL_len {ops : List Op} {key : Int} {p : Nat} : (ownL ops key p).length ≤ ops.length := by
  unfold ownL
  rw [List.length_map]
  exact Nat.le_trans (List.length_filter_le _ _) (by simp; omega)
def askAt (ops : List Op) (t : Int) (p : Nat) : List Ask :=
  let o := idx ops (p : Int)
  let mine := ownL ops o.Key p
  if o.Kind ≤ 4 then [] else if mine = [] then [⟨t, p, o.Key, o.Vals⟩] else if (before (o.Kind - 4) o.Vals mine).2 = true ∧ o.Kind ≠ 5 then [⟨t, p, o.Key, (before (o.Kind - 4) o.Vals mine).1⟩] else []
def spotAt (ops : List Op) (t : Int) (p : Nat) : List Spot :=
  let o := idx ops (p : Int)
  let mine := ownL ops o.Key p
  if o.Kind ≤ 4 then [] else if mine = [] then [] else if (before (o.Kind - 4) o.Vals mine).2 = true then [] else [⟨t, p⟩]
def asksUp (ops : List Op) (t : Int) (k : Nat) : List Ask := (List.range k).flatMap (askAt ops t)
def spotsUp (ops : List Op) (t : Int) (k : Nat) : List Spot := (List.range k).flatMap (spotAt ops t)
theorem asksUp_succ {ops : List Op} {t : Int} {k : Nat} : asksUp ops t (k + 1) = asksUp ops t k ++ askAt ops t k := by
  unfold asksUp; rw [List.range_succ, List.flatMap_append]; simp
theorem spotsUp_succ {ops : List Op} {t : Int} {k : Nat} : spotsUp ops t (k + 1) = spotsUp ops t k ++ spotAt ops t k := by
  unfold spotsUp; rw [List.range_succ, List.flatMap_append]; simp
theorem asksUp_len {ops : List Op} {t : Int} {k : Nat} : (asksUp ops t k).length ≤ k := by
  induction k with
  | zero => simp [asksUp]
  | succ k ih =>
    rw [asksUp_succ, List.length_append]
    have : (askAt ops t k).length ≤ 1 := by
      unfold askAt
      dsimp only
      split
      · simp
      · split
        · simp
        · split <;> simp
    omega
theorem spotsUp_len {ops : List Op} {t : Int} {k : Nat} : (spotsUp ops t k).length ≤ k := by
  induction k with
  | zero => simp [spotsUp]
  | succ k ih =>
    rw [spotsUp_succ, List.length_append]
    have : (spotAt ops t k).length ≤ 1 := by
      unfold spotAt
      dsimp only
      split
      · simp
      · split
        · simp
        · split <;> simp
    omega
def asksOf (h : History) (t : Int) : List Ask := if (idx h.Txns t).Status = 1 then asksUp (idx h.Txns t).Ops t (idx h.Txns t).Ops.length else []
def spotsOf (h : History) (t : Int) : List Spot := if (idx h.Txns t).Status = 1 then spotsUp (idx h.Txns t).Ops t (idx h.Txns t).Ops.length else []
def OpsOk (ops : List Op) : Prop := ops.length ≤ 16 ∧ AllI ops (fun o => 1 ≤ o.Kind ∧ o.Kind ≤ 8 ∧ o.Vals.length ≤ 64)
theorem TxnOk.ops {h : History} {i : Nat} (hi : TxnOk h i) : OpsOk (idx h.Txns (i : Int)).Ops := by
  obtain ⟨_, _, _, _, h1, h2⟩ := hi
  refine ⟨by simpa [evOf, callsOf] using h1, fun j hj => ?_⟩
  have := h2 j (by simpa [evOf, callsOf] using hj)
  dsimp only [evOf, callsOf] at this
  rw [idx_map hj] at this
  unfold CallOk callOf at this
  dsimp only at this
  grind
theorem look_told {h : History} {t : Nat} {f : LocalFound} (ht : t < h.Txns.length) (ho : OpsOk (idx h.Txns (t : Int)).Ops) (ha : f.asks.length ≤ 1000000) (hb : f.bad.length ≤ 1000000) :
    Tri (local_found_look f h (t : Int)) (fun r => r = ⟨f.asks ++ asksOf h (t : Int), f.bad ++ spotsOf h (t : Int)⟩) := by
  unfold local_found_look asksOf spotsOf
  refine tri_must (by omega) ?_
  refine tri_if (fun h1 => ?_) (fun h1 => ?_)
  · rw [if_neg h1, if_neg h1]
    exact tri_some (by simp)
  · have h1 : (idx h.Txns (t : Int)).Status = 1 := Decidable.of_not_not h1
    rw [if_pos h1, if_pos h1]
    generalize hx : (idx h.Txns (t : Int)).Ops = ops at ho ⊢
    obtain ⟨h16, hall⟩ := ho
    refine tri_upm (k0 := 0) ops.length (fun k s => s.1 = f.asks ++ asksUp ops (t : Int) k ∧ s.2.1 = f.bad ++ spotsUp ops (t : Int) k ∧ (∀ key, mat s.2.2.1 key = ownL ops key k) ∧ s.2.2.2 = (k : Int)) (Nat.zero_le _)
      ⟨by simp [asksUp], by simp [spotsUp], fun key => rfl, rfl⟩ ?_
    rintro k ⟨l1, l2, m, x⟩ hk ⟨e1, e2, hm, e4⟩
    dsimp only at e1 e2 hm e4
    subst e1 e2 e4
    unfold local_found_look.s1 local_found_look.j4 local_found_look.j3 local_found_look.j2
    simp only [cond_true, cond_false, hx, hm]
    have hw : w64 ((k : Int) + 1) = ((k + 1 : Nat) : Int) := w64zsucc (by omega)
    have l1 := asksUp_len (ops := ops) (t := (t : Int)) (k := k)
    have l2 := spotsUp_len (ops := ops) (t := (t : Int)) (k := k)
    have l3 := ownL_len (ops := ops) (key := (idx ops (k : Int)).Key) (p := k)
    have hn : ∀ key, k < ops.length → ownL ops key (k + 1) = _ := fun key hk => ownL_succ hk
    rw [hw]
    refine tri_if (fun hk1 => ?_) (fun hk1 => ?_)
    · have hk2 : k < ops.length := by omega
      obtain ⟨o1, o2, o3⟩ := hall k hk2
      have hw4 : w64 ((idx ops (k : Int)).Kind - 4) = (idx ops (k : Int)).Kind - 4 := w64zin (by omega) (by omega)
      have hbf := state_Before_told ((idx ops (k : Int)).Kind - 4) (s := (idx ops (k : Int)).Vals) (args := ownL ops (idx ops (k : Int)).Key k) (by omega) (by omega)
      have hcl : slices_Clone_int64 (idx ops (k : Int)).Vals = some (idx ops (k : Int)).Vals := must_pos _ (by omega)
      rw [hw4, hbf, hcl]
      simp only [List.length_append]
      have hA := asksUp_succ (ops := ops) (t := (t : Int)) (k := k)
      have hB := spotsUp_succ (ops := ops) (t := (t : Int)) (k := k)
      have hnil : ∀ l : List Int, l = [] ↔ l.length = 0 := fun l => List.length_eq_zero_iff.symm
      unfold askAt at hA
      unfold spotAt at hB
      dsimp only at hA hB
      repeat' (first | contradiction | with_reducible refine tri_if (fun hq => ?_) (fun hq => ?_) | with_reducible refine tri_must (by first | omega | grind [w64zin]) ?_ | with_reducible refine tri_out ?_ | with_reducible refine tri_sb ?_ | with_reducible refine tri_cb ?_ | with_reducible refine tri_mb ?_ | with_reducible refine tri_bb ?_ | with_reducible refine tri_some ?_)
      all_goals (refine ⟨hk2, ?_, ?_, fun key => ?_, rfl⟩ <;> dsimp only)
      all_goals grind [mat_put]
    · have : k = ops.length := by omega
      subst this
      repeat' (first | contradiction | with_reducible refine tri_if (fun hq => ?_) (fun hq => ?_) | with_reducible refine tri_must (by first | omega | grind [w64zin]) ?_ | with_reducible refine tri_out ?_ | with_reducible refine tri_sb ?_ | with_reducible refine tri_cb ?_ | with_reducible refine tri_mb ?_ | with_reducible refine tri_bb ?_ | with_reducible refine tri_some ?_)
      rfl
theorem typ_read {k : Int} (h1 : 5 ≤ k) (h8 : k ≤ 8) : typ k = k - 4 := by unfold typ; omega
theorem ref_of_told {h : History} {t : Nat} (ht : t < h.Txns.length) (ho : OpsOk (idx h.Txns (t : Int)).Ops) :
    assizeref09zof h (t : Int) = some (asksOf h (t : Int), spotsOf h (t : Int)) := by
  refine tri_eq.1 ?_
  unfold assizeref09zof asksOf spotsOf
  refine tri_must (by omega) ?_
  refine tri_if (fun h1 => ?_) (fun h1 => ?_)
  · rw [if_neg h1, if_neg h1]
    exact tri_some rfl
  · have h1 : (idx h.Txns (t : Int)).Status = 1 := Decidable.of_not_not h1
    rw [if_pos h1, if_pos h1]
    generalize hx : (idx h.Txns (t : Int)).Ops = ops at ho ⊢
    obtain ⟨h16, hall⟩ := ho
    refine tri_upm (k0 := 0) ops.length (fun k s => s = (asksUp ops (t : Int) k, spotsUp ops (t : Int) k, (k : Int))) (Nat.zero_le _) rfl ?_
    rintro k s hk rfl
    have l1 := asksUp_len (ops := ops) (t := (t : Int)) (k := k)
    have l2 := spotsUp_len (ops := ops) (t := (t : Int)) (k := k)
    have l3 := ownL_len (ops := ops) (key := (idx ops (k : Int)).Key) (p := k)
    have hw : w64 ((k : Int) + 1) = ((k + 1 : Nat) : Int) := w64zsucc (by omega)
    unfold assizeref09zof.s1 assizeref05zWrites
    simp only [hx]
    refine tri_if (fun hk1 => ?_) (fun hk1 => ?_)
    · have hk2 : k < ops.length := by omega
      obtain ⟨o1, o2, o3⟩ := hall k hk2
      have hA := asksUp_succ (ops := ops) (t := (t : Int)) (k := k)
      have hB := spotsUp_succ (ops := ops) (t := (t : Int)) (k := k)
      unfold askAt at hA
      unfold spotAt at hB
      dsimp only at hA hB
      refine tri_must (by omega) (tri_sb (tri_if (fun hk4 => ?_) (fun hk4 => ?_)))
      · unfold assizeref09zof.j2
        rw [hw]
        refine tri_some ⟨hk2, ?_⟩
        grind
      · refine tri_upm (k0 := 0) k (fun j s => s = (ownL ops (idx ops (k : Int)).Key j, (j : Int))) (Nat.zero_le _) rfl ?_
        rintro j s hj rfl
        have l4 := ownL_len (ops := ops) (key := (idx ops (k : Int)).Key) (p := j)
        have hwj : w64 ((j : Int) + 1) = ((j + 1 : Nat) : Int) := w64zsucc (by omega)
        have hn : j < ops.length → ownL ops (idx ops (k : Int)).Key (j + 1) = _ := fun hk => ownL_succ hk
        have hbf := ref_Before_told ((idx ops (k : Int)).Kind - 4) (s := (idx ops (k : Int)).Vals) (args := ownL ops (idx ops (k : Int)).Key j) (by omega) (by omega)
        have hty : assizeref05zOf (idx ops (k : Int)).Kind = some ((idx ops (k : Int)).Kind - 4) := by rw [Of_told o1 o2, typ_read (by omega) o2]
        unfold assizeref09zof.s3 assizeref09zof.j5 assizeref09zof.j6 assizeref09zof.j4 assizeref09zof.j2 assizeref05zWrites
        simp only [cond_true, cond_false, hx, hw, hwj, hty, hbf, List.nil_append]
        have hnil : ∀ l : List Int, l = [] ↔ l.length = 0 := fun l => List.length_eq_zero_iff.symm
        repeat' (first | contradiction | with_reducible refine tri_if (fun hq => ?_) (fun hq => ?_) | with_reducible refine tri_must (by first | omega | grind [w64zin]) ?_ | with_reducible refine tri_out ?_ | with_reducible refine tri_sb ?_ | with_reducible refine tri_cb ?_ | with_reducible refine tri_mb ?_ | with_reducible refine tri_bb ?_ | with_reducible refine tri_some ?_ | refine tri_bnd hbf ?_)
        all_goals grind [Upm]
    · have : k = ops.length := by omega
      subst this
      repeat' (first | contradiction | with_reducible refine tri_if (fun hq => ?_) (fun hq => ?_) | with_reducible refine tri_must (by first | omega | grind [w64zin]) ?_ | with_reducible refine tri_out ?_ | with_reducible refine tri_sb ?_ | with_reducible refine tri_cb ?_ | with_reducible refine tri_mb ?_ | with_reducible refine tri_bb ?_ | with_reducible refine tri_some ?_)
      rfl
end Go.Proofs.YtnlkggppokcmfaaT
