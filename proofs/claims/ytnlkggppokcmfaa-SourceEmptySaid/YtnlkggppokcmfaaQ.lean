/- The engine, part Q: results in cells; rows of rows; calls that turn what the caller owns. -/
import Derived.Test.YtnlkggppokcmfaaN
namespace Go.Proofs.YtnlkggppokcmfaaE
open Go
set_option linter.unusedVariables false
set_option linter.unusedSimpArgs false
inductive Res where
  | t
  | c (g : Nat)
def resB (P : Program) (N : Nat) (f : Nat → Value) (G : List Grp) : List ResultVar → List Res → Option (List Value × List (Value × Value))
  | [], [] => some ([], [])
  | .tmp t :: rs, .t :: hs => match resB P N f G rs hs with
    | some (vs, a) => some (ev N f (.tmp t) :: vs, a)
    | none => none
  | .cell t ty :: rs, .c g :: hs => match G[g]? with
    | some (b, o, cs) => match cut P ty cs with
      | some v => match resB P N f G rs hs with
        | some (vs, a) => some (v :: vs, (ev N f (.tmp t), .pointer (some ⟨b, o, none⟩)) :: a)
        | none => none
      | none => none
    | none => none
  | _, _ => none
def oneRes (tmps : Array Value) : ResultVar → Sem Value
  | .tmp t => pure (tmps.getD t undef)
  | .cell a t => do loadVar t (← asAddr (tmps.getD a undef))
theorem ev_tmp (N : Nat) (f : Nat → Value) (t : Nat) : (tm N f).getD t undef = ev N f (.tmp t) := by
  have := congrFun (fr_eval N f) (.tmp t)
  exact this
theorem resB_run {P : Program} {N : Nat} {f : Nat → Value} {G : List Grp} {w : World} (hG : Grps w G) : ∀ {rs : List ResultVar} {hs : List Res} {vs : List Value} {a : List (Value × Value)}, resB P N f G rs hs = some (vs, a) → a.map (·.1) = a.map (·.2) →
    rs.length = vs.length ∧ ∀ (i : Nat) r v, rs[i]? = some r → vs[i]? = some v → (oneRes (tm N f) r).run P w = .ok v w
  | [], [], vs, a, h, _ => by
    simp only [resB, Option.some.injEq, Prod.mk.injEq] at h
    obtain ⟨rfl, rfl⟩ := h
    exact ⟨rfl, fun i r v h => by simp at h⟩
  | .tmp t :: rs, .t :: hs, vs, a, h, ha => by
    simp only [resB] at h
    split at h
    · rename_i vs' a' h'
      cases h
      have ih := resB_run hG h' ha
      refine ⟨by simp [ih.1], fun i r v hr hv => ?_⟩
      cases i with
      | zero =>
        simp only [List.getElem?_cons_zero, Option.some.injEq] at hr hv
        subst hr hv
        simp only [oneRes, ev_tmp, Sem.run, pure]
      | succ i => exact ih.2 i r v (by simpa using hr) (by simpa using hv)
    · cases h
  | .cell t ty :: rs, .c g :: hs, vs, a, h, ha => by
    simp only [resB] at h
    split at h
    · rename_i b o cs hg
      split at h
      · rename_i v' hc
        split at h
        · rename_i vs' a' h'
          cases h
          simp only [List.map_cons, List.cons.injEq] at ha
          have ih := resB_run hG h' ha.2
          refine ⟨by simp [ih.1], fun i r v hr hv => ?_⟩
          cases i with
          | zero =>
            simp only [List.getElem?_cons_zero, Option.some.injEq] at hr hv
            subst hr hv
            have hl := run_loadVar (P := P) hc (hG.get hg)
            simp only [oneRes, ev_tmp, ha.1, asAddr, Sem.run_bind, Sem.run, pure, Result.andThen, hl]
          | succ i => exact ih.2 i r v (by simpa using hr) (by simpa using hv)
        · cases h
      · cases h
    · cases h
  | [], .t :: _, _, _, h, _ => by simp [resB] at h
  | [], .c _ :: _, _, _, h, _ => by simp [resB] at h
  | .tmp _ :: _, [], _, _, h, _ => by simp [resB] at h
  | .tmp _ :: _, .c _ :: _, _, _, h, _ => by simp [resB] at h
  | .cell _ _ :: _, [], _, _, h, _ => by simp [resB] at h
  | .cell _ _ :: _, .t :: _, _, _, h, _ => by simp [resB] at h
def tupOf : List Value → Value
  | [v] => v
  | vs => .tuple vs.toArray
theorem results_eq (fn : Func) (tmps : Array Value) : results fn tmps = (do
    let vs ← fn.results.mapM (oneRes tmps)
    pure (if h : vs.size = 1 then vs[0] else .tuple vs)) := by
  unfold results
  congr 1
theorem run_results {P : Program} {fn : Func} {N : Nat} {f : Nat → Value} {G : List Grp} {w : World} (hs : List Res) (vs : List Value) (v : Value) (hG : Grps w G) (hn : Nat.ble fn.results.toList.length 4 = true)
    (h : (resB P N f G fn.results.toList hs).map (·.1) = some vs) (ha : (resB P N f G fn.results.toList hs).map (fun r => r.2.map (·.1)) = (resB P N f G fn.results.toList hs).map (fun r => r.2.map (·.2))) (hv : tupOf vs = v) :
    (results fn (tm N f)).run P w = .ok v w := by
  subst hv
  cases e : resB P N f G fn.results.toList hs with
  | none => rw [e] at h; cases h
  | some r =>
    obtain ⟨vs', a⟩ := r
    rw [e] at h ha
    simp only [Option.map_some, Option.some.injEq] at h ha
    subst h
    obtain ⟨hl, hr⟩ := resB_run hG e ha
    have hn := Nat.le_of_ble_eq_true hn
    rw [results_eq]
    obtain ⟨rs, hrs⟩ : ∃ rs, fn.results = rs := ⟨_, rfl⟩
    rw [hrs] at hl hr hn ⊢
    obtain ⟨rs⟩ := rs
    simp only at hl hr hn ⊢
    match rs, vs', hl, hr, hn with
    | [], [], _, _, _ => simp [tupOf, Sem.run_bind]
    | [a], [v], _, hr, _ =>
      have h0 := hr 0 a v rfl rfl
      simp [tupOf, Sem.run_bind, h0, Result.andThen]
    | [a, b], [v, u], _, hr, _ =>
      have h0 := hr 0 a v rfl rfl
      have h1 := hr 1 b u rfl rfl
      simp [tupOf, Sem.run_bind, h0, h1, Result.andThen]
    | [a, b, c], [v, u, t], _, hr, _ =>
      have h0 := hr 0 a v rfl rfl
      have h1 := hr 1 b u rfl rfl
      have h2 := hr 2 c t rfl rfl
      simp [tupOf, Sem.run_bind, h0, h1, h2, Result.andThen]
    | [a, b, c, d], [v, u, t, s], _, hr, _ =>
      have h0 := hr 0 a v rfl rfl
      have h1 := hr 1 b u rfl rfl
      have h2 := hr 2 c t rfl rfl
      have h3 := hr 3 d s rfl rfl
      simp [tupOf, Sem.run_bind, h0, h1, h2, h3, Result.andThen]
    | _ :: _ :: _ :: _ :: _ :: _, _, _, _, hn => simp only [List.length_cons] at hn; omega
section
variable {E : Env} {k : List Item} {f : Nat → Value} {w : World}
theorem go_return_c {fn : Func} (G : List Grp) (hs : List Res) (vs : List Value) (v : Value) (hf : E.P.funcs[E.fn]? = some fn) (hG : Grps w G) (hn : Nat.ble fn.results.toList.length 4 = true)
    (h : (resB E.P E.N f G fn.results.toList hs).map (·.1) = some vs) (ha : (resB E.P E.N f G fn.results.toList hs).map (fun r => r.2.map (·.1)) = (resB E.P E.N f G fn.results.toList hs).map (fun r => r.2.map (·.2))) (hv : tupOf vs = v)
    (hR : E.R (.returned v) w) (h0 : E.plain := by exact ⟨rfl, rfl⟩) : Go E (.code .ret :: k) f w := go_ret v hf (run_results hs vs v hG hn h ha hv) hR h0
end
theorem splice_left {c1 c2 : List Value} {vs : List Value} (h : vs.length = c1.length) : splice (c1 ++ c2) 0 vs = vs ++ c2 := by
  unfold splice
  rw [List.take_zero, List.nil_append, Nat.zero_add, h, List.drop_left]
theorem splice_right {c1 c2 : List Value} {j : Nat} {vs : List Value} : splice (c1 ++ c2) (c1.length + j) vs = c1 ++ splice c2 j vs := by
  unfold splice
  rw [List.take_length_add_append, Nat.add_assoc, List.drop_length_add_append, List.append_assoc]
theorem seqOwn.at {α : Type} {k : Ty α} {H : BM} : ∀ {xs : List α} {F : Nat → Prop} {cs : List Value}, seqOwn k H F xs cs → ∀ {j : Nat} {x : α}, xs[j]? = some x →
    ∃ (c : List Value) (F1 F2 : Nat → Prop), (∀ b, F1 b → F b) ∧ (∀ b, F2 b → F b) ∧ (∀ b, F1 b → ¬ F2 b) ∧ k.own H F1 x c ∧ c.length = k.sz ∧ (∀ i u, c[i]? = some u → cs[j * k.sz + i]? = some u) ∧
      ∀ (H' : BM) (F1' F' : Nat → Prop) (x' : α) (c' : List Value), k.own H' F1' x' c' → (∀ b, F2 b → H' b = H b) → (∀ b, F1' b → ¬ F2 b) → (∀ b, F1' b → F' b) → (∀ b, F2 b → F' b) → seqOwn k H' F' (xs.set j x') (splice cs (j * k.sz) c')
  | [], _, _, _, j, x, hj => by simp at hj
  | x0 :: xs, F, cs, ⟨c1, c2, F1, F2, e, h1, h2, h3, h4, h5⟩, 0, x, hj => by
    simp only [List.getElem?_cons_zero, Option.some.injEq] at hj
    subst hj
    have hl := k.rd_len (k.own_rd h4)
    refine ⟨c1, F1, F2, h1, h2, h3, h4, hl, fun i u hu => ?_, fun H' F1' F' x' c' ho hH hd ha hb => ?_⟩
    · rw [e, Nat.zero_mul, Nat.zero_add, List.getElem?_append_left (List.getElem?_eq_some_iff.1 hu).1]
      exact hu
    · rw [e, Nat.zero_mul, splice_left ((k.rd_len (k.own_rd ho)).trans hl.symm), List.set_cons_zero]
      exact ⟨c', c2, F1', F2, rfl, ha, hb, hd, ho, h5.congr hH⟩
  | x0 :: xs, F, cs, ⟨c1, c2, F1, F2, e, h1, h2, h3, h4, h5⟩, j + 1, x, hj => by
    have hl := k.rd_len (k.own_rd h4)
    obtain ⟨c, G1, G2, g1, g2, g3, g4, g5, g6, g7⟩ := h5.at (j := j) (by simpa using hj)
    have harr : (j + 1) * k.sz = c1.length + j * k.sz := by rw [hl, Nat.add_mul]; omega
    refine ⟨c, G1, fun b => F1 b ∨ G2 b, fun b h => h2 b (g1 b h), fun b h => h.elim (h1 b) (fun h => h2 b (g2 b h)), ?_, g4, g5, fun i u hu => ?_, fun H' F1' F' x' c' ho hH hd ha hb => ?_⟩
    · rintro b hb (h | h)
      · exact h3 b h (g1 b hb)
      · exact g3 b hb h
    · rw [e, harr, Nat.add_assoc, List.getElem?_append_right (by omega), Nat.add_sub_cancel_left]
      exact g6 i u hu
    · rw [e, harr, splice_right, List.set_cons_succ]
      have := g7 H' F1' (fun b => F1' b ∨ G2 b) x' c' ho (fun b h => hH b (.inr h)) (fun b hb h => hd b hb (.inr h)) (fun b h => .inl h) (fun b h => .inr h)
      refine ⟨c1, _, F1, _, rfl, fun b h => hb b (.inl h), fun b h => h.elim (ha b) (fun h => hb b (.inr h)), ?_, k.own_congr h4 (fun b h => hH b (.inl h)), this⟩
      rintro b hF (h | h)
      · exact hd b h (.inl hF)
      · exact h3 b hF (g2 b h)
theorem splice_get {cs : List Value} {j : Nat} {vs : List Value} (h : j + vs.length ≤ cs.length) (hv : ∀ i u, vs[i]? = some u → cs[j + i]? = some u) : splice cs j vs = cs := by
  apply List.ext_getElem?
  intro i
  unfold splice
  have hj : (cs.take j).length = j := by rw [List.length_take]; omega
  rcases Nat.lt_or_ge i j with h1 | h1
  · rw [List.getElem?_append_left (by omega), List.getElem?_take_of_lt h1]
  · rw [List.getElem?_append_right (by omega), hj]
    rcases Nat.lt_or_ge (i - j) vs.length with h2 | h2
    · rw [List.getElem?_append_left h2, List.getElem?_eq_getElem h2]
      have := hv (i - j) _ (List.getElem?_eq_getElem h2)
      rw [show j + (i - j) = i by omega] at this
      exact this.symm
    · rw [List.getElem?_append_right h2, List.getElem?_drop]
      congr 1
      omega
theorem idx_some {α : Type} [Inhabited α] {xs : List α} {j : Int} (hj : 0 ≤ j ∧ j < xs.length) : xs[j.toNat]? = some (idx xs j) := by
  have hl : j.toNat < xs.length := by omega
  rw [idx, List.getD_eq_getElem?_getD, List.getElem?_eq_getElem hl]
  rfl
section
variable {P : Program} {o : Oper} {ev_ : Operand → Value} {K : Value → World → Prop} {E : Env} {ops : Array Oper} {k : List Item} {f : Nat → Value} {w : World} {M : Mem} {L : List Asrt}
theorem e_putown {α : Type} [Inhabited α] {kt : Ty α} (t : TypeId) (a x : Operand) (li : Nat) (js rest : List Nat) (b : Nat) (e : TypeId) (n c : Nat) (xs : List α) (x' : α) (j : Int) (v : Value) (R L' : List Asrt)
    (hop : o.op = .store t a x)
    (ha : ev_ a = .pointer (some ⟨b, 0 + j.toNat * kt.sz, none⟩)) (hx : ev_ x = v) (hs : (P.info? t).map (·.size) = some v.cells.size) (hz : v.cells.size = kt.sz)
    (hI : Inv M w L) (hn : (li :: (js ++ rest)).Nodup) (hL : (li :: (js ++ rest)).map (L[·]?) = (.row kt e (some ⟨b, 0, none⟩) n c xs :: (R ++ L')).map some) (hj : 0 ≤ j ∧ j < n)
    (hmk : ∀ H F, Go.Proofs.YtnlkggppokcmfaaE.sep R H F → kt.own H F x' v.cells.toList)
    (h : ∀ w', Inv M w' (.row kt e (some ⟨b, 0, none⟩) n c (xs.set j.toNat x') :: L') → K undef w') : Eff P o ev_ w K := by
  have hI2 := hI.pick _ hn hL
  obtain ⟨F1, F2, h1, h2, h3, ⟨hrow, hln⟩, hsep⟩ := hI2.sep
  subst hln
  obtain ⟨G1, G2, g1, g2, g3, hsR, hsL⟩ := hsep.split
  have hy := hmk _ _ hsR
  have hone := kt.rd_one (kt.own_rd hy)
  have hjl : j.toNat < xs.length := by omega
  rcases hrow with ⟨h0, _⟩ | ⟨b', arr, hA, hFb, hb, hlc, hcm, hsz, hseq⟩
  · cases h0
  · have hbb : b' = b := by cases hA; rfl
    subst hbb
    have hb' : w.heap[b']? = some (.cells arr e (0, 0)) := hb
    have hfit : j.toNat * kt.sz + kt.sz ≤ xs.length * kt.sz := by rw [← Nat.succ_mul]; exact Nat.mul_le_mul_right _ hjl
    have hcap : xs.length * kt.sz ≤ arr.size := by rw [hsz]; exact Nat.mul_le_mul_right _ hlc
    have hvl : v.cells.toList.length = v.cells.size := by simp
    have hrun := run_storeVar (P := P) (t := t) (o := 0 + j.toNat * kt.sz) (v := v) hs hb' (by omega) hone
    obtain ⟨c0, E1, E2, e1, e2, e3, e4, e5, e6, e7⟩ := hseq.at (idx_some hj)
    refine eff_unit (w' := w.setRow b' (splice arr.toList (0 + j.toNat * kt.sz) v.cells.toList).toArray) ?_ (h _ ?_)
    · simp only [execOp, hop, ha, hx, Instr.storeAt, Instr.sureAddr, Sem.run_bind, Sem.run, pure, Result.andThen, hrun]
    · have hother : ∀ b2, b2 ≠ b' → hp (w.setRow b' (splice arr.toList (0 + j.toNat * kt.sz) v.cells.toList).toArray) b2 = hp w b2 := fun b2 hne => setRow_else w b' b2 _ hne
      have hblt : b' < w.heap.size := (h1 _ hFb).2
      have hbF2 : ¬ F2 b' := h3 _ hFb
      have hs7 := e7 (hp (w.setRow b' (splice arr.toList (0 + j.toNat * kt.sz) v.cells.toList).toArray)) G1 (fun b2 => (F1 b2 ∨ G1 b2) ∧ b2 ≠ b') x' v.cells.toList
        (kt.own_congr hy (fun b2 hG => hother b2 (fun e => hbF2 (e ▸ g1 b2 hG)))) (fun b2 hE => hother b2 (e2 b2 hE).2) (fun b2 hG hE => h3 b2 (e2 b2 hE).1 (g1 b2 hG))
        (fun b2 hG => ⟨.inr hG, fun e => hbF2 (e ▸ g1 b2 hG)⟩) (fun b2 hE => ⟨.inl (e2 b2 hE).1, (e2 b2 hE).2⟩)
      refine ⟨fun b2 ob hM => ?_, by rw [setRow_size]; exact hI2.size, hI2.os, hI2.tape, hI2.output, fun b2 => F1 b2 ∨ G1 b2, G2, ?_, ?_, ?_, ⟨.inr ⟨b', _, rfl, .inl hFb, setRow_same w b' _ _ _ _ hb', by simpa using hlc, hcm, ?_, ?_⟩, by simp⟩, ?_⟩
      · rw [hother b2 (fun e => ?_)]
        · exact hI2.fix b2 ob hM
        · have := (h1 _ hFb).1
          rw [← e, hM] at this
          cases this
      · rintro b2 (h | h)
        · rw [setRow_size]; exact h1 b2 h
        · rw [setRow_size]; exact h2 b2 (g1 b2 h)
      · intro b2 h
        rw [setRow_size]; exact h2 b2 (g2 b2 h)
      · rintro b2 (h | h) h'
        · exact h3 b2 h (g2 b2 h')
        · exact g3 b2 h h'
      · rw [List.size_toArray, splice_len (by rw [hvl]; simp; omega)]
        simpa using hsz
      · rw [List.length_set, List.toList_toArray, splice_take (by rw [hvl]; omega)]
        simp only [Nat.zero_add] at hs7 ⊢
        exact hs7
      · exact hsL.congr (fun b2 h => hother b2 (fun e => hbF2 (e ▸ g2 b2 h)))
end
theorem Inv.call {M : Mem} {w : World} {L R L0 : List Asrt} (h : Inv M w L) (js rest : List Nat) (hn : (js ++ rest).Nodup) (hL : (js ++ rest).map (L[·]?) = (R ++ L0).map some) :
    ∃ M1 : Mem, Inv M1 w R ∧ Sub M.blk M1.blk ∧ (∀ (i : Nat) (a : Asrt), L0[i]? = some a → ∃ F, a.Own M1.blk F) ∧ ∀ w' L', Inv M1 w' L' → Inv M w' (L' ++ L0) := by
  have hI := h.pick _ hn hL
  obtain ⟨F1, F2, h1, h2, h3, hs1, hs2⟩ := hI.sep.split
  classical
  have hsub : ∀ b o, (if F1 b then none else hp w b) = some o → hp w b = some o ∧ ¬ F1 b := by
    intro b o hb
    split at hb
    · cases hb
    · exact ⟨hb, by assumption⟩
  refine ⟨⟨fun b => if F1 b then none else hp w b, w.heap.size, w.os, w.tape, w.output⟩, ⟨fun b o hb => (hsub b o hb).1, Nat.le_refl _, rfl, rfl, rfl, hs1.mono fun b hb => ⟨if_pos hb, (h1 b hb).2⟩⟩, ?_, ?_, ?_⟩
  · intro b o hb
    show (if F1 b then none else hp w b) = some o
    rw [if_neg]
    · exact hI.fix b o hb
    · intro hF
      have := (h1 b hF).1
      rw [hb] at this
      cases this
  · intro i a hi
    have hs3 : Go.Proofs.YtnlkggppokcmfaaE.sep L0 (fun b => if F1 b then none else hp w b) F2 := hs2.congr fun b hb => if_neg (fun h => h3 b h hb)
    obtain ⟨F, _, hown, _⟩ := hs3.focus hi
    exact ⟨F, hown⟩
  · intro w' L' h'
    have hF2 : ∀ b, F2 b → hp w' b = hp w b := by
      intro b hb
      cases e : hp w b with
      | none => have := (h2 b hb).2; simp [hp] at e; omega
      | some o => exact h'.fix b o (by show (if F1 b then none else hp w b) = some o; rw [if_neg (fun h => h3 b h hb)]; exact e)
    refine ⟨fun b o hb => ?_, Nat.le_trans hI.size h'.size, h'.os.trans hI.os, h'.tape.trans hI.tape, h'.output.trans hI.output, ?_⟩
    · refine h'.fix b o ?_
      show (if F1 b then none else hp w b) = some o
      rw [if_neg]
      · exact hI.fix b o hb
      · intro hF
        have := (h1 b hF).1
        rw [hb] at this
        cases this
    · have h4 := h'.sep.append (hs2.congr hF2) (fun b hb hF => by
        have hb := hb.1
        have hb : (if F1 b then none else hp w b) = none := hb
        rw [if_neg (fun h => h3 b h hF)] at hb
        have := (h2 b hF).2
        simp [hp] at hb
        omega)
      refine h4.mono fun b hb => ?_
      have hsz : w.heap.size ≤ w'.heap.size := h'.size
      rcases hb with ⟨hb1, hb2⟩ | hb
      · refine ⟨?_, hb2⟩
        have hb1 : (if F1 b then none else hp w b) = none := hb1
        by_cases hF : F1 b
        · exact (h1 b hF).1
        · rw [if_neg hF] at hb1
          cases e : M.blk b with
          | none => rfl
          | some o => rw [hI.fix b o e] at hb1; cases hb1
      · have := h2 b hb
        exact ⟨this.1, by omega⟩
theorem d_tail' {E : Env} {k : List Item} {f : Nat → Value} {w : World} {M : Mem} {L : List Asrt} {id : Nat} {l : List Oper} (n : Nat) (o : Oper) (G : List Grp) (hs : List Hint) (us : List (Nat × Value)) (bs : List (Int × Nat))
    (hm : E.P.follows .mixedOrders = true) (hB : Region.lexTailB .any l.toArray n = true) (hl : hs.length = n) (ho : l.drop n = [o])
    (hG : Grps w G) (hb' : Bnds bs) (hr : frameOf (runB E.P E.N l.toArray G hs 0 f) = some (updL f us)) (ha : addrsOf (runB E.P E.N l.toArray G hs 0 f) true = addrsOf (runB E.P E.N l.toArray G hs 0 f) false)
    (hb : bndsOf (runB E.P E.N l.toArray G hs 0 f) = bs) (hw : wants E.N l.toArray (updL f us) o = true) (hI : Inv M w L)
    (h : ∀ w', Inv M w' L → hp w' = hp w → Eff E.P o (ev E.N (updL f us)) w' (fun v w'' => Go E k (updO (updL f us) o.dst v) w'')) (h0 : E.plain := by exact ⟨rfl, rfl⟩) : Go E (.code (.region id l.toArray true) :: k) f w := by
  refine go_falls h0 (wp_region_still_tail n hm hB ?_)
  have h1 : Rd E.P E.N l.toArray w.drew (hs.length + 0) 0 f (fun f' => f' = updL f us) := rd_batch (n := 0) 0 G hs us bs (grps_drew hG) hb' hr ha hb rfl
  rw [Nat.add_zero, hl] at h1
  have := rd_still (Q := fun a' => wpList E.P l.toArray (Falls E k) (l.drop n) a' w.drew) (fun f' h' => by
    subst h'
    rw [ho]
    exact tail_one hw (h _ hI.drew' rfl)) h1
  simpa using this
end Go.Proofs.YtnlkggppokcmfaaE
