/- The engine, part X: loops over functions, whole; what they leave deferred; an array's element by its number. -/
import Derived.Test.YtncapkloanfmnaaDoorW
namespace Go.Proofs.YtncapkloanfmnaaDoorE
open Go
set_option linter.unusedVariables false
set_option linter.unusedSimpArgs false
set_option linter.unusedSectionVars false

/-- are two strings the same? -/
def sEq (a b : ByteArray) : Bool := a.toList == b.toList
theorem size_len (bs : ByteArray) : bs.size = bs.data.toList.length := by rw [Array.length_toList]; rfl
theorem toList_loop (bs : ByteArray) : ∀ (n i : Nat) (r : List UInt8), bs.size - i = n → ByteArray.toList.loop bs i r = r.reverse ++ bs.data.toList.drop i
  | n, i, r, h => by
    unfold ByteArray.toList.loop
    split
    · rename_i hi
      cases n with
      | zero => omega
      | succ n =>
        rw [toList_loop bs n (i + 1) _ (by omega)]
        have hi' : i < bs.data.toList.length := by rw [← size_len]; exact hi
        rw [List.drop_eq_getElem_cons hi']
        have hg : bs.get! i = bs.data.toList[i] := by
          have h2 : i < bs.data.size := by simpa using hi'
          show bs.data[i]! = _
          rw [getElem!_pos bs.data i h2]
          simp
        simp [hg]
    · rename_i hi
      have : bs.data.toList.length ≤ i := by rw [← size_len]; omega
      rw [List.drop_of_length_le this]
      simp
theorem toList_eq (bs : ByteArray) : bs.toList = bs.data.toList := by
  unfold ByteArray.toList
  rw [toList_loop bs _ 0 [] rfl]
  simp
theorem sEq_iff {a b : ByteArray} : sEq a b = true ↔ a = b := by
  unfold sEq
  rw [toList_eq, toList_eq, beq_iff_eq]
  constructor
  · intro h
    cases a
    cases b
    simpa using h
  · rintro rfl; rfl

/-- one of an array's elements -/
theorem e_index {P : Program} {o : Oper} {ev_ : Operand → Value} {K : Value → World → Prop} {w : World} {α : Type} [Inhabited α] (enc : α → Value) (t el : TypeId) (x ix : Operand) (n : Nat) (cs : Array Value) (xs : List α) (kk : IntKind) (j : Int)
    (hop : o.op = .index t x ix) (hx : ev_ x = .agg cs) (hi : ev_ ix = .int kk j) (hu : P.underlying t = some (.array n el)) (hs : (P.info? el).map (·.size) = some 1)
    (ha : (match P.underlying el with | some (.struct _) => false | some (.array _ _) => false | none => false | some _ => true) = true)
    (hcs : cs.toList = xs.map enc) (hn : Nat.beq xs.length n = true) (hj : 0 ≤ j ∧ j < (n : Int)) (h : K (enc (idx xs j)) w) : Eff P o ev_ w K := by
  refine eff_val (enc (idx xs j)) (w' := w) ?_ h
  have hn := Nat.eq_of_beq_eq_true hn
  have hl : j.toNat < xs.length := by omega
  cases hi' : P.info? el with
  | none => rw [hi'] at hs; cases hs
  | some inf =>
    rw [hi'] at hs
    simp only [Option.map_some, Option.some.injEq] at hs
    cases hd : P.underlying el with
    | none => rw [hd] at ha; cases ha
    | some d =>
      rw [hd] at ha
      have hagg : (isAgg el).run P w = .ok false w := by
        rw [run_isAgg hd]
        cases d <;> first | rfl | cases ha
      have hget : cs[j.toNat]? = some (enc (idx xs j)) := by
        rw [← Array.getElem?_toList, hcs, List.getElem?_map, idx, List.getD_eq_getElem?_getD, List.getElem?_eq_getElem hl]
        rfl
      simp only [execOp, hop, hx, hi, Instr.index, asIntOf, Sem.run_bind, Sem.run, pure, Result.andThen, run_underlying' hu, if_pos hj, run_sizeOf hi', hs, Nat.mul_one, part, hagg, Bool.false_eq_true, if_false, hget]

/-- a part of a row: read as long as the row is -/
theorem e_slice_view {P : Program} {o : Oper} {ev_ : Operand → Value} {K : Value → World → Prop} {w : World} {α : Type} (kt : Ty α) (t e : TypeId) (x : Operand) (lo hi : Option Operand) (inf : TypeInfo) (A : Option Addr) (c : Nat) (xs : List α) (kl kh : IntKind) (l h : Int) (hop : o.op = .slice t x lo hi none)
    (hx : ev_ x = .slice A xs.length c) (hlo : (lo.map ev_).getD (.int .i64 0) = .int kl l) (hhi : (hi.map ev_).getD (.int .i64 xs.length) = .int kh h)
    (ht : P.underlying t = some (.slice e)) (hi' : P.info? e = some inf) (hsz : inf.size = kt.sz) (hc : xs.length ≤ c) (hb : 0 ≤ l ∧ l ≤ h ∧ h ≤ xs.length)
    (h : ∀ A' c', (∀ H, rdS kt H A xs → rdS kt H A' (subl xs l h)) → (subl xs l h).length ≤ c' → K (.slice A' (subl xs l h).length c') w) : Eff P o ev_ w K := by
  have hrun := run_slice_opt (w := w) A xs.length c (lo.map ev_) (hi.map ev_) kl kh l _ ht hi' hlo hhi hb hc
  refine eff_val _ (w' := w) ?_ (h _ (c - l.toNat) (fun H hr => hr.sub hc hb hsz) ?_)
  · simp only [execOp, hop, hx, Option.map_none, Sem.run_bind, hrun, Result.andThen, Sem.run, pure, subl_len hb]
  · rw [subl_len hb]; omega

/-! ### pieces in a bag: what is told of them may hang on what is not told -/
def bagx {ι : Type} (p : ι → Prop) (L : ι → List Asrt) : Asrt :=
  .any (fun H F => ∃ i, p i ∧ sep (L i) H F) (fun ⟨i, hp, h⟩ hF => ⟨i, hp, h.mono hF⟩) (fun ⟨i, hp, h⟩ hF => ⟨i, hp, h.congr hF⟩)
section
variable {M : Mem} {w : World} {L L0 : List Asrt} {P : Program}
theorem Inv.unbag {ι : Type} {p : ι → Prop} {B : ι → List Asrt} (h : Inv M w (bagx p B :: L0)) : ∃ i, p i ∧ Inv M w (B i ++ L0) := by
  obtain ⟨F1, F2, h1, h2, h3, ⟨i, hp, hs⟩, h5⟩ := h.sep
  exact ⟨i, hp, h.fix, h.size, h.os, h.tape, h.output, (hs.append h5 h3).mono fun b hb => hb.elim (h1 b) (h2 b)⟩
theorem Inv.tobag {ι : Type} {p : ι → Prop} {B : ι → List Asrt} (i : ι) (hp : p i) (h : Inv M w (B i ++ L0)) : Inv M w (bagx p B :: L0) := by
  obtain ⟨F1, F2, h1, h2, h3, h4, h5⟩ := h.sep.split
  exact ⟨h.fix, h.size, h.os, h.tape, h.output, F1, F2, h1, h2, h3, ⟨i, hp, h4⟩, h5⟩
def rest (L : List Asrt) : Asrt := bagx (fun _ : Unit => True) (fun _ => L)
theorem Inv.tails {a : Asrt} (h : Inv M w (a :: L)) : Inv M w [a, rest L] := by
  obtain ⟨F1, F2, h1, h2, h3, h4, h5⟩ := h.sep
  exact ⟨h.fix, h.size, h.os, h.tape, h.output, F1, F2, h1, h2, h3, h4, F2, fun _ => False, fun _ h => h, fun _ h => h.elim, fun _ _ h => h, ⟨(), trivial, h5⟩, trivial⟩
theorem Inv.untails {a : Asrt} (h : Inv M w [a, rest L]) : Inv M w (a :: L) := by
  obtain ⟨F1, F2, h1, h2, h3, h4, G1, G2, g1, _, _, ⟨_, _, h5⟩, _⟩ := h.sep
  exact ⟨h.fix, h.size, h.os, h.tape, h.output, F1, F2, h1, h2, h3, h4, h5.mono g1⟩

/-! ### what loops over functions leave deferred -/
def dmark (D : Nat) : Deferred := { target := .collected D, args := #[] }
def marks (Ds : List Nat) : List Deferred := Ds.map dmark
def marksA (Ds : List Nat) : Asrt :=
  .any (fun H F => Ds.Nodup ∧ ∀ D ∈ Ds, F D ∧ H D = some (.deferred (some []))) (fun h hF => ⟨h.1, fun D hD => ⟨hF D (h.2 D hD).1, (h.2 D hD).2⟩⟩) (fun h hF => ⟨h.1, fun D hD => ⟨(h.2 D hD).1, (hF D (h.2 D hD).1).trans (h.2 D hD).2⟩⟩)
def Env.marks (E : Env) (Ds : List Nat) : Env := { E with ds := Go.Proofs.YtncapkloanfmnaaDoorE.marks Ds }
theorem Inv.nomarks (h : Inv M w L) : Inv M w (marksA [] :: L) :=
  ⟨h.fix, h.size, h.os, h.tape, h.output, fun _ => False, _, fun _ h => h.elim, fun _ h => h, fun _ h => h.elim, ⟨List.nodup_nil, fun _ h => by cases h⟩, h.sep⟩
theorem Inv.addmark {D : Nat} {Ds : List Nat} (h : Inv M w (objA D (.deferred (some [])) :: marksA Ds :: L)) : Inv M w (marksA (D :: Ds) :: L) := by
  obtain ⟨F1, F2, h1, h2, h3, hD, G1, G2, g1, g2, g3, hM, hL⟩ := h.sep
  refine ⟨h.fix, h.size, h.os, h.tape, h.output, fun b => F1 b ∨ G1 b, G2, fun b hb => hb.elim (h1 b) (fun hb => h2 b (g1 b hb)), fun b hb => h2 b (g2 b hb), ?_, ⟨List.nodup_cons.2 ⟨fun hm => ?_, hM.1⟩, ?_⟩, hL⟩
  · rintro b (hb | hb) hg
    · exact h3 b hb (g2 b hg)
    · exact g3 b hb hg
  · exact h3 D hD.1 (g1 D (hM.2 D hm).1)
  · intro D' hm
    rcases List.mem_cons.1 hm with rfl | hm
    · exact ⟨.inl hD.1, hD.2⟩
    · exact ⟨.inr (hM.2 D' hm).1, (hM.2 D' hm).2⟩
theorem Inv.unmark {D : Nat} {Ds : List Nat} (h : Inv M w (marksA (D :: Ds) :: L)) : Inv M w (objA D (.deferred (some [])) :: marksA Ds :: L) := by
  obtain ⟨F1, F2, h1, h2, h3, hM, hL⟩ := h.sep
  obtain ⟨hn, hm⟩ := hM
  obtain ⟨hn1, hn2⟩ := List.nodup_cons.1 hn
  refine ⟨h.fix, h.size, h.os, h.tape, h.output, fun b => b = D, fun b => (F1 b ∧ b ≠ D) ∨ F2 b, fun b hb => ?_, fun b hb => hb.elim (fun hb => h1 b hb.1) (h2 b), ?_, ⟨rfl, (hm D List.mem_cons_self).2⟩, fun b => F1 b ∧ b ≠ D, F2, fun _ h => .inl h, fun _ h => .inr h, fun b hb => h3 b hb.1, ⟨hn2, fun D' hD' => ?_⟩, hL⟩
  · subst hb; exact h1 _ (hm _ List.mem_cons_self).1
  · rintro b rfl (hb | hb)
    · exact hb.2 rfl
    · exact h3 b (hm b List.mem_cons_self).1 hb
  · exact ⟨⟨(hm D' (List.mem_cons_of_mem _ hD')).1, fun e => hn1 (e ▸ hD')⟩, (hm D' (List.mem_cons_of_mem _ hD')).2⟩

/-- a frame on its way out, past the marks -/
theorem steps_marks {fn : Func} {R : Ending → World → Prop} : ∀ {Ds : List Nat} {w : World} {fr : Frame} {cs : List Frame}, fr.mode = .returning → fr.kind = .normal → fr.roundOf = none → fr.defers = marks Ds → P.funcs[fr.fn]? = some fn → Inv M w (marksA Ds :: L) →
    (∀ w', Inv M w' L → ∃ v, (results fn fr.tmps).run P w' = .ok v w' ∧ R (.returned v) w') →
    ∃ v w' fr', R (.returned v) w' ∧ Steps P (lone fr cs w) (lone fr' cs w') ∧ fr'.fn = fr.fn ∧ fr'.leaving P w' (.returned v)
  | [], w, fr, cs, hm, hk, hr, hd, hf, hI, h => by
    obtain ⟨F1, F2, _, h2, _, _, hL⟩ := hI.sep
    obtain ⟨v, hv, hR⟩ := h w ⟨hI.fix, hI.size, hI.os, hI.tape, hI.output, hL.mono h2⟩
    exact ⟨v, w, fr, hR, Steps.refl _ _, rfl, hm, hd, hk, fn, hf, hv⟩
  | D :: Ds, w, fr, cs, hm, hk, hr, hd, hf, hI, h => by
    have h1 := hI.unmark
    have s1 := step_collected (P := P) (fr := fr) (cs := cs) (w := w) (d := dmark D) (ds := marks Ds) (r := D) (calls := []) (by rw [hm]; intro h; cases h) hd rfl (run_takeDeferred (h1.objAt 0 rfl))
    have h2 : Inv M (w.putObj D (.deferred none)) (objA D (.deferred none) :: marksA Ds :: L) := h1.objPut 0 (.deferred none) rfl
    have h3 : Inv M (w.putObj D (.deferred none)) (marksA Ds :: L) := by
      obtain ⟨F1, F2, _, g2, _, _, hL⟩ := h2.sep
      exact ⟨h2.fix, h2.size, h2.os, h2.tape, h2.output, hL.mono g2⟩
    obtain ⟨v, w', fr', hR, hs, hfn, hl⟩ := steps_marks (fr := { fr with defers := [] ++ marks Ds }) (cs := cs) hm hk hr rfl hf h3 h
    exact ⟨v, w', fr', hR, Steps.head s1 hs, hfn, hl⟩
end
section
variable {E : Env} {Ds : List Nat} {k : List Item} {f : Nat → Value} {w : World} {M : Mem} {L : List Asrt}
theorem go_marks_end {fn : Func} (m : Machine) (hm : ∃ fr, m = lone fr E.cs w ∧ fr.mode = .returning ∧ fr.kind = .normal ∧ fr.roundOf = none ∧ fr.defers = marks Ds ∧ fr.fn = E.fn ∧ fr.tmps = tm E.N f) (hro : E.ro = none) (hI : Inv M w (marksA Ds :: L)) (hf : E.P.funcs[E.fn]? = some fn)
    (h : ∀ w', Inv M w' L → ∃ v, (results fn (tm E.N f)).run E.P w' = .ok v w' ∧ E.R (.returned v) w') : ∃ m', Steps E.P m m' ∧ E.End m' := by
  obtain ⟨fr, rfl, h1, h2, h3, h4, h5, h6⟩ := hm
  obtain ⟨v, w', fr', hR, hs, hfn, hl⟩ := steps_marks (P := E.P) (cs := E.cs) h1 h2 h3 h4 (by rw [h5]; exact hf) hI (by rw [h6]; exact h)
  refine ⟨_, hs, ?_⟩
  unfold Env.End
  rw [hro]
  exact ⟨v, w', fr', hR, rfl, hfn.trans h5, hl⟩
/-- a return, or the end, past the marks -/
theorem go_ret_marks {fn : Func} (hro : E.ro = none) (hI : Inv M w (marksA Ds :: L)) (hf : E.P.funcs[E.fn]? = some fn)
    (h : ∀ w', Inv M w' L → ∃ v, (results fn (tm E.N f)).run E.P w' = .ok v w' ∧ E.R (.returned v) w') : Go (E.marks Ds) (.code .ret :: k) f w := by
  obtain ⟨m, hs, he⟩ := go_marks_end (E := E) (f := f) _ ⟨{ (E.marks Ds).b.atR ((E.marks Ds).fr f) (.code .ret :: k) with mode := .returning }, rfl, rfl, rfl, hro, rfl, rfl, rfl⟩ hro hI hf h
  exact ⟨m, Steps.head (stepR_ret (b := (E.marks Ds).b) (a := (E.marks Ds).fr f) (P := E.P) (k := k) (cs := E.cs) (w := w) hro) hs, he⟩
theorem go_end_marks {fn : Func} (hro : E.ro = none) (hI : Inv M w (marksA Ds :: L)) (hf : E.P.funcs[E.fn]? = some fn)
    (h : ∀ w', Inv M w' L → ∃ v, (results fn (tm E.N f)).run E.P w' = .ok v w' ∧ E.R (.returned v) w') : Go (E.marks Ds) [] f w := by
  obtain ⟨m, hs, he⟩ := go_marks_end (E := E) (f := f) _ ⟨{ (E.marks Ds).b.atR ((E.marks Ds).fr f) [] with mode := .returning }, rfl, rfl, rfl, hro, rfl, rfl, rfl⟩ hro hI hf h
  exact ⟨m, Steps.head (stepR_end (b := (E.marks Ds).b) (a := (E.marks Ds).fr f) (P := E.P) (cs := E.cs) (w := w) hro) hs, he⟩
theorem go_iterM {c : Code} {σ Ω : Type} (step : σ → Option (σ ⊕ Ω)) (St : σ → List Nat → (Nat → Value) → World → Prop) {o : Ω} {s : σ}
    (H : iter step s = some o) (h0 : St s Ds f w)
    (round : ∀ s Ds f w x, step s = some x → St s Ds f w → (∀ s', x = .inl s' → ∀ Ds' f' w', St s' Ds' f' w' → Go (E.marks Ds') (.inLoop c :: k) f' w') → (∀ ω, x = .inr ω → ω = o) → Go (E.marks Ds) (.code c :: .inLoop c :: k) f w) :
    Go (E.marks Ds) (.code (.loop c) :: k) f w := by
  obtain ⟨n, hn⟩ := iter_iff.1 H
  refine go_loop ?_
  clear H
  induction n generalizing s Ds f w with
  | zero => cases hn
  | succ n ih =>
    simp only [iterN] at hn
    cases hs : step s with
    | none => rw [hs] at hn; cases hn
    | some x =>
      rw [hs] at hn
      refine round s Ds f w x hs h0 ?_ ?_
      · rintro s' rfl Ds' f' w' h'
        exact go_again (ih (s := s') h' hn)
      · rintro ω rfl
        exact Option.some.inj hn
theorem go_seq_joinM {x y : Code} {σ Ω : Type} {o : Ω} (St : σ → List Nat → (Nat → Value) → World → Prop) (K : σ → Option Ω)
    (hJ : ∀ s Ds f w, St s Ds f w → K s = some o → Go (E.marks Ds) (.code y :: k) f w)
    (h : (∀ s Ds f w, St s Ds f w → K s = some o → Go (E.marks Ds) (.code y :: k) f w) → Go (E.marks Ds) (.code x :: .code y :: k) f w) : Go (E.marks Ds) (.code (.seq x y) :: k) f w := go_seq (h hJ)
theorem go_block_joinM {id : Nat} {c : Code} {σ Ω : Type} {o : Ω} (St : σ → List Nat → (Nat → Value) → World → Prop) (K : σ → Option Ω)
    (hJ : ∀ s Ds f w, St s Ds f w → K s = some o → Go (E.marks Ds) k f w)
    (h : (∀ s Ds f w, St s Ds f w → K s = some o → Go (E.marks Ds) k f w) → Go (E.marks Ds) (.code c :: .inBlock id :: k) f w) : Go (E.marks Ds) (.code (.block id c) :: k) f w := go_block (h hJ)
end
theorem calls_goM {P : Program} {g : FuncId} {fn : Func} {c : Code} {args : Array Value} {w : World} {R : Ending → World → Prop} (f : Nat → Value)
    (hf : P.funcs[g]? = some fn) (hb : fn.body = some c) (ha : args ++ Array.replicate (fn.ntmps - args.size) undef = tm fn.ntmps f)
    (h : ∀ cs, Go (Env.marks ⟨P, g, fn.ntmps, cs, R, [], none⟩ []) [.code c] f w) : Calls P g args w R := calls_go f hf hb ha h

/-! ### the loop -/
def recAt (r : Loop) (st : LoopState) (pd : Option Code) : Loop := { r with state := st, pending := pd }
structure IsRec (fn : FuncId) (tmps : Array Value) (ps : Array Tmp) (assign body : Code) (r : Loop) : Prop where
  fn : r.fn = fn
  tmps : r.tmps = tmps
  params : r.params = ps
  assign : r.assign = assign
  body : r.body = body
theorem fold_tm (N : Nat) : ∀ (us : List (Nat × Value)) (f : Nat → Value), us.foldl (fun tmps p => tmps.setIfInBounds p.1 p.2) (tm N f) = tm N (updL f us)
  | [], _ => rfl
  | (d, v) :: us, f => by rw [List.foldl_cons, tm_set, fold_tm N us]; rfl

section
variable {E : Env} {Ds : List Nat} {k : List Item} {f : Nat → Value} {w : World} {M : Mem} {L : List Asrt}
theorem go_over {ω α : Type} (gf : FuncId) (first cap : Array Value) {x : Operand} {ps : Array Tmp} {assign body : Code} (enc : α → Array Value) (us : α → List (Nat × Value)) (B : Loop → Nat → Nat → ω → Asrt) (Y : ω → α → Option (Bool × ω)) (s0 o : ω)
    (hro : E.ro = none) (hx : ev E.N f x = .func (.func gf) first cap) (hent : ∀ a : Array Value, Sem.pureRun E.P (callFunc gf a) = some (.enter gf a)) (hus : ∀ a, (ps.zip (enc a)).toList = us a) (hsz : ∀ a, Nat.beq (enc a).size ps.size = true) (hI : Inv M w L)
    (h0 : ∀ r D l w', Inv M w' (objA D (.deferred (some [])) :: objA l (.loop (recAt r .ready none)) :: L) → Inv M w' [B r D l s0])
    (hcall : ∀ rc D l w1, Inv M w1 [B rc D l s0] → (∀ s a x w L, Y s a = some x → Inv M w (B rc D l s :: L) → YieldC E.P l (enc a) w (fun v w' => v = .bool x.1 ∧ Inv M w' (B rc D l x.2 :: L))) →
      Calls E.P gf (first ++ #[.func (.yield l) #[] #[]] ++ cap) w1 fun e w' => e = .returned (.tuple #[]) ∧ Inv M w' [B rc D l o])
    (hround : ∀ rc D l s a r w T, Y s a = some r → Inv M w [B rc D l s, T] →
      (∃ q st pd, w.heap[l]? = some (.loop q) ∧ q = recAt rc st pd) ∧ ∀ c cs, Go ⟨E.P, E.fn, E.N, c :: cs, fun e w' => ∃ v, e = .returned v ∧ (v = .bool r.1 ∧ Inv M w' [B rc D l r.2, T]), [], some l⟩ [.code assign, .beginRound, .code body] (updL f (us a)) w)
    (hend : ∀ rc D l w', Inv M w' [B rc D l o] → ∃ jump w4, (Instr.endLoop l).run E.P w' = .ok jump w4 ∧ Go (E.marks (D :: Ds)) ((jump.map Item.code).toList ++ k) f w4) :
    Go (E.marks Ds) (.code (.rangeFunc x ps assign body) :: k) f w := by
  have hI1 := hI.objNew (.deferred (some []))
  have hl : (w.alloc (.deferred (some []))).heap.size = w.heap.size + 1 := World.size_alloc _ _
  let rc : Loop := { state := .ready, pending := none, fn := E.fn, tmps := tm E.N f, params := ps, assign := assign, body := body, defers := w.heap.size }
  have hI2 := hI1.objNew (.loop rc)
  rw [hl] at hI2
  have hI3 : Inv M ((w.alloc (.deferred (some []))).alloc (.loop rc)) (objA w.heap.size (.deferred (some [])) :: objA (w.heap.size + 1) (.loop (recAt rc .ready none)) :: L) := by
    refine ⟨hI2.fix, hI2.size, hI2.os, hI2.tape, hI2.output, ?_⟩
    obtain ⟨F1, F2, h1, h2, h3, h4, h5⟩ := hI2.sep.split
    obtain ⟨G1, G2, g1, g2, g3, g4, g5⟩ := h4.split
    have h6 := (g5.append h5 (fun b hb hb' => h3 b (g2 b hb) hb')).append g4 (fun b hb hb' => hb.elim (fun hb => g3 b hb' hb) (fun hb => h3 b (g1 b hb') hb))
    exact h6.mono fun b hb => hb.elim (fun hb => hb.elim (fun hb => h1 b (g2 b hb)) (h2 b)) (fun hb => h1 b (g1 b hb))
  have hB0 := h0 rc _ _ _ hI3
  have hyield : ∀ s a x w' L', Y s a = some x → Inv M w' (B rc w.heap.size (w.heap.size + 1) s :: L') → YieldC E.P (w.heap.size + 1) (enc a) w' (fun v w'' => v = .bool x.1 ∧ Inv M w'' (B rc w.heap.size (w.heap.size + 1) x.2 :: L')) := by
    intro s a x w' L' hY hB
    obtain ⟨⟨q, st, pd, hq, rfl⟩, hgo⟩ := hround rc w.heap.size (w.heap.size + 1) s a x w' (rest L') hY hB.tails
    refine ⟨_, _, _, _, run_yield hq (Nat.eq_of_beq_eq_true (hsz a)), ?_⟩
    have hr := round_go (P := E.P) (l := w.heap.size + 1) (g := E.fn) (N := E.N) (assign := assign) (body := body) (w := w') (f := updL f (us a)) (R := fun v w'' => v = .bool x.1 ∧ Inv M w'' [B rc w.heap.size (w.heap.size + 1) x.2, rest L']) rfl hgo
    have ht : ((recAt rc st pd).params.zip (enc a)).foldl (fun tmps (t, a) => tmps.setIfInBounds t a) (recAt rc st pd).tmps = tm E.N (updL f (us a)) := by
      show (ps.zip (enc a)).foldl (fun tmps p => tmps.setIfInBounds p.1 p.2) (tm E.N f) = _
      rw [← fold_tm E.N (us a) f, ← hus a, Array.foldl_toList]
    rw [ht]
    exact hr.mono fun v w'' h => ⟨h.1, h.2.untails⟩
  have hc := hcall rc w.heap.size (w.heap.size + 1) _ hB0 hyield
  have he : (Instr.enterLoop (E.marks Ds).b.fn ((E.marks Ds).fr f).tmps ps assign body (E.marks Ds).b.roundOf).run E.P w = .ok (w.heap.size + 1, [{ target := .collected w.heap.size, args := #[] }]) ((w.alloc (.deferred (some []))).alloc (.loop rc)) := by
    rw [show (E.marks Ds).b.roundOf = none from hro]
    exact run_enterLoop_outer (E.marks Ds).b.fn ((E.marks Ds).fr f).tmps ps assign body
  have hres : (resolve ((E.marks Ds).fr f).eval (rangeCall x (w.heap.size + 1)) 0).run E.P ((w.alloc (.deferred (some []))).alloc (.loop rc)) =
      .ok { target := .fn (.func gf) cap, args := first ++ #[.func (.yield (w.heap.size + 1)) #[] #[]] } ((w.alloc (.deferred (some []))).alloc (.loop rc)) := by
    simp only [efr_eval]
    have hx' : ev (E.marks Ds).N f x = .func (.func gf) first cap := hx
    have hc' : ∀ v, ev (E.marks Ds).N f (.const v) = v := fun _ => rfl
    simp [resolve, rangeCall, Deferred.ofValue, hx', hc']
  have hinv : (invoke (.fn (.func gf) cap) (first ++ #[.func (.yield (w.heap.size + 1)) #[] #[]])).run E.P ((w.alloc (.deferred (some []))).alloc (.loop rc)) = .ok (.enter gf (first ++ #[.func (.yield (w.heap.size + 1)) #[] #[]] ++ cap)) _ :=
    Sem.pureRun_run _ (hent _) _
  have hs := stepR_rangeFunc (P := E.P) (b := (E.marks Ds).b) (a := (E.marks Ds).fr f) (k := k) (cs := E.cs) (w := w) he hres hinv
  obtain ⟨e, w3, fr', hR, hsteps, _, hleave⟩ := hc ((E.marks Ds).b.atR { (E.marks Ds).fr f with defers := [{ target := .collected w.heap.size, args := #[] }] ++ ((E.marks Ds).fr f).defers } (.inRangeFunc (w.heap.size + 1) :: k) :: E.cs)
  obtain ⟨rfl, hB⟩ := hR
  obtain ⟨jump, w4, hendl, m, hm1, hm2⟩ := hend rc w.heap.size (w.heap.size + 1) w3 hB
  refine ⟨m, Steps.head hs (Steps.trans hsteps (Steps.head ?_ (Steps.head (stepR_endRangeFunc hendl) hm1))), hm2⟩
  rw [← finish_atR_inRangeFunc (w.heap.size + 1) (.tuple #[])]
  exact step_leave_returned hleave
theorem go_jump0 (h : Go E k f w) : Go E (((none : Option Code).map Item.code).toList ++ k) f w := h
theorem go_jump1 {c : Code} (h : Go E (.code c :: k) f w) : Go E (((some c).map Item.code).toList ++ k) f w := h
/-- a round ends by a jump out of the loop -/
theorem go_round_exit {l id : Nat} {r : Loop} {c : Frame} {cs : List Frame} (hro : E.ro = some l) (hcs : E.cs = c :: cs) (hx : exitTo id k = none) (hI : Inv M w L) (li : Nat) (hL : L[li]? = some (objA l (.loop r)))
    (hR : ∀ w', Inv M w' (L.set li (objA l (.loop { r with state := .done, pending := some (.exit id) }))) → E.R (.returned (.bool false)) w') : Go E (.code (.exit id) :: k) f w := by
  have hs := stepR_round_exit (P := E.P) (b := E.b) (a := E.fr f) (k := k) (c := c) (cs := cs) (w := w) hro rfl hx (run_endRound (some (.exit id)) (hI.objAt li hL))
  rw [← hcs] at hs
  refine ⟨_, Steps.one hs, ?_⟩
  unfold Env.End
  rw [hro]
  exact ⟨_, _, c, cs, hcs, hR _ (hI.objPut li _ hL), rfl⟩
end
end Go.Proofs.YtncapkloanfmnaaDoorE
