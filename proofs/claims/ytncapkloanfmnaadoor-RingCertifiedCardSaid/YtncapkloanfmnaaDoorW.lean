/- The engine, part W: loops over functions: the record, the rounds, the function's return past the mark. -/
import Derived.Test.YtncapkloanfmnaaDoorV
import Derived.RangeFuncRecord
import Derived.RangeFuncIn
import Derived.RangeFuncLeaves
namespace Go.Proofs.YtncapkloanfmnaaDoorE
open Go
set_option linter.unusedVariables false
set_option linter.unusedSimpArgs false
set_option linter.unusedSectionVars false

/-- a block of the call's own that holds just o -/
def objA (b : Nat) (o : Obj) : Asrt := .any (fun H F => F b ∧ H b = some o) (fun h hF => ⟨hF _ h.1, h.2⟩) (fun h hF => ⟨h.1, by rw [hF _ h.1]; exact h.2⟩)
section
variable {M : Mem} {w : World} {L : List Asrt} {P : Program}
theorem Inv.objAt (h : Inv M w L) (li : Nat) {b : Nat} {o : Obj} (hL : L[li]? = some (objA b o)) : w.heap[b]? = some o := by
  obtain ⟨F1, _, hown⟩ := h.look hL
  exact hown.2
theorem Inv.objNew (h : Inv M w L) (o : Obj) : Inv M (w.alloc o) (L ++ [objA w.heap.size o]) := h.alloc o ⟨rfl, hp_alloc_new w _⟩
theorem Inv.objPut (h : Inv M w L) (li : Nat) {b : Nat} {o : Obj} (o' : Obj) (hL : L[li]? = some (objA b o)) : Inv M (w.putObj b o') (L.set li (objA b o')) := by
  have hb := h.objAt li hL
  have hset := MapKept.heap_set (w := w) (o' := o') hb
  refine h.turn hL (w' := w.putObj b o') (by simp [World.putObj]) rfl rfl rfl ?_
  rintro F hF ⟨hFb, _⟩
  exact ⟨F, ⟨hFb, hset.1⟩, fun b2 _ hn => hset.2 b2 (fun e => hn (e ▸ hFb)), fun _ h => .inl h⟩

/-- yield, called with these arguments -/
def YieldC (P : Program) (l : Nat) (args : Array Value) (w : World) (R : Value → World → Prop) : Prop :=
  ∃ g tmps assign body, (Instr.yield l args).run P w = .ok (.round l g tmps assign body) w ∧ RoundC P l g tmps assign body w R
theorem RoundC.mono {l : Nat} {g : FuncId} {tmps : Array Value} {assign body : Code} {R R' : Value → World → Prop} (h : RoundC P l g tmps assign body w R) (hR : ∀ v w, R v w → R' v w) : RoundC P l g tmps assign body w R' := by
  intro c cs
  obtain ⟨v, w', h1, h2⟩ := h c cs
  exact ⟨v, w', hR v w' h1, h2⟩
end
section
variable {E : Env} {k : List Item} {f : Nat → Value} {w : World} {M : Mem} {L : List Asrt} {ops : Array Oper}
/-- a call of yield -/
theorem o_yield {R : Value → World → Prop} (i : Nat) (o : Oper) (hn : nth ops.toList i = some o) (hw : wants E.N ops f o = true) (l : Nat) (args : Array Value) (x : Operand) (xs : Array Operand) (ts : Array TypeId)
    (hop : o.op = .call { callee := .value x, args := xs, argTypes := ts }) (hx : ev E.N f x = .func (.yield l) #[] #[]) (hxs : xs.map (ev E.N f) = args) (hY : YieldC E.P l args w R)
    (h : ∀ v w', R v w' → GoO E ops (i + 1) k (updO f o.dst v) w') : GoO E ops i k f w := by
  obtain ⟨g, tmps, assign, body, hy, hr⟩ := hY
  have ho : ops[i]? = some o := by rw [nth_eq] at hn; simpa using hn
  have hrun : (execOp (ev E.N f) o).run E.P w = .ok (.round l g tmps assign body) w := by
    simp only [execOp, hop, resolve, hx, hxs, Sem.run_bind, Deferred.ofValue, Sem.run, pure, Result.andThen, invoke, Array.empty_append, hy]
  unfold GoO
  rw [drop_range (lt_of_get ho)]
  exact go_round o ho hw hrun hr fun v w' hv => h v w' hv
/-- a round, out of its frame's walk -/
theorem round_go {P : Program} {l : Nat} {g : FuncId} {N : Nat} {tmps : Array Value} {assign body : Code} {R : Value → World → Prop} (ht : tmps = tm N f)
    (h : ∀ c cs, Go ⟨P, g, N, c :: cs, fun e w => ∃ v, e = .returned v ∧ R v w, [], some l⟩ [.code assign, .beginRound, .code body] f w) : RoundC P l g tmps assign body w R := by
  intro c cs
  obtain ⟨m, hs, v, w', c', cs', hc, ⟨v', hv, hR⟩, rfl⟩ := h c cs
  cases hc
  cases hv
  refine ⟨v, w', hR, ?_⟩
  have e : Frame.round l g tmps assign body .normal = Frame.atR { (default : Frame) with fn := g, kind := .normal, roundOf := some l } ⟨tm N f, []⟩ [.code assign, .beginRound, .code body] := by
    simp [Frame.round, Frame.atR, ht]
  rw [e]
  exact hs
theorem go_begin {l : Nat} {r : Loop} (hro : E.ro = some l) (hI : Inv M w L) (li : Nat) (hL : L[li]? = some (objA l (.loop r))) (hr : r.state = .ready)
    (h : ∀ w', Inv M w' (L.set li (objA l (.loop { r with state := .busy }))) → Go E k f w') : Go E (.beginRound :: k) f w :=
  .step (stepR_beginRound hro (run_beginRound (hI.objAt li hL) hr)) (h _ (hI.objPut li _ hL))
/-- a round ends: off its end, or by a jump -/
theorem go_round_end {l : Nat} {r : Loop} {c : Frame} {cs : List Frame} (hro : E.ro = some l) (hcs : E.cs = c :: cs) (hI : Inv M w L) (li : Nat) (hL : L[li]? = some (objA l (.loop r)))
    (hR : ∀ w', Inv M w' (L.set li (objA l (.loop { r with state := .ready, pending := none }))) → E.R (.returned (.bool true)) w') : Go E [] f w := by
  have hs := stepR_round_end (P := E.P) (b := E.b) (a := E.fr f) (c := c) (cs := cs) (w := w) hro rfl (run_endRound none (hI.objAt li hL))
  rw [← hcs] at hs
  refine ⟨_, Steps.one hs, ?_⟩
  unfold Env.End
  rw [hro]
  exact ⟨_, _, c, cs, hcs, hR _ (hI.objPut li _ hL), rfl⟩
theorem go_round_ret {l : Nat} {r : Loop} {c : Frame} {cs : List Frame} (hro : E.ro = some l) (hcs : E.cs = c :: cs) (hI : Inv M w L) (li : Nat) (hL : L[li]? = some (objA l (.loop r)))
    (hR : ∀ w', Inv M w' (L.set li (objA l (.loop { r with state := .done, pending := some .ret }))) → E.R (.returned (.bool false)) w') : Go E (.code .ret :: k) f w := by
  have hs := stepR_round_ret (P := E.P) (b := E.b) (a := E.fr f) (k := k) (c := c) (cs := cs) (w := w) hro rfl (run_endRound (some .ret) (hI.objAt li hL))
  rw [← hcs] at hs
  refine ⟨_, Steps.one hs, ?_⟩
  unfold Env.End
  rw [hro]
  exact ⟨_, _, c, cs, hcs, hR _ (hI.objPut li _ hL), rfl⟩
/-- 'for .. := range g': the record is laid, g is called with yield; what its end leaves to do -/
theorem go_range {gf : FuncId} {ps : Array Tmp} {assign body : Code} {R : Ending → World → Prop} (hro : E.ro = none) (hI : Inv M w L) (hent : ∀ a : Array Value, Sem.pureRun E.P (callFunc gf a) = some (.enter gf a))
    (h : ∀ D l w1, Inv M w1 (L ++ [objA D (.deferred (some []))] ++ [objA l (.loop { state := .ready, pending := none, fn := E.fn, tmps := tm E.N f, params := ps, assign, body, defers := D })]) →
      Calls E.P gf #[.func (.yield l) #[] #[]] w1 R ∧ ∀ e w3, R e w3 → ∃ v, e = .returned v ∧ ∃ jump w4, (Instr.endLoop l).run E.P w3 = .ok jump w4 ∧
        Go { E with ds := { target := .collected D, args := #[] } :: E.ds } ((jump.map Item.code).toList ++ k) f w4) : Go E (.code (.rangeFunc (.func gf) ps assign body) :: k) f w := by
  have hI1 := hI.objNew (.deferred (some []))
  have hI2 := hI1.objNew (.loop { state := .ready, pending := none, fn := E.fn, tmps := tm E.N f, params := ps, assign, body, defers := w.heap.size })
  obtain ⟨hcall, hend⟩ := h _ _ _ hI2
  have hl : (w.alloc (.deferred (some []))).heap.size = w.heap.size + 1 := World.size_alloc _ _
  rw [hl] at hcall hend
  have he : (Instr.enterLoop E.b.fn (E.fr f).tmps ps assign body E.b.roundOf).run E.P w = .ok (w.heap.size + 1, [{ target := .collected w.heap.size, args := #[] }]) ((w.alloc (.deferred (some []))).alloc (.loop { state := .ready, pending := none, fn := E.fn, tmps := tm E.N f, params := ps, assign, body, defers := w.heap.size })) := by
    rw [show E.b.roundOf = none from hro]
    exact run_enterLoop_outer E.b.fn (E.fr f).tmps ps assign body
  have hres : (resolve (E.fr f).eval (rangeCall (.func gf) (w.heap.size + 1)) 0).run E.P ((w.alloc (.deferred (some []))).alloc (.loop { state := .ready, pending := none, fn := E.fn, tmps := tm E.N f, params := ps, assign, body, defers := w.heap.size })) =
      .ok { target := .fn (.func gf) #[], args := #[.func (.yield (w.heap.size + 1)) #[] #[]] } ((w.alloc (.deferred (some []))).alloc (.loop { state := .ready, pending := none, fn := E.fn, tmps := tm E.N f, params := ps, assign, body, defers := w.heap.size })) := by
    simp [resolve, rangeCall, Act.eval, Deferred.ofValue]
  have hinv : (invoke (.fn (.func gf) #[]) #[.func (.yield (w.heap.size + 1)) #[] #[]]).run E.P ((w.alloc (.deferred (some []))).alloc (.loop { state := .ready, pending := none, fn := E.fn, tmps := tm E.N f, params := ps, assign, body, defers := w.heap.size })) = .ok (.enter gf #[.func (.yield (w.heap.size + 1)) #[] #[]]) _ :=
    Sem.pureRun_run _ (hent _) _
  have hs := stepR_rangeFunc (P := E.P) (b := E.b) (a := E.fr f) (k := k) (cs := E.cs) (w := w) he hres hinv
  obtain ⟨e, w3, fr', hR, hsteps, _, hleave⟩ := hcall (E.b.atR { E.fr f with defers := [{ target := .collected w.heap.size, args := #[] }] ++ (E.fr f).defers } (.inRangeFunc (w.heap.size + 1) :: k) :: E.cs)
  obtain ⟨v, rfl, jump, w4, hendl, m, hm1, hm2⟩ := hend e w3 hR
  refine ⟨m, Steps.head hs (Steps.trans hsteps (Steps.head ?_ (Steps.head (stepR_endRangeFunc hendl) hm1))), hm2⟩
  rw [← finish_atR_inRangeFunc (w.heap.size + 1) v]
  exact step_leave_returned hleave
theorem run_endLoop' {P : Program} {l : Nat} {r : Loop} (hI : Inv M w L) (li : Nat) (hL : L[li]? = some (objA l (.loop r))) (hb : r.state ≠ .busy) :
    ∃ w', (Instr.endLoop l).run P w = .ok r.pending w' ∧ Inv M w' (L.set li (objA l (.loop { r with state := .exhausted }))) :=
  ⟨_, run_endLoop (hI.objAt li hL) hb, hI.objPut li _ hL⟩
/-- return past the mark -/
theorem go_ret_mark {fn : Func} {D : Nat} (hds : E.ds = [{ target := .collected D, args := #[] }]) (hro : E.ro = none) (hI : Inv M w L) (li : Nat) (hL : L[li]? = some (objA D (.deferred (some [])))) (hf : E.P.funcs[E.fn]? = some fn)
    (h : ∀ w', Inv M w' (L.set li (objA D (.deferred none))) → ∃ v, (results fn (tm E.N f)).run E.P w' = .ok v w' ∧ E.R (.returned v) w') : Go E (.code .ret :: k) f w := by
  obtain ⟨v, hv, hR⟩ := h _ (hI.objPut li (.deferred none) hL)
  have s1 := stepR_ret (P := E.P) (b := E.b) (a := E.fr f) (k := k) (cs := E.cs) (w := w) hro
  have s2 := step_collected (P := E.P) (fr := { E.b.atR (E.fr f) (.code .ret :: k) with mode := .returning }) (cs := E.cs) (w := w) (ds := []) (d := { target := .collected D, args := #[] }) (r := D) (calls := [])
    (by simp) (by show E.ds = _; exact hds) rfl (run_takeDeferred (hI.objAt li hL))
  refine ⟨_, Steps.head s1 (Steps.one s2), ?_⟩
  unfold Env.End
  rw [hro]
  exact ⟨v, _, _, hR, rfl, rfl, rfl, rfl, rfl, fn, hf, hv⟩
end
end Go.Proofs.YtncapkloanfmnaaDoorE
