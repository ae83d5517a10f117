/- The engine, part A: a frame as a function of its slots; a region's operations one by one; operations that only read, in batches. -/
import Derived.Calls
import Derived.AtR
import Derived.Tactics
import Derived.KernelRfl
import Derived.Laws.AppendOwn
import Derived.Laws.World
import Derived.Laws.StructEq
import Derived.Laws.Slices
namespace Go.Proofs.YtnlkggppokcmfaaE
open Go
set_option linter.unusedVariables false
set_option linter.unusedSimpArgs false
def upd (f : Nat → Value) (d : Nat) (v : Value) : Nat → Value := fun i => bif Nat.beq i d then v else f i
def updO (f : Nat → Value) : Option Nat → Value → Nat → Value
  | some d, v => upd f d v
  | none, _ => f
def updL (f : Nat → Value) : List (Nat × Value) → Nat → Value
  | [] => f
  | (d, v) :: r => updL (upd f d v) r
def tm (N : Nat) (f : Nat → Value) : Array Value := Array.ofFn (n := N) fun i => f i.1
def ev (N : Nat) (f : Nat → Value) : Operand → Value
  | .tmp t => bif Nat.blt t N then f t else undef
  | .const v => v
  | .global g => .pointer (some ⟨g, 0, none⟩)
  | .func g => .func (.func g) #[] #[]
def fr (N : Nat) (f : Nat → Value) : Act := ⟨tm N f, []⟩
theorem beq_no {i d : Nat} (h : i ≠ d) : Nat.beq i d = false := by
  cases e : Nat.beq i d with
  | false => rfl
  | true => exact absurd (Nat.eq_of_beq_eq_true e) h
theorem blt_yes {i d : Nat} (h : i < d) : Nat.blt i d = true := by
  have : Nat.ble (i + 1) d = true := Nat.ble_eq_true_of_le h
  exact this
theorem blt_no {i d : Nat} (h : ¬ i < d) : Nat.blt i d = false := by
  cases e : Nat.blt i d with
  | false => rfl
  | true => exact absurd (Nat.le_of_ble_eq_true e) h
theorem upd_same (f : Nat → Value) (d : Nat) (v : Value) : upd f d v d = v := by
  unfold upd
  rw [Nat.beq_refl]
  rfl
theorem upd_ne (f : Nat → Value) {d i : Nat} (v : Value) (h : i ≠ d) : upd f d v i = f i := by
  unfold upd
  rw [beq_no h]
  rfl
theorem upd_self (f : Nat → Value) (d : Nat) : upd f d (f d) = f := by
  funext i
  by_cases h : i = d
  · subst h; rw [upd_same]
  · rw [upd_ne _ _ h]
theorem tm_size (N : Nat) (f : Nat → Value) : (tm N f).size = N := by simp [tm]
theorem tm_get? (N : Nat) (f : Nat → Value) (i : Nat) : (tm N f)[i]? = if i < N then some (f i) else none := by
  by_cases h : i < N <;> simp [tm, h]
theorem tm_set (N : Nat) (f : Nat → Value) (d : Nat) (v : Value) : (tm N f).setIfInBounds d v = tm N (upd f d v) := by
  apply Array.ext_getElem?
  intro i
  rw [Array.getElem?_setIfInBounds, tm_get?, tm_get?, tm_size]
  by_cases h : d = i
  · subst h
    by_cases hN : d < N <;> simp [hN, upd_same]
  · simp only [h, if_false]
    rw [upd_ne _ _ (fun e => h e.symm)]
theorem fr_put (N : Nat) (f : Nat → Value) (d : Option Nat) (v : Value) : (fr N f).put d v = fr N (updO f d v) := by
  cases d with
  | none => rfl
  | some d => simp [Act.put, fr, updO, tm_set]
theorem fr_eval (N : Nat) (f : Nat → Value) : (fr N f).eval = ev N f := by
  funext x
  cases x with
  | tmp t =>
    simp only [Act.eval, fr, ev, Array.getD_eq_getD_getElem?, tm_get?]
    by_cases h : t < N
    · simp [h, blt_yes h]
    · simp [h, blt_no h]
  | const v => rfl
  | global g => rfl
  | func g => rfl
def yieldedF (N : Nat) (ops : Array Oper) (f : Nat → Value) (j : Nat) : Option Bool :=
  match (ops[j]?).bind (·.dst) with
  | some d => bif Nat.blt d N then (match f d with | .bool b => some b | _ => none) else none
  | none => none
theorem yielded_eq (N : Nat) (ops : Array Oper) (f : Nat → Value) (j : Nat) : yielded ops (tm N f) j = yieldedF N ops f j := by
  unfold yielded yieldedF
  cases (ops[j]?).bind (·.dst) with
  | none => rfl
  | some d =>
    simp only [Option.bind_some, tm_get?]
    by_cases h : d < N
    · have hb : Nat.blt d N = true := blt_yes h
      simp only [h, if_true, hb, cond_true]
      cases f d <;> rfl
    · have hb : Nat.blt d N = false := blt_no h
      simp [h, hb]
def wants (N : Nat) (ops : Array Oper) (f : Nat → Value) (o : Oper) : Bool :=
  match o.guard with
  | none => true
  | some (j, want) => match yieldedF N ops f j with | some b => b == want | none => false
theorem wants_eq (N : Nat) (ops : Array Oper) (f : Nat → Value) (o : Oper) : Region.wanted o (yielded ops (tm N f)) = wants N ops f o := by
  unfold Region.wanted wants
  cases o.guard with
  | none => rfl
  | some p =>
    obtain ⟨j, want⟩ := p
    simp only [yielded_eq]
    cases yieldedF N ops f j with
    | none => rfl
    | some b => cases b <;> cases want <;> rfl
structure Env where
  P : Program
  fn : FuncId
  N : Nat
  cs : List Frame
  R : Ending → World → Prop
  ds : List Deferred
  ro : Option Nat
def Env.b (E : Env) : Frame := { (default : Frame) with fn := E.fn, kind := .normal, roundOf := E.ro }
def Env.fr (E : Env) (f : Nat → Value) : Act := ⟨tm E.N f, E.ds⟩
def Env.End (E : Env) (m : Machine) : Prop :=
  match E.ro with
  | none => ∃ v w' fr', E.R (.returned v) w' ∧ m = lone fr' E.cs w' ∧ fr'.fn = E.fn ∧ fr'.leaving E.P w' (.returned v)
  | some _ => ∃ v w' c cs', E.cs = c :: cs' ∧ E.R (.returned v) w' ∧ m = lone (c.finish v) cs' w'
def Go (E : Env) (k : List Item) (f : Nat → Value) (w : World) : Prop :=
  ∃ m, Steps E.P (lone (E.b.atR (E.fr f) k) E.cs w) m ∧ E.End m
def Env.plain (E : Env) : Prop := E.ds = [] ∧ E.ro = none
theorem efr_put (E : Env) (f : Nat → Value) (d : Option Nat) (v : Value) : (E.fr f).put d v = E.fr (updO f d v) := by
  cases d with
  | none => rfl
  | some d => simp [Act.put, Env.fr, updO, tm_set]
theorem efr_eval (E : Env) (f : Nat → Value) : (E.fr f).eval = ev E.N f := by
  rw [← fr_eval]
  funext x
  cases x <;> rfl
theorem Env.plain.at {E : Env} (h : E.plain) (f : Nat → Value) (k : List Item) : E.b.atR (E.fr f) k = E.b.at (_root_.Go.Proofs.YtnlkggppokcmfaaE.fr E.N f) k := by
  obtain ⟨P, g, N, cs, R, ds, ro⟩ := E
  obtain ⟨h1, h2⟩ := h
  cases h1
  cases h2
  rfl
section
variable {E : Env} {k k' : List Item} {f f' : Nat → Value} {w w' : World}
theorem Go.step (hs : step E.P (lone (E.b.atR (E.fr f) k) E.cs w) = .next (lone (E.b.atR (E.fr f') k') E.cs w')) (h : Go E k' f' w') : Go E k f w :=
  let ⟨m, h1, h2⟩ := h
  ⟨m, Steps.head hs h1, h2⟩
theorem Go.steps (hs : Steps E.P (lone (E.b.atR (E.fr f) k) E.cs w) (lone (E.b.atR (E.fr f') k') E.cs w')) (h : Go E k' f' w') : Go E k f w :=
  let ⟨m, h1, h2⟩ := h
  ⟨m, Steps.trans hs h1, h2⟩
theorem go_seq {x y : Code} (h : Go E (.code x :: .code y :: k) f w) : Go E (.code (.seq x y) :: k) f w := .step stepR_seq h
theorem go_skip (h : Go E k f w) : Go E (.code .skip :: k) f w := .step stepR_skip h
theorem go_block {id : Nat} {c : Code} (h : Go E (.code c :: .inBlock id :: k) f w) : Go E (.code (.block id c) :: k) f w := .step stepR_block h
theorem go_inBlock {id : Nat} (h : Go E k f w) : Go E (.inBlock id :: k) f w := .step stepR_inBlock h
theorem go_loop {c : Code} (h : Go E (.code c :: .inLoop c :: k) f w) : Go E (.code (.loop c) :: k) f w := .step stepR_loop h
theorem go_again {c : Code} (h : Go E (.code c :: .inLoop c :: k) f w) : Go E (.inLoop c :: k) f w := .step stepR_inLoop h
theorem go_exit {id : Nat} (hk : exitTo id k = some k') (h : Go E k' f w) : Go E (.code (.exit id) :: k) f w := .step (stepR_exit hk) h
theorem go_cond {c : Operand} {x y : Code} (t : Bool) (hc : ev E.N f c = .bool t) (h : Go E (.code (bif t then x else y) :: k) f w) : Go E (.code (.cond c x y) :: k) f w := by
  refine .step (stepR_cond (t := t) (by rw [efr_eval]; exact hc)) ?_
  cases t <;> exact h
theorem go_then {c : Operand} {x y : Code} (hc : ev E.N f c = .bool true) (h : Go E (.code x :: k) f w) : Go E (.code (.cond c x y) :: k) f w := go_cond true hc h
theorem go_else {c : Operand} {x y : Code} (hc : ev E.N f c = .bool false) (h : Go E (.code y :: k) f w) : Go E (.code (.cond c x y) :: k) f w := go_cond false hc h
theorem go_region {id : Nat} {ops : Array Oper} (h : Go E (.inRegion ops (List.range ops.size) :: k) f w) : Go E (.code (.region id ops false) :: k) f w := .step stepR_region h
theorem go_done {ops : Array Oper} (h : Go E k f w) : Go E (.inRegion ops [] :: k) f w := .step stepR_region_end h
theorem sem_at {P : Program} {ro : Option Nat} {ρ : Operand → Value} {o : Oper} {n : Next} (h : (execOp ρ o).run P w = .ok n w') (hn : match n with | .value _ | .skip | .enter _ _ | .round _ _ _ _ _ => True | _ => False) :
    (o.semAt ro ρ).run P w = .ok n w' := by
  cases ro with
  | none => exact h
  | some l =>
    rw [Oper.semAt_eq (some l) ρ o fun c hc => ?_]
    · exact h
    · exfalso
      simp only [execOp, hc, Sem.run_bind] at h
      cases hr : (resolve ρ c o.type).run P w with
      | halt x w1 => rw [hr] at h; cases h
      | ok d w1 =>
        rw [hr] at h
        simp only [Result.andThen, pure, Sem.run] at h
        cases h
        exact hn
theorem go_val {ops : Array Oper} {i : Nat} {rest : List Nat} (o : Oper) (v : Value) (ho : ops[i]? = some o) (hw : wants E.N ops f o = true)
    (hr : (execOp (ev E.N f) o).run E.P w = .ok (.value v) w') (h : Go E (.inRegion ops rest :: k) (updO f o.dst v) w') : Go E (.inRegion ops (i :: rest) :: k) f w := by
  refine .step (step_lone_go ?_) h
  rw [stepGR_op ho (by rw [show (E.fr f).tmps = tm E.N f from rfl, wants_eq]; exact hw), ← efr_put]
  have hfin := Frame.finish_atR E.b (E.fr f) ops i rest k v
  rw [ho, Option.bind_some] at hfin
  rw [← hfin]
  simp [stepG.apply, efr_eval, sem_at hr trivial]
theorem go_unit {ops : Array Oper} {i : Nat} {rest : List Nat} (o : Oper) (ho : ops[i]? = some o) (hw : wants E.N ops f o = true)
    (hr : (execOp (ev E.N f) o).run E.P w = .ok .skip w') (h : Go E (.inRegion ops rest :: k) (updO f o.dst undef) w') : Go E (.inRegion ops (i :: rest) :: k) f w := by
  refine .step (step_lone_go ?_) h
  rw [stepGR_op ho (by rw [show (E.fr f).tmps = tm E.N f from rfl, wants_eq]; exact hw), ← efr_put]
  have hfin := Frame.finish_atR E.b (E.fr f) ops i rest k undef
  rw [ho, Option.bind_some] at hfin
  rw [← hfin]
  simp [stepG.apply, efr_eval, sem_at hr trivial]
theorem go_off {ops : Array Oper} {i : Nat} {rest : List Nat} (o : Oper) (ho : ops[i]? = some o) (hw : wants E.N ops f o = false)
    (h : Go E (.inRegion ops rest :: k) (updO f o.dst undef) w) : Go E (.inRegion ops (i :: rest) :: k) f w := by
  refine .step (?_ : _ = _) h
  have hs := stepR_op_skip (P := E.P) (b := E.b) (a := E.fr f) (k := k) (cs := E.cs) (w := w) (ops := ops) (i := i) (rest := rest)
    (by simp only [ho, Option.map_some, Option.getD_some]; rw [show (E.fr f).tmps = tm E.N f from rfl, wants_eq]; exact hw)
  rw [ho, Option.bind_some, efr_put] at hs
  exact hs
theorem go_call {ops : Array Oper} {i : Nat} {rest : List Nat} {R : Ending → World → Prop} (o : Oper) (g : FuncId) (args : Array Value) (ho : ops[i]? = some o) (hw : wants E.N ops f o = true)
    (hr : (execOp (ev E.N f) o).run E.P w = .ok (.enter g args) w') (hc : Calls E.P g args w' R)
    (h : ∀ e w'', R e w'' → ∃ v, e = .returned v ∧ Go E (.inRegion ops rest :: k) (updO f o.dst v) w'') : Go E (.inRegion ops (i :: rest) :: k) f w := by
  obtain ⟨e, w'', fr', hR, hsteps, _, hleave⟩ := hc (E.b.atR (E.fr f) (.inRegion ops (i :: rest) :: k) :: E.cs)
  obtain ⟨v, rfl, h'⟩ := h e w'' hR
  have henter : step E.P (lone (E.b.atR (E.fr f) (.inRegion ops (i :: rest) :: k)) E.cs w) =
      .next (lone (Frame.enter E.P g args .normal) (E.b.atR (E.fr f) (.inRegion ops (i :: rest) :: k) :: E.cs) w') := by
    refine step_lone_go ?_
    rw [stepGR_op ho (by rw [show (E.fr f).tmps = tm E.N f from rfl, wants_eq]; exact hw), efr_eval]
    simp [stepG.apply, sem_at hr trivial, Frame.atR]
  refine .steps (Steps.head henter (Steps.trans hsteps (.one ?_))) h'
  have hfin := Frame.finish_atR E.b (E.fr f) ops i rest k v
  rw [ho, Option.bind_some, efr_put] at hfin
  rw [← hfin]
  exact step_leave_returned hleave
def RoundC (P : Program) (l : Nat) (g : FuncId) (tmps : Array Value) (assign body : Code) (w : World) (R : Value → World → Prop) : Prop :=
  ∀ c cs, ∃ v w', R v w' ∧ Steps P (lone (Frame.round l g tmps assign body .normal) (c :: cs) w) (lone (c.finish v) cs w')
theorem go_ret {fn : Func} (v : Value) (hf : E.P.funcs[E.fn]? = some fn) (hv : (results fn (tm E.N f)).run E.P w = .ok v w) (hR : E.R (.returned v) w) (h0 : E.plain) : Go E (.code .ret :: k) f w := by
  refine ⟨_, Steps.one (stepR_ret h0.2), ?_⟩
  unfold Env.End
  rw [h0.2]
  exact ⟨v, w, _, hR, rfl, rfl, rfl, h0.1, rfl, fn, hf, hv⟩
theorem go_end {fn : Func} (v : Value) (hf : E.P.funcs[E.fn]? = some fn) (hv : (results fn (tm E.N f)).run E.P w = .ok v w) (hR : E.R (.returned v) w) (h0 : E.plain) : Go E [] f w := by
  refine ⟨_, Steps.one (stepR_end h0.2), ?_⟩
  unfold Env.End
  rw [h0.2]
  exact ⟨v, w, _, hR, rfl, rfl, rfl, h0.1, rfl, fn, hf, hv⟩
end
theorem calls_go {P : Program} {g : FuncId} {fn : Func} {c : Code} {args : Array Value} {w : World} {R : Ending → World → Prop} (f : Nat → Value)
    (hf : P.funcs[g]? = some fn) (hb : fn.body = some c) (ha : args ++ Array.replicate (fn.ntmps - args.size) undef = tm fn.ntmps f)
    (h : ∀ cs, Go ⟨P, g, fn.ntmps, cs, R, [], none⟩ [.code c] f w) : Calls P g args w R := by
  intro cs
  obtain ⟨m, hc, v, w', fr', hR, rfl, hfn, hl⟩ := h cs
  refine ⟨.returned v, w', fr', hR, ?_, hfn, hl⟩
  have henter : Frame.enter P g args .normal = Frame.atR { (default : Frame) with fn := g, kind := .normal, roundOf := none } ⟨tm fn.ntmps f, []⟩ [.code c] := by
    simp [Frame.enter, Frame.atR, hf, hb, ← ha]
  rw [henter]
  exact hc
def iterN {σ Ω : Type} (step : σ → Option (σ ⊕ Ω)) : Nat → σ → Option Ω
  | 0, _ => none
  | n + 1, s => match step s with
    | none => none
    | some (.inr o) => some o
    | some (.inl s') => iterN step n s'
open Classical in
noncomputable def iter {σ Ω : Type} (step : σ → Option (σ ⊕ Ω)) (s : σ) : Option Ω :=
  if h : ∃ n o, iterN step n s = some o then some (Classical.choose (Classical.choose_spec h)) else none
theorem iterN_mono {σ Ω : Type} {step : σ → Option (σ ⊕ Ω)} : ∀ {n m : Nat} {s : σ} {o : Ω}, n ≤ m → iterN step n s = some o → iterN step m s = some o
  | 0, _, _, _, _, h => by cases h
  | n + 1, 0, _, _, hm, _ => by omega
  | n + 1, m + 1, s, o, hm, h => by
    simp only [iterN] at h ⊢
    split at h
    · cases h
    · exact h
    · exact iterN_mono (by omega) h
theorem iter_iff {σ Ω : Type} {step : σ → Option (σ ⊕ Ω)} {s : σ} {o : Ω} : iter step s = some o ↔ ∃ n, iterN step n s = some o := by
  constructor
  · intro h
    unfold iter at h
    split at h
    · rename_i hx
      cases h
      exact ⟨_, Classical.choose_spec (Classical.choose_spec hx)⟩
    · cases h
  · rintro ⟨n, hn⟩
    unfold iter
    have hx : ∃ n o, iterN step n s = some o := ⟨n, o, hn⟩
    rw [dif_pos hx]
    have h2 := Classical.choose_spec (Classical.choose_spec hx)
    have h3 := iterN_mono (Nat.le_max_left n (Classical.choose hx)) hn
    have h4 := iterN_mono (Nat.le_max_right n (Classical.choose hx)) h2
    rw [h3] at h4
    cases h4
    rfl
theorem iter_eq {σ Ω : Type} (step : σ → Option (σ ⊕ Ω)) (s : σ) : iter step s = match step s with
    | none => none
    | some (.inr o) => some o
    | some (.inl s') => iter step s' := by
  apply Option.ext
  intro o
  rw [iter_iff]
  constructor
  · rintro ⟨n, hn⟩
    cases n with
    | zero => cases hn
    | succ n =>
      simp only [iterN] at hn
      split at hn
      · cases hn
      · exact hn
      · exact iter_iff.2 ⟨n, hn⟩
  · intro h
    cases hs : step s with
    | none => rw [hs] at h; cases h
    | some x =>
      rw [hs] at h
      cases x with
      | inr o' => exact ⟨1, by simp only [iterN, hs]; exact h⟩
      | inl s' =>
        obtain ⟨n, hn⟩ := iter_iff.1 h
        exact ⟨n + 1, by simp only [iterN, hs]; exact hn⟩
theorem go_iter {E : Env} {k : List Item} {c : Code} {σ Ω : Type} (step : σ → Option (σ ⊕ Ω)) (St : σ → (Nat → Value) → World → Prop) {o : Ω} {s : σ} {f : Nat → Value} {w : World}
    (H : iter step s = some o) (h0 : St s f w)
    (round : ∀ s f w x, step s = some x → St s f w → (∀ s', x = .inl s' → ∀ f' w', St s' f' w' → Go E (.inLoop c :: k) f' w') → (∀ ω, x = .inr ω → ω = o) → Go E (.code c :: .inLoop c :: k) f w) :
    Go E (.code (.loop c) :: k) f w := by
  obtain ⟨n, hn⟩ := iter_iff.1 H
  refine go_loop ?_
  clear H
  induction n generalizing s f w with
  | zero => cases hn
  | succ n ih =>
    simp only [iterN] at hn
    cases hs : step s with
    | none => rw [hs] at hn; cases hn
    | some x =>
      rw [hs] at hn
      refine round s f w x hs h0 ?_ ?_
      · rintro s' rfl f' w' h'
        exact go_again (ih (s := s') h' hn)
      · rintro ω rfl
        exact Option.some.inj hn
def out {σ Ω : Type} (x : Option Ω) : Option (σ ⊕ Ω) := x.map .inr
theorem out_some {σ Ω : Type} {x : Option Ω} {y : σ ⊕ Ω} (h : out x = some y) : ∃ ω, x = some ω ∧ y = .inr ω := by
  unfold out at h
  cases x with
  | none => cases h
  | some ω => exact ⟨ω, rfl, (Option.some.inj h).symm⟩
theorem bind_some {α β : Type} {x : Option α} {k : α → Option β} {r : β} (h : x.bind k = some r) : ∃ a, x = some a ∧ k a = some r := by
  cases x with
  | none => cases h
  | some a => exact ⟨a, rfl, h⟩
def must {β : Type} (c : Prop) [Decidable c] (x : Option β) : Option β := if c then x else none
theorem must_some {β : Type} {c : Prop} [Decidable c] {x : Option β} {r : β} (h : must c x = some r) : c ∧ x = some r := by
  unfold must at h
  split at h
  · exact ⟨‹_›, h⟩
  · cases h
theorem must_pos {β : Type} {c : Prop} [Decidable c] (x : Option β) (h : c) : must c x = x := if_pos h
def Sem.pureRun {α : Type} (P : Program) : Sem α → Option α
  | .pure a => some a
  | .program k => Sem.pureRun P (k P)
  | _ => none
theorem Sem.pureRun_run {α : Type} {P : Program} (s : Sem α) : ∀ {a : α}, Sem.pureRun P s = some a → ∀ w, s.run P w = .ok a w := by
  induction s with
  | pure b => intro a h w; simp only [Sem.pureRun, Option.some.injEq] at h; subst h; rfl
  | program k ih => intro a h w; exact ih P h w
  | _ => intro a h; simp [Sem.pureRun] at h
def pureOp (P : Program) (o : Oper) (e : Operand → Value) : Option Value :=
  match Sem.pureRun P (execOp e o) with
  | some (.value v) => some v
  | _ => none
theorem pureOp_run {P : Program} {o : Oper} {e : Operand → Value} {v : Value} (h : pureOp P o e = some v) (w : World) : (execOp e o).run P w = .ok (.value v) w := by
  unfold pureOp at h
  split at h
  · rename_i v' hs
    cases h
    exact Sem.pureRun_run _ hs w
  · cases h
def cut (P : Program) (t : TypeId) (cs : List Value) : Option Value :=
  match P.underlying t, P.info? t with
  | some (.struct _), some i => bif Nat.ble i.size cs.length then some (.agg (cs.take i.size).toArray) else none
  | some (.array _ _), some i => bif Nat.ble i.size cs.length then some (.agg (cs.take i.size).toArray) else none
  | some _, some _ => cs.head?
  | _, _ => none
end Go.Proofs.YtnlkggppokcmfaaE
