/- The engine, part H: what the printed proofs use: joins, tests, calls. -/
import Derived.Test.YtnlkggppokcmfaaG
namespace Go.Proofs.YtnlkggppokcmfaaE
open Go
set_option linter.unusedVariables false
set_option linter.unusedSimpArgs false
theorem cond_some {β : Type} {b : Bool} {x y : Option β} {r : β} (h : (bif b then x else y) = some r) : (b = true ∧ x = some r) ∨ (b = false ∧ y = some r) := by
  cases b
  · exact .inr ⟨rfl, h⟩
  · exact .inl ⟨rfl, h⟩
def w64 (x : Int) : Int := IntKind.wrap .i64 x
def bAnd (k : IntKind) (x y : Int) : Int := k.wrap ((BitVec.ofInt k.bits x &&& BitVec.ofInt k.bits y).toNat)
def bOr (k : IntKind) (x y : Int) : Int := k.wrap ((BitVec.ofInt k.bits x ||| BitVec.ofInt k.bits y).toNat)
def sShl (k : IntKind) (x y : Int) : Int := k.wrap (x * 2 ^ (min y.toNat k.bits))
def sShr (k : IntKind) (x y : Int) : Int := x.fdiv (2 ^ (min y.toNat k.bits))
theorem oneAll {l : List Value} (h : l.all Value.oneCell' = true) : ∀ v ∈ l, v.oneCell' = true := List.all_eq_true.1 h
section
variable {P : Program} {o : Oper} {ev_ : Operand → Value} {K : Value → World → Prop} {E : Env} {ops : Array Oper} {k : List Item} {f : Nat → Value} {w : World} {M : Mem} {L : List Asrt}
theorem upd_is {f : Nat → Value} {d : Nat} {v : Value} (h : f d = v) : upd f d v = f := by rw [← h, upd_self]
theorem o_is {i : Nat} (d : Nat) (v v' : Value) (hd : f d = v) (h : v = v') (hg : GoO E ops i k (upd f d v') w) : GoO E ops i k f w := by
  rw [upd_is (hd.trans h)] at hg
  exact hg
theorem go_is (d : Nat) (v v' : Value) (hd : f d = v) (h : v = v') (hg : Go E k (upd f d v') w) : Go E k f w := by
  rw [upd_is (hd.trans h)] at hg
  exact hg
theorem go_then' {c : Operand} {x y : Code} {t : Bool} (hc : ev E.N f c = .bool t) (ht : t = true) (h : Go E (.code x :: k) f w) : Go E (.code (.cond c x y) :: k) f w := go_then (hc.trans (congrArg Value.bool ht)) h
theorem go_else' {c : Operand} {x y : Code} {t : Bool} (hc : ev E.N f c = .bool t) (ht : t = false) (h : Go E (.code y :: k) f w) : Go E (.code (.cond c x y) :: k) f w := go_else (hc.trans (congrArg Value.bool ht)) h
theorem go_seq_join {x y : Code} {σ Ω : Type} {o : Ω} (St : σ → (Nat → Value) → World → Prop) (K : σ → Option Ω)
    (hJ : ∀ s f w, St s f w → K s = some o → Go E (.code y :: k) f w)
    (h : (∀ s f w, St s f w → K s = some o → Go E (.code y :: k) f w) → Go E (.code x :: .code y :: k) f w) : Go E (.code (.seq x y) :: k) f w := go_seq (h hJ)
theorem go_block_join {id : Nat} {c : Code} {σ Ω : Type} {o : Ω} (St : σ → (Nat → Value) → World → Prop) (K : σ → Option Ω)
    (hJ : ∀ s f w, St s f w → K s = some o → Go E k f w)
    (h : (∀ s f w, St s f w → K s = some o → Go E k f w) → Go E (.code c :: .inBlock id :: k) f w) : Go E (.code (.block id c) :: k) f w := go_block (h hJ)
theorem at_slots (us : List (Nat × Value)) (hu : us.map (fun p => f p.1) = us.map (·.2)) : f = updL f us := (updL_at f us hu).symm
theorem run_enter {P : Program} {g : FuncId} {args : Array Value} (h : Sem.pureRun P (callFunc g args) = some (.enter g args)) (w : World) : (callFunc g args).run P w = .ok (.enter g args) w := Sem.pureRun_run _ h w
theorem e_callf {R : Ending → World → Prop} (c : Operand) (xs : Array Operand) (ts : Array TypeId) (g : FuncId) (first cap args all : Array Value) 
    (hop : o.op = .call { callee := .value c, args := xs, argTypes := ts }) (hc : ev_ c = .func (.func g) first cap) (ha : xs.map (ev_) = args) (hall : (first ++ args) ++ cap = all)
    (hent : Sem.pureRun P (callFunc g all) = some (.enter g all)) (hcall : Calls P g all w R)
    (h : ∀ e w', R e w' → ∃ v, e = .returned v ∧ K v w') : Eff P o ev_ w K := by
  refine eff_call g all ?_ hcall h
  simp only [execOp, hop, resolve, Sem.run_bind, ha, hc, Deferred.ofValue, Sem.run, pure, Result.andThen, invoke, hall]
  exact run_enter hent w
theorem go_return {fn : Func} (v : Value) (hf : E.P.funcs[E.fn]? = some fn) (hv : Sem.pureRun E.P (results fn (tm E.N f)) = some v) (hR : E.R (.returned v) w) (h0 : E.plain := by exact ⟨rfl, rfl⟩) : Go E (.code .ret :: k) f w :=
  go_ret v hf (Sem.pureRun_run _ hv w) hR h0
theorem go_finish {fn : Func} (v : Value) (hf : E.P.funcs[E.fn]? = some fn) (hv : Sem.pureRun E.P (results fn (tm E.N f)) = some v) (hR : E.R (.returned v) w) (h0 : E.plain := by exact ⟨rfl, rfl⟩) : Go E [] f w :=
  go_end v hf (Sem.pureRun_run _ hv w) hR h0
end
end Go.Proofs.YtnlkggppokcmfaaE
