import Derived.Calls
import Derived.AtR
import Derived.Tactics
import Derived.KernelRfl
import Derived.Laws.AppendOwn
import Derived.Laws.World
import Derived.Laws.StructEq
import Derived.Laws.Slices
import Derived.ChangeKeysEq
import Derived.Laws.CopyRow
import Derived.Laws.MakeOwn
import Derived.Deep.DeepAppendWide
import Derived.StillTail
import Derived.OrdersHeld
namespace Go.Proofs.YtfpeabnehpclnaaGreatDoorE
open Go
set_option linter.unusedVariables false
set_option linter.unusedSimpArgs false
def upd (f:Nat→Value) (d:Nat) (v:Value):Nat→Value:=fun i=>bif Nat.beq i d then v else f i
def qJ (f:Nat→Value):Option Nat→Value→Nat→Value
 | some d,v=>upd f d v
 | none,_=>f
def bq (f:Nat→Value):List (Nat×Value)→Nat→Value
 | []=>f
 | (d,v)::r=>bq (upd f d v) r
def tm (N:Nat) (f:Nat→Value):Array Value:=Array.ofFn (n:=N) fun i=>f i.1
def ev (N:Nat) (f:Nat→Value):Operand→Value
 | .tmp t=>bif Nat.blt t N then f t else undef
 | .const v=>v
 | .global g => .pointer (some ⟨g,0,none⟩)
 | .func g => .func (.func g) #[] #[]
def fr (N:Nat) (f:Nat→Value):Act:=⟨tm N f,[]⟩
theorem Sv {i d:Nat} (h:i≠d):Nat.beq i d=false:=by
 cases e:Nat.beq i d with
 | false=>rfl
 | true=>exact absurd (Nat.eq_of_beq_eq_true e) h
theorem Mo {i d:Nat} (h:i < d):Nat.blt i d=true:=by
 have:Nat.ble (i + 1) d=true:=Nat.ble_eq_true_of_le h;exact this
theorem Pj {i d:Nat} (h:¬ i < d):Nat.blt i d=false:=by
 cases e:Nat.blt i d with
 | false=>rfl
 | true=>exact absurd (Nat.le_of_ble_eq_true e) h
theorem upd_same (f:Nat→Value) (d:Nat) (v:Value):upd f d v d=v:=by
 unfold upd
 rw [Nat.beq_refl]
 rfl
theorem upd_ne (f:Nat→Value) {d i:Nat} (v:Value) (h:i≠d):upd f d v i=f i:=by
 unfold upd
 rw [Sv h]
 rfl
theorem JV (f:Nat→Value) (d:Nat):upd f d (f d)=f:=by
 funext i
 by_cases h:i=d
 ·subst h; rw [upd_same]
 ·rw [upd_ne _ _ h]
theorem RB (N:Nat) (f:Nat→Value):(tm N f).size=N:=by simp [tm]
theorem Em (N:Nat) (f:Nat→Value) (i:Nat):(tm N f)[i]? = if i < N then some (f i) else none:=by
 by_cases h:i < N <;> simp [tm,h]
theorem KX (N:Nat) (f:Nat→Value) (d:Nat) (v:Value):(tm N f).setIfInBounds d v=tm N (upd f d v):=by
 apply Array.ext_getElem?
 intro i
 rw [Array.getElem?_setIfInBounds,Em,Em,RB]
 by_cases h:d=i
 ·subst h
  by_cases hN:d < N <;> simp [hN,upd_same]
 ·simp only [h,if_false]
  rw [upd_ne _ _ (fun e=>h e.symm)]
theorem zT (N:Nat) (f:Nat→Value) (d:Option Nat) (v:Value):(fr N f).put d v=fr N (qJ f d v):=by
 cases d with
 | none=>rfl
 | some d=>simp [Act.put,fr,qJ,KX]
theorem Ai (N:Nat) (f:Nat→Value):(fr N f).eval=ev N f:=by
 funext x
 cases x with
 | tmp t =>
  simp only [Act.eval,fr,ev,Array.getD_eq_getD_getElem?,Em]
  by_cases h:t < N
  ·simp [h,Mo h]
  ·simp [h,Pj h]
 | const v=>rfl
 | global g=>rfl
 | func g=>rfl
def Ci (N:Nat) (ops:Array Oper) (f:Nat→Value) (j:Nat):Option Bool :=
 match (ops[j]?).bind (·.dst) with
 | some d=>bif Nat.blt d N then (match f d with | .bool b=>some b | _=>none) else none
 | none=>none
theorem KY (N:Nat) (ops:Array Oper) (f:Nat→Value) (j:Nat):yielded ops (tm N f) j=Ci N ops f j:=by
 unfold yielded Ci;cases (ops[j]?).bind (·.dst) with
 | none=>rfl
 | some d =>
  simp only [Option.bind_some,Em]
  by_cases h:d < N
  ·have hb:Nat.blt d N=true:=Mo h
   simp only [h,if_true,hb,cond_true]
   cases f d <;> rfl
  ·have hb:Nat.blt d N=false:=Pj h
   simp [h,hb]
def wants (N:Nat) (ops:Array Oper) (f:Nat→Value) (o:Oper):Bool :=
 match o.guard with
 | none=>true
 | some (j,want)=>match Ci N ops f j with | some b=>b == want | none=>false
theorem mQ (N:Nat) (ops:Array Oper) (f:Nat→Value) (o:Oper):Region.wanted o (yielded ops (tm N f))=wants N ops f o:=by
 unfold Region.wanted wants;cases o.guard with
 | none=>rfl
 | some p =>
  obtain ⟨j,want⟩:=p
  simp only [KY]
  cases Ci N ops f j with
  | none=>rfl
  | some b=>cases b <;> cases want <;> rfl
structure Env where
 P:Program
 fn:FuncId
 N:Nat
 cs:List Frame
 R:Ending→World→Prop
 ds:List Deferred
 ro:Option Nat
def Env.b (E:Env):Frame:={ (default:Frame) with fn:=E.fn,kind := .normal,roundOf:=E.ro }
def Env.fr (E:Env) (f:Nat→Value):Act:=⟨tm E.N f,E.ds⟩
def Env.End (E:Env) (m:Machine):Prop :=
 match E.ro with
 | none=>∃ v w' fr',E.R (.returned v) w'∧m=lone fr' E.cs w'∧fr'.fn=E.fn∧fr'.leaving E.P w' (.returned v)
 | some _=>∃ v w' c cs',E.cs=c::cs'∧E.R (.returned v) w'∧m=lone (c.finish v) cs' w'
def Go (E:Env) (k:List Item) (f:Nat→Value) (w:World):Prop :=
 ∃ m,Steps E.P (lone (E.b.atR (E.fr f) k) E.cs w) m∧E.End m
def Env.plain (E:Env):Prop:=E.ds=[]∧E.ro=none
theorem uX (E:Env) (f:Nat→Value) (d:Option Nat) (v:Value):(E.fr f).put d v=E.fr (qJ f d v):=by
 cases d with
 | none=>rfl
 | some d=>simp [Act.put,Env.fr,qJ,KX]
theorem uo (E:Env) (f:Nat→Value):(E.fr f).eval=ev E.N f:=by
 rw [← Ai]
 funext x
 cases x <;> rfl
theorem Env.plain.at {E:Env} (h:E.plain) (f:Nat→Value) (k:List Item):E.b.atR (E.fr f) k=E.b.at (_root_.Go.Proofs.YtfpeabnehpclnaaGreatDoorE.fr E.N f) k:=by
 obtain ⟨P,g,N,cs,R,ds,ro⟩:=E;obtain ⟨h1,h2⟩:=h;cases h1;cases h2
 rfl
section
variable {E:Env} {k k':List Item} {f f':Nat→Value} {w w':World}
theorem Go.step (hs:step E.P (lone (E.b.atR (E.fr f) k) E.cs w) = .next (lone (E.b.atR (E.fr f') k') E.cs w')) (h:Go E k' f' w'):Go E k f w :=
 let ⟨m,h1,h2⟩:=h
 ⟨m,Steps.head hs h1,h2⟩
theorem Go.steps (hs:Steps E.P (lone (E.b.atR (E.fr f) k) E.cs w) (lone (E.b.atR (E.fr f') k') E.cs w')) (h:Go E k' f' w'):Go E k f w :=
 let ⟨m,h1,h2⟩:=h
 ⟨m,Steps.trans hs h1,h2⟩
theorem aa {x y:Code} (h:Go E (.code x :: .code y::k) f w):Go E (.code (.seq x y)::k) f w := .step stepR_seq h
theorem go_skip (h:Go E k f w):Go E (.code .skip::k) f w := .step stepR_skip h
theorem Pk {l:Nat} (h:Go E k f w):Go E (.code (.label l)::k) f w := .step stepR_label h
theorem Pm {c:Code} (h:Go E (.code c :: .inScope c::k) f w):Go E (.code (.scope c)::k) f w := .step (step_lone_go rfl) h
theorem av {id:Nat} {c:Code} (h:Go E (.code c :: .inBlock id::k) f w):Go E (.code (.block id c)::k) f w := .step stepR_block h
theorem aj {id:Nat} (h:Go E k f w):Go E (.inBlock id::k) f w := .step stepR_inBlock h
theorem go_loop {c:Code} (h:Go E (.code c :: .inLoop c::k) f w):Go E (.code (.loop c)::k) f w := .step stepR_loop h
theorem FD {c:Code} (h:Go E (.code c :: .inLoop c::k) f w):Go E (.inLoop c::k) f w := .step stepR_inLoop h
theorem bn {id:Nat} (hk:exitTo id k=some k') (h:Go E k' f w):Go E (.code (.exit id)::k) f w := .step (stepR_exit hk) h
theorem Mq {c:Operand} {x y:Code} (t:Bool) (hc:ev E.N f c = .bool t) (h:Go E (.code (bif t then x else y)::k) f w):Go E (.code (.cond c x y)::k) f w:=by
 refine .step (stepR_cond (t:=t) (by rw [uo]; exact hc)) ?_;cases t <;> exact h
theorem En {c:Operand} {x y:Code} (hc:ev E.N f c = .bool true) (h:Go E (.code x::k) f w):Go E (.code (.cond c x y)::k) f w:=Mq true hc h
theorem wX {c:Operand} {x y:Code} (hc:ev E.N f c = .bool false) (h:Go E (.code y::k) f w):Go E (.code (.cond c x y)::k) f w:=Mq false hc h
theorem go_region {id:Nat} {ops:Array Oper} (h:Go E (.inRegion ops (List.range ops.size)::k) f w):Go E (.code (.region id ops false)::k) f w := .step stepR_region h
theorem RD {ops:Array Oper} (h:Go E k f w):Go E (.inRegion ops []::k) f w := .step stepR_region_end h
theorem Ip {P:Program} {ro:Option Nat} {ρ:Operand→Value} {o:Oper} {n:Next} (h:(execOp ρ o).run P w = .ok n w') (hn:match n with | .value _ | .skip | .enter _ _ | .round _ _ _ _ _=>True | _=>False) :
  (o.semAt ro ρ).run P w = .ok n w':=by
 cases ro with
 | none=>exact h
 | some l =>
  rw [Oper.semAt_eq (some l) ρ o fun c hc => ?_]
  ·exact h
  ·exfalso
   simp only [execOp,hc,Sem.run_bind] at h
   cases hr:(resolve ρ c o.type).run P w with
   | halt x w1=>rw [hr] at h; cases h
   | ok d w1 =>
    rw [hr] at h
    simp only [Result.andThen,pure,Sem.run] at h
    cases h;exact hn
theorem Sw {ops:Array Oper} {i:Nat} {rest:List Nat} (o:Oper) (v:Value) (ho:ops[i]? = some o) (hw:wants E.N ops f o=true)
  (hr:(execOp (ev E.N f) o).run E.P w = .ok (.value v) w') (h:Go E (.inRegion ops rest::k) (qJ f o.dst v) w'):Go E (.inRegion ops (i::rest)::k) f w:=by
 refine .step (step_lone_go ?_) h
 rw [stepGR_op ho (by rw [show (E.fr f).tmps=tm E.N f from rfl,mQ]; exact hw),← uX]
 have hfin:=Frame.finish_atR E.b (E.fr f) ops i rest k v
 rw [ho,Option.bind_some] at hfin
 rw [← hfin]
 simp [stepG.apply,uo,Ip hr trivial]
theorem RF {ops:Array Oper} {i:Nat} {rest:List Nat} (o:Oper) (ho:ops[i]? = some o) (hw:wants E.N ops f o=true)
  (hr:(execOp (ev E.N f) o).run E.P w = .ok .skip w') (h:Go E (.inRegion ops rest::k) (qJ f o.dst undef) w'):Go E (.inRegion ops (i::rest)::k) f w:=by
 refine .step (step_lone_go ?_) h
 rw [stepGR_op ho (by rw [show (E.fr f).tmps=tm E.N f from rfl,mQ]; exact hw),← uX]
 have hfin:=Frame.finish_atR E.b (E.fr f) ops i rest k undef
 rw [ho,Option.bind_some] at hfin
 rw [← hfin]
 simp [stepG.apply,uo,Ip hr trivial]
theorem Sy {ops:Array Oper} {i:Nat} {rest:List Nat} (o:Oper) (ho:ops[i]? = some o) (hw:wants E.N ops f o=false)
  (h:Go E (.inRegion ops rest::k) (qJ f o.dst undef) w):Go E (.inRegion ops (i::rest)::k) f w:=by
 refine .step (?_:_=_) h;have hs:=stepR_op_skip (P:=E.P) (b:=E.b) (a:=E.fr f) (k:=k) (cs:=E.cs) (w:=w) (ops:=ops) (i:=i) (rest:=rest)
  (by simp only [ho,Option.map_some,Option.getD_some]; rw [show (E.fr f).tmps=tm E.N f from rfl,mQ]; exact hw)
 rw [ho,Option.bind_some,uX] at hs
 exact hs
theorem go_call {ops:Array Oper} {i:Nat} {rest:List Nat} {R:Ending→World→Prop} (o:Oper) (g:FuncId) (args:Array Value) (ho:ops[i]? = some o) (hw:wants E.N ops f o=true)
  (hr:(execOp (ev E.N f) o).run E.P w = .ok (.enter g args) w') (hc:Calls E.P g args w' R)
  (h:∀ e w'',R e w''→∃ v,e = .returned v∧Go E (.inRegion ops rest::k) (qJ f o.dst v) w''):Go E (.inRegion ops (i::rest)::k) f w:=by
 obtain ⟨e,w'',fr',hR,hsteps,_,hleave⟩:=hc (E.b.atR (E.fr f) (.inRegion ops (i::rest)::k)::E.cs);obtain ⟨v,rfl,h'⟩:=h e w'' hR;have henter:step E.P (lone (E.b.atR (E.fr f) (.inRegion ops (i::rest)::k)) E.cs w) =
   .next (lone (Frame.enter E.P g args .normal) (E.b.atR (E.fr f) (.inRegion ops (i::rest)::k)::E.cs) w'):=by
  refine step_lone_go ?_
  rw [stepGR_op ho (by rw [show (E.fr f).tmps=tm E.N f from rfl,mQ]; exact hw),uo]
  simp [stepG.apply,Ip hr trivial,Frame.atR]
 refine .steps (Steps.head henter (Steps.trans hsteps (.one ?_))) h';have hfin:=Frame.finish_atR E.b (E.fr f) ops i rest k v
 rw [ho,Option.bind_some,uX] at hfin
 rw [← hfin]
 exact step_leave_returned hleave
def Di (P:Program) (l:Nat) (g:FuncId) (tmps:Array Value) (assign body:Code) (w:World) (R:Value→World→Prop):Prop :=
 ∀ c cs,∃ v w',R v w'∧Steps P (lone (Frame.round l g tmps assign body .normal) (c::cs) w) (lone (c.finish v) cs w')
theorem go_round {ops:Array Oper} {i:Nat} {rest:List Nat} {R:Value→World→Prop} {l:Nat} {g:FuncId} {tmps:Array Value} {assign body:Code} (o:Oper) (ho:ops[i]? = some o) (hw:wants E.N ops f o=true)
  (hr:(execOp (ev E.N f) o).run E.P w = .ok (.round l g tmps assign body) w') (hc:Di E.P l g tmps assign body w' R)
  (h:∀ v w'',R v w''→Go E (.inRegion ops rest::k) (qJ f o.dst v) w''):Go E (.inRegion ops (i::rest)::k) f w:=by
 obtain ⟨v,w'',hR,hsteps⟩:=hc (E.b.atR (E.fr f) (.inRegion ops (i::rest)::k)) E.cs;have henter:step E.P (lone (E.b.atR (E.fr f) (.inRegion ops (i::rest)::k)) E.cs w) =
   .next (lone (Frame.round l g tmps assign body .normal) (E.b.atR (E.fr f) (.inRegion ops (i::rest)::k)::E.cs) w'):=by
  refine step_lone_go ?_
  rw [stepGR_op ho (by rw [show (E.fr f).tmps=tm E.N f from rfl,mQ]; exact hw),uo]
  simp [stepG.apply,Ip hr trivial,Frame.atR]
 refine .steps (Steps.head henter ?_) (h v w'' hR);have hfin:=Frame.finish_atR E.b (E.fr f) ops i rest k v
 rw [ho,Option.bind_some,uX] at hfin
 rw [← hfin]
 exact hsteps
theorem go_ret {fn:Func} (v:Value) (hf:E.P.funcs[E.fn]? = some fn) (hv:(results fn (tm E.N f)).run E.P w = .ok v w) (hR:E.R (.returned v) w) (h0:E.plain):Go E (.code .ret::k) f w:=by
 refine ⟨_,Steps.one (stepR_ret h0.2),?_⟩;unfold Env.End
 rw [h0.2]
 exact ⟨v,w,_,hR,rfl,rfl,rfl,h0.1,rfl,fn,hf,hv⟩
theorem Sz {fn:Func} (v:Value) (hf:E.P.funcs[E.fn]? = some fn) (hv:(results fn (tm E.N f)).run E.P w = .ok v w) (hR:E.R (.returned v) w) (h0:E.plain):Go E [] f w:=by
 refine ⟨_,Steps.one (stepR_end h0.2),?_⟩;unfold Env.End
 rw [h0.2]
 exact ⟨v,w,_,hR,rfl,rfl,rfl,h0.1,rfl,fn,hf,hv⟩
end
theorem zU {P:Program} {g:FuncId} {fn:Func} {c:Code} {args:Array Value} {w:World} {R:Ending→World→Prop} (f:Nat→Value)
  (hf:P.funcs[g]? = some fn) (hb:fn.body=some c) (ha:args++Array.replicate (fn.ntmps - args.size) undef=tm fn.ntmps f)
  (h:∀ cs,Go ⟨P,g,fn.ntmps,cs,R,[],none⟩ [.code c] f w):Calls P g args w R:=by
 intro cs;obtain ⟨m,hc,v,w',fr',hR,rfl,hfn,hl⟩:=h cs;refine ⟨.returned v,w',fr',hR,?_,hfn,hl⟩;have henter:Frame.enter P g args .normal=Frame.atR { (default:Frame) with fn:=g,kind := .normal,roundOf:=none } ⟨tm fn.ntmps f,[]⟩ [.code c]:=by
  simp [Frame.enter,Frame.atR,hf,hb,← ha]
 rw [henter]
 exact hc
def ww {σ Ω:Type} (step:σ→Option (σ ⊕ Ω)):Nat→σ→Option Ω
 | 0,_=>none
 | n + 1,s=>match step s with
  | none=>none
  | some (.inr o)=>some o
  | some (.inl s')=>ww step n s'
open Classical in
noncomputable def iter {σ Ω:Type} (step:σ→Option (σ ⊕ Ω)) (s:σ):Option Ω :=
 match ww step 18446744073709551616 s with
 | some o=>some o
 | none=>if h:∃ n o,ww step n s=some o then some (Classical.choose (Classical.choose_spec h)) else none
theorem Bd {σ Ω:Type} {step:σ→Option (σ ⊕ Ω)}:∀ {n m:Nat} {s:σ} {o:Ω},n≤m→ww step n s=some o→ww step m s=some o
 | 0,_,_,_,_,h=>by cases h
 | n + 1,0,_,_,hm,_=>by omega
 | n + 1,m + 1,s,o,hm,h=>by
  simp only [ww] at h ⊢
  split at h
  ·cases h
  ·exact h
  ·exact Bd (by omega) h
theorem FE {σ Ω:Type} {step:σ→Option (σ ⊕ Ω)} {n m:Nat} {s:σ} {o p:Ω} (h1:ww step n s=some o) (h2:ww step m s=some p):o=p:=by
 have h3:=Bd (Nat.le_max_left n m) h1;have h4:=Bd (Nat.le_max_right n m) h2
 rw [h3] at h4
 exact Option.some.inj h4
theorem zV {σ Ω:Type} {step:σ→Option (σ ⊕ Ω)} {s:σ} {o:Ω}:iter step s=some o↔∃ n,ww step n s=some o:=by
 unfold iter;generalize hk:(18446744073709551616:Nat)=k;clear hk
 constructor
 ·intro h
  split at h
  ·rename_i o' e
   cases h;exact ⟨_,e⟩
  ·split at h
   ·rename_i hx
    cases h;exact ⟨_,Classical.choose_spec (Classical.choose_spec hx)⟩
   ·cases h
 ·rintro ⟨n,hn⟩
  split
  ·rename_i o' e
   rw [FE e hn]
  ·have hx:∃ n o,ww step n s=some o:=⟨n,o,hn⟩
   rw [dif_pos hx]
   rw [FE (Classical.choose_spec (Classical.choose_spec hx)) hn]
theorem Aj {σ Ω:Type} (step:σ→Option (σ ⊕ Ω)) (s:σ):iter step s=match step s with
  | none=>none
  | some (.inr o)=>some o
  | some (.inl s')=>iter step s':=by
 apply Option.ext
 intro o
 rw [zV]
 constructor
 ·rintro ⟨n,hn⟩;cases n with
  | zero=>cases hn
  | succ n =>
   simp only [ww] at hn
   split at hn
   ·cases hn
   ·exact hn
   ·exact zV.2 ⟨n,hn⟩
 ·intro h;cases hs:step s with
  | none=>rw [hs] at h; cases h
  | some x =>
   rw [hs] at h
   cases x with
   | inr o'=>exact ⟨1,by simp only [ww,hs]; exact h⟩
   | inl s' =>
    obtain ⟨n,hn⟩:=zV.1 h;exact ⟨n + 1,by simp only [ww,hs]; exact hn⟩
theorem bH {E:Env} {k:List Item} {c:Code} {σ Ω:Type} (step:σ→Option (σ ⊕ Ω)) (St:σ→(Nat→Value)→World→Prop) {o:Ω} {s:σ} {f:Nat→Value} {w:World}
  (H:iter step s=some o) (h0:St s f w)
  (round:∀ s f w x,step s=some x→St s f w→(∀ s',x = .inl s'→∀ f' w',St s' f' w'→Go E (.inLoop c::k) f' w')→(∀ ω,x = .inr ω→ω=o)→Go E (.code c :: .inLoop c::k) f w) :
  Go E (.code (.loop c)::k) f w:=by
 obtain ⟨n,hn⟩:=zV.1 H;refine go_loop ?_;clear H
 induction n generalizing s f w with
 | zero=>cases hn
 | succ n ih =>
  simp only [ww] at hn
  cases hs:step s with
  | none=>rw [hs] at hn; cases hn
  | some x =>
   rw [hs] at hn
   refine round s f w x hs h0 ?_ ?_
   ·rintro s' rfl f' w' h';exact FD (ih (s:=s') h' hn)
   ·rintro ω rfl;exact Option.some.inj hn
def out {σ Ω:Type} (x:Option Ω):Option (σ ⊕ Ω):=x.map .inr
theorem aB {σ Ω:Type} {x:Option Ω} {y:σ ⊕ Ω} (h:out x=some y):∃ ω,x=some ω∧y = .inr ω:=by
 unfold out at h;cases x with
 | none=>cases h
 | some ω=>exact ⟨ω,rfl,(Option.some.inj h).symm⟩
theorem bind_some {α β:Type} {x:Option α} {k:α→Option β} {r:β} (h:x.bind k=some r):∃ a,x=some a∧k a=some r:=by
 cases x with
 | none=>cases h
 | some a=>exact ⟨a,rfl,h⟩
def must {β:Type} (c:Prop) [Decidable c] (x:Option β):Option β:=if c then x else none
theorem ah {β:Type} {c:Prop} [Decidable c] {x:Option β} {r:β} (h:must c x=some r):c∧x=some r:=by
 unfold must at h
 split at h
 ·exact ⟨‹_›,h⟩
 ·cases h
theorem iL {β:Type} {c:Prop} [Decidable c] (x:Option β) (h:c):must c x=x:=if_pos h
def Sem.pureRun {α:Type} (P:Program):Sem α→Option α
 | .pure a=>some a
 | .program k=>Sem.pureRun P (k P)
 | _=>none
theorem Sem.pureRun_run {α:Type} {P:Program} (s:Sem α):∀ {a:α},Sem.pureRun P s=some a→∀ w,s.run P w = .ok a w:=by
 induction s with
 | pure b=>intro a h w; simp only [Sem.pureRun,Option.some.injEq] at h; subst h; rfl
 | program k ih=>intro a h w; exact ih P h w
 | _=>intro a h; simp [Sem.pureRun] at h
def Iq (P:Program) (o:Oper) (e:Operand→Value):Option Value :=
 match Sem.pureRun P (execOp e o) with
 | some (.value v)=>some v
 | _=>none
theorem FH {P:Program} {o:Oper} {e:Operand→Value} {v:Value} (h:Iq P o e=some v) (w:World):(execOp e o).run P w = .ok (.value v) w:=by
 unfold Iq at h
 split at h
 ·rename_i v' hs
  cases h;exact Sem.pureRun_run _ hs w
 ·cases h
def cut (P:Program) (t:TypeId) (cs:List Value):Option Value :=
 match P.underlying t,P.info? t with
 | some (.struct _),some i=>bif Nat.ble i.size cs.length then some (.agg (cs.take i.size).toArray) else none
 | some (.array _ _),some i=>bif Nat.ble i.size cs.length then some (.agg (cs.take i.size).toArray) else none
 | some _,some _=>cs.head?
 | _,_=>none
end Go.Proofs.YtfpeabnehpclnaaGreatDoorE
namespace Go.Proofs.YtfpeabnehpclnaaGreatDoorE
open Go
set_option linter.unusedVariables false
set_option linter.unusedSimpArgs false
def GoO (E:Env) (ops:Array Oper) (i:Nat) (k:List Item) (f:Nat→Value) (w:World):Prop :=
 Go E (.inRegion ops ((List.range ops.size).drop i)::k) f w
theorem wo {n i:Nat} (h:i < n):(List.range n).drop i=i::(List.range n).drop (i + 1):=by
 rw [List.drop_eq_getElem_cons (by simpa using h)]
 simp
theorem xS {α:Type} {ops:Array α} {i:Nat} {o:α} (ho:ops[i]? = some o):i < ops.size:=by
 rcases Nat.lt_or_ge i ops.size with h | h
 ·exact h
 ·rw [Array.getElem?_eq_none h] at ho; cases ho
section
variable {E:Env} {ops:Array Oper} {k:List Item} {f:Nat→Value} {w w':World}
theorem ax {id:Nat} (h:GoO E ops 0 k f w):Go E (.code (.region id ops false)::k) f w:=go_region (by simpa [GoO] using h)
theorem lc {i:Nat} (hi:Nat.ble ops.size i=true) (h:Go E k f w):GoO E ops i k f w:=by
 unfold GoO
 rw [List.drop_eq_nil_of_le (by simpa using Nat.le_of_ble_eq_true hi)]
 exact RD h
theorem RO (i:Nat) (o:Oper) (v:Value) (ho:ops[i]? = some o) (hw:wants E.N ops f o=true)
  (hr:(execOp (ev E.N f) o).run E.P w = .ok (.value v) w') (h:GoO E ops (i + 1) k (qJ f o.dst v) w'):GoO E ops i k f w:=by
 unfold GoO
 rw [wo (xS ho)]
 exact Sw o v ho hw hr h
theorem Sr (i:Nat) (o:Oper) (ho:ops[i]? = some o) (hw:wants E.N ops f o=true)
  (hr:(execOp (ev E.N f) o).run E.P w = .ok .skip w') (h:GoO E ops (i + 1) k (qJ f o.dst undef) w'):GoO E ops i k f w:=by
 unfold GoO
 rw [wo (xS ho)]
 exact RF o ho hw hr h
theorem Tc (i:Nat) (o:Oper) (ho:ops[i]? = some o) (hw:wants E.N ops f o=false)
  (h:GoO E ops (i + 1) k (qJ f o.dst undef) w):GoO E ops i k f w:=by
 unfold GoO
 rw [wo (xS ho)]
 exact Sy o ho hw h
theorem Su {R:Ending→World→Prop} (i:Nat) (o:Oper) (g:FuncId) (args:Array Value) (ho:ops[i]? = some o) (hw:wants E.N ops f o=true)
  (hr:(execOp (ev E.N f) o).run E.P w = .ok (.enter g args) w') (hc:Calls E.P g args w' R)
  (h:∀ e w'',R e w''→∃ v,e = .returned v∧GoO E ops (i + 1) k (qJ f o.dst v) w''):GoO E ops i k f w:=by
 unfold GoO
 rw [wo (xS ho)]
 exact go_call o g args ho hw hr hc h
end
theorem Rx {E:Env} {ops:Array Oper} {k:List Item} {f:Nat→Value} {w w':World} (i:Nat) (o:Oper) (g:FuncId) (args:Array Value) (ho:ops[i]? = some o) (hw:wants E.N ops f o=true)
  (hr:(execOp (ev E.N f) o).run E.P w = .ok (.enter g args) w') (hc:Calls E.P g args w' fun e w''=>∃ v,e = .returned v∧GoO E ops (i + 1) k (qJ f o.dst v) w''):GoO E ops i k f w :=
 Su i o g args ho hw hr hc (fun e w'' h=>h)
def Fy (P:Program) (K:Value→World→Prop):Result Next→Prop
 | .ok (.value v) w'=>K v w'
 | .ok .skip w'=>K undef w'
 | .ok (.enter g args) w'=>Calls P g args w' fun e w''=>∃ v,e = .returned v∧K v w''
 | _=>False
structure Eff (P:Program) (o:Oper) (e:Operand→Value) (w:World) (K:Value→World→Prop):Prop where
 out:Fy P K ((execOp e o).run P w)
theorem gX {P:Program} {o:Oper} {e:Operand→Value} {w w':World} {K:Value→World→Prop} (v:Value) (hr:(execOp e o).run P w = .ok (.value v) w') (h:K v w'):Eff P o e w K:=by
 constructor; rw [hr]; exact h
theorem Ce {P:Program} {o:Oper} {e:Operand→Value} {w w':World} {K:Value→World→Prop} (hr:(execOp e o).run P w = .ok .skip w') (h:K undef w'):Eff P o e w K:=by
 constructor; rw [hr]; exact h
theorem JP {P:Program} {o:Oper} {e:Operand→Value} {w w':World} {K:Value→World→Prop} {R:Ending→World→Prop} (g:FuncId) (args:Array Value) (hr:(execOp e o).run P w = .ok (.enter g args) w') (hc:Calls P g args w' R)
  (h:∀ e w'',R e w''→∃ v,e = .returned v∧K v w''):Eff P o e w K:=by
 constructor; rw [hr]; exact hc.mono h
def nth {α:Type}:List α→Nat→Option α
 | [],_=>none
 | a::_,0=>some a
 | _::l,n + 1=>nth l n
theorem Fz {α:Type}:∀ (l:List α) (i:Nat),nth l i=l[i]?
 | [],_=>by simp [nth]
 | a::_,0=>by simp [nth]
 | _::l,n + 1=>by simp [nth,Fz l n]
theorem yK {E:Env} {ops:Array Oper} {k:List Item} {f:Nat→Value} {w:World} (i:Nat) (o:Oper) (hn:nth ops.toList i=some o) (hw:wants E.N ops f o=true)
  (h:Eff E.P o (ev E.N f) w (fun v w'=>GoO E ops (i + 1) k (qJ f o.dst v) w')):GoO E ops i k f w:=by
 have ho:ops[i]? = some o:=by rw [Fz] at hn; simpa using hn
 replace h:=h.out;cases hr:(execOp (ev E.N f) o).run E.P w with
 | halt x w'=>rw [hr] at h; exact h.elim
 | ok n w' =>
  rw [hr] at h
  cases n <;> first
   | exact RO i o _ ho hw hr h
   | exact Sr i o ho hw hr h
   | exact Rx i o _ _ ho hw hr h
   | exact h.elim
def Rd (P:Program) (N:Nat) (ops:Array Oper) (w:World):Nat→Nat→(Nat→Value)→((Nat→Value)→Prop)→Prop
  | 0,_,f,K=>K f
  | n + 1,i,f,K=>∃ o,ops[i]? = some o ∧
      ((wants N ops f o=false∧Rd P N ops w n (i + 1) (qJ f o.dst undef) K) ∨
       ∃ v,wants N ops f o=true∧(execOp (ev N f) o).run P w = .ok (.value v) w∧Rd P N ops w n (i + 1) (qJ f o.dst v) K)
theorem Rd.mono {P:Program} {N:Nat} {ops:Array Oper} {w:World} {K K':(Nat→Value)→Prop} (hK:∀ f,K f→K' f):∀ {n i:Nat} {f:Nat→Value},Rd P N ops w n i f K→Rd P N ops w n i f K'
 | 0,_,_,h=>hK _ h
 | n + 1,i,f,⟨o,ho,h⟩=>⟨o,ho,h.imp (fun ⟨a,b⟩=>⟨a,b.mono hK⟩) (fun ⟨v,a,b,c⟩=>⟨v,a,b,c.mono hK⟩)⟩
theorem Rd.append {P:Program} {N:Nat} {ops:Array Oper} {w:World} {K:(Nat→Value)→Prop} {m:Nat}:∀ {n i:Nat} {f:Nat→Value},Rd P N ops w n i f (fun f'=>Rd P N ops w m (i + n) f' K)→Rd P N ops w (n + m) i f K
 | 0,i,f,h=>by rw [Nat.zero_add]; exact h
 | n + 1,i,f,⟨o,ho,h⟩=>by
  rw [show n + 1 + m=(n + m) + 1 by omega]
  have e:∀ f',Rd P N ops w m (i + (n + 1)) f' K→Rd P N ops w m (i + 1 + n) f' K:=fun f' h=>by rw [show i + 1 + n=i + (n + 1) by omega]; exact h
  exact ⟨o,ho,h.imp (fun ⟨a,b⟩=>⟨a,Rd.append (b.mono e)⟩) (fun ⟨v,a,b,c⟩=>⟨v,a,b,Rd.append (c.mono e)⟩)⟩
theorem Rd.go {E:Env} {ops:Array Oper} {k:List Item} {w:World}:∀ {n i:Nat} {f:Nat→Value},Rd E.P E.N ops w n i f (fun f'=>GoO E ops (i + n) k f' w)→GoO E ops i k f w
 | 0,_,_,h=>h
 | n + 1,i,f,⟨o,ho,h⟩=>by
  have e:∀ f',GoO E ops (i + (n + 1)) k f' w→GoO E ops (i + 1 + n) k f' w:=fun f' h=>by rw [show i + 1 + n=i + (n + 1) by omega]; exact h
  rcases h with ⟨hw,h⟩ | ⟨v,hw,hr,h⟩
  ·exact Tc i o ho hw (Rd.go (h.mono e))
  ·exact RO i o v ho hw hr (Rd.go (h.mono e))
abbrev Grp:=Nat×Nat×List Value
def Grp.ok (w:World) (g:Grp):Prop:=∀ j u,g.2.2[j]? = some u→w.cell? ⟨g.1,g.2.1 + j,none⟩=some u
def pV (w:World):List Grp→Prop
 | []=>True
 | g::r=>Grp.ok w g∧pV w r
theorem pV.get {w:World}:∀ {G:List Grp} {i:Nat} {g:Grp},pV w G→G[i]? = some g→g.ok w
 | g::r,0,_,h,e=>by cases e; exact h.1
 | g::r,i + 1,_,h,e=>pV.get (G:=r) (i:=i) h.2 (by simpa using e)
theorem addr_add (b o n:Nat):(⟨b,o,none⟩:Addr).add n=⟨b,o + n,none⟩:=by
 unfold Addr.add
 split <;> simp_all
theorem run_load {P:Program} {w:World} {a:Addr} {v:Value} (h:w.cell? a=some v):(Go.load a).run P w = .ok v w:=by
 simp [Go.load,Sem.run,h]
theorem run_loadCellsFrom {P:Program} {w:World} (b o:Nat):∀ (cs:List Value) (i:Nat) (acc:Array Value),(∀ j u,cs[j]? = some u→w.cell? ⟨b,o + i + j,none⟩=some u) →
  (loadCellsFrom ⟨b,o,none⟩ i cs.length acc).run P w = .ok (acc++cs.toArray) w
 | [],i,acc,_=>by simp [loadCellsFrom,pure,Sem.run]
 | c::cs,i,acc,h=>by
  have h0:=h 0 c rfl;have hr:=run_loadCellsFrom (P:=P) b o cs (i + 1) (acc.push c) (fun j u hu=>by
   have:=h (j + 1) u (by simpa using hu)
   rw [show o + (i + 1) + j=o + i + (j + 1) by omega]
   exact this)
  simp only [List.length_cons,loadCellsFrom,addr_add,Go.load,bind,Sem.bind,Sem.run]
  rw [show o + i=o + i + 0 by rfl,h0]
  simp only [Sem.bind]
  rw [hr]
  simp
theorem run_loadCells {P:Program} {w:World} (b o:Nat) (cs:List Value) (h:∀ j u,cs[j]? = some u→w.cell? ⟨b,o + j,none⟩=some u) :
  (loadCells ⟨b,o,none⟩ cs.length).run P w = .ok cs.toArray w:=by
 have:=run_loadCellsFrom (P:=P) b o cs 0 #[] (by simpa using h)
 simpa [loadCells] using this
theorem bD {P:Program} {w:World} {t:TypeId} {d:TypeDesc} (h:P.underlying t=some d):(underlying t).run P w = .ok d w:=by
 simp [underlying,program,Sem.run,h]
theorem run_sizeOf {P:Program} {w:World} {t:TypeId} {i:TypeInfo} (h:P.info? t=some i):(sizeOf t).run P w = .ok i.size w:=by
 simp [sizeOf,typeInfo,program,Sem.run,h]
theorem Nr {P:Program} {w:World} {t:TypeId} {d:TypeDesc} (h:P.underlying t=some d) :
  (isAgg t).run P w = .ok (match d with | .struct _ | .array _ _=>true | _=>false) w:=by
 simp only [isAgg,Sem.run_bind,bD h]
 cases d <;> rfl
theorem Grp.drop {w:World} {b o:Nat} {cs:List Value} (h:Grp.ok w (b,o,cs)) (j:Nat):Grp.ok w (b,o + j,cs.drop j):=by
 intro i u hu;have:=h (j + i) u (by simpa using hu)
 rw [show o + j + i=o + (j + i) by omega]
 exact this
theorem Dy {P:Program} {w:World} {t:TypeId} {b o:Nat} {cs:List Value} {v:Value} (h:cut P t cs=some v) (hg:Grp.ok w (b,o,cs)) :
  (loadVar t ⟨b,o,none⟩).run P w = .ok v w:=by
 unfold cut at h;cases hd:P.underlying t with
 | none=>rw [hd] at h; cases h
 | some d =>
  cases hi:P.info? t with
  | none=>rw [hd,hi] at h; cases d <;> cases h
  | some i =>
   rw [hd,hi] at h
   have agg:((bif Nat.ble i.size cs.length then some (Value.agg (cs.take i.size).toArray) else none)=some v) →
     (do pure (Value.agg (← loadCells ⟨b,o,none⟩ (← sizeOf t))):Sem Value).run P w = .ok v w:=by
    intro h;have hle:i.size≤cs.length:=by
     cases e:Nat.ble i.size cs.length with
     | true=>exact Nat.le_of_ble_eq_true e
     | false=>rw [e] at h; cases h
    rw [show Nat.ble i.size cs.length=true from Nat.ble_eq_true_of_le hle] at h
    cases h;have hc:=run_loadCells (P:=P) (w:=w) b o (cs.take i.size) (fun j u hu=>by
     rw [List.getElem?_take] at hu
     split at hu
     ·exact hg j u hu
     ·cases hu)
    rw [List.length_take,Nat.min_eq_left hle] at hc
    simp only [Sem.run_bind,run_sizeOf hi,Result.andThen,hc,Sem.run,pure]
   have one:cs.head? = some v→(Go.load ⟨b,o,none⟩).run P w = .ok v w:=by
    intro h;exact run_load (hg 0 v (by rw [← List.head?_eq_getElem?]; exact h))
   simp only [loadVar,Sem.run_bind,Nr hd]
   cases d <;> first | exact agg h | exact one h
def bt (s:ByteArray) (i:Int):Int:=if h:i.toNat < s.size then ((s[i.toNat]'h).toNat:Int) else 0
abbrev Ij:=List (Value×Value)×List (Int×Nat)
def uW:List (Int×Nat)→Prop
 | []=>True
 | p::r=>(0≤p.1∧p.1 < p.2)∧uW r
theorem uW.app {a b:List (Int×Nat)} (h:uW (a++b)):uW a∧uW b:=by
 induction a with
 | nil=>exact ⟨trivial,h⟩
 | cons p r ih=>exact ⟨⟨h.1,(ih h.2).1⟩,(ih h.2).2⟩
def eq0 (P:Program) (t:TypeId) (x y:Value):Option Bool :=
 match P.underlying t,x,y with
 | some .bool,.bool a,.bool b=>some (a == b)
 | some (.int _),.int k a,.int k' b=>bif decide (k=k') then some (a == b) else none
 | some .string,.string a,.string b=>some (a == b)
 | _,_,_=>none
def Ry (P:Program) (rec:TypeId→Value→Value→Option Bool) (xs ys:Array Value):List Field→Option Bool
 | []=>some true
 | f::fs=>bif f.name == "_" then none else
  match Sem.pureRun P (part f.type xs f.offset),Sem.pureRun P (part f.type ys f.offset) with
  | some a,some b=>match rec f.type a b,Ry P rec xs ys fs with
   | some r,some s=>some (r && s)
   | _,_=>none
  | _,_=>none
def Rz (P:Program) (rec:TypeId→Value→Value→Option Bool) (e:TypeId) (z:Nat) (xs ys:Array Value):List Nat→Option Bool
 | []=>some true
 | i::is=>match Sem.pureRun P (part e xs (i * z)),Sem.pureRun P (part e ys (i * z)) with
  | some a,some b=>match rec e a b,Rz P rec e z xs ys is with
   | some r,some s=>some (r && s)
   | _,_=>none
  | _,_=>none
def eqS (P:Program) (rec:TypeId→Value→Value→Option Bool) (t:TypeId) (x y:Value):Option Bool :=
 match P.underlying t,x,y with
 | some (.struct fs),.agg xs,.agg ys=>bif P.stoodInHeld t then none else Ry P rec xs ys fs.toList
 | some (.array 2 e),.agg xs,.agg ys=>match P.info? e with
  | some i=>match Sem.pureRun P (part e xs 0),Sem.pureRun P (part e ys 0),Sem.pureRun P (part e xs i.size),Sem.pureRun P (part e ys i.size) with
   | some a,some b,some c,some d=>match rec e a b,rec e c d with
    | some r,some s=>some (r && s)
    | _,_=>none
   | _,_,_,_=>none
  | none=>none
 | some (.array n e),.agg xs,.agg ys=>match P.info? e with
  | some _=>Rz P rec e (P.cellsOf e) xs ys (List.range n)
  | none=>none
 | _,_,_=>eq0 P t x y
theorem Mj {P:Program} {t:TypeId} {x y:Value} {r:Bool} {w:World} (h:eq0 P t x y=some r) (d:Nat):(Op.equalIn (d + 1) t x y).run P w = .ok r w:=by
 unfold eq0 at h
 split at h
 ·rename_i a b hu
  cases h
  simp only [Op.equalIn,Sem.run_bind,bD hu,Result.andThen,Sem.run,pure]
 ·rename_i kk k a k' b hu
  cases e:decide (k=k') with
  | false=>rw [e] at h; cases h
  | true =>
   rw [e] at h
   cases h;have e:=of_decide_eq_true e;subst e
   simp only [Op.equalIn,Sem.run_bind,bD hu,Result.andThen,Sem.run,pure,if_true]
 ·rename_i a b hu
  cases h
  simp only [Op.equalIn,Sem.run_bind,bD hu,Result.andThen,Sem.run,pure]
 ·cases h
theorem JQ {P:Program} {rec:TypeId→Value→Value→Option Bool} {d:Nat} {w:World} (hrec:∀ t x y r,rec t x y=some r→(Op.equalIn d t x y).run P w = .ok r w) {xs ys:Array Value} :
  ∀ {fs:List Field} {r:Bool},Ry P rec xs ys fs=some r→(Op.eqFields d xs ys fs).run P w = .ok r w
 | [],r,h=>by cases h; simp [Op.eqFields,Sem.run,pure]
 | f::fs,r,h=>by
  simp only [Ry] at h
  cases hn:(f.name == "_") with
  | true=>rw [hn] at h; cases h
  | false =>
   rw [hn,cond_false] at h
   have hn':f.name ≠ "_" := by simpa using hn
   split at h
   ·rename_i a b ha hb
    split at h
    ·rename_i r1 s1 h1 h2
     cases h;have e1:=hrec _ _ _ _ h1;have e2:=JQ hrec h2
     rw [Op.eqFields]
     simp only [if_pos hn',Sem.run_bind,Sem.pureRun_run _ ha w,Sem.pureRun_run _ hb w,e1,Result.andThen]
     cases r1
     ·simp [Sem.run,pure]
     ·simpa using e2
    ·cases h
   ·cases h
theorem JR {P:Program} {rec:TypeId→Value→Value→Option Bool} {d:Nat} {w:World} (hrec:∀ t x y r,rec t x y=some r→(Op.equalIn d t x y).run P w = .ok r w) {e:TypeId} {z:Nat} {xs ys:Array Value} :
  ∀ {is:List Nat} {r:Bool},Rz P rec e z xs ys is=some r→(Op.eqItems d e z xs ys is).run P w = .ok r w
 | [],r,h=>by cases h; simp [Op.eqItems,Sem.run,pure]
 | i::is,r,h=>by
  simp only [Rz] at h
  split at h
  ·rename_i a b ha hb
   split at h
   ·rename_i r1 s1 h1 h2
    cases h;have e1:=hrec _ _ _ _ h1;have e2:=JR hrec h2
    rw [Op.eqItems]
    simp only [Sem.run_bind,Sem.pureRun_run _ ha w,Sem.pureRun_run _ hb w,e1,Result.andThen]
    cases r1
    ·simp [Sem.run,pure]
    ·simpa using e2
   ·cases h
  ·cases h
theorem Ml {P:Program} {rec:TypeId→Value→Value→Option Bool} {d:Nat} {w:World} (hrec:∀ t x y r,rec t x y=some r→(Op.equalIn d t x y).run P w = .ok r w) {t:TypeId} {x y:Value} {r:Bool}
  (h:eqS P rec t x y=some r):(Op.equalIn (d + 1) t x y).run P w = .ok r w:=by
 unfold eqS at h
 split at h
 ·rename_i fs xs ys hu
  cases hp:P.stoodInHeld t with
  | true=>rw [hp] at h; cases h
  | false =>
   rw [hp,cond_false] at h
   have hf:P.fieldsOf t=fs:=by simp [Program.fieldsOf,hu]
   rw [run_equalIn_struct (P:=P) w d t xs ys (by rw [hf]; exact hu) hp,hf]
   exact JQ hrec h
 ·rename_i e xs ys hu
  split at h
  ·rename_i i hi
   split at h
   ·rename_i a b c dd ha hb hc hd
    split at h
    ·rename_i r1 s1 h1 h2
     cases h;have e1:=hrec _ _ _ _ h1;have e2:=hrec _ _ _ _ h2
     simp only [Op.equalIn,Sem.run_bind,bD hu,run_sizeOf hi,Result.andThen]
     simp only [Std.Legacy.Range.forIn_eq_forIn_range',Std.Legacy.Range.size,Nat.sub_zero,Nat.add_sub_cancel,Nat.div_one,List.range',List.forIn_cons,List.forIn_nil,Nat.zero_mul,Nat.zero_add,Nat.one_mul,Sem.run_bind,
      Sem.pureRun_run _ ha w,Sem.pureRun_run _ hb w,Sem.pureRun_run _ hc w,Sem.pureRun_run _ hd w,e1,e2,Result.andThen]
     cases r1 <;> cases s1 <;> simp [Sem.run,pure,Sem.pureRun_run _ ha w,Sem.pureRun_run _ hb w,Sem.pureRun_run _ hc w,Sem.pureRun_run _ hd w,e1,e2,Result.andThen,Sem.run_bind]
    ·cases h
   ·cases h
  ·cases h
 ·rename_i n e xs ys _ hu
  split at h
  ·rename_i i hi
   rw [run_equalIn_array w d xs ys hu hi]
   exact JR hrec h
  ·cases h
 ·exact Mj h d
def eq2 (P:Program) (t:TypeId) (x y:Value):Option Bool:=eqS P (eqS P (eq0 P)) t x y
theorem Ik {P:Program} {t:TypeId} {x y:Value} {r:Bool} {w:World} (h:eq2 P t x y=some r):(Op.equal t x y).run P w = .ok r w :=
 Ml (d:=9999) (fun _ _ _ _ h=>Ml (d:=9998) (fun _ _ _ _ h=>Mj h 9997) h) h
def far:Nat:=9223372036854775808
def Ph (P:Program) (o:Oper) (e:Operand→Value):Option (Value×List (Int×Nat)) :=
 match o.op with
 | .indexAddr t x ix=>match P.underlying t,e x,e ix with
  | some (.slice el),.slice (some ⟨b,off,none⟩) n _,.int _ j=>match P.info? el with
   | some i=>some (.pointer (some ⟨b,off + j.toNat * i.size,none⟩),[(j,n)])
   | none=>none
  | some (.array n el),.pointer (some ⟨b,off,none⟩),.int _ j=>match P.info? el with
   | some i=>some (.pointer (some ⟨b,off + j.toNat * i.size,none⟩),[(j,n)])
   | none=>none
  | _,_,_=>none
 | .index t x ix=>match P.underlying t,e x,e ix with
  | some .string,.string s,.int _ j=>some (.int .u8 (bt s j),[(j,s.size)])
  | _,_,_=>none
 | .slice t x lo hi none=>match P.underlying t,e x with
  | some (.slice el),.slice A n c=>match lo.map e,hi.map e,P.info? el with
   | none,some (.int _ h),some _=>some (.slice A h.toNat c,[(h,c + 1)])
   | some (.int _ l),_,some i=>match (hi.map e).getD (.int .i64 n) with
    | .int _ h=>some (sliced A l.toNat h.toNat c i.size,[(l,h.toNat + 1),(h,c + 1)])
    | _=>none
   | _,_,_=>none
  | some .string,.string s=>match (lo.map e).getD (.int .i64 0),(hi.map e).getD (.int .i64 s.size) with
   | .int kl l,.int kh h=>some (.string (s.extract l.toNat h.toNat),[(l,h.toNat + 1),(h,s.size + 1)])
   | _,_=>none
  | _,_=>none
 | .binOp .eql t x y _=>match e x,e y with
  | .agg a,.agg b=>bif P.eqGuardType P.depth t then none else match eq2 P t (.agg a) (.agg b) with
   | some r=>some (.bool r,[])
   | none=>none
  | _,_=>none
 | .binOp .neq t x y _=>match e x,e y with
  | .agg a,.agg b=>bif P.eqGuardType P.depth t then none else match eq2 P t (.agg a) (.agg b) with
   | some r=>some (.bool (!r),[])
   | none=>none
  | _,_=>none
 | .binOp .shl _ x y _=>match e x,e y with
  | .int k a,.int _ b=>some (.int k (k.wrap (a * 2 ^ (min b.toNat k.bits))),[(b,far)])
  | _,_=>none
 | .binOp .shr _ x y _=>match e x,e y with
  | .int k a,.int _ b=>some (.int k (a.fdiv (2 ^ (min b.toNat k.bits))),[(b,far)])
  | _,_=>none
 | .binOp .rem _ x y _=>match e x,e y with
  | .int k a,.int k' b=>bif decide (k=k') then some (.int k (a.tmod b),[(if b=0 then 1 else 0,1)]) else none
  | _,_=>none
 | .binOp .quo _ x y _=>match e x,e y with
  | .int k a,.int k' b=>bif decide (k=k') then some (.int k (k.wrap (a.tdiv b)),[(if b=0 then 1 else 0,1)]) else none
  | _,_=>none
 | _=>none
inductive Hint where
 | p
 | c (b:Bool)
 | x
 | l (g j:Nat)
def yL (P:Program) (G:List Grp) (o:Oper) (e:Operand→Value):Hint→Option (Value×Ij)
 | .p=>match Iq P o e with | some v=>some (v,[],[]) | none=>none
 | .c b=>match Iq P o e with | some (.bool t)=>some (.bool b,[],[(bif t == b then 0 else -1,1)]) | _=>none
 | .x=>match Ph P o e with | some (v,bs)=>some (v,[],bs) | none=>none
 | .l gi j=>match o.op,G[gi]? with
  | .load t x,some (b,off,cs)=>match cut P t (cs.drop j) with
   | some v=>some (v,[(e x,.pointer (some ⟨b,off + j,none⟩))],[])
   | none=>none
  | _,_=>none
def iU (P:Program) (N:Nat) (ops:Array Oper) (G:List Grp):List Hint→Nat→(Nat→Value)→Option ((Nat→Value)×Ij)
 | [],_,f=>some (f,[],[])
 | h::hs,i,f=>match ops[i]? with
  | none=>none
  | some o=>bif wants N ops f o then
    match yL P G o (ev N f) h with
    | some (v,oa,ob)=>match iU P N ops G hs (i + 1) (qJ f o.dst v) with
     | some (f',ra,rb)=>some (f',oa++ra,ob++rb)
     | none=>none
    | none=>none
   else iU P N ops G hs (i + 1) (qJ f o.dst undef)
theorem aA {t b:Bool} (h:t=b):0≤(bif t == b then (0:Int) else -1)∧(bif t == b then (0:Int) else -1) < ((1:Nat):Int):=by
 subst h;cases t <;> decide
theorem Ns {P:Program} {o:Oper} {e:Operand→Value} {v:Value} {bs:List (Int×Nat)} {w:World} (hs:Ph P o e=some (v,bs)) (hb:uW bs):(execOp e o).run P w = .ok (.value v) w:=by
 unfold Ph at hs
 split at hs
 ·rename_i t x ix hop
  split at hs
  ·rename_i el b off n c kk j hu hx hix
   split at hs
   ·rename_i i hi
    cases hs;have hb':=hb.1
    simp only [execOp,hop,hx,hix,Instr.indexAt,asIntOf,Sem.run_bind,Sem.run,pure,Result.andThen,bD hu]
    rw [if_pos hb']
    simp only [Sem.run_bind,run_sizeOf hi,Result.andThen,Sem.run,addr_add]
   ·cases hs
  ·rename_i n el b off kk j hu hx hix
   split at hs
   ·rename_i i hi
    cases hs;have hb':=hb.1
    simp only [execOp,hop,hx,hix,Instr.indexAt,asIntOf,Instr.sureAddr,Sem.run_bind,Sem.run,pure,Result.andThen,bD hu]
    rw [if_pos hb']
    simp only [Sem.run_bind,run_sizeOf hi,Result.andThen,Sem.run,addr_add]
   ·cases hs
  ·cases hs
 ·rename_i t x ix hop
  split at hs
  ·rename_i s kk j hu hx hix
   cases hs;have hb':=hb.1;have hlt:j.toNat < s.size:=by omega
   have hg:(if 0≤j then s[j.toNat]? else none)=some (s[j.toNat]'hlt):=by
    rw [if_pos hb'.1]
    exact getElem?_pos s j.toNat hlt
   simp only [execOp,hop,hx,hix,Instr.index,asIntOf,Sem.run_bind,Sem.run,pure,Result.andThen,bD hu,hg]
   simp [bt,hlt]
  ·cases hs
 ·rename_i t x lo hi hop
  split at hs
  ·rename_i el A n c hu hx
   split at hs
   ·rename_i kh h i hlo hhi hi'
    cases hs;have h1:=hb.1;have hlo:lo=none:=by cases lo with | none=>rfl | some _=>cases hlo
    subst hlo;have hel:P.elem t=el:=by simp [Program.elem,hu]
    have hz:(sizeOf (P.elem t)).run P w = .ok i.size w:=by rw [hel]; exact run_sizeOf hi'
    have ht':P.underlying t=some (.slice (P.elem t)):=by rw [hel]; exact hu
    have hrun:(Instr.sliceAt t (.slice A n c) none (some (.int kh h)) none).run P w = .ok (.slice A h.toNat c) w:=by
     rw [run_sliceAt_slice w t _ _ _ _ ht',run_slice_h w t A n c ht' kh h (by omega) (by omega),hz]
     have hA:(if c=0 then A else A.map fun x=>x.add (0 * i.size))=A:=by
      split
      ·rfl
      ·cases A with
       | none=>rfl
       | some a=>cases a; simp [Addr.add]
     simp only [Result.andThen,sliced,hA,Nat.sub_zero]
    simp only [execOp,hop,hx,Option.map_none,hhi,Sem.run_bind,hrun,Result.andThen,Sem.run,pure]
   ·rename_i kl l i hlo hi'
    split at hs
    ·rename_i kh h hhi
     cases hs;have h1:=hb.1;have h2:=hb.2.1;have hel:P.elem t=el:=by simp [Program.elem,hu]
     have hz:(sizeOf (P.elem t)).run P w = .ok i.size w:=by rw [hel]; exact run_sizeOf hi'
     have ht':P.underlying t=some (.slice (P.elem t)):=by rw [hel]; exact hu
     have hrun:(Instr.sliceAt t (.slice A n c) (some (.int kl l)) (hi.map e) none).run P w = .ok (sliced A l.toNat h.toNat c i.size) w:=by
      rw [run_sliceAt_slice w t _ _ _ _ ht']
      cases hi with
      | none =>
       cases hhi
       rw [Option.map_none,run_slice_l w t A n c ht' kl l (by omega) (by omega),hz]
       simp only [Result.andThen,Int.toNat_natCast]
      | some hi =>
       simp only [Option.map_some,Option.getD_some] at hhi
       rw [Option.map_some,hhi,run_slice_lh w t A n c ht' kl kh l h (by omega) (by omega) (by omega),hz]
       simp only [Result.andThen]
     simp only [execOp,hop,hx,Option.map_none,hlo,Sem.run_bind,hrun,Result.andThen,Sem.run,pure]
    ·cases hs
   ·cases hs
  ·rename_i s hu hx
   split at hs
   ·rename_i kl l kh h hlo hhi
    cases hs;have h1:=hb.1;have h2:=hb.2.1;have e1:(h.toNat:Int)=h:=Int.toNat_of_nonneg h2.1;have e2:(l.toNat:Int)=l:=Int.toNat_of_nonneg h1.1;have b1:∀ (k:IntKind) (i:Int) (y:Nat) (code:BoundsCode),0≤i→i≤y→(Instr.sliceBound (.int k i) y code).run P w = .ok i.toNat w:=fun k i y code=>run_sliceBound w k i y code
    simp only [execOp,hop,hx]
    have hs':(Instr.sliceAt t (.string s) (lo.map e) (hi.map e) (Option.map e none)).run P w = .ok (.string (s.extract l.toNat h.toNat)) w:=by
     rw [run_sliceAt_string w t _ _ _ _ hu]
     have l1:∀ code,(Instr.sliceBound (.int kl l) h.toNat code).run P w = .ok l.toNat w:=fun code=>b1 kl l h.toNat code h1.1 (by omega);have l2:∀ code,(Instr.sliceBound (.int kh h) s.size code).run P w = .ok h.toNat w:=fun code=>b1 kh h s.size code h2.1 (by omega);cases hi with
     | none =>
      cases hhi;cases lo with
      | none =>
       cases hlo
       simp [Instr.slice,bD hu,Instr.sliceBounds,Sem.run_bind,Result.andThen,Sem.run,pure]
      | some lo =>
       simp only [Option.map_some,Option.getD_some] at hlo
       simp only [Int.toNat_natCast] at l1
       simp [Instr.slice,bD hu,Instr.sliceBounds,Sem.run_bind,Result.andThen,Sem.run,pure,hlo,l1]
     | some hi =>
      simp only [Option.map_some,Option.getD_some] at hhi
      cases lo with
      | none =>
       cases hlo
       simp [Instr.slice,bD hu,Instr.sliceBounds,Sem.run_bind,Result.andThen,Sem.run,pure,hhi,l2]
      | some lo =>
       simp only [Option.map_some,Option.getD_some] at hlo
       simp [Instr.slice,bD hu,Instr.sliceBounds,Sem.run_bind,Result.andThen,Sem.run,pure,hlo,hhi,l1,l2]
    simp only [Sem.run_bind,hs',Result.andThen,Sem.run,pure]
   ·cases hs
  ·cases hs
 ·rename_i t x y yt hop
  split at hs
  ·rename_i a b hx hy
   cases hg:P.eqGuardType P.depth t with
   | true=>rw [hg] at hs; cases hs
   | false =>
    rw [hg,cond_false] at hs
    split at hs
    ·rename_i r hr
     cases hs
     simp [execOp,hop,hx,hy,eqGuard,binOp,Sem.run_bind,Sem.run,program,pure,Result.andThen,hg,Ik hr]
    ·cases hs
  ·cases hs
 ·rename_i t x y yt hop
  split at hs
  ·rename_i a b hx hy
   cases hg:P.eqGuardType P.depth t with
   | true=>rw [hg] at hs; cases hs
   | false =>
    rw [hg,cond_false] at hs
    split at hs
    ·rename_i r hr
     cases hs
     simp [execOp,hop,hx,hy,eqGuard,binOp,Sem.run_bind,Sem.run,program,pure,Result.andThen,hg,Ik hr]
    ·cases hs
  ·cases hs
 ·rename_i t x y yt hop
  split at hs
  ·rename_i k a k' b hx hy
   cases hs;have hb':=hb.1
   simp only [execOp,hop,hx,hy,eqGuard,binOp,Op.shift,Sem.run_bind,Sem.run,pure,Result.andThen]
   simp [show ¬ b < 0 by omega,Sem.run,pure]
  ·cases hs
 ·rename_i t x y yt hop
  split at hs
  ·rename_i k a k' b hx hy
   cases hs;have hb':=hb.1
   simp only [execOp,hop,hx,hy,eqGuard,binOp,Op.shift,Sem.run_bind,Sem.run,pure,Result.andThen]
   simp [show ¬ b < 0 by omega,Sem.run,pure]
  ·cases hs
 ·rename_i t x y yt hop
  split at hs
  ·rename_i k a k' b hx hy
   cases hk:decide (k=k') with
   | false=>rw [hk] at hs; cases hs
   | true =>
    rw [hk,cond_true] at hs
    have hk:=of_decide_eq_true hk;subst hk;cases hs;have hb':=hb.1;have h0:b≠0:=by intro e; rw [if_pos e] at hb'; exact absurd hb'.2 (by decide)
    simp only [execOp,hop,hx,hy,eqGuard,binOp,Op.intDiv,Sem.run_bind,Sem.run,pure,Result.andThen]
    simp [h0,Sem.run,pure]
  ·cases hs
 ·rename_i t x y yt hop
  split at hs
  ·rename_i k a k' b hx hy
   cases hk:decide (k=k') with
   | false=>rw [hk] at hs; cases hs
   | true =>
    rw [hk,cond_true] at hs
    have hk:=of_decide_eq_true hk;subst hk;cases hs;have hb':=hb.1;have h0:b≠0:=by intro e; rw [if_pos e] at hb'; exact absurd hb'.2 (by decide)
    simp only [execOp,hop,hx,hy,eqGuard,binOp,Op.intDiv,Sem.run_bind,Sem.run,pure,Result.andThen]
    simp [h0,Sem.run,pure]
  ·cases hs
 ·cases hs
theorem Dg {P:Program} {G:List Grp} {o:Oper} {e:Operand→Value} {h:Hint} {v:Value} {oa:List (Value×Value)} {ob:List (Int×Nat)} {w:World}
  (hs:yL P G o e h=some (v,oa,ob)) (ha:oa.map (·.1)=oa.map (·.2)) (hb:uW ob) (hG:pV w G):(execOp e o).run P w = .ok (.value v) w:=by
 cases h with
 | p =>
  simp only [yL] at hs
  split at hs
  ·rename_i v' hp
   cases hs;exact FH hp w
  ·cases hs
 | c b =>
  simp only [yL] at hs
  split at hs
  ·rename_i t hp
   cases hs;have h1:=hb.1.1;have ht:t=b:=by
    cases t <;> cases b <;> first | rfl | (exact absurd h1 (by decide))
   subst ht;exact FH hp w
  ·cases hs
 | x =>
  simp only [yL] at hs
  split at hs
  ·rename_i v' bs hp
   cases hs;exact Ns hp hb
  ·cases hs
 | l gi j =>
  simp only [yL] at hs
  split at hs
  ·rename_i t x b off cs hop hg
   split at hs
   ·rename_i v' hc
    cases hs
    simp only [List.map_cons,List.map_nil,List.cons.injEq,and_true] at ha
    have hl:=Dy (P:=P) hc (Grp.drop (hG.get hg) j)
    simp only [execOp,hop,ha,Instr.loadAt,Instr.sureAddr,Sem.run_bind,Result.andThen,Sem.run,pure,hl]
   ·cases hs
  ·cases hs
theorem Il {P:Program} {N:Nat} {ops:Array Oper} {G:List Grp} {w:World} {K:(Nat→Value)→Prop} (hG:pV w G):∀ {hs:List Hint} {i:Nat} {f f':Nat→Value} {oa:List (Value×Value)} {ob:List (Int×Nat)},
  iU P N ops G hs i f=some (f',oa,ob)→oa.map (·.1)=oa.map (·.2)→uW ob→K f'→Rd P N ops w hs.length i f K
 | [],i,f,f',oa,ob,h,_,_,hK=>by
  simp only [iU,Option.some.injEq,Prod.mk.injEq] at h
  rw [← h.1] at hK
  exact hK
 | h::hs,i,f,f',oa,ob,hr,ha,hb,hK=>by
  simp only [iU] at hr
  split at hr
  ·cases hr
  ·rename_i o ho
   cases hw:wants N ops f o with
   | false =>
    rw [hw,cond_false] at hr
    exact ⟨o,ho,.inl ⟨hw,Il hG hr ha hb hK⟩⟩
   | true =>
    rw [hw,cond_true] at hr
    split at hr
    ·rename_i v a2 a3 hst
     split at hr
     ·rename_i f1 ra rb hrest
      cases hr
      rw [List.map_append,List.map_append] at ha
      have hl:=List.append_inj ha (by simp);have a1:=uW.app hb;exact ⟨o,ho,.inr ⟨v,hw,Dg hst hl.1 a1.1 hG,Il hG hrest hl.2 a1.2 hK⟩⟩
     ·cases hr
    ·cases hr
def lL (r:Option ((Nat→Value)×Ij)):Option (Nat→Value):=match r with | some (f,_)=>some f | none=>none
def ig (r:Option ((Nat→Value)×Ij)) (s:Bool):List Value:=match r with | some (_,l,_)=>l.map (fun p=>bif s then p.1 else p.2) | none=>[]
def uH (r:Option ((Nat→Value)×Ij)):List (Int×Nat):=match r with | some (_,_,l)=>l | none=>[]
theorem Dh {P:Program} {N:Nat} {ops:Array Oper} {w:World} {K:(Nat→Value)→Prop} {n:Nat} {f:Nat→Value} (i:Nat) (G:List Grp) (hs:List Hint) (f1:Nat→Value) (bs:List (Int×Nat))
  (hG:pV w G) (hB:uW bs) (hr:lL (iU P N ops G hs i f)=some f1) (ha:ig (iU P N ops G hs i f) true=ig (iU P N ops G hs i f) false)
  (hb:uH (iU P N ops G hs i f)=bs) (h:Rd P N ops w n (i + hs.length) f1 K):Rd P N ops w (hs.length + n) i f K:=by
 cases e:iU P N ops G hs i f with
 | none=>rw [e] at hr; cases hr
 | some r =>
  obtain ⟨f',oa,ob⟩:=r
  rw [e] at hr ha hb
  simp only [lL,Option.some.injEq] at hr
  simp only [ig] at ha
  simp only [uH] at hb
  subst hb;refine Rd.append (Il hG e ?_ hB ?_)
  ·simpa using ha
  ·rw [hr]; exact h
theorem FB {P:Program} {N:Nat} {ops:Array Oper} {w:World} {K:(Nat→Value)→Prop} {n:Nat} {f:Nat→Value} (i:Nat) (G:List Grp) (hs:List Hint) (us:List (Nat×Value)) (bs:List (Int×Nat))
  (hG:pV w G) (hB:uW bs) (hr:lL (iU P N ops G hs i f)=some (bq f us)) (ha:ig (iU P N ops G hs i f) true=ig (iU P N ops G hs i f) false)
  (hb:uH (iU P N ops G hs i f)=bs) (h:Rd P N ops w n (i + hs.length) (bq f us) K):Rd P N ops w (hs.length + n) i f K:=Dh i G hs _ bs hG hB hr ha hb h
theorem fG {E:Env} {ops:Array Oper} {k:List Item} {w:World} {f:Nat→Value} (i:Nat) (G:List Grp) (hs:List Hint) (us:List (Nat×Value)) (bs:List (Int×Nat))
  (hG:pV w G) (hB:uW bs) (hr:lL (iU E.P E.N ops G hs i f)=some (bq f us)) (ha:ig (iU E.P E.N ops G hs i f) true=ig (iU E.P E.N ops G hs i f) false)
  (hb:uH (iU E.P E.N ops G hs i f)=bs) (h:GoO E ops (i + hs.length) k (bq f us) w):GoO E ops i k f w:=by
 refine Rd.go (n:=hs.length + 0) (FB i G hs us bs hG hB hr ha hb ?_)
 simpa [Rd] using h
theorem Mm (f:Nat→Value):∀ (us:List (Nat×Value)),us.map (fun p=>f p.1)=us.map (·.2)→bq f us=f
 | [],_=>rfl
 | (d,v)::r,h=>by
  simp only [List.map_cons,List.cons.injEq] at h
  obtain ⟨h1,h2⟩:=h
  show bq (upd f d v) r=f
  rw [← h1,JV]
  exact Mm f r h2
end Go.Proofs.YtfpeabnehpclnaaGreatDoorE
namespace Go.Proofs.YtfpeabnehpclnaaGreatDoorE
open Go
set_option linter.unusedVariables false
set_option linter.unusedSimpArgs false
abbrev BM:=Nat→Option Obj
def hp (w:World):BM:=fun b=>w.heap[b]?
def cellOf (H:BM) (b o:Nat):Option Value:=match H b with | some (.cells c _ _)=>c[o]? | _=>none
theorem rV (w:World) (b o:Nat):w.cell? ⟨b,o,none⟩=cellOf (hp w) b o:=by
 unfold World.cell? cellOf hp
 split <;> simp_all
def Sub (H H':BM):Prop:=∀ b o,H b=some o→H' b=some o
theorem Sub.refl (H:BM):Sub H H:=fun _ _ h=>h
theorem Sub.cell {H H':BM} (h:Sub H H') {b o:Nat} {v:Value} (hc:cellOf H b o=some v):cellOf H' b o=some v:=by
 unfold cellOf at hc ⊢;cases e:H b with
 | none=>rw [e] at hc; cases hc
 | some ob=>rw [h b ob e]; rw [e] at hc; exact hc
structure Ty (α:Type) where
 sz:Nat
 own:BM→(Nat→Prop)→α→List Value→Prop
 rd:BM→α→List Value→Prop
 own_mono:∀ {H F F' x cs},own H F x cs→(∀ b,F b→F' b)→own H F' x cs
 own_congr:∀ {H H':BM} {F:Nat→Prop} {x cs},own H F x cs→(∀ b,F b→H' b=H b)→own H' F x cs
 own_rd:∀ {H F x cs},own H F x cs→rd H x cs
 rd_mono:∀ {H H' x cs},rd H x cs→Sub H H'→rd H' x cs
 rd_len:∀ {H x cs},rd H x cs→cs.length=sz
 rd_one:∀ {H x cs},rd H x cs→∀ v ∈ cs,v.oneCell'=true
def Ty.flat {α:Type} (sz:Nat) (enc:α→List Value) (h1:∀ x,(enc x).length=sz) (h2:∀ x,∀ v ∈ enc x,v.oneCell'=true):Ty α where
 sz:=sz
 own:=fun _ _ x cs=>cs=enc x
 rd:=fun _ x cs=>cs=enc x
 own_mono:=fun h _=>h
 own_congr:=fun h _=>h
 own_rd:=fun h=>h
 rd_mono:=fun h _=>h
 rd_len:=fun h=>h ▸ h1 _
 rd_one:=fun h=>h ▸ h2 _
class Flat {α:Type} (k:Ty α) (enc:outParam (α→List Value)):Prop where
 own_iff:∀ {H F x cs},k.own H F x cs↔cs=enc x
 rd_iff:∀ {H x cs},k.rd H x cs↔cs=enc x
instance {α:Type} (sz:Nat) (enc:α→List Value) (h1:∀ x,(enc x).length=sz) (h2:∀ x,∀ v ∈ enc x,v.oneCell'=true):Flat (Ty.flat sz enc h1 h2) enc :=
 ⟨Iff.rfl,Iff.rfl⟩
theorem oneOf {v:Value} (h:v.oneCell'=true):∀ u ∈ [v],u.oneCell'=true:=by
 intro u hu
 rw [List.mem_singleton.1 hu]
 exact h
abbrev aF (k:IntKind):Ty Int:=Ty.flat 1 (fun x=>[.int k x]) (fun _=>rfl) (fun _=>oneOf rfl)
abbrev rW:Ty Bool:=Ty.flat 1 (fun x=>[.bool x]) (fun _=>rfl) (fun _=>oneOf rfl)
abbrev gP:Ty ByteArray:=Ty.flat 1 (fun x=>[.string x]) (fun _=>rfl) (fun _=>oneOf rfl)
def rdS {α:Type} (k:Ty α) (H:BM) (A:Option Addr) (xs:List α):Prop :=
 xs=[]∨∃ b o,A=some ⟨b,o,none⟩∧∀ j x,xs[j]? = some x→∃ cs,k.rd H x cs∧∀ i u,cs[i]? = some u→cellOf H b (o + j * k.sz + i)=some u
theorem rdS.mono {α:Type} {k:Ty α} {H H':BM} {A:Option Addr} {xs:List α} (h:rdS k H A xs) (hs:Sub H H'):rdS k H' A xs:=by
 rcases h with h | ⟨b,o,rfl,h⟩
 ·exact .inl h
 ·refine .inr ⟨b,o,rfl,fun j x hj => ?_⟩;obtain ⟨cs,h1,h2⟩:=h j x hj;exact ⟨cs,k.rd_mono h1 hs,fun i u hu=>hs.cell (h2 i u hu)⟩
def idx {α:Type} [Inhabited α] (xs:List α) (j:Int):α:=xs.getD j.toNat default
def dR (M:BM) (g:Grp):Prop:=∀ j u,g.2.2[j]? = some u→cellOf M g.1 (g.2.1 + j)=some u
theorem Grp.lies {w:World} {g:Grp} (hg:Grp.ok w g):dR (hp w) g:=fun j u hu=>by rw [← rV]; exact hg j u hu
theorem dR.ok {w:World} {g:Grp} (hg:dR (hp w) g):Grp.ok w g:=fun j u hu=>by rw [rV]; exact hg j u hu
theorem dR.mono {H H':BM} {g:Grp} (hg:dR H g) (hs:Sub H H'):dR H' g:=fun j u hu=>hs.cell (hg j u hu)
theorem rdS.open {α:Type} [Inhabited α] {k:Ty α} {H:BM} {A:Option Addr} {xs:List α} (h:rdS k H A xs) {n:Nat} (hn:xs.length=n) {j:Int} (hj:0≤j∧j < n) :
  ∃ b o,A=some ⟨b,o,none⟩∧∃ cs,k.rd H (idx xs j) cs∧dR H (b,o + j.toNat * k.sz,cs):=by
 subst hn;rcases h with rfl | ⟨b,o,rfl,h⟩
 ·simp at hj; omega
 ·have hl:j.toNat < xs.length:=by omega
  obtain ⟨cs,hr,hc⟩:=h j.toNat xs[j.toNat] (List.getElem?_eq_getElem hl);refine ⟨b,o,rfl,cs,?_,hc⟩
  rw [idx,List.getD_eq_getElem?_getD,List.getElem?_eq_getElem hl]; exact hr
theorem rdS.fopen {α:Type} [Inhabited α] {k:Ty α} {enc:α→List Value} [Flat k enc] {H:BM} {A:Option Addr} {xs:List α} (h:rdS k H A xs) {n:Nat} (hn:xs.length=n) {j:Int} (hj:0≤j∧j < n) :
  ∃ b o,A=some ⟨b,o,none⟩∧dR H (b,o + j.toNat * k.sz,enc (idx xs j)):=by
 obtain ⟨b,o,rfl,cs,hr,hg⟩:=h.open hn hj
 rw [Flat.rd_iff.1 hr] at hg
 exact ⟨b,o,rfl,hg⟩
theorem rdS.look {α:Type} [Inhabited α] {k:Ty α} {H:BM} {b o:Nat} {xs:List α} (h:rdS k H (some ⟨b,o,none⟩) xs) {n:Nat} (hn:xs.length=n) {j:Int} (hj:0≤j∧j < n) :
  ∃ cs,k.rd H (idx xs j) cs∧dR H (b,o + j.toNat * k.sz,cs):=by
 obtain ⟨b',o',e,cs,hr,hg⟩:=h.open hn hj;cases e;exact ⟨cs,hr,hg⟩
theorem rdS.flook {α:Type} [Inhabited α] {k:Ty α} {enc:α→List Value} [Flat k enc] {H:BM} {b o:Nat} {xs:List α} (h:rdS k H (some ⟨b,o,none⟩) xs) {n:Nat} (hn:xs.length=n) {j:Int} (hj:0≤j∧j < n) :
  dR H (b,o + j.toNat * k.sz,enc (idx xs j)):=by
 obtain ⟨cs,hr,hg⟩:=h.look hn hj
 rw [Flat.rd_iff.1 hr] at hg
 exact hg
def bX {α:Type} (k:Ty α) (H:BM):(Nat→Prop)→List α→List Value→Prop
 | _,[],cs=>cs=[]
 | F,x::xs,cs=>∃ c1 c2 F1 F2,cs=c1++c2∧(∀ b,F1 b→F b)∧(∀ b,F2 b→F b)∧(∀ b,F1 b → ¬ F2 b)∧k.own H F1 x c1∧bX k H F2 xs c2
theorem bX.mono {α:Type} {k:Ty α} {H:BM}:∀ {xs:List α} {F F':Nat→Prop} {cs:List Value},bX k H F xs cs→(∀ b,F b→F' b)→bX k H F' xs cs
 | [],_,_,_,h,_=>h
 | _::_,_,_,_,⟨c1,c2,F1,F2,e,h1,h2,h3,h4,h5⟩,hF=>⟨c1,c2,F1,F2,e,fun b h=>hF b (h1 b h),fun b h=>hF b (h2 b h),h3,h4,h5⟩
theorem bX.congr {α:Type} {k:Ty α} {H H':BM}:∀ {xs:List α} {F:Nat→Prop} {cs:List Value},bX k H F xs cs→(∀ b,F b→H' b=H b)→bX k H' F xs cs
 | [],_,_,h,_=>h
 | _::_,_,_,⟨c1,c2,F1,F2,e,h1,h2,h3,h4,h5⟩,hF=>⟨c1,c2,F1,F2,e,h1,h2,h3,k.own_congr h4 (fun b h=>hF b (h1 b h)),h5.congr (fun b h=>hF b (h2 b h))⟩
theorem bX.one {α:Type} {k:Ty α} {H:BM}:∀ {xs:List α} {F:Nat→Prop} {cs:List Value},bX k H F xs cs→∀ v ∈ cs,v.oneCell'=true
 | [],_,_,h,v,hv=>by rw [show _=[] from h] at hv; cases hv
 | _::xs,_,_,⟨c1,c2,F1,F2,e,h1,h2,h3,h4,h5⟩,v,hv=>by
  rw [e] at hv
  rcases List.mem_append.1 hv with hv | hv
  ·exact k.rd_one (k.own_rd h4) v hv
  ·exact h5.one v hv
theorem bX.get {α:Type} {k:Ty α} {H:BM}:∀ {xs:List α} {F:Nat→Prop} {cs:List Value},bX k H F xs cs→∀ j x,xs[j]? = some x→∃ c,k.rd H x c∧∀ i u,c[i]? = some u→cs[j * k.sz + i]? = some u
 | [],_,_,_,j,x,hj=>by simp at hj
 | x0::xs,_,_,⟨c1,c2,F1,F2,e,h1,h2,h3,h4,h5⟩,j,x,hj=>by
  have hl:=k.rd_len (k.own_rd h4);cases j with
  | zero =>
   simp only [List.getElem?_cons_zero,Option.some.injEq] at hj
   subst hj;refine ⟨c1,k.own_rd h4,fun i u hu => ?_⟩
   rw [e,Nat.zero_mul,Nat.zero_add,List.getElem?_append_left (List.getElem?_eq_some_iff.1 hu).1]
   exact hu
  | succ j =>
   obtain ⟨c,hc,hget⟩:=h5.get j x (by simpa using hj);refine ⟨c,hc,fun i u hu => ?_⟩
   rw [e,show (j + 1) * k.sz + i=c1.length + (j * k.sz + i) by rw [hl,Nat.add_mul]; omega,List.getElem?_append_right (by omega),Nat.add_sub_cancel_left]
   exact hget i u hu
theorem bX.snoc {α:Type} {k:Ty α} {H:BM} {x:α} {c:List Value} {G:Nat→Prop} (hx:k.own H G x c):∀ {xs:List α} {F:Nat→Prop} {cs:List Value},bX k H F xs cs→(∀ b,F b → ¬ G b) →
  bX k H (fun b=>F b∨G b) (xs++[x]) (cs++c)
 | [],F,cs,h,_=>by
  rw [show cs=[] from h]
  exact ⟨c,[],G,fun _=>False,by simp,fun _ h => .inr h,fun _ h=>h.elim,fun _ _ h=>h,hx,rfl⟩
 | x0::xs,F,cs,⟨c1,c2,F1,F2,e,h1,h2,h3,h4,h5⟩,hd=>by
  refine ⟨c1,c2++c,F1,fun b=>F2 b∨G b,by rw [e,List.append_assoc],fun b h => .inl (h1 b h),fun b h=>h.imp (h2 b) id,?_,h4,bX.snoc hx h5 (fun b h=>hd b (h2 b h))⟩
  rintro b hb (h | h)
  ·exact h3 b hb h
  ·exact hd b (h1 b hb) h
theorem bX.flat {α:Type} {k:Ty α} {enc:α→List Value} [Flat k enc] {H:BM}:∀ {xs:List α} {F:Nat→Prop} {cs:List Value},bX k H F xs cs↔cs=xs.flatMap enc
 | [],_,_=>by simp [bX]
 | x::xs,F,cs=>by
  constructor
  ·rintro ⟨c1,c2,F1,F2,rfl,h1,h2,h3,h4,h5⟩
   rw [Flat.own_iff.1 h4,bX.flat.1 h5,List.flatMap_cons]
  ·rintro rfl;exact ⟨enc x,xs.flatMap enc,fun _=>False,fun _=>False,by rw [List.flatMap_cons],fun _ h=>h.elim,fun _ h=>h.elim,fun _ h=>h.elim,Flat.own_iff.2 rfl,bX.flat.2 rfl⟩
def eG {α:Type} (k:Ty α) (e:TypeId) (H:BM) (F:Nat→Prop) (A:Option Addr) (c:Nat) (xs:List α):Prop :=
 (A=none∧c=0∧xs=[]) ∨
 ∃ b arr,A=some ⟨b,0,none⟩∧F b∧H b=some (.cells arr e (0,0))∧xs.length≤c∧c≤maxLen∧arr.size=c * k.sz ∧
  bX k H (fun b'=>F b'∧b'≠b) xs (arr.toList.take (xs.length * k.sz))
section
variable {α:Type} {k:Ty α} {e:TypeId} {H H':BM} {F F':Nat→Prop} {A:Option Addr} {c:Nat} {xs:List α}
theorem eG.mono (h:eG k e H F A c xs) (hF:∀ b,F b→F' b):eG k e H F' A c xs:=by
 rcases h with h | ⟨b,arr,rfl,h1,h2,h3,h4,h5,h6⟩
 ·exact .inl h
 ·exact .inr ⟨b,arr,rfl,hF b h1,h2,h3,h4,h5,h6.mono (fun b' h=>⟨hF b' h.1,h.2⟩)⟩
theorem eG.congr (h:eG k e H F A c xs) (hF:∀ b,F b→H' b=H b):eG k e H' F A c xs:=by
 rcases h with h | ⟨b,arr,rfl,h1,h2,h3,h4,h5,h6⟩
 ·exact .inl h
 ·exact .inr ⟨b,arr,rfl,h1,(hF b h1).trans h2,h3,h4,h5,h6.congr (fun b' h=>hF b' h.1)⟩
theorem eG.nil:eG k e H F none 0 ([]:List α) := .inl ⟨rfl,rfl,rfl⟩
theorem eG.rd (h:eG k e H F A c xs):rdS k H A xs:=by
 rcases h with ⟨_,_,h⟩ | ⟨b,arr,rfl,h1,h2,h3,h4,h5,h6⟩
 ·exact .inl h
 ·refine .inr ⟨b,0,rfl,fun j x hj => ?_⟩;obtain ⟨cs,hr,hg⟩:=h6.get j x hj;refine ⟨cs,hr,fun i u hu => ?_⟩;have:=hg i u hu
  rw [List.getElem?_take] at this
  split at this
  ·unfold cellOf
   rw [h2,Nat.zero_add]
   simpa using this
  ·cases this
theorem eG.le (h:eG k e H F A c xs):xs.length≤c:=by
 rcases h with ⟨_,_,rfl⟩ | ⟨b,arr,rfl,h1,h2,h3,h4,h5,h6⟩
 ·simp
 ·exact h3
end
def cB {α:Type} (e:TypeId) (k:Ty α):Ty (List α) where
 sz:=1
 own:=fun H F xs cs=>∃ A c,cs=[.slice A xs.length c]∧eG k e H F A c xs
 rd:=fun H xs cs=>∃ A c,cs=[.slice A xs.length c]∧xs.length≤c∧rdS k H A xs
 own_mono:=fun ⟨A,c,e,h⟩ hF=>⟨A,c,e,h.mono hF⟩
 own_congr:=fun ⟨A,c,e,h⟩ hF=>⟨A,c,e,h.congr hF⟩
 own_rd:=fun ⟨A,c,e,h⟩=>⟨A,c,e,h.le,h.rd⟩
 rd_mono:=fun ⟨A,c,e,hl,h⟩ hs=>⟨A,c,e,hl,h.mono hs⟩
 rd_len:=fun ⟨_,_,e,_⟩=>by rw [e]; rfl
 rd_one:=fun ⟨_,_,e,_⟩=>by rw [e]; exact oneOf rfl
def Mh {α:Type} (M:BM) (k:Ty α):Ty (List α) where
 sz:=1
 own:=fun _ _ xs cs=>∃ A c,cs=[.slice A xs.length c]∧xs.length≤c∧rdS k M A xs
 rd:=fun H xs cs=>∃ A c,cs=[.slice A xs.length c]∧xs.length≤c∧rdS k M A xs
 own_mono:=fun h _=>h
 own_congr:=fun h _=>h
 own_rd:=fun h=>h
 rd_mono:=fun h _=>h
 rd_len:=fun ⟨_,_,e,_⟩=>by rw [e]; rfl
 rd_one:=fun ⟨_,_,e,_⟩=>by rw [e]; exact oneOf rfl
def cu {α β:Type} (a:Ty α) (b:Ty β):Ty (α×β) where
 sz:=a.sz + b.sz
 own:=fun H F x cs=>∃ c1 c2 F1 F2,cs=c1++c2∧(∀ b,F1 b→F b)∧(∀ b,F2 b→F b)∧(∀ b,F1 b → ¬ F2 b)∧a.own H F1 x.1 c1∧b.own H F2 x.2 c2
 rd:=fun H x cs=>∃ c1 c2,cs=c1++c2∧a.rd H x.1 c1∧b.rd H x.2 c2
 own_mono:=by
  rintro H F F' x cs ⟨c1,c2,F1,F2,e,h1,h2,h3,h4,h5⟩ hF;exact ⟨c1,c2,F1,F2,e,fun b h=>hF b (h1 b h),fun b h=>hF b (h2 b h),h3,h4,h5⟩
 own_congr:=by
  rintro H H' F x cs ⟨c1,c2,F1,F2,e,h1,h2,h3,h4,h5⟩ hF;exact ⟨c1,c2,F1,F2,e,h1,h2,h3,a.own_congr h4 (fun b h=>hF b (h1 b h)),b.own_congr h5 (fun b h=>hF b (h2 b h))⟩
 own_rd:=by
  rintro H F x cs ⟨c1,c2,F1,F2,e,h1,h2,h3,h4,h5⟩;exact ⟨c1,c2,e,a.own_rd h4,b.own_rd h5⟩
 rd_mono:=by
  rintro H H' x cs ⟨c1,c2,e,h4,h5⟩ hs;exact ⟨c1,c2,e,a.rd_mono h4 hs,b.rd_mono h5 hs⟩
 rd_len:=by
  rintro H x cs ⟨c1,c2,e,h4,h5⟩
  rw [e,List.length_append,a.rd_len h4,b.rd_len h5]
 rd_one:=by
  rintro H x cs ⟨c1,c2,e,h4,h5⟩ v hv
  rw [e] at hv
  rcases List.mem_append.1 hv with hv | hv
  ·exact a.rd_one h4 v hv
  ·exact b.rd_one h5 v hv
def Ty.iso {α β:Type} (k:Ty α) (g:β→α):Ty β where
 sz:=k.sz
 own:=fun H F x cs=>k.own H F (g x) cs
 rd:=fun H x cs=>k.rd H (g x) cs
 own_mono:=k.own_mono
 own_congr:=k.own_congr
 own_rd:=k.own_rd
 rd_mono:=k.rd_mono
 rd_len:=k.rd_len
 rd_one:=k.rd_one
structure IR (κ:Type) where
 enc:κ→Value
inductive bV:Type 1 where
 | blk (b:Nat) (t:TypeId) (cs:List Value)
 | row {α:Type} (k:Ty α) (e:TypeId) (A:Option Addr) (n c:Nat) (xs:List α)
 | map {κ ν:Type} (key:κ→Value) (k:Ty ν) (b:Nat) (m:List (κ×ν))
 | any (p:BM→(Nat→Prop)→Prop) (mono:∀ {H F F'},p H F→(∀ b,F b→F' b)→p H F') (congr:∀ {H H':BM} {F:Nat→Prop},p H F→(∀ b,F b→H' b=H b)→p H' F)
def bV.Own:bV→BM→(Nat→Prop)→Prop
 | .blk b t cs,H,F=>F b∧H b=some (.cells cs.toArray t (0,0))
 | .row k e A n c xs,H,F=>eG k e H F A c xs∧xs.length=n
 | .map key k b m,H,F=>F b∧∃ es clock vs,H b=some (.map es clock)∧es.toList.map (·.key)=m.map (fun p=>key p.1)∧es.toList.map (·.val)=vs∧k.sz=1∧bX k H (fun b'=>F b'∧b'≠b) (m.map (·.2)) vs
 | .any p _ _,H,F=>p H F
theorem bV.Own.mono {a:bV} {H:BM} {F F':Nat→Prop} (h:a.Own H F) (hF:∀ b,F b→F' b):a.Own H F':=by
 cases a with
 | blk b t cs=>exact ⟨hF b h.1,h.2⟩
 | row k e A n c xs=>exact ⟨eG.mono h.1 hF,h.2⟩
 | map key k b m=>obtain ⟨h1,es,clock,vs,h2,h3,h4,h5,h6⟩:=h; exact ⟨hF b h1,es,clock,vs,h2,h3,h4,h5,h6.mono (fun b' h=>⟨hF b' h.1,h.2⟩)⟩
 | any p mono congr=>exact mono h hF
theorem bV.Own.congr {a:bV} {H H':BM} {F:Nat→Prop} (h:a.Own H F) (hF:∀ b,F b→H' b=H b):a.Own H' F:=by
 cases a with
 | blk b t cs=>exact ⟨h.1,(hF b h.1).trans h.2⟩
 | row k e A n c xs=>exact ⟨eG.congr h.1 hF,h.2⟩
 | map key k b m=>obtain ⟨h1,es,clock,vs,h2,h3,h4,h5,h6⟩:=h; exact ⟨h1,es,clock,vs,(hF b h1).trans h2,h3,h4,h5,h6.congr (fun b' h=>hF b' h.1)⟩
 | any p mono congr=>exact congr h hF
def sep:List bV→BM→(Nat→Prop)→Prop
 | [],_,_=>True
 | a::l,H,F=>∃ F1 F2,(∀ b,F1 b→F b)∧(∀ b,F2 b→F b)∧(∀ b,F1 b → ¬ F2 b)∧a.Own H F1∧sep l H F2
theorem sep.mono:∀ {l:List bV} {H:BM} {F F':Nat→Prop},sep l H F→(∀ b,F b→F' b)→sep l H F'
 | [],_,_,_,_,_=>trivial
 | _::_,_,_,_,⟨F1,F2,h1,h2,h3,h4,h5⟩,hF=>⟨F1,F2,fun b h=>hF b (h1 b h),fun b h=>hF b (h2 b h),h3,h4,h5⟩
theorem sep.congr:∀ {l:List bV} {H H':BM} {F:Nat→Prop},sep l H F→(∀ b,F b→H' b=H b)→sep l H' F
 | [],_,_,_,_,_=>trivial
 | _::_,_,_,_,⟨F1,F2,h1,h2,h3,h4,h5⟩,hF=>⟨F1,F2,h1,h2,h3,h4.congr (fun b h=>hF b (h1 b h)),h5.congr (fun b h=>hF b (h2 b h))⟩
theorem sep.append:∀ {l m:List bV} {H:BM} {F G:Nat→Prop},sep l H F→sep m H G→(∀ b,F b → ¬ G b)→sep (l++m) H (fun b=>F b∨G b)
 | [],m,H,F,G,_,hm,_=>hm.mono (fun _ h => .inr h)
 | a::l,m,H,F,G,⟨F1,F2,h1,h2,h3,h4,h5⟩,hm,hd=>by
  refine ⟨F1,fun b=>F2 b∨G b,fun b h => .inl (h1 b h),fun b h=>h.imp (h2 b) id,?_,h4,h5.append hm (fun b h=>hd b (h2 b h))⟩;rintro b hb (h | h)
  ·exact h3 b hb h
  ·exact hd b (h1 b hb) h
theorem sep.focus:∀ {l:List bV} {H:BM} {F:Nat→Prop} {i:Nat} {a:bV},sep l H F→l[i]? = some a →
  ∃ F1,(∀ b,F1 b→F b)∧a.Own H F1∧∀ (H':BM) (F1':Nat→Prop) (a':bV),a'.Own H' F1'→(∀ b,F b → ¬ F1 b→H' b=H b)→(∀ b,F1' b→F1 b ∨ ¬ F b)→sep (l.set i a') H' (fun b=>F b∨F1' b)
 | [],_,_,_,_,_,hi=>by simp at hi
 | a::l,H,F,0,a0,⟨F1,F2,h1,h2,h3,h4,h5⟩,hi=>by
  simp only [List.getElem?_cons_zero,Option.some.injEq] at hi
  subst hi;refine ⟨F1,h1,h4,fun H' F1' a' ha hH hF=>⟨F1',F2,fun b h => .inr h,fun b h => .inl (h2 b h),?_,ha,h5.congr (fun b h=>hH b (h2 b h) (fun h'=>h3 b h' h))⟩⟩;intro b hb h;rcases hF b hb with h' | h'
  ·exact h3 b h' h
  ·exact h' (h2 b h)
 | a::l,H,F,i + 1,a0,⟨F1,F2,h1,h2,h3,h4,h5⟩,hi=>by
  obtain ⟨G,hG,hown,hturn⟩:=h5.focus (i:=i) (by simpa using hi);refine ⟨G,fun b h=>h2 b (hG b h),hown,fun H' F1' a' ha hH hF => ?_⟩;have hs:=hturn H' F1' a' ha (fun b hb hn=>hH b (h2 b hb) hn) (fun b hb=>(hF b hb).imp id (fun h h'=>h (h2 b h')));refine ⟨F1,fun b=>F2 b∨F1' b,fun b h => .inl (h1 b h),fun b h=>h.imp (h2 b) id,?_,h4.congr (fun b h=>hH b (h1 b h) (fun h'=>h3 b h (hG b h'))),hs⟩;rintro b hb (h | h)
  ·exact h3 b hb h
  ·rcases hF b h with h' | h'
   ·exact h3 b hb (hG b h')
   ·exact h' (h1 b hb)
structure Mem where
 blk:BM
 n:Nat
 os:Os
 tape:Nat→Question→Nat
 output:Array (Nat×ByteArray)
def aV (w:World):Mem:=⟨hp w,w.heap.size,w.os,w.tape,w.output⟩
structure Inv (M:Mem) (w:World) (L:List bV):Prop where
 fix:Sub M.blk (hp w)
 size:M.n≤w.heap.size
 os:w.os=M.os
 tape:w.tape=M.tape
 output:w.output=M.output
 sep:sep L (hp w) (fun b=>M.blk b=none∧b < w.heap.size)
end Go.Proofs.YtfpeabnehpclnaaGreatDoorE
namespace Go.Proofs.YtfpeabnehpclnaaGreatDoorE
open Go
set_option linter.unusedVariables false
set_option linter.unusedSimpArgs false
def Sq:bV := .any (fun _ _=>True) (fun _ _=>trivial) (fun _ _=>trivial)
theorem JI {α:Type 1} {L:List α} {i:Nat} {a:α} (h:L[i]? = some a):L.set i a=L:=by
 apply List.ext_getElem?
 intro j
 rw [List.getElem?_set]
 by_cases e:i=j
 ·subst e;obtain ⟨hl,he⟩:=List.getElem?_eq_some_iff.1 h
  simp [hl,he]
 ·simp [e]
theorem sep.take:∀ {L:List bV} {H:BM} {F:Nat→Prop} {i:Nat} {a:bV},sep L H F→L[i]? = some a →
  ∃ F1 F2,(∀ b,F1 b→F b)∧(∀ b,F2 b→F b)∧(∀ b,F1 b → ¬ F2 b)∧a.Own H F1∧sep (L.set i Sq) H F2
 | [],_,_,_,_,_,hi=>by simp at hi
 | a::l,H,F,0,a0,⟨F1,F2,h1,h2,h3,h4,h5⟩,hi=>by
  simp only [List.getElem?_cons_zero,Option.some.injEq] at hi
  subst hi;exact ⟨F1,F2,h1,h2,h3,h4,fun _=>False,F2,fun _ h=>h.elim,fun _ h=>h,fun _ h=>h.elim,trivial,h5⟩
 | a::l,H,F,i + 1,a0,⟨F1,F2,h1,h2,h3,h4,h5⟩,hi=>by
  obtain ⟨G1,G2,g1,g2,g3,g4,g5⟩:=h5.take (i:=i) (by simpa using hi);refine ⟨G1,fun b=>F1 b∨G2 b,fun b h=>h2 b (g1 b h),fun b h=>h.elim (h1 b) (fun h=>h2 b (g2 b h)),?_,g4,F1,G2,fun _ h => .inl h,fun _ h => .inr h,fun b h h'=>h3 b h (g2 b h'),h4,g5⟩;rintro b hb (h | h)
  ·exact h3 b h (g1 b hb)
  ·exact g3 b hb h
theorem sep.pick:∀ {js:List Nat} {L L':List bV} {H:BM} {F:Nat→Prop},sep L H F→js.Nodup→js.map (L[·]?)=L'.map some→sep L' H F
 | [],L,L',H,F,h,_,hL=>by
  have:L'=[]:=by simpa using hL.symm
  subst this
  trivial
 | j::js,L,[],H,F,h,_,hL=>by simp at hL
 | j::js,L,a::L',H,F,h,hn,hL=>by
  simp only [List.map_cons,List.cons.injEq] at hL
  obtain ⟨F1,F2,h1,h2,h3,h4,h5⟩:=h.take hL.1;obtain ⟨hj,hn'⟩:=List.nodup_cons.1 hn;refine ⟨F1,F2,h1,h2,h3,h4,sep.pick h5 hn' ?_⟩
  rw [← hL.2]
  refine List.map_congr_left fun i hi => ?_
  rw [List.getElem?_set_ne]
  rintro rfl;exact hj hi
theorem sep.split:∀ {l m:List bV} {H:BM} {F:Nat→Prop},sep (l++m) H F→∃ F1 F2,(∀ b,F1 b→F b)∧(∀ b,F2 b→F b)∧(∀ b,F1 b → ¬ F2 b)∧sep l H F1∧sep m H F2
 | [],m,H,F,h=>⟨fun _=>False,F,fun _ h=>h.elim,fun _ h=>h,fun _ h=>h.elim,trivial,h⟩
 | a::l,m,H,F,⟨F1,F2,h1,h2,h3,h4,h5⟩=>by
  obtain ⟨G1,G2,g1,g2,g3,g4,g5⟩:=h5.split;refine ⟨fun b=>F1 b∨G1 b,G2,fun b h=>h.elim (h1 b) (fun h=>h2 b (g1 b h)),fun b h=>h2 b (g2 b h),?_,⟨F1,G1,fun _ h => .inl h,fun _ h => .inr h,fun b h h'=>h3 b h (g1 b h'),h4,g4⟩,g5⟩;rintro b (h | h) h'
  ·exact h3 b h (g2 b h')
  ·exact g3 b h h'
section
variable {M:Mem} {w w':World} {L L':List bV}
theorem Inv.start (w:World):Inv (aV w) w []:=⟨Sub.refl _,Nat.le_refl _,rfl,rfl,rfl,trivial⟩
theorem Inv.lt (h:Inv M w L) {b:Nat} {o:Obj} (hb:M.blk b=some o):b < w.heap.size:=(Array.getElem?_eq_some_iff.1 (h.fix b o hb)).1
theorem Inv.drew (h:Inv M w L) (hw:w'.heap=w.heap) (ho:w'.os=w.os) (ht:w'.tape=w.tape) (hu:w'.output=w.output):Inv M w' L:=by
 have:hp w'=hp w:=by unfold hp; rw [hw]
 refine ⟨by rw [this]; exact h.fix,by rw [hw]; exact h.size,ho.trans h.os,ht.trans h.tape,hu.trans h.output,?_⟩
 rw [this,hw]
 exact h.sep
theorem Inv.pick (h:Inv M w L) (js:List Nat) (hn:js.Nodup) (hL:js.map (L[·]?)=L'.map some):Inv M w L' :=
 ⟨h.fix,h.size,h.os,h.tape,h.output,h.sep.pick hn hL⟩
theorem Inv.grow (h:Inv M w L) {l:List bV} (hs:w.heap.size≤w'.heap.size) (hb:∀ b,b < w.heap.size→w'.heap[b]? = w.heap[b]?) (ho:w'.os=w.os) (ht:w'.tape=w.tape) (hu:w'.output=w.output)
  (hl:Go.Proofs.YtfpeabnehpclnaaGreatDoorE.sep l (hp w') (fun b=>w.heap.size≤b∧b < w'.heap.size)):Inv M w' (L++l):=by
 refine ⟨fun b o hbo=>(hb b (h.lt hbo)).trans (h.fix b o hbo),Nat.le_trans h.size hs,ho.trans h.os,ht.trans h.tape,hu.trans h.output,?_⟩;have h1:=(h.sep.congr (H':=hp w') (fun b hF=>hb b hF.2)).append hl (fun b hF hG=>by omega);refine h1.mono fun b hb' => ?_;rcases hb' with hb' | hb'
 ·exact ⟨hb'.1,by omega⟩
 ·refine ⟨?_,hb'.2⟩;cases e:M.blk b with
  | none=>rfl
  | some o=>have:=h.lt e; omega
theorem Inv.turn (h:Inv M w L) {i:Nat} {a a':bV} (hi:L[i]? = some a) (hs:w.heap.size≤w'.heap.size) (ho:w'.os=w.os) (ht:w'.tape=w.tape) (hu:w'.output=w.output)
  (step:∀ F1,(∀ b,F1 b→b < w.heap.size)→a.Own (hp w) F1→∃ F1',a'.Own (hp w') F1'∧(∀ b,b < w.heap.size → ¬ F1 b→w'.heap[b]? = w.heap[b]?)∧∀ b,F1' b→F1 b∨(w.heap.size≤b∧b < w'.heap.size)) :
  Inv M w' (L.set i a'):=by
 obtain ⟨F1,a1,hown,hturn⟩:=h.sep.focus hi;obtain ⟨F1',hown',hkeep,hF'⟩:=step F1 (fun b hb=>(a1 b hb).2) hown;have hs':=hturn (hp w') F1' a' hown' (fun b hb hn=>hkeep b hb.2 hn) (fun b hb=>(hF' b hb).imp id (fun h' h''=>by have:=h''.2; omega));refine ⟨fun b o hbo => ?_,Nat.le_trans h.size hs,ho.trans h.os,ht.trans h.tape,hu.trans h.output,hs'.mono fun b hb => ?_⟩
 ·refine (hkeep b (h.lt hbo) (fun hb => ?_)).trans (h.fix b o hbo);have:=(a1 b hb).1
  rw [hbo] at this
  cases this
 ·rcases hb with hb | hb
  ·exact ⟨hb.1,by have:=hb.2; omega⟩
  ·rcases hF' b hb with hb' | hb'
   ·have:=a1 b hb';exact ⟨this.1,by have:=this.2; omega⟩
   ·refine ⟨?_,hb'.2⟩;cases e:M.blk b with
    | none=>rfl
    | some o=>have:=h.lt e; omega
theorem Inv.look (h:Inv M w L) {i:Nat} {a:bV} (hi:L[i]? = some a):∃ F1,(∀ b,F1 b→b < w.heap.size∧M.blk b=none)∧a.Own (hp w) F1:=by
 obtain ⟨F1,a1,hown,_⟩:=h.sep.focus hi;exact ⟨F1,fun b hb=>⟨(a1 b hb).2,(a1 b hb).1⟩,hown⟩
theorem Inv.grp (h:Inv M w L) (i:Nat) {b:Nat} {t:TypeId} {cs:List Value} (hi:L[i]? = some (.blk b t cs)):Grp.ok w (b,0,cs):=by
 obtain ⟨F1,_,hown⟩:=h.look hi;intro j u hu
 rw [rV]
 unfold cellOf
 rw [show hp w b=_ from hown.2]
 simpa using hu
theorem blkOwn.lies {H:BM} {F:Nat→Prop} {b:Nat} {t:TypeId} {cs:List Value} (h:(bV.blk b t cs).Own H F):dR H (b,0,cs):=by
 intro j u hu;unfold cellOf
 rw [show H b=_ from h.2]
 simpa using hu
theorem Inv.row (h:Inv M w L) (i:Nat) {α:Type} {k:Ty α} {e:TypeId} {A:Option Addr} {n c:Nat} {xs:List α} (hi:L[i]? = some (.row k e A n c xs)):rdS k (hp w) A xs:=by
 obtain ⟨F1,_,hown⟩:=h.look hi;exact eG.rd hown.1
theorem Inv.rowlen (h:Inv M w L) (i:Nat) {α:Type} {k:Ty α} {e:TypeId} {A:Option Addr} {n c:Nat} {xs:List α} (hi:L[i]? = some (.row k e A n c xs)):xs.length=n:=by
 obtain ⟨F1,_,hown⟩:=h.look hi;exact hown.2
theorem Inv.rowAt (h:Inv M w L) (i:Nat) {α:Type} {k:Ty α} {e:TypeId} {A:Option Addr} {n c:Nat} {xs:List α} (hi:L[i]? = some (.row k e A n c xs)) {j:Int} (hj:0≤j∧j < n):∃ b,A=some ⟨b,0,none⟩:=by
 obtain ⟨F1,_,hown⟩:=h.look hi;rcases hown.1 with ⟨_,_,rfl⟩ | ⟨b,arr,rfl,_⟩
 ·have:=hown.2
  simp at this
  omega
 ·exact ⟨b,rfl⟩
theorem Inv.nilrow (h:Inv M w L) {α:Type} (k:Ty α) (e:TypeId):Inv M w (L++[.row k e none 0 0 ([]:List α)]):=by
 refine ⟨h.fix,h.size,h.os,h.tape,h.output,?_⟩;have:=h.sep.append (m:=[.row k e none 0 0 ([]:List α)]) (G:=fun _=>False) ⟨fun _=>False,fun _=>False,fun _ h=>h,fun _ h=>h,fun _ h=>h.elim,⟨eG.nil,rfl⟩,trivial⟩ (fun _ _ h=>h);exact this.mono (fun b h=>h.elim id (fun h=>h.elim))
theorem Inv.renum (h:Inv M w L) (i:Nat) {α:Type} {k:Ty α} {e:TypeId} {A:Option Addr} {n c:Nat} {xs:List α} (hi:L[i]? = some (.row k e A n c xs)):Inv M w (L.set i (.row k e A xs.length c xs)):=by
 have:=h.rowlen i hi;subst this
 rw [JI hi]
 exact h
theorem Inv.rd (h:Inv M w L) {α:Type} {k:Ty α} {A:Option Addr} {xs:List α} (hr:rdS k M.blk A xs):rdS k (hp w) A xs:=hr.mono h.fix
theorem Inv.lies (h:Inv M w L) {g:Grp} (hg:dR M.blk g):Grp.ok w g:=fun j u hu=>by rw [rV]; exact h.fix.cell (hg j u hu)
theorem Inv.call0 (h:Inv M w L) (h':Inv (aV w) w' L'):Inv M w' (L++L'):=by
 have hs:w.heap.size≤w'.heap.size:=h'.size;refine h.grow hs (fun b hb => ?_) h'.os h'.tape h'.output (h'.sep.mono fun b hb => ?_)
 ·cases e:w.heap[b]? with
  | none=>simp at e; omega
  | some o=>exact h'.fix b o e
 ·refine ⟨?_,hb.2⟩;rcases Nat.lt_or_ge b w.heap.size with hlt | hge
  ·have:=hb.1
   simp only [aV,hp,Array.getElem?_eq_getElem hlt] at this
   cases this
  ·exact hge
end
end Go.Proofs.YtfpeabnehpclnaaGreatDoorE
namespace Go.Proofs.YtfpeabnehpclnaaGreatDoorE
open Go
set_option linter.unusedVariables false
set_option linter.unusedSimpArgs false
theorem pg (w:World) (o:Obj):hp (w.alloc o) w.heap.size=some o:=by
 show (w.heap.push o)[w.heap.size]? = some o
 simp
theorem BR (w:World) (o:Obj) {b:Nat} (h:b < w.heap.size):(w.alloc o).heap[b]? = w.heap[b]? := by
 show (w.heap.push o)[b]? = _
 rw [Array.getElem?_push_lt h,Array.getElem?_eq_getElem h]
theorem size_alloc (w:World) (o:Obj):(w.alloc o).heap.size=w.heap.size + 1:=by
 show (w.heap.push o).size=_
 simp
section
variable {M:Mem} {w w':World} {L L':List bV}
theorem Inv.alloc (h:Inv M w L) (o:Obj) {a:bV} (ha:a.Own (hp (w.alloc o)) (fun b=>b=w.heap.size)):Inv M (w.alloc o) (L++[a]):=by
 refine h.grow (by rw [size_alloc]; omega) (fun b hb=>BR w o hb) rfl rfl rfl ?_;refine ⟨fun b=>b=w.heap.size,fun _=>False,?_,fun _ h=>h.elim,fun _ _ h=>h,ha,trivial⟩;intro b hb;subst hb;exact ⟨Nat.le_refl _,by rw [size_alloc]; omega⟩
theorem Inv.alloc_blk (h:Inv M w L) (t:TypeId) (cs:List Value):Inv M (w.alloc (.cells cs.toArray t)) (L++[.blk w.heap.size t cs]) :=
 h.alloc _ ⟨rfl,pg w _⟩
theorem zP (w:World) (b:Nat) (arr cs:Array Value) (t:TypeId) (fz:Nat×Nat) (h:w.heap[b]? = some (.cells arr t fz)):(w.setRow b cs).heap[b]? = some (.cells cs t fz):=by
 exact setRow_heap w b arr cs t fz h
theorem zQ (w:World) (b b':Nat) (cs:Array Value) (h:b'≠b):(w.setRow b cs).heap[b']? = w.heap[b']? := by
 unfold World.setRow
 rw [Array.getElem?_modify,if_neg (fun e=>h e.symm)]
theorem setRow_size (w:World) (b:Nat) (cs:Array Value):(w.setRow b cs).heap.size=w.heap.size:=by
 unfold World.setRow
 simp
def splice (cs:List Value) (j:Nat) (vs:List Value):List Value:=cs.take j++(vs++cs.drop (j + vs.length))
theorem oG {cs:List Value} {j:Nat} {vs:List Value} (h:j + vs.length≤cs.length):(splice cs j vs).length=cs.length:=by
 unfold splice
 simp
 omega
theorem BU {P:Program} {w:World} {t e:TypeId} {b o:Nat} {v:Value} {arr:Array Value} (hi:(P.info? t).map (·.size)=some v.cells.size) (hb:w.heap[b]? = some (.cells arr e (0,0)))
  (hl:o + v.cells.size≤arr.size) (h1:∀ u ∈ v.cells.toList,u.oneCell'=true) :
  (storeVar t ⟨b,o,none⟩ v).run P w = .ok () (w.setRow b (splice arr.toList o v.cells.toList).toArray):=by
 cases hi':P.info? t with
 | none=>rw [hi'] at hi; cases hi
 | some i =>
  rw [hi'] at hi
  simp only [Option.map_some,Option.some.injEq] at hi
  have hs:=run_storeCells_at P b o e v.cells.toList 0 arr w hb (by simpa using hl) h1
  simp only [Nat.add_zero,List.append_assoc] at hs
  simp only [storeVar,Sem.run_bind,run_sizeOf hi',Result.andThen,hi,ne_eq,not_true,if_false]
  exact hs
end
section
variable {P:Program} {o:Oper} {ev_:Operand→Value} {K:Value→World→Prop} {E:Env} {ops:Array Oper} {k:List Item} {f:Nat→Value} {w:World} {M:Mem} {L:List bV}
theorem Rt (t:TypeId) (z:Value) (cs:List Value) (hop:o.op = .alloc t)
  (hz:(P.info? t).bind (·.zero)=some z) (hcs:z.cells.toList=cs) (hI:Inv M w L)
  (h:∀ b w',Inv M w' (L++[.blk b t cs])→K (.pointer (some ⟨b,0,none⟩)) w'):Eff P o ev_ w K:=by
 subst hcs;cases hi:P.info? t with
 | none=>rw [hi] at hz; cases hz
 | some inf =>
  rw [hi] at hz
  simp only [Option.bind_some] at hz
  refine gX (.pointer (some ⟨w.heap.size,0,none⟩)) (w':=w.alloc (.cells z.cells t)) ?_ ?_
  ·simp [execOp,hop,Instr.alloc,zeroValue,typeInfo,program,hi,hz,newVar,newRow,newObj,Sem.run]
  ·have:=hI.alloc_blk t z.cells.toList
   rw [Array.toArray_toList] at this
   exact h _ _ this
theorem SY (t:TypeId) (x:Operand) (v:Value) (cs:List Value) (hop:o.op = .box t x)
  (hv:ev_ x=v) (hcs:v.cells.toList=cs) (hI:Inv M w L)
  (h:∀ b w',Inv M w' (L++[.blk b t cs])→K (.pointer (some ⟨b,0,none⟩)) w'):Eff P o ev_ w K:=by
 subst hcs;refine gX (.pointer (some ⟨w.heap.size,0,none⟩)) (w':=w.alloc (.cells v.cells t)) ?_ ?_
 ·simp [execOp,hop,hv,Instr.box,newVar,newRow,newObj,Sem.run]
 ·have:=hI.alloc_blk t v.cells.toList
  rw [Array.toArray_toList] at this
  exact h _ _ this
theorem Ia (t:TypeId) (a x:Operand) (li:Nat) (b:Nat) (t':TypeId) (cs cs':List Value) (j:Nat) (v:Value) (hop:o.op = .store t a x)
  (ha:ev_ a = .pointer (some ⟨b,j,none⟩)) (hx:ev_ x=v) (hs:(P.info? t).map (·.size)=some v.cells.size) (h1:v.cells.toList.all Value.oneCell'=true)
  (hI:Inv M w L) (hL:L[li]? = some (.blk b t' cs)) (hl:Nat.ble (j + v.cells.size) cs.length=true) (hcs:splice cs j v.cells.toList=cs')
  (h:∀ w',Inv M w' (L.set li (.blk b t' cs'))→K undef w'):Eff P o ev_ w K:=by
 subst hcs;obtain ⟨F1,a1,hown⟩:=hI.look hL;have hb:w.heap[b]? = some (.cells cs.toArray t' (0,0)):=hown.2;have hrun:=BU (P:=P) (t:=t) (o:=j) (v:=v) hs hb (by simpa using Nat.le_of_ble_eq_true hl) (List.all_eq_true.1 h1);refine Ce (w':=w.setRow b (splice cs j v.cells.toList).toArray) ?_ (h _ ?_)
 ·simp only [execOp,hop,ha,hx,Instr.storeAt,Instr.sureAddr,Sem.run_bind,Sem.run,pure,Result.andThen,hrun]
 ·refine hI.turn hL (by rw [setRow_size]; exact Nat.le_refl _) rfl rfl rfl ?_;rintro F hF ⟨hFb,_⟩;exact ⟨F,⟨hFb,zP w b _ _ _ _ hb⟩,fun b' _ hn=>zQ w b b' _ (fun e=>hn (e ▸ hFb)),fun b' hb' => .inl hb'⟩
theorem zR {α:Type} {enc:α→List Value} {n:Nat} (h:∀ x,(enc x).length=n) (xs:List α):(xs.flatMap enc).length=xs.length * n:=by
 induction xs with
 | nil=>simp
 | cons x xs ih=>rw [List.flatMap_cons,List.length_append,h,ih,List.length_cons,Nat.add_mul]; omega
theorem zS {α:Type} {enc:α→List Value} {n:Nat} (h:∀ x,(enc x).length=n):∀ (xs:List α) (j:Nat) (x':α),j < xs.length →
  (xs.set j x').flatMap enc=splice (xs.flatMap enc) (j * n) (enc x')
 | [],j,x',hj=>by simp at hj
 | x::xs,0,x',_=>by
  simp only [List.set_cons_zero,List.flatMap_cons,splice,Nat.zero_mul,List.take_zero,List.nil_append,Nat.zero_add]
  rw [h x',← h x,List.drop_left]
 | x::xs,j + 1,x',hj=>by
  have ih:=zS h xs j x' (by simpa using hj)
  simp only [List.set_cons_succ,List.flatMap_cons,ih,splice,h x']
  rw [show (j + 1) * n=(enc x).length + j * n by rw [h x,Nat.add_mul]; omega,List.take_length_add_append,Nat.add_assoc,List.drop_length_add_append,List.append_assoc]
theorem FV {cs:List Value} {a q n:Nat} {vs:List Value} (h1:a + n≤cs.length) (h2:q + vs.length≤n) :
  splice cs a (splice ((cs.drop a).take n) q vs)=splice cs (a + q) vs:=by
 unfold splice;have e1:((cs.drop a).take n).take q=(cs.drop a).take q:=by rw [List.take_take]; congr 1; omega
 have e2:((cs.drop a).take n).drop (q + vs.length)=(cs.drop (a + (q + vs.length))).take (n - (q + vs.length)):=by rw [List.drop_take,List.drop_drop]
 rw [e1,e2]
 have hlen:((cs.drop a).take q++(vs++(cs.drop (a + (q + vs.length))).take (n - (q + vs.length)))).length=n:=by
  simp
  omega
 rw [hlen]
 have e3:cs.take (a + q)=cs.take a++(cs.drop a).take q:=by rw [List.take_add]
 have e4:cs.drop (a + q + vs.length)=(cs.drop (a + (q + vs.length))).take (n - (q + vs.length))++cs.drop (a + n):=by
  rw [show a + q + vs.length=a + (q + vs.length) by omega]
  conv=>lhs; rw [← List.take_append_drop (n - (q + vs.length)) (cs.drop (a + (q + vs.length)))]
  rw [List.drop_drop,show a + (q + vs.length) + (n - (q + vs.length))=a + n by omega]
 rw [e3,e4]
 simp only [List.append_assoc]
theorem JD {cs:List Value} {j n:Nat} {vs:List Value} (h:j + vs.length≤n):(splice cs j vs).take n=splice (cs.take n) j vs:=by
 unfold splice
 rw [List.take_append,List.take_append,List.take_take,List.take_take,List.drop_take]
 by_cases hj:j≤cs.length
 ·rw [show min n j=j by omega,show min j n=j by omega,List.length_take,Nat.min_eq_left hj,List.take_of_length_le (l:=vs) (by omega),show n - j - vs.length=n - (j + vs.length) by omega]
 ·have h1:cs.drop (j + vs.length)=[]:=List.drop_of_length_le (by omega)
  rw [h1,List.length_take,show min n j=j by omega,show min j n=j by omega,List.take_of_length_le (l:=vs) (by omega)]
  simp
theorem Ta {α:Type} [Inhabited α] {kt:Ty α} {enc:α→List Value} [Flat kt enc] (t:TypeId) (a x:Operand) (li:Nat) (b:Nat) (e:TypeId) (n c:Nat) (xs:List α) (x':α) (j:Int) (q:Nat) (v:Value)
  (hop:o.op = .store t a x)
  (ha:ev_ a = .pointer (some ⟨b,0 + j.toNat * kt.sz + q,none⟩)) (hx:ev_ x=v) (hs:(P.info? t).map (·.size)=some v.cells.size) (h1:v.cells.toList.all Value.oneCell'=true)
  (hI:Inv M w L) (hL:L[li]? = some (.row kt e (some ⟨b,0,none⟩) n c xs)) (hj:0≤j∧j < n) (hq:Nat.ble (q + v.cells.size) kt.sz=true) (hx':splice (enc (idx xs j)) q v.cells.toList=enc x')
  (h:∀ w',Inv M w' (L.set li (.row kt e (some ⟨b,0,none⟩) n c (xs.set j.toNat x')))→K undef w'):Eff P o ev_ w K:=by
 obtain ⟨F1,a5,hown⟩:=hI.look hL;have henc:∀ x,(enc x).length=kt.sz:=fun x=>kt.rd_len (H:=hp w) (Flat.rd_iff.2 rfl);have hln:=hown.2;subst hln;have hjl:j.toNat < xs.length:=by omega
 have hq':=Nat.le_of_ble_eq_true hq;rcases hown.1 with ⟨h0,_⟩ | ⟨b',arr,hA,hFb,hb,hlc,hcm,hsz,hseq⟩
 ·cases h0
 ·have hbb:b'=b:=by cases hA; rfl
  subst hbb;have hb':w.heap[b']? = some (.cells arr e (0,0)):=hb;have hcells:=bX.flat.1 hseq;have hfit:j.toNat * kt.sz + kt.sz≤xs.length * kt.sz:=by rw [← Nat.succ_mul]; exact Nat.mul_le_mul_right _ hjl
  have hcap:xs.length * kt.sz≤arr.size:=by rw [hsz]; exact Nat.mul_le_mul_right _ hlc
  have hvl:v.cells.toList.length=v.cells.size:=by simp
  have hrun:=BU (P:=P) (t:=t) (o:=0 + j.toNat * kt.sz + q) (v:=v) hs hb' (by omega) (List.all_eq_true.1 h1);refine Ce (w':=w.setRow b' (splice arr.toList (0 + j.toNat * kt.sz + q) v.cells.toList).toArray) ?_ (h _ ?_)
  ·simp only [execOp,hop,ha,hx,Instr.storeAt,Instr.sureAddr,Sem.run_bind,Sem.run,pure,Result.andThen,hrun]
  ·refine hI.turn hL (by rw [setRow_size]; exact Nat.le_refl _) rfl rfl rfl ?_;rintro F hF hown;rcases hown.1 with ⟨h0,_⟩ | ⟨b2,a3,a4,a2,a1,_,_,_,hseq2⟩
   ·cases h0
   ·have hbb:b2=b':=by cases a4; rfl
    subst hbb;have harr:a3=arr:=by rw [hb] at a1; cases a1; rfl
    subst harr;refine ⟨F,⟨.inr ⟨b2,_,rfl,a2,zP w b2 _ _ _ _ hb',by simpa using hlc,hcm,?_,?_⟩,by simp⟩,fun b3 _ hn=>zQ w b2 b3 _ (fun e=>hn (e ▸ a2)),fun _ h => .inl h⟩
    ·rw [List.size_toArray,oG (by rw [hvl]; simp; omega)]
     simpa using hsz
    ·refine bX.flat.2 ?_
     rw [List.length_set,zS henc _ _ _ hjl,← hx',← hcells]
     have hget:enc (idx xs j)=((xs.flatMap enc).drop (j.toNat * kt.sz)).take kt.sz:=by
      have:=zS henc xs j.toNat xs[j.toNat] hjl
      rw [List.set_getElem_self] at this
      rw [idx,List.getD_eq_getElem?_getD,List.getElem?_eq_getElem hjl,Option.getD_some]
      rw [this]
      unfold splice;have hlen:((xs.flatMap enc).take (j.toNat * kt.sz)).length=j.toNat * kt.sz:=by
       rw [List.length_take,zR henc]
       omega
      rw [List.drop_append_of_le_length (by omega),List.drop_of_length_le (by omega),List.nil_append,← henc xs[j.toNat],List.take_left]
     rw [hget,← hcells,FV (by simp; omega) (by rw [hvl]; exact hq')]
     rw [List.toList_toArray,JD (by rw [hvl]; omega),Nat.zero_add]
end
end Go.Proofs.YtfpeabnehpclnaaGreatDoorE
namespace Go.Proofs.YtfpeabnehpclnaaGreatDoorE
open Go
set_option linter.unusedVariables false
set_option linter.unusedSimpArgs false
theorem bX.zeros {α:Type} {kt:Ty α} {H:BM} {d:α} {zs:List Value} (hz:kt.own H (fun _=>False) d zs):∀ (n:Nat) (F:Nat→Prop),bX kt H F (List.replicate n d) ((List.replicate n zs).flatten)
 | 0,_=>by simp [bX]
 | n + 1,F=>by
  rw [List.replicate_succ,List.replicate_succ,List.flatten_cons]
  exact ⟨zs,_,fun _=>False,F,rfl,fun _ h=>h.elim,fun _ h=>h,fun _ h=>h.elim,hz,bX.zeros hz n F⟩
theorem AL (zs:List Value):∀ (n i:Nat),i < n * zs.length→((List.replicate n zs).flatten)[i]? = zs[i % zs.length]?
 | 0,i,h=>by simp at h
 | n + 1,i,h=>by
  rw [List.replicate_succ,List.flatten_cons]
  rcases Nat.lt_or_ge i zs.length with hi | hi
  ·rw [List.getElem?_append_left hi,Nat.mod_eq_of_lt hi]
  ·rw [List.getElem?_append_right hi,AL zs n (i - zs.length) (by rw [Nat.add_mul] at h; omega)]
   rw [Nat.mod_eq_sub_mod hi]
theorem Hz (zc:Array Value) (n:Nat):(madeCells zc (n * zc.size)).toList=(List.replicate n zc.toList).flatten:=by
 apply List.ext_getElem?
 intro i;rcases Nat.lt_or_ge i (n * zc.size) with hi | hi
 ·have hpos:0 < zc.size:=by
   rcases Nat.eq_zero_or_pos zc.size with h | h
   ·rw [h] at hi; omega
   ·exact h
  have hm:i % zc.size < zc.size:=Nat.mod_lt _ hpos
  rw [AL zc.toList n i (by simpa using hi)]
  simp [madeCells,hi,hm]
 ·rw [List.getElem?_eq_none (by simpa [madeCells] using hi),List.getElem?_eq_none (by simpa using hi)]
section
variable {P:Program} {o:Oper} {ev_:Operand→Value} {K:Value→World→Prop} {E:Env} {ops:Array Oper} {k:List Item} {f:Nat→Value} {w:World} {M:Mem} {L:List bV}
theorem KN {α:Type} (kt:Ty α) (d:α) (t e:TypeId) (x y:Operand) (inf:TypeInfo) (z:Value) (n:Int) (hop:o.op = .makeSlice t x y)
  (ht:P.underlying t=some (.slice e)) (hi:P.info? e=some inf) (hz:inf.zero=some z) (hsz:inf.size=kt.sz) (hzs:z.cells.size=kt.sz) (hzo:∀ H,kt.own H (fun _=>False) d z.cells.toList)
  (hx:ev_ x = .int .i64 n) (hy:ev_ y = .int .i64 n) (hn:0≤n∧n≤9223372036854775807∧(inf.bytes:Int) * n≤281474976710656) (hI:Inv M w L)
  (h:∀ b w',Inv M w' (L++[.row kt e (some ⟨b,0,none⟩) n.toNat n.toNat (List.replicate n.toNat d)])→K (.slice (some ⟨b,0,none⟩) n.toNat n.toNat) w'):Eff P o ev_ w K:=by
 have hr:=run_make (P:=P) w t e inf z ht hi hz .i64 .i64 n n hn.1 (Int.le_refl _) hn.2.2 hn.2.1;refine gX (.slice (some ⟨w.heap.size,0,none⟩) n.toNat n.toNat) (w':=w.alloc (.cells (madeCells z.cells (n.toNat * inf.size)) e)) ?_ ?_
 ·simp only [execOp,hop,hx,hy,Sem.run_bind,hr,Result.andThen,Sem.run,pure]
 ·have h':=h w.heap.size (w.alloc (.cells (madeCells z.cells (n.toNat * inf.size)) e)) (hI.alloc _ ⟨.inr ⟨w.heap.size,_,rfl,rfl,pg w _,by simp,by unfold maxLen; omega,?_,?_⟩,by simp⟩)
  ·exact h'
  ·rw [hsz]; simp [madeCells]
  ·have hcs:(madeCells z.cells (n.toNat * inf.size)).toList=(List.replicate n.toNat z.cells.toList).flatten:=by rw [hsz,← hzs]; exact Hz _ _
   rw [hcs]
   have hlen:((List.replicate n.toNat z.cells.toList).flatten).length=n.toNat * kt.sz:=by simp [hzs]
   rw [List.length_replicate,List.take_of_length_le (by omega)]
   exact bX.zeros (hzo _) _ _
end
theorem eG.owns {α:Type} {kt:Ty α} {e:TypeId} {w:World} {F:Nat→Prop} {A:Option Addr} {c:Nat} {xs:List α} (h:eG kt e (hp w) F A c xs) :
  ∃ cs,w.ownsRow 0 e kt.sz (.slice A xs.length c) xs.length cs∧bX kt (hp w) (fun b=>F b∧∀ a,A=some a→b≠a.block) xs cs∧∀ a,A=some a→F a.block:=by
 rcases h with ⟨rfl,rfl,rfl⟩ | ⟨b,arr,rfl,h1,h2,h3,h4,h5,h6⟩
 ·exact ⟨[],World.ownsRow_nil w 0 e kt.sz,rfl,fun a h=>by cases h⟩
 ·refine ⟨arr.toList.take (xs.length * kt.sz),⟨?_,.inr ⟨b,c,arr,rfl,Nat.zero_le _,h2,h3,h4,h5,rfl⟩⟩,h6.mono (fun b' h=>⟨h.1,fun a ha=>by cases ha; exact h.2⟩),fun a ha=>by cases ha; exact h1⟩
  have h7:=Nat.mul_le_mul_right kt.sz h3
  rw [List.length_take,Array.length_toList]
  change min (xs.length * kt.sz) arr.size=xs.length * kt.sz
  rw [h5]
  exact Nat.min_eq_left h7
theorem eG.of_owns {α:Type} {kt:Ty α} {e:TypeId} {w:World} {F:Nat→Prop} {v:Value} {xs:List α} {cs:List Value} (h:w.ownsRow 0 e kt.sz v xs.length cs)
  (hb:∀ b,v.ownBlock=some b→F b) (hs:bX kt (hp w) (fun b=>F b∧v.ownBlock≠some b) xs cs):∃ A c,v = .slice A xs.length c∧eG kt e (hp w) F A c xs:=by
 obtain ⟨hl,h⟩:=h;rcases h with ⟨rfl,h0⟩ | ⟨g,cap,cur,rfl,_,h2,h3,h4,h5,h6⟩
 ·have:xs=[]:=List.eq_nil_of_length_eq_zero h0;subst this;exact ⟨none,0,rfl,eG.nil⟩
 ·refine ⟨some ⟨g,0,none⟩,cap,rfl,.inr ⟨g,cur,rfl,hb g rfl,h2,h3,h4,h5,?_⟩⟩
  rw [h6]
  exact hs.mono (fun b h=>⟨h.1,fun e=>h.2 (by rw [e]; rfl)⟩)
theorem bX.append {α:Type} {kt:Ty α} {H:BM}:∀ {xs ys:List α} {F G:Nat→Prop} {cs ds:List Value},bX kt H F xs cs→bX kt H G ys ds→(∀ b,F b → ¬ G b)→bX kt H (fun b=>F b∨G b) (xs++ys) (cs++ds)
 | [],ys,F,G,cs,ds,h,hy,_=>by
  rw [show cs=[] from h]
  exact hy.mono (fun _ h => .inr h)
 | x::xs,ys,F,G,cs,ds,⟨c1,c2,F1,F2,e,h1,h2,h3,h4,h5⟩,hy,hd=>by
  refine ⟨c1,c2++ds,F1,fun b=>F2 b∨G b,by rw [e,List.append_assoc],fun b h => .inl (h1 b h),fun b h=>h.imp (h2 b) id,?_,h4,h5.append hy (fun b h=>hd b (h2 b h))⟩
  rintro b hb (h | h)
  ·exact h3 b hb h
  ·exact hd b (h1 b hb) h
theorem rdS.cells {α:Type} {kt:Ty α} {enc:α→List Value} [Flat kt enc] {H:BM} {b o:Nat}:∀ {ys:List α},(∀ j x,ys[j]? = some x→∃ cs,kt.rd H x cs∧∀ i u,cs[i]? = some u→cellOf H b (o + j * kt.sz + i)=some u) →
  ∀ i u,(ys.flatMap enc)[i]? = some u→cellOf H b (o + i)=some u:=by
 intro ys
 induction ys generalizing o with
 | nil=>intro _ i u hu; simp at hu
 | cons y ys ih =>
  intro h i u hu
  rw [List.flatMap_cons] at hu
  have hl:(enc y).length=kt.sz:=kt.rd_len (H:=H) (Flat.rd_iff.2 rfl);rcases Nat.lt_or_ge i (enc y).length with hi | hi
  ·rw [List.getElem?_append_left hi] at hu
   obtain ⟨cs,hr,hc⟩:=h 0 y rfl
   rw [Flat.rd_iff.1 hr] at hc
   have:=hc i u hu
   rw [Nat.zero_mul,Nat.add_zero] at this
   exact this
  ·rw [List.getElem?_append_right hi] at hu
   have:=ih (o:=o + kt.sz) (fun j x hj=>by
    obtain ⟨cs,hr,hc⟩:=h (j + 1) x (by simpa using hj);refine ⟨cs,hr,fun i u hu => ?_⟩;have:=hc i u hu
    rw [show o + (j + 1) * kt.sz + i=o + kt.sz + j * kt.sz + i by rw [Nat.add_mul]; omega] at this
    exact this) (i - (enc y).length) u hu
   rw [show o + kt.sz + (i - (enc y).length)=o + i by omega] at this
   exact this
theorem HV {P:Program} {w w':World} {t ty e:TypeId} {A:Option Addr} {c n:Nat} {cs:List Value} {inf:TypeInfo} {z v':Value} {sz:Nat} (h:w.ownsRow 0 e sz (.slice A n c) n cs)
  (ht:P.underlying t=some (.slice e)) (hi:P.info? e=some inf) (hz:inf.zero=some z) (hsz:inf.size=sz)
  {b o m c2:Nat} {news:List Value} (hl:news.length=m * sz) (hnews:∀ j u,news[j]? = some u→w.cell? ((⟨b,o,none⟩:Addr).add j)=some u) (h1:∀ u ∈ news,u.oneCell'=true)
  (hbytes:((n + m) + (n + m) / 4 + 192) * inf.bytes≤281474976710656) (a1:n + m≤maxLen) (hrun:(Builtin.append_ #[t,t] ty #[.slice A n c,.slice (some ⟨b,o,none⟩) m c2]).run P w = .ok v' w') :
  v'.ownBlock=(Value.slice A n c).ownBlock∨v'.ownBlock=some w.heap.size:=by
 subst hsz;have hsmall:n + m≤9223372036854775807:=by simp only [maxLen] at a1; omega
 rcases h.2 with ⟨hv,hn⟩ | ⟨g,cap,cur,hv,_,hg,hnc,hcm,hcs,htake⟩
 ·cases hv
  by_cases hm:m=0
  ·subst hm;have:(Builtin.append_ #[t,t] ty #[.slice none 0 0,.slice (some ⟨b,o,none⟩) 0 c2]).run P w = .ok (.slice none 0 0) w:=by
    simp [Builtin.append_,run_underlying ht,sizeOf,typeInfo,hi,Builtin.lenOf,Builtin.firstCells,loadCells,loadCellsFrom]
   rw [this] at hrun
   cases hrun;exact .inl rfl
  ·have hr:=run_append_nil (P:=P) w t ty e inf z ht hi hz ⟨b,o,none⟩ m c2 news hl hnews (by omega) (by omega) (by have hb:=hbytes; simp only [Nat.zero_add] at hb; exact Nat.le_trans (Nat.mul_le_mul_right _ (by omega)) hb)
   rw [hr] at hrun
   cases hrun;exact .inr rfl
 ·cases hv
  by_cases hroom:n + m≤c
  ·have hfit:n * inf.size + news.length≤cur.size:=by rw [hl,hcs,← Nat.add_mul]; exact Nat.mul_le_mul_right _ hroom
   have hr:=run_append_room (P:=P) w t ty e inf ht hi g n c cur hg ⟨b,o,none⟩ m c2 news hl hnews h1 hroom hfit
   rw [hr] at hrun
   cases hrun;exact .inl rfl
  ·have holds:∀ j u,cs[j]? = some u→w.cell? ((⟨g,0,none⟩:Addr).add j)=some u:=h.cells (g:=g) rfl;have hr:=run_append_grow (P:=P) w t ty e inf z ht hi hz ⟨g,0,none⟩ n c cs h.1 holds ⟨b,o,none⟩ m c2 news hl hnews (by omega) (by omega) (growslice_fits_wide (by omega) hbytes)
   rw [hr] at hrun
   cases hrun;exact .inr rfl
section
variable {P:Program} {o:Oper} {ev_:Operand→Value} {K:Value→World→Prop} {E:Env} {ops:Array Oper} {k:List Item} {f:Nat→Value} {w:World} {M:Mem} {L:List bV}
theorem Inv.append {α:Type} {kt:Ty α} {P:Program} {t ty e:TypeId} {A:Option Addr} {n c:Nat} {xs ys:List α} {inf:TypeInfo} {z:Value} {R L':List bV}
  (a1:Inv M w (.row kt e A n c xs::(R++L'))) (ht:P.underlying t=some (.slice e)) (hi:P.info? e=some inf) (hz:inf.zero=some z) (hsz:inf.size=kt.sz) (hzs:z.cells.size=kt.sz) (hpos:0 < kt.sz)
  {b o m c2:Nat} {news:List Value} (hl:news.length=m * kt.sz) (hm:ys.length=m) (hg:Grp.ok w (b,o,news)) (hbytes:((n + m) + (n + m) / 4 + 192) * inf.bytes≤281474976710656) (a4:n + m≤maxLen)
  (hmk:∀ H F,Go.Proofs.YtfpeabnehpclnaaGreatDoorE.sep R H F→bX kt H F ys news) :
  ∃ A' c' w',(Builtin.append_ #[t,t] ty #[.slice A n c,.slice (some ⟨b,o,none⟩) m c2]).run P w = .ok (.slice A' (xs++ys).length c') w'∧Inv M w' (.row kt e A' (xs++ys).length c' (xs++ys)::L')∧w.heap.size≤w'.heap.size:=by
 subst hm;obtain ⟨F1,F2,h1,h2,h3,⟨hrow,hln⟩,hsep⟩:=a1.sep;subst hln;obtain ⟨G1,G2,g1,g2,g3,hsR,hsL⟩:=hsep.split;obtain ⟨cs,howns,hseq,hFA⟩:=eG.owns hrow;have hy:=hmk _ _ hsR;have hone:=hy.one;have hnews:∀ j u,news[j]? = some u→w.cell? ((⟨b,o,none⟩:Addr).add j)=some u:=fun j u hu=>by rw [addr_add]; exact hg j u hu
 obtain ⟨v',w',hrun,howns',hgrow,hnil⟩:=run_append_own_wide (P:=P) w 0 t ty e inf z kt.sz inf.bytes ht hi hz hsz rfl hzs hpos (.slice A xs.length c) xs.length cs howns ⟨b,o,none⟩ ys.length c2 news hl
  hnews hone a4 hbytes (Nat.zero_le _)
 have hwhere:=HV howns ht hi hz hsz hl hnews hone hbytes a4 hrun;have hblk:∀ b,some b=(Value.slice A xs.length c).ownBlock→F1 b:=by
  intro b' hb';cases A with
  | none=>cases hb'
  | some a=>cases hb'; exact hFA a rfl
 have hsame:∀ b',b' < w.heap.size → ¬ F1 b'→w'.heap[b']? = w.heap[b']? := fun b' hb' hn=>hgrow.block b' hb' (fun e=>hn (hblk b' e));have a3:∀ b',F1 b'→b' < w.heap.size:=fun b' h=>(h1 b' h).2;have a2:∀ b',F2 b'→b' < w.heap.size:=fun b' h=>(h2 b' h).2;have a7:bX kt (hp w') (fun b'=>F1 b'∧∀ a,A=some a→b'≠a.block) xs cs:=hseq.congr (fun b' h=>hgrow.block b' (a3 b' h.1) (fun e=>by
  cases A with
  | none=>cases e
  | some a=>cases e; exact h.2 a rfl rfl))
 have a5:bX kt (hp w') G1 ys news:=hy.congr (fun b' h=>hsame b' (a2 b' (g1 b' h)) (fun h'=>h3 b' h' (g1 b' h)));have a6:=a7.append a5 (fun b' h h'=>h3 b' h.1 (g1 b' h'));have a8:(xs++ys).length=xs.length + ys.length:=List.length_append;have hv':∀ b',v'.ownBlock=some b'→b' < w'.heap.size:=fun b' h=>(howns'.lt b' h).2;have hplace:∀ b',v'.ownBlock=some b'→F1 b'∨b'=w.heap.size:=by
  intro b' h;rcases hwhere with e | e
  ·exact .inl (hblk b' (h ▸ e))
  ·rw [e] at h; cases h; exact .inr rfl
 rw [← a8] at howns'
 obtain ⟨A',c',rfl,hrow'⟩:=eG.of_owns (kt:=kt) (F:=fun b'=>(F1 b'∨G1 b')∨b'=w.heap.size∧v'.ownBlock=some b') howns'
  (fun b' h=>(hplace b' h).elim (fun h => .inl (.inl h)) (fun h' => .inr ⟨h',h⟩))
  (a6.mono (fun b' h=>⟨.inl (h.imp (fun h=>h.1) id),by
   intro hv;rcases hwhere with e | e
   ·have hA:=e.symm.trans hv;rcases h with h | h
    ·cases A with
     | none=>cases hA
     | some a=>cases hA; exact h.2 a rfl rfl
    ·exact h3 b' (hblk b' hA.symm) (g1 b' h)
   ·have:=e.symm.trans hv;cases this;rcases h with h | h
    ·exact absurd (a3 _ h.1) (by omega)
    ·exact absurd (a2 _ (g1 _ h)) (by omega)⟩))
 have hMn:∀ b',w.heap.size≤b'→M.blk b'=none:=by
  intro b' h;cases e:M.blk b' with
  | none=>rfl
  | some o=>have:=a1.lt e; omega
 refine ⟨A',c',w',hrun,⟨fun b' ob hb => ?_,Nat.le_trans a1.size hgrow.size,hgrow.os.trans a1.os,hgrow.tape.trans a1.tape,hgrow.output.trans a1.output,?_⟩,hgrow.size⟩
 ·refine (hsame b' (a1.lt hb) (fun h => ?_)).trans (a1.fix b' ob hb);have:=(h1 b' h).1
  rw [hb] at this
  cases this
 ·refine ⟨_,G2,?_,?_,?_,⟨hrow',rfl⟩,hsL.congr (fun b' h=>hsame b' (a2 b' (g2 b' h)) (fun h'=>h3 b' h' (g2 b' h)))⟩
  ·rintro b' ((h | h) | ⟨rfl,h⟩)
   ·exact ⟨(h1 b' h).1,Nat.lt_of_lt_of_le (a3 b' h) hgrow.size⟩
   ·exact ⟨(h2 b' (g1 b' h)).1,Nat.lt_of_lt_of_le (a2 b' (g1 b' h)) hgrow.size⟩
   ·exact ⟨hMn _ (Nat.le_refl _),hv' _ h⟩
  ·intro b' h;exact ⟨(h2 b' (g2 b' h)).1,Nat.lt_of_lt_of_le (a2 b' (g2 b' h)) hgrow.size⟩
  ·rintro b' ((h | h) | ⟨rfl,h⟩) h'
   ·exact h3 b' h (g2 b' h')
   ·exact g3 b' h h'
   ·exact absurd (a2 _ (g2 _ h')) (by omega)
theorem JB {α:Type} (kt:Ty α) (t ty e:TypeId) (s x:Operand) (inf:TypeInfo) (z:Value) (A:Option Addr) (n c:Nat) (xs ys:List α) (b of m c2:Nat) (news:List Value) (li:Nat) (js rest:List Nat) (R L':List bV)
  (hop:o.op = .call { callee := .builtin .append,args := #[s,x],argTypes := #[t,t] })
  (hs:ev_ s = .slice A n c) (hx:ev_ x = .slice (some ⟨b,of,none⟩) m c2)
  (ht:P.underlying t=some (.slice e)) (hi:P.info? e=some inf) (hz:inf.zero=some z) (hsz:inf.size=kt.sz) (hzs:z.cells.size=kt.sz) (hpos:Nat.blt 0 kt.sz=true)
  (hI:Inv M w L) (hn:(li::(js++rest)).Nodup) (hL:(li::(js++rest)).map (L[·]?)=(.row kt e A n c xs::(R++L')).map some)
  (hl:news.length=m * kt.sz) (hm:ys.length=m) (hg:Grp.ok w (b,of,news)) (hbytes:((n + m) + (n + m) / 4 + 192) * inf.bytes≤281474976710656∧n + m≤9223372036854775807)
  (hmk:∀ H F,Go.Proofs.YtfpeabnehpclnaaGreatDoorE.sep R H F→bX kt H F ys news)
  (h:∀ A' c' w',Inv M w' (.row kt e A' (xs++ys).length c' (xs++ys)::L')→K (.slice A' (xs++ys).length c') w'):Eff P o ev_ w K:=by
 obtain ⟨A',c',w',hrun,hI',hsize⟩:=Inv.append (P:=P) (ty:=o.type) (c2:=c2) (hI.pick _ hn hL) ht hi hz hsz hzs (Nat.le_of_ble_eq_true hpos) hl hm hg hbytes.1 (by unfold maxLen; omega) hmk;refine gX (.slice A' (xs++ys).length c') (w':=w') ?_ (h A' c' w' hI');have hargs:(#[s,x]:Array Operand).map (ev_) = #[.slice A n c,.slice (some ⟨b,of,none⟩) m c2]:=by simp [hs,hx]
 simp only [execOp,hop,resolve,invoke,builtin,Sem.run_bind,Sem.run,pure,Result.andThen,hargs,hrun]
end
end Go.Proofs.YtfpeabnehpclnaaGreatDoorE
namespace Go.Proofs.YtfpeabnehpclnaaGreatDoorE
open Go
set_option linter.unusedVariables false
set_option linter.unusedSimpArgs false
theorem ae {β:Type} {b:Bool} {x y:Option β} {r:β} (h:(bif b then x else y)=some r):(b=true∧x=some r)∨(b=false∧y=some r):=by
 cases b
 ·exact .inr ⟨rfl,h⟩
 ·exact .inl ⟨rfl,h⟩
def w64 (x:Int):Int:=IntKind.wrap .i64 x
def cz (k:IntKind) (x y:Int):Int:=k.wrap ((BitVec.ofInt k.bits x &&& BitVec.ofInt k.bits y).toNat)
def bOr (k:IntKind) (x y:Int):Int:=k.wrap ((BitVec.ofInt k.bits x ||| BitVec.ofInt k.bits y).toNat)
def lK (k:IntKind) (x y:Int):Int:=k.wrap ((BitVec.ofInt k.bits x &&& ~~~(BitVec.ofInt k.bits y)).toNat)
def jH (k:IntKind) (x y:Int):Int:=k.wrap (x * 2 ^ (min y.toNat k.bits))
def ed (k:IntKind) (x y:Int):Int:=x.fdiv (2 ^ (min y.toNat k.bits))
def DN (x y:Int):Int:=if x < y then y else x
theorem KL {l:List Value} (h:l.all Value.oneCell'=true):∀ v ∈ l,v.oneCell'=true:=List.all_eq_true.1 h
section
variable {P:Program} {o:Oper} {ev_:Operand→Value} {K:Value→World→Prop} {E:Env} {ops:Array Oper} {k:List Item} {f:Nat→Value} {w:World} {M:Mem} {L:List bV}
theorem OU {f:Nat→Value} {d:Nat} {v:Value} (h:f d=v):upd f d v=f:=by rw [← h,JV]
theorem uF {i:Nat} (d:Nat) (v v':Value) (hd:f d=v) (h:v=v') (hg:GoO E ops i k (upd f d v') w):GoO E ops i k f w:=by
 rw [OU (hd.trans h)] at hg
 exact hg
theorem wh (d:Nat) (v v':Value) (hd:f d=v) (h:v=v') (hg:Go E k (upd f d v') w):Go E k f w:=by
 rw [OU (hd.trans h)] at hg
 exact hg
theorem zJ {c:Operand} {x y:Code} {t:Bool} (hc:ev E.N f c = .bool t) (ht:t=true) (h:Go E (.code x::k) f w):Go E (.code (.cond c x y)::k) f w:=En (hc.trans (congrArg Value.bool ht)) h
theorem zK {c:Operand} {x y:Code} {t:Bool} (hc:ev E.N f c = .bool t) (ht:t=false) (h:Go E (.code y::k) f w):Go E (.code (.cond c x y)::k) f w:=wX (hc.trans (congrArg Value.bool ht)) h
theorem aM {x y:Code} {σ Ω:Type} {o:Ω} (St:σ→(Nat→Value)→World→Prop) (K:σ→Option Ω)
  (hJ:∀ s f w,St s f w→K s=some o→Go E (.code y::k) f w)
  (h:(∀ s f w,St s f w→K s=some o→Go E (.code y::k) f w)→Go E (.code x :: .code y::k) f w):Go E (.code (.seq x y)::k) f w:=aa (h hJ)
theorem bO {id:Nat} {c:Code} {σ Ω:Type} {o:Ω} (St:σ→(Nat→Value)→World→Prop) (K:σ→Option Ω)
  (hJ:∀ s f w,St s f w→K s=some o→Go E k f w)
  (h:(∀ s f w,St s f w→K s=some o→Go E k f w)→Go E (.code c :: .inBlock id::k) f w):Go E (.code (.block id c)::k) f w:=av (h hJ)
theorem BQ (us:List (Nat×Value)) (hu:us.map (fun p=>f p.1)=us.map (·.2)):f=bq f us:=(Mm f us hu).symm
theorem Nk {P:Program} {g:FuncId} {args:Array Value} (h:Sem.pureRun P (callFunc g args)=some (.enter g args)) (w:World):(callFunc g args).run P w = .ok (.enter g args) w:=Sem.pureRun_run _ h w
theorem jF {R:Ending→World→Prop} (c:Operand) (xs:Array Operand) (ts:Array TypeId) (g:FuncId) (first cap args all:Array Value) 
  (hop:o.op = .call { callee := .value c,args:=xs,argTypes:=ts }) (hc:ev_ c = .func (.func g) first cap) (ha:xs.map (ev_)=args) (hall:(first++args)++cap=all)
  (hent:Sem.pureRun P (callFunc g all)=some (.enter g all)) (hcall:Calls P g all w R)
  (h:∀ e w',R e w'→∃ v,e = .returned v∧K v w'):Eff P o ev_ w K:=by
 refine JP g all ?_ hcall h
 simp only [execOp,hop,resolve,Sem.run_bind,ha,hc,Deferred.ofValue,Sem.run,pure,Result.andThen,invoke,hall]
 exact Nk hent w
theorem sS {fn:Func} (v:Value) (hf:E.P.funcs[E.fn]? = some fn) (hv:Sem.pureRun E.P (results fn (tm E.N f))=some v) (hR:E.R (.returned v) w) (h0:E.plain:=by exact ⟨rfl,rfl⟩):Go E (.code .ret::k) f w :=
 go_ret v hf (Sem.pureRun_run _ hv w) hR h0
theorem sU {fn:Func} (v:Value) (hf:E.P.funcs[E.fn]? = some fn) (hv:Sem.pureRun E.P (results fn (tm E.N f))=some v) (hR:E.R (.returned v) w) (h0:E.plain:=by exact ⟨rfl,rfl⟩):Go E [] f w :=
 Sz v hf (Sem.pureRun_run _ hv w) hR h0
end
end Go.Proofs.YtfpeabnehpclnaaGreatDoorE
namespace Go.Proofs.YtfpeabnehpclnaaGreatDoorE
open Go
set_option linter.unusedVariables false
set_option linter.unusedSimpArgs false
section
variable {E:Env} {k:List Item} {f:Nat→Value} {w:World} {M:Mem} {L:List bV}
def JX (E:Env) (k:List Item):Exit→Act→World→Prop
 | .normal,a,w=>∃ f,a=fr E.N f∧Go E k f w
 | _,_,_=>False
theorem FI {c:Code} (h0:E.plain) (h:c.wp E.P (JX E k) (fr E.N f) w):Go E (.code c::k) f w:=by
 obtain ⟨e,a',w',hq,harr⟩:=h E.b k E.cs;cases e with
 | normal =>
  obtain ⟨f',rfl,hg⟩:=hq;refine .steps ?_ hg
  rw [h0.at,h0.at]
  exact harr
 | _=>exact hq.elim
theorem Cn {P:Program} {N:Nat} {l:List Oper} {w:World} {Q:Act→Prop}:∀ {n i:Nat} {f:Nat→Value} {K:(Nat→Value)→Prop},(∀ f,K f→Q (fr N f))→Rd P N l.toArray w n i f K →
  wpStill P l.toArray w Q ((l.drop i).take n) (fr N f)
 | 0,i,f,K,hK,h=>by simpa [wpStill] using hK f h
 | n + 1,i,f,K,hK,⟨o,ho,h⟩=>by
  have ho':l[i]? = some o:=by simpa using ho
  have hlt:i < l.length:=(List.getElem?_eq_some_iff.1 ho').1;have hl:(l.drop i).take (n + 1)=o::(l.drop (i + 1)).take n:=by
   rw [List.drop_eq_getElem_cons hlt,List.take_succ_cons]
   congr 1
   exact (List.getElem?_eq_some_iff.1 ho').2
  rw [hl]
  simp only [wpStill]
  rw [show Region.wanted o (yielded l.toArray (fr N f).tmps)=wants N l.toArray f o from mQ N _ f o]
  rcases h with ⟨hw,h⟩ | ⟨v,hw,hr,h⟩
  ·rw [hw,if_neg (by simp),zT]
   exact Cn hK h
  ·rw [hw,if_pos rfl]
   unfold Oper.still
   rw [Ai,hr,Oper.stillUpon_value,zT]
   exact Cn hK h
theorem RG {id:Nat} {l:List Oper} (hm:E.P.follows .mixedOrders=true) (hB:Region.lexB .any l.toArray=true)
  (h:Rd E.P E.N l.toArray w.drew l.length 0 f (fun f'=>Go E k f' w.drew)) (h0:E.plain:=by exact ⟨rfl,rfl⟩):Go E (.code (.region id l.toArray true)::k) f w:=by
 refine FI h0 (wp_region_still_lit hm hB ?_);have:=Cn (Q:=fun a'=>JX E k .normal a' w.drew) (fun f' h=>⟨f',rfl,h⟩) h
 simpa using this
theorem Dj {G:List Grp} (h:pV w G):pV w.drew G:=by
 induction G with
 | nil=>trivial
 | cons g G ih=>exact ⟨fun j u hu=>h.1 j u hu,ih h.2⟩
theorem Inv.drew' (h:Inv M w L):Inv M w.drew L:=h.drew rfl rfl rfl rfl
theorem Pp {o:Oper} {ops:Array Oper} (hw:wants E.N ops f o=true) (h:Eff E.P o (ev E.N f) w (fun v w'=>Go E k (qJ f o.dst v) w')):wpList E.P ops (JX E k) [o] (fr E.N f) w:=by
 simp only [wpList]
 rw [show Region.wanted o (yielded ops (fr E.N f).tmps)=wants E.N ops f o from mQ E.N _ f o,hw,if_pos rfl]
 refine .inl ?_;unfold Oper.wp Oper.upon
 rw [Ai]
 replace h:=h.out;cases hr:(execOp (ev E.N f) o).run E.P w with
 | halt x w'=>rw [hr] at h; exact h.elim
 | ok n w' =>
  rw [hr] at h
  cases n <;> first
   | (dsimp only [Fy] at h ⊢; rw [zT]; exact ⟨_,rfl,h⟩)
   | (dsimp only [Fy] at h ⊢; refine Calls.mono h ?_; rintro e w'' ⟨v,rfl,h'⟩; dsimp only; rw [zT]; exact ⟨_,rfl,h'⟩)
   | exact h.elim
end
end Go.Proofs.YtfpeabnehpclnaaGreatDoorE
namespace Go.Proofs.YtfpeabnehpclnaaGreatDoorE
open Go
set_option linter.unusedVariables false
set_option linter.unusedSimpArgs false
def xB (P:Program) (N:Nat) (ops:Array Oper) (G:List Grp):List (Nat×Hint)→Array Bool→(Nat→Value)→Option ((Nat→Value)×Array Bool×Ij)
 | [],l,f=>some (f,l,[],[])
 | (i,h)::hs,l,f=>bif (Region.ready .any ops l).contains i && Region.free .any ops l i then
   match nth ops.toList i with
   | none=>none
   | some o=>bif wants N ops f o then
     match yL P G o (ev N f) h with
     | some (v,oa,ob)=>match xB P N ops G hs (l.setIfInBounds i true) (qJ f o.dst v) with
      | some (f',l',ra,rb)=>some (f',l',oa++ra,ob++rb)
      | none=>none
     | none=>none
    else xB P N ops G hs (l.setIfInBounds i true) (qJ f o.dst undef)
  else none
section
variable {E:Env} {k:List Item} {ops:Array Oper} {S:World→Prop} {f:Nat→Value} {w:World} {l:Array Bool} {n:Nat}
structure Held (E:Env) (k:List Item) (ops:Array Oper) (S:World→Prop) (n:Nat) (l:Array Bool) (f:Nat→Value) (w:World):Prop where
 out:wpAnyH E.P .any ops (JX E k) S n l (fr E.N f) w
theorem Im {id:Nat} (S:World→Prop) (hm:E.P.follows .mixedOrders=true) (h:Held E k ops S ops.size (Array.replicate ops.size false) f w.drew) (h0:E.plain:=by exact ⟨rfl,rfl⟩):Go E (.code (.region id ops true)::k) f w :=
 FI h0 (wp_region_held hm h.out)
theorem Gy (hr:Region.ready .any ops l=[]) (h:Go E k f w):Held E k ops S n l f w:=⟨wpAnyH_done hr ⟨f,rfl,h⟩ n⟩
theorem Ah {G:List Grp} (a1:Region.noSelect ops=true) (hG:∀ w,S w→pV w G) (hS:S w):∀ {hs:List (Nat×Hint)} {l l':Array Bool} {f f':Nat→Value} {oa:List (Value×Value)} {ob:List (Int×Nat)},
  xB E.P E.N ops G hs l f=some (f',l',oa,ob)→oa.map (·.1)=oa.map (·.2)→uW ob→Held E k ops S n l' f' w→Held E k ops S (n + hs.length) l f w
 | [],l,l',f,f',oa,ob,h,_,_,hK=>by
  simp only [xB,Option.some.injEq,Prod.mk.injEq] at h
  obtain ⟨rfl,rfl,_⟩:=h;exact hK
 | (i,h)::hs,l,l',f,f',oa,ob,hr,ha,hb,hK=>by
  simp only [xB] at hr
  cases hc:((Region.ready .any ops l).contains i && Region.free .any ops l i) with
  | false=>rw [hc,cond_false] at hr; cases hr
  | true =>
   rw [hc,cond_true] at hr
   rw [Bool.and_eq_true] at hc
   rw [List.length_cons,← Nat.add_assoc]
   split at hr
   ·cases hr
   ·rename_i o hn
    have ho:ops[i]? = some o:=by rw [Fz] at hn; simpa using hn
    cases hw:wants E.N ops f o with
    | false =>
     rw [hw,cond_false] at hr
     have:=(Ah a1 hG hS hr ha hb hK).out;refine ⟨wpAnyH_take (v:=undef) ho a1 hc.2 hc.1 (fun _ _ _ h=>h.elim) (.inr ⟨?_,rfl⟩) hS ?_⟩
     ·rw [show (fr E.N f).tmps=tm E.N f from rfl,mQ]; exact hw
     ·rw [zT]; exact this
    | true =>
     rw [hw,cond_true] at hr
     split at hr
     ·rename_i v a3 a4 hst
      split at hr
      ·rename_i f1 l1 ra rb hrest
       cases hr
       rw [List.map_append,List.map_append] at ha
       have hl:=List.append_inj ha (by simp);have a2:=uW.app hb;have:=(Ah a1 hG hS hrest hl.2 a2.2 hK).out;refine ⟨wpAnyH_take (v:=v) ho a1 hc.2 hc.1 (fun _ _ _ h=>h.elim) (.inl ⟨?_,fun w' hS' => ?_⟩) hS ?_⟩
       ·rw [show (fr E.N f).tmps=tm E.N f from rfl,mQ]; exact hw
       ·rw [Ai]; exact Dg hst hl.1 a2.1 (hG w' hS')
       ·rw [zT]; exact this
      ·cases hr
     ·cases hr
def wu (r:Option ((Nat→Value)×Array Bool×Ij)):Option ((Nat→Value)×List Bool):=match r with | some (f,l,_)=>some (f,l.toList) | none=>none
def um (r:Option ((Nat→Value)×Array Bool×Ij)) (s:Bool):List Value:=match r with | some (_,_,l,_)=>l.map (fun p=>bif s then p.1 else p.2) | none=>[]
def Cf (r:Option ((Nat→Value)×Array Bool×Ij)):List (Int×Nat):=match r with | some (_,_,_,l)=>l | none=>[]
theorem FC (G:List Grp) (hs:List (Nat×Hint)) (us:List (Nat×Value)) (bs:List (Int×Nat)) (l':List Bool)
  (a1:Region.noSelect ops=true) (hG:∀ w,S w→pV w G) (hS:S w) (hB:uW bs) (hr:wu (xB E.P E.N ops G hs l f)=some (bq f us,l')) (ha:um (xB E.P E.N ops G hs l f) true=um (xB E.P E.N ops G hs l f) false)
  (hb:Cf (xB E.P E.N ops G hs l f)=bs) (h:Held E k ops S n l'.toArray (bq f us) w):Held E k ops S (n + hs.length) l f w:=by
 cases e:xB E.P E.N ops G hs l f with
 | none=>rw [e] at hr; cases hr
 | some r =>
  obtain ⟨f',l2,oa,ob⟩:=r
  rw [e] at hr ha hb
  simp only [wu,Option.some.injEq,Prod.mk.injEq] at hr
  simp only [um] at ha
  simp only [Cf] at hb
  subst hb;refine Ah a1 hG hS e ?_ hB ?_
  ·simpa using ha
  ·rw [hr.1]
   have:l2=l'.toArray:=by rw [← hr.2]
   rw [this]
   exact h
def Each (E:Env) (k:List Item) (ops:Array Oper) (S:World→Prop) (n:Nat) (l:Array Bool) (f:Nat→Value) (w:World):List Nat→Prop
 | []=>True
 | i::r=>(∃ o,nth ops.toList i=some o∧wants E.N ops f o=true∧Eff E.P o (ev E.N f) w (fun v w'=>S w'∧Held E k ops S n (l.setIfInBounds i true) (qJ f o.dst v) w'))∧Each E k ops S n l f w r
theorem Each.get {rs:List Nat} (h:Each E k ops S n l f w rs):∀ i ∈ rs,∃ o,nth ops.toList i=some o∧wants E.N ops f o=true∧Eff E.P o (ev E.N f) w (fun v w'=>S w'∧Held E k ops S n (l.setIfInBounds i true) (qJ f o.dst v) w'):=by
 induction rs with
 | nil=>intro i hi; cases hi
 | cons j r ih =>
  intro i hi;rcases List.mem_cons.1 hi with rfl | hi
  ·exact h.1
  ·exact ih h.2 i hi
theorem kJ (rs:List Nat) (hne:rs≠[]) (hr:Region.ready .any ops l=rs) (h:Each E k ops S n l f w rs):Held E k ops S (n + 1) l f w:=by
 refine ⟨wpAnyH_all hr hne fun i hi => ?_⟩;obtain ⟨o,hn,hw,heff⟩:=h.get i hi;have ho:ops[i]? = some o:=by rw [Fz] at hn; simpa using hn
 unfold wpOp
 simp only [ho]
 rw [show Region.wanted o (yielded ops (fr E.N f).tmps)=wants E.N ops f o from mQ E.N _ f o,hw,if_pos rfl]
 refine .inl ?_;unfold Oper.wp Oper.upon
 rw [Ai]
 replace h:=heff.out;cases hr:(execOp (ev E.N f) o).run E.P w with
 | halt x w'=>rw [hr] at h; exact h.elim
 | ok n w' =>
  rw [hr] at h
  cases n <;> first
   | (dsimp only [Fy] at h ⊢; rw [zT]; exact ⟨h.1,h.2.out⟩)
   | (dsimp only [Fy] at h ⊢; refine Calls.mono h ?_; rintro e w'' ⟨v,rfl,h'⟩; dsimp only; rw [zT]; exact ⟨h'.1,h'.2.out⟩)
   | exact h.elim
theorem JS (i:Nat) (o:Oper) (hn:nth ops.toList i=some o) (hr:Region.ready .any ops l=[i]) (hw:wants E.N ops f o=true)
  (h:Eff E.P o (ev E.N f) w (fun v w'=>S w'∧Held E k ops S n (l.setIfInBounds i true) (qJ f o.dst v) w')):Held E k ops S (n + 1) l f w :=
 kJ [i] (by simp) hr ⟨⟨o,hn,hw,h⟩,trivial⟩
end
theorem sV {P:Program} {N:Nat} {ops:Array Oper} {o:Oper} {f:Nat→Value} {K:Value→World→Prop} {w:World} (G:List Grp) (h:Hint) (v:Value) (bs:List (Int×Nat))
  (hG:pV w G) (hB:uW bs) (hr:(yL P G o (ev N f) h).map (·.1)=some v) (ha:(yL P G o (ev N f) h).map (fun r=>r.2.1.map (·.1))=(yL P G o (ev N f) h).map (fun r=>r.2.1.map (·.2)))
  (hb:(yL P G o (ev N f) h).map (·.2.2)=some bs) (hK:K v w):Eff P o (ev N f) w K:=by
 cases e:yL P G o (ev N f) h with
 | none=>rw [e] at hr; cases hr
 | some r =>
  obtain ⟨v',oa,ob⟩:=r
  rw [e] at hr ha hb
  simp only [Option.map_some,Option.some.injEq] at hr ha hb
  subst hr hb;exact gX v' (Dg e ha hB hG) hK
end Go.Proofs.YtfpeabnehpclnaaGreatDoorE
namespace Go.Proofs.YtfpeabnehpclnaaGreatDoorE
open Go
set_option linter.unusedVariables false
set_option linter.unusedSimpArgs false
inductive Res where
 | t
 | c (g:Nat)
def yF (P:Program) (N:Nat) (f:Nat→Value) (G:List Grp):List ResultVar→List Res→Option (List Value×List (Value×Value))
 | [],[]=>some ([],[])
 | .tmp t::rs,.t::hs=>match yF P N f G rs hs with
  | some (vs,a)=>some (ev N f (.tmp t)::vs,a)
  | none=>none
 | .cell t ty::rs,.c g::hs=>match G[g]? with
  | some (b,o,cs)=>match cut P ty cs with
   | some v=>match yF P N f G rs hs with
    | some (vs,a)=>some (v::vs,(ev N f (.tmp t),.pointer (some ⟨b,o,none⟩))::a)
    | none=>none
   | none=>none
  | none=>none
 | _,_=>none
def Ig (tmps:Array Value):ResultVar→Sem Value
 | .tmp t=>pure (tmps.getD t undef)
 | .cell a t=>do loadVar t (← asAddr (tmps.getD a undef))
theorem Pe (N:Nat) (f:Nat→Value) (t:Nat):(tm N f).getD t undef=ev N f (.tmp t):=by
 have:=congrFun (Ai N f) (.tmp t);exact this
theorem Fw {P:Program} {N:Nat} {f:Nat→Value} {G:List Grp} {w:World} (hG:pV w G):∀ {rs:List ResultVar} {hs:List Res} {vs:List Value} {a:List (Value×Value)},yF P N f G rs hs=some (vs,a)→a.map (·.1)=a.map (·.2) →
  rs.length=vs.length∧∀ (i:Nat) r v,rs[i]? = some r→vs[i]? = some v→(Ig (tm N f) r).run P w = .ok v w
 | [],[],vs,a,h,_=>by
  simp only [yF,Option.some.injEq,Prod.mk.injEq] at h
  obtain ⟨rfl,rfl⟩:=h;exact ⟨rfl,fun i r v h=>by simp at h⟩
 | .tmp t::rs,.t::hs,vs,a,h,ha=>by
  simp only [yF] at h
  split at h
  ·rename_i vs' a' h'
   cases h;have ih:=Fw hG h' ha;refine ⟨by simp [ih.1],fun i r v hr hv => ?_⟩
   cases i with
   | zero =>
    simp only [List.getElem?_cons_zero,Option.some.injEq] at hr hv
    subst hr hv
    simp only [Ig,Pe,Sem.run,pure]
   | succ i=>exact ih.2 i r v (by simpa using hr) (by simpa using hv)
  ·cases h
 | .cell t ty::rs,.c g::hs,vs,a,h,ha=>by
  simp only [yF] at h
  split at h
  ·rename_i b o cs hg
   split at h
   ·rename_i v' hc
    split at h
    ·rename_i vs' a' h'
     cases h
     simp only [List.map_cons,List.cons.injEq] at ha
     have ih:=Fw hG h' ha.2;refine ⟨by simp [ih.1],fun i r v hr hv => ?_⟩
     cases i with
     | zero =>
      simp only [List.getElem?_cons_zero,Option.some.injEq] at hr hv
      subst hr hv;have hl:=Dy (P:=P) hc (hG.get hg)
      simp only [Ig,Pe,ha.1,asAddr,Sem.run_bind,Sem.run,pure,Result.andThen,hl]
     | succ i=>exact ih.2 i r v (by simpa using hr) (by simpa using hv)
    ·cases h
   ·cases h
  ·cases h
 | [],.t::_,_,_,h,_=>by simp [yF] at h
 | [],.c _::_,_,_,h,_=>by simp [yF] at h
 | .tmp _::_,[],_,_,h,_=>by simp [yF] at h
 | .tmp _::_,.c _::_,_,_,h,_=>by simp [yF] at h
 | .cell _ _::_,[],_,_,h,_=>by simp [yF] at h
 | .cell _ _::_,.t::_,_,_,h,_=>by simp [yF] at h
def Fx:List Value→Value
 | [v]=>v
 | vs => .tuple vs.toArray
theorem KU (fn:Func) (tmps:Array Value):results fn tmps=(do
  let vs ← fn.results.mapM (Ig tmps)
  pure (if h:vs.size=1 then vs[0] else .tuple vs)):=by
 unfold results
 congr 1
theorem JL {P:Program} {fn:Func} {N:Nat} {f:Nat→Value} {G:List Grp} {w:World} (hs:List Res) (vs:List Value) (v:Value) (hG:pV w G) (hn:Nat.ble fn.results.toList.length 4=true)
  (h:(yF P N f G fn.results.toList hs).map (·.1)=some vs) (ha:(yF P N f G fn.results.toList hs).map (fun r=>r.2.map (·.1))=(yF P N f G fn.results.toList hs).map (fun r=>r.2.map (·.2))) (hv:Fx vs=v) :
  (results fn (tm N f)).run P w = .ok v w:=by
 subst hv;cases e:yF P N f G fn.results.toList hs with
 | none=>rw [e] at h; cases h
 | some r =>
  obtain ⟨vs',a⟩:=r
  rw [e] at h ha
  simp only [Option.map_some,Option.some.injEq] at h ha
  subst h;obtain ⟨hl,hr⟩:=Fw hG e ha;have hn:=Nat.le_of_ble_eq_true hn
  rw [KU]
  obtain ⟨rs,hrs⟩:∃ rs,fn.results=rs:=⟨_,rfl⟩
  rw [hrs] at hl hr hn ⊢
  obtain ⟨rs⟩:=rs
  simp only at hl hr hn ⊢
  match rs,vs',hl,hr,hn with
  | [],[],_,_,_=>simp [Fx,Sem.run_bind]
  | [a],[v],_,hr,_ =>
   have h0:=hr 0 a v rfl rfl
   simp [Fx,Sem.run_bind,h0,Result.andThen]
  | [a,b],[v,u],_,hr,_ =>
   have h0:=hr 0 a v rfl rfl;have h1:=hr 1 b u rfl rfl
   simp [Fx,Sem.run_bind,h0,h1,Result.andThen]
  | [a,b,c],[v,u,t],_,hr,_ =>
   have h0:=hr 0 a v rfl rfl;have h1:=hr 1 b u rfl rfl;have h2:=hr 2 c t rfl rfl
   simp [Fx,Sem.run_bind,h0,h1,h2,Result.andThen]
  | [a,b,c,d],[v,u,t,s],_,hr,_ =>
   have h0:=hr 0 a v rfl rfl;have h1:=hr 1 b u rfl rfl;have h2:=hr 2 c t rfl rfl;have h3:=hr 3 d s rfl rfl
   simp [Fx,Sem.run_bind,h0,h1,h2,h3,Result.andThen]
  | _::_::_::_::_::_,_,_,_,hn=>simp only [List.length_cons] at hn; omega
section
variable {E:Env} {k:List Item} {f:Nat→Value} {w:World}
theorem fq {fn:Func} (G:List Grp) (hs:List Res) (vs:List Value) (v:Value) (hf:E.P.funcs[E.fn]? = some fn) (hG:pV w G) (hn:Nat.ble fn.results.toList.length 4=true)
  (h:(yF E.P E.N f G fn.results.toList hs).map (·.1)=some vs) (ha:(yF E.P E.N f G fn.results.toList hs).map (fun r=>r.2.map (·.1))=(yF E.P E.N f G fn.results.toList hs).map (fun r=>r.2.map (·.2))) (hv:Fx vs=v)
  (hR:E.R (.returned v) w) (h0:E.plain:=by exact ⟨rfl,rfl⟩):Go E (.code .ret::k) f w:=go_ret v hf (JL hs vs v hG hn h ha hv) hR h0
end
theorem JM {c1 c2:List Value} {vs:List Value} (h:vs.length=c1.length):splice (c1++c2) 0 vs=vs++c2:=by
 unfold splice
 rw [List.take_zero,List.nil_append,Nat.zero_add,h,List.drop_left]
theorem Ih {c1 c2:List Value} {j:Nat} {vs:List Value}:splice (c1++c2) (c1.length + j) vs=c1++splice c2 j vs:=by
 unfold splice
 rw [List.take_length_add_append,Nat.add_assoc,List.drop_length_add_append,List.append_assoc]
theorem bX.at {α:Type} {k:Ty α} {H:BM}:∀ {xs:List α} {F:Nat→Prop} {cs:List Value},bX k H F xs cs→∀ {j:Nat} {x:α},xs[j]? = some x →
  ∃ (c:List Value) (F1 F2:Nat→Prop),(∀ b,F1 b→F b)∧(∀ b,F2 b→F b)∧(∀ b,F1 b → ¬ F2 b)∧k.own H F1 x c∧c.length=k.sz∧(∀ i u,c[i]? = some u→cs[j * k.sz + i]? = some u) ∧
   ∀ (H':BM) (F1' F':Nat→Prop) (x':α) (c':List Value),k.own H' F1' x' c'→(∀ b,F2 b→H' b=H b)→(∀ b,F1' b → ¬ F2 b)→(∀ b,F1' b→F' b)→(∀ b,F2 b→F' b)→bX k H' F' (xs.set j x') (splice cs (j * k.sz) c')
 | [],_,_,_,j,x,hj=>by simp at hj
 | x0::xs,F,cs,⟨c1,c2,F1,F2,e,h1,h2,h3,h4,h5⟩,0,x,hj=>by
  simp only [List.getElem?_cons_zero,Option.some.injEq] at hj
  subst hj;have hl:=k.rd_len (k.own_rd h4);refine ⟨c1,F1,F2,h1,h2,h3,h4,hl,fun i u hu => ?_,fun H' F1' F' x' c' ho hH hd ha hb => ?_⟩
  ·rw [e,Nat.zero_mul,Nat.zero_add,List.getElem?_append_left (List.getElem?_eq_some_iff.1 hu).1]
   exact hu
  ·rw [e,Nat.zero_mul,JM ((k.rd_len (k.own_rd ho)).trans hl.symm),List.set_cons_zero]
   exact ⟨c',c2,F1',F2,rfl,ha,hb,hd,ho,h5.congr hH⟩
 | x0::xs,F,cs,⟨c1,c2,F1,F2,e,h1,h2,h3,h4,h5⟩,j + 1,x,hj=>by
  have hl:=k.rd_len (k.own_rd h4);obtain ⟨c,G1,G2,g1,g2,g3,g4,g5,g6,g7⟩:=h5.at (j:=j) (by simpa using hj);have harr:(j + 1) * k.sz=c1.length + j * k.sz:=by rw [hl,Nat.add_mul]; omega
  refine ⟨c,G1,fun b=>F1 b∨G2 b,fun b h=>h2 b (g1 b h),fun b h=>h.elim (h1 b) (fun h=>h2 b (g2 b h)),?_,g4,g5,fun i u hu => ?_,fun H' F1' F' x' c' ho hH hd ha hb => ?_⟩
  ·rintro b hb (h | h)
   ·exact h3 b h (g1 b hb)
   ·exact g3 b hb h
  ·rw [e,harr,Nat.add_assoc,List.getElem?_append_right (by omega),Nat.add_sub_cancel_left]
   exact g6 i u hu
  ·rw [e,harr,Ih,List.set_cons_succ]
   have:=g7 H' F1' (fun b=>F1' b∨G2 b) x' c' ho (fun b h=>hH b (.inr h)) (fun b hb h=>hd b hb (.inr h)) (fun b h => .inl h) (fun b h => .inr h);refine ⟨c1,_,F1,_,rfl,fun b h=>hb b (.inl h),fun b h=>h.elim (ha b) (fun h=>hb b (.inr h)),?_,k.own_congr h4 (fun b h=>hH b (.inl h)),this⟩;rintro b hF (h | h)
   ·exact hd b h (.inl hF)
   ·exact h3 b hF (g2 b h)
theorem KV {cs:List Value} {j:Nat} {vs:List Value} (h:j + vs.length≤cs.length) (hv:∀ i u,vs[i]? = some u→cs[j + i]? = some u):splice cs j vs=cs:=by
 apply List.ext_getElem?
 intro i;unfold splice;have hj:(cs.take j).length=j:=by rw [List.length_take]; omega
 rcases Nat.lt_or_ge i j with h1 | h1
 ·rw [List.getElem?_append_left (by omega),List.getElem?_take_of_lt h1]
 ·rw [List.getElem?_append_right (by omega),hj]
  rcases Nat.lt_or_ge (i - j) vs.length with h2 | h2
  ·rw [List.getElem?_append_left h2,List.getElem?_eq_getElem h2]
   have:=hv (i - j) _ (List.getElem?_eq_getElem h2)
   rw [show j + (i - j)=i by omega] at this
   exact this.symm
  ·rw [List.getElem?_append_right h2,List.getElem?_drop]
   congr 1
   omega
theorem Pf {α:Type} [Inhabited α] {xs:List α} {j:Int} (hj:0≤j∧j < xs.length):xs[j.toNat]? = some (idx xs j):=by
 have hl:j.toNat < xs.length:=by omega
 rw [idx,List.getD_eq_getElem?_getD,List.getElem?_eq_getElem hl]
 rfl
section
variable {P:Program} {o:Oper} {ev_:Operand→Value} {K:Value→World→Prop} {E:Env} {ops:Array Oper} {k:List Item} {f:Nat→Value} {w:World} {M:Mem} {L:List bV}
end
theorem Inv.call {M:Mem} {w:World} {L R L0:List bV} (h:Inv M w L) (js rest:List Nat) (hn:(js++rest).Nodup) (hL:(js++rest).map (L[·]?)=(R++L0).map some) :
  ∃ M1:Mem,Inv M1 w R∧Sub M.blk M1.blk∧(∀ (i:Nat) (a:bV),L0[i]? = some a→∃ F,a.Own M1.blk F)∧∀ w' L',Inv M1 w' L'→Inv M w' (L'++L0):=by
 have hI:=h.pick _ hn hL;obtain ⟨F1,F2,h1,h2,h3,a5,a2⟩:=hI.sep.split
 classical
 have hsub:∀ b o,(if F1 b then none else hp w b)=some o→hp w b=some o ∧ ¬ F1 b:=by
  intro b o hb
  split at hb
  ·cases hb
  ·exact ⟨hb,by assumption⟩
 refine ⟨⟨fun b=>if F1 b then none else hp w b,w.heap.size,w.os,w.tape,w.output⟩,⟨fun b o hb=>(hsub b o hb).1,Nat.le_refl _,rfl,rfl,rfl,a5.mono fun b hb=>⟨if_pos hb,(h1 b hb).2⟩⟩,?_,?_,?_⟩
 ·intro b o hb
  show (if F1 b then none else hp w b)=some o
  rw [if_neg]
  ·exact hI.fix b o hb
  ·intro hF;have:=(h1 b hF).1
   rw [hb] at this
   cases this
 ·intro i a hi;have a3:Go.Proofs.YtfpeabnehpclnaaGreatDoorE.sep L0 (fun b=>if F1 b then none else hp w b) F2:=a2.congr fun b hb=>if_neg (fun h=>h3 b h hb);obtain ⟨F,_,hown,_⟩:=a3.focus hi;exact ⟨F,hown⟩
 ·intro w' L' h';have a6:∀ b,F2 b→hp w' b=hp w b:=by
   intro b hb;cases e:hp w b with
   | none=>have:=(h2 b hb).2; simp [hp] at e; omega
   | some o=>exact h'.fix b o (by show (if F1 b then none else hp w b)=some o; rw [if_neg (fun h=>h3 b h hb)]; exact e)
  refine ⟨fun b o hb => ?_,Nat.le_trans hI.size h'.size,h'.os.trans hI.os,h'.tape.trans hI.tape,h'.output.trans hI.output,?_⟩
  ·refine h'.fix b o ?_
   show (if F1 b then none else hp w b)=some o
   rw [if_neg]
   ·exact hI.fix b o hb
   ·intro hF;have:=(h1 b hF).1
    rw [hb] at this
    cases this
  ·have h4:=h'.sep.append (a2.congr a6) (fun b hb hF=>by
    have hb:=hb.1;have hb:(if F1 b then none else hp w b)=none:=hb
    rw [if_neg (fun h=>h3 b h hF)] at hb
    have:=(h2 b hF).2
    simp [hp] at hb
    omega)
   refine h4.mono fun b hb => ?_;have hsz:w.heap.size≤w'.heap.size:=h'.size;rcases hb with ⟨a1,a4⟩ | hb
   ·refine ⟨?_,a4⟩;have a1:(if F1 b then none else hp w b)=none:=a1
    by_cases hF:F1 b
    ·exact (h1 b hF).1
    ·rw [if_neg hF] at a1
     cases e:M.blk b with
     | none=>rfl
     | some o=>rw [hI.fix b o e] at a1; cases a1
   ·have:=h2 b hb;exact ⟨this.1,by omega⟩
theorem uV {E:Env} {k:List Item} {f:Nat→Value} {w:World} {M:Mem} {L:List bV} {id:Nat} {l:List Oper} (n:Nat) (o:Oper) (G:List Grp) (hs:List Hint) (us:List (Nat×Value)) (bs:List (Int×Nat))
  (hm:E.P.follows .mixedOrders=true) (hB:Region.lexTailB .any l.toArray n=true) (hl:hs.length=n) (ho:l.drop n=[o])
  (hG:pV w G) (hb':uW bs) (hr:lL (iU E.P E.N l.toArray G hs 0 f)=some (bq f us)) (ha:ig (iU E.P E.N l.toArray G hs 0 f) true=ig (iU E.P E.N l.toArray G hs 0 f) false)
  (hb:uH (iU E.P E.N l.toArray G hs 0 f)=bs) (hw:wants E.N l.toArray (bq f us) o=true) (hI:Inv M w L)
  (h:∀ w',Inv M w' L→hp w'=hp w→Eff E.P o (ev E.N (bq f us)) w' (fun v w''=>Go E k (qJ (bq f us) o.dst v) w'')) (h0:E.plain:=by exact ⟨rfl,rfl⟩):Go E (.code (.region id l.toArray true)::k) f w:=by
 refine FI h0 (wp_region_still_tail n hm hB ?_);have h1:Rd E.P E.N l.toArray w.drew (hs.length + 0) 0 f (fun f'=>f'=bq f us):=FB (n:=0) 0 G hs us bs (Dj hG) hb' hr ha hb rfl
 rw [Nat.add_zero,hl] at h1
 have:=Cn (Q:=fun a'=>wpList E.P l.toArray (JX E k) (l.drop n) a' w.drew) (fun f' h'=>by
  subst h'
  rw [ho]
  exact Pp hw (h _ hI.drew' rfl)) h1
 simpa using this
end Go.Proofs.YtfpeabnehpclnaaGreatDoorE
namespace Go.Proofs.YtfpeabnehpclnaaGreatDoorE
open Go
set_option linter.unusedVariables false
set_option linter.unusedSimpArgs false
section
variable {P:Program} {o:Oper} {ev_:Operand→Value} {K:Value→World→Prop} {E:Env} {ops:Array Oper} {k:List Item} {f:Nat→Value} {w:World} {M:Mem} {L:List bV}
theorem Ro {α:Type} (kt:Ty α) (t e:TypeId) (inf:TypeInfo) (hop:o.op = .buildSlice t 0 #[]) (ht:P.underlying t=some (.slice e)) (hi:P.info? e=some inf) (hI:Inv M w L)
  (h:∀ b w',Inv M w' (L++[.row kt e (some ⟨b,0,none⟩) 0 0 ([]:List α)])→K (.slice (some ⟨b,0,none⟩) 0 0) w'):Eff P o ev_ w K:=by
 refine gX (.slice (some ⟨w.heap.size,0,none⟩) 0 0) (w':=w.alloc (.cells #[] e)) ?_ ?_
 ·simp only [execOp,hop,Instr.buildSlice,Sem.run_bind,bD ht,Result.andThen,run_sizeOf hi]
  simp [Sem.run,pure,Instr.fill,newRow,newObj]
  have:(Array.range 0) = #[]:=by decide
  rw [this,Array.map_empty]
 ·exact h _ _ (hI.alloc _ ⟨.inr ⟨w.heap.size,_,rfl,rfl,pg w _,Nat.le_refl _,Nat.zero_le _,by simp,by simp [bX]⟩,rfl⟩)
theorem DR (t ty e:TypeId) (i:TypeInfo) (ht:P.underlying t=some (.slice e)) (hi:P.info? e=some i) (A A2:Option Addr) (n c c2:Nat) (hnc:n≤c) :
  (Builtin.append_ #[t,t] ty #[.slice A n c,.slice A2 0 c2]).run P w = .ok (.slice A n c) w:=by
 cases A <;> cases A2 <;> simp [Builtin.append_,run_underlying ht,sizeOf,typeInfo,hi,Builtin.lenOf,Builtin.firstCells,loadCells,loadCellsFrom,hnc,storeCells]
theorem Dr {α:Type} {kt:Ty α} {enc:α→List Value} [Flat kt enc] (t ty e:TypeId) (s x:Operand) (inf:TypeInfo) (z:Value) (A A2:Option Addr) (n c:Nat) (xs ys:List α) (c2:Nat) (li:Nat) (rest:List Nat) (L':List bV)
  (hop:o.op = .call { callee := .builtin .append,args := #[s,x],argTypes := #[t,t] })
  (hs:ev_ s = .slice A n c) (hx:ev_ x = .slice A2 ys.length c2)
  (ht:P.underlying t=some (.slice e)) (hi:P.info? e=some inf) (hz:inf.zero=some z) (hsz:inf.size=kt.sz) (hzs:z.cells.size=kt.sz) (hpos:Nat.blt 0 kt.sz=true)
  (hI:Inv M w L) (hn:(li::rest).Nodup) (hL:(li::rest).map (L[·]?)=(.row kt e A n c xs::L').map some)
  (hr:rdS kt (hp w) A2 ys) (hbytes:((n + ys.length) + (n + ys.length) / 4 + 192) * inf.bytes≤281474976710656∧n + ys.length≤9223372036854775807)
  (h:∀ A' c' w',Inv M w' (.row kt e A' (xs++ys).length c' (xs++ys)::L')→K (.slice A' (xs++ys).length c') w'):Eff P o ev_ w K:=by
 rcases hr with rfl | ⟨b,of,rfl,hcs⟩
 ·have a1:=hI.pick _ hn hL;have hln:xs.length=n:=a1.rowlen 0 rfl;subst hln;have hle:xs.length≤c:=by
   obtain ⟨F,_,hown⟩:=a1.look (i:=0) rfl;exact eG.le hown.1
  refine gX (.slice A xs.length c) (w':=w) ?_ ?_
  ·have hargs:(#[s,x]:Array Operand).map (ev_) = #[.slice A xs.length c,.slice A2 0 c2]:=by simp [hs,hx]
   simp only [execOp,hop,resolve,invoke,builtin,Sem.run_bind,Sem.run,pure,Result.andThen,hargs,DR t o.type e inf ht hi A A2 xs.length c c2 hle]
  ·have:=h A c w (by simpa using a1)
   simpa using this
 ·have hlen:∀ x,(enc x).length=kt.sz:=fun x=>kt.rd_len (H:=hp w) (Flat.rd_iff.2 rfl);refine JB kt t ty e s x inf z A n c xs ys b of ys.length c2 (ys.flatMap enc) li [] rest [] L' hop hs hx ht hi hz hsz hzs hpos hI hn hL (zR hlen ys) rfl ?_ hbytes ?_ h
  ·intro j u hu
   rw [rV]
   exact rdS.cells hcs j u hu
  ·intro H F _;exact bX.flat.2 rfl
end
theorem Inv.rowle {M:Mem} {w:World} {L:List bV} (h:Inv M w L) (i:Nat) {α:Type} {k:Ty α} {e:TypeId} {A:Option Addr} {n c:Nat} {xs:List α} (hi:L[i]? = some (.row k e A n c xs)):xs.length≤c:=by
 obtain ⟨F1,_,hown⟩:=h.look hi;exact eG.le hown.1
def dW {α:Type} (xs:List α) (l h:Int):List α:=(xs.take h.toNat).drop l.toNat
theorem AO {P:Program} {w:World} {t e:TypeId} {inf:TypeInfo} (A:Option Addr) (n c:Nat) (lo hi:Option Value) (kl kh:IntKind) (l h:Int) (ht:P.underlying t=some (.slice e)) (hi':P.info? e=some inf)
  (hlo:lo.getD (.int .i64 0) = .int kl l) (hhi:hi.getD (.int .i64 n) = .int kh h) (hb:0≤l∧l≤h∧h≤n) (hc:n≤c) :
  (Instr.sliceAt t (.slice A n c) lo hi none).run P w = .ok (.slice (if c=l.toNat then A else A.map (·.add (l.toNat * inf.size))) (h.toNat - l.toNat) (c - l.toNat)) w:=by
 have hel:P.elem t=e:=by simp [Program.elem,ht]
 rw [run_sliceAt_slice w t _ _ _ _ (by rw [hel]; exact ht)]
 have hz:(sizeOf (P.elem t)).run P w = .ok inf.size w:=by rw [hel]; exact run_sizeOf hi'
 have ht':P.underlying t=some (.slice (P.elem t)):=by rw [hel]; exact ht
 cases lo <;> cases hi <;> simp only [Option.getD_none,Option.getD_some] at hlo hhi
 ·cases hlo; cases hhi
  rw [run_slice_all w t A n c ht',hz]
  simp [Result.andThen,sliced]
 ·cases hlo; subst hhi
  rw [run_slice_h w t A n c ht' kh h (by omega) (by omega),hz]
  simp [Result.andThen,sliced]
 ·cases hhi; subst hlo
  rw [run_slice_l w t A n c ht' kl l (by omega) (by omega),hz]
  simp [Result.andThen,sliced]
 ·subst hlo hhi
  rw [run_slice_lh w t A n c ht' kl kh l h (by omega) (by omega) (by omega),hz]
  simp [Result.andThen,sliced]
theorem zM {α:Type} {xs:List α} {l h:Int} (hb:0≤l∧l≤h∧h≤xs.length):(dW xs l h).length=h.toNat - l.toNat:=by
 unfold dW
 rw [List.length_drop,List.length_take]
 omega
section
variable {P:Program} {o:Oper} {ev_:Operand→Value} {K:Value→World→Prop} {w:World} {M:Mem} {L:List bV}
theorem rdS.sub {α:Type} {k:Ty α} {H:BM} {A:Option Addr} {xs:List α} {c:Nat} {l h:Int} {sz:Nat} (hr:rdS k H A xs) (hc:xs.length≤c) (hb:0≤l∧l≤h∧h≤xs.length) (hsz:sz=k.sz) :
  rdS k H (if c=l.toNat then A else A.map (·.add (l.toNat * sz))) (dW xs l h):=by
 subst hsz
 by_cases e:c=l.toNat
 ·left
  apply List.eq_nil_of_length_eq_zero
  rw [zM hb]
  omega
 ·rw [if_neg e]
  rcases hr with rfl | ⟨b,o,rfl,hcs⟩
  ·left; simp [dW]
  ·right
   refine ⟨b,o + l.toNat * k.sz,by simp [addr_add],fun j x hj => ?_⟩
   unfold dW at hj
   rw [List.getElem?_drop,List.getElem?_take] at hj
   split at hj
   ·obtain ⟨cs,h1,h2⟩:=hcs _ _ hj;refine ⟨cs,h1,fun i u hu => ?_⟩
    rw [show o + l.toNat * k.sz + j * k.sz + i=o + (l.toNat + j) * k.sz + i by rw [Nat.add_mul]; omega]
    exact h2 i u hu
   ·cases hj
theorem mG {α:Type} (kt:Ty α) (H:BM) (t e:TypeId) (x:Operand) (lo hi:Option Operand) (inf:TypeInfo) (A:Option Addr) (c:Nat) (xs:List α) (kl kh:IntKind) (l h:Int) (hop:o.op = .slice t x lo hi none)
  (hx:ev_ x = .slice A xs.length c) (hlo:(lo.map ev_).getD (.int .i64 0) = .int kl l) (hhi:(hi.map ev_).getD (.int .i64 xs.length) = .int kh h)
  (ht:P.underlying t=some (.slice e)) (hi':P.info? e=some inf) (hsz:inf.size=kt.sz) (hr:rdS kt H A xs) (hc:xs.length≤c) (hb:0≤l∧l≤h∧h≤xs.length)
  (h:∀ A' c',rdS kt H A' (dW xs l h)→(dW xs l h).length≤c'→K (.slice A' (dW xs l h).length c') w):Eff P o ev_ w K:=by
 have hrun:=AO (w:=w) A xs.length c (lo.map ev_) (hi.map ev_) kl kh l _ ht hi' hlo hhi hb hc;refine gX _ (w':=w) ?_ (h _ (c - l.toNat) (hr.sub hc hb hsz) ?_)
 ·simp only [execOp,hop,hx,Option.map_none,Sem.run_bind,hrun,Result.andThen,Sem.run,pure,zM hb]
 ·rw [zM hb]; omega
end
def Mk {α:Type} (k:Ty α) (R:List bV) (x:α) (cs:List Value):Prop:=∀ (H:BM) (F:Nat→Prop),sep R H F→k.own H F x cs
def MkS {α:Type} (k:Ty α) (R:List bV) (xs:List α) (cs:List Value):Prop:=∀ (H:BM) (F:Nat→Prop),sep R H F→bX k H F xs cs
theorem oZ {α:Type} {k:Ty α} {enc:α→List Value} [Flat k enc] (x:α) (cs:List Value) (h:cs=enc x):Mk k [] x cs:=fun _ _ _=>Flat.own_iff.2 h
theorem wm {α:Type} {k:Ty α} {e:TypeId} {A:Option Addr} {n c:Nat} {xs:List α}:Mk (cB e k) [.row k e A n c xs] xs [.slice A n c]:=by
 rintro H F ⟨F1,F2,h1,h2,h3,⟨hr,hl⟩,_⟩;subst hl;exact ⟨A,c,rfl,hr.mono h1⟩
theorem KO {α:Type} {k:Ty α} {e:TypeId}:Mk (cB e k) [] ([]:List α) [.slice none 0 0]:=fun _ _ _=>⟨none,0,rfl,eG.nil⟩
theorem eZ {α β:Type} {a:Ty α} {b:Ty β} {R1 R2:List bV} {x:α} {y:β} {c1 c2:List Value} (h1:Mk a R1 x c1) (h2:Mk b R2 y c2):Mk (cu a b) (R1++R2) (x,y) (c1++c2):=by
 intro H F h;obtain ⟨F1,F2,g1,g2,g3,s1,s2⟩:=h.split;exact ⟨c1,c2,F1,F2,rfl,g1,g2,g3,h1 H F1 s1,h2 H F2 s2⟩
theorem xA {α β:Type} {k:Ty α} {g:β→α} {R:List bV} {x:β} {cs:List Value} (h:Mk k R (g x) cs):Mk (k.iso g) R x cs:=h
theorem rU {α:Type} {k:Ty α}:MkS k [] ([]:List α) []:=fun _ _ _=>rfl
theorem jN {α:Type} {k:Ty α} {R1 R2:List bV} {x:α} {xs:List α} {c1 c2:List Value} (h1:Mk k R1 x c1) (h2:MkS k R2 xs c2):MkS k (R1++R2) (x::xs) (c1++c2):=by
 intro H F h;obtain ⟨F1,F2,g1,g2,g3,s1,s2⟩:=h.split;exact ⟨c1,c2,F1,F2,rfl,g1,g2,g3,h1 H F1 s1,h2 H F2 s2⟩
theorem Inv.recell {M:Mem} {w:World} {L:List bV} (h:Inv M w L) (li:Nat) {b:Nat} {t:TypeId} {cs:List Value} (cs':List Value) (he:cs=cs') (hi:L[li]? = some (.blk b t cs)):Inv M w (L.set li (.blk b t cs')):=by
 subst he
 rw [JI hi]
 exact h
theorem Inv.asrow {M:Mem} {w:World} {L L' R:List bV} {α:Type} {k:Ty α} {b:Nat} {e:TypeId} {cs:List Value} {xs:List α} (n:Nat) (h:Inv M w L) (li:Nat) (js rest:List Nat) (hn:(li::(js++rest)).Nodup)
  (hL:(li::(js++rest)).map (L[·]?)=(.blk b e cs::(R++L')).map some) (hmk:MkS k R xs cs) (hl:cs.length=xs.length * k.sz) (hx:xs.length=n) (hm:Nat.ble n maxLen=true) :
  Inv M w (.row k e (some ⟨b,0,none⟩) n n xs::L'):=by
 have hI:=h.pick _ hn hL;subst hx;refine ⟨hI.fix,hI.size,hI.os,hI.tape,hI.output,?_⟩;obtain ⟨F1,F2,h1,h2,h3,hown,hsep⟩:=hI.sep;obtain ⟨G1,G2,g1,g2,g3,hsR,hsL⟩:=hsep.split;refine ⟨fun b'=>F1 b'∨G1 b',G2,?_,fun b' h=>h2 b' (g2 b' h),?_,⟨.inr ⟨b,cs.toArray,rfl,.inl hown.1,hown.2,Nat.le_refl _,Nat.le_of_ble_eq_true hm,by simpa using hl,?_⟩,rfl⟩,hsL⟩
 ·rintro b' (h | h)
  ·exact h1 b' h
  ·exact h2 b' (g1 b' h)
 ·rintro b' (h | h) h'
  ·exact h3 b' h (g2 b' h')
  ·exact g3 b' h h'
 ·have:(cs.toArray.toList.take (xs.length * k.sz))=cs:=by
   rw [List.toList_toArray,← hl,List.take_length]
  rw [this]
  exact (hmk _ _ hsR).mono (fun b' h=>⟨.inr h,fun e=>h3 b hown.1 (e ▸ g1 b' h)⟩)
end Go.Proofs.YtfpeabnehpclnaaGreatDoorE
