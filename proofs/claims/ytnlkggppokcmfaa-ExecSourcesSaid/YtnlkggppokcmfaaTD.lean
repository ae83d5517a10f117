import Derived.Test.YtnlkggppokcmfaaY
namespace Go.Proofs.YtnlkggppokcmfaaT
open Go Go.Proofs Go.Proofs.YtnlkggppokcmfaaE
set_option linter.unusedVariables false
set_option linter.unusedSimpArgs false
set_option maxHeartbeats 0
set_option maxRecDepth 4096
structure cu where
 key:ByteArray
 arg:Int
 deriving Inhabited,DecidableEq
def cu.enc (x:cu):List Value:=[.string x.key,.int .i64 x.arg]
abbrev DR:Ty cu:=Ty.flat 2 cu.enc (fun _=>rfl) (fun _=>El rfl)
instance : Flat DR cu.enc:=⟨Iff.rfl,Iff.rfl⟩
structure aT where
 keys:List ByteArray
 at_:List (ByteArray×Int)
 types:List Int
 facts:List (cu×Unit)
 incs:List (ByteArray×(List Int))
 deriving Inhabited
structure Call where
 Kind:Int
 Key:ByteArray
 Arg:Int
 Got:Bool
 Vals:List Int
 deriving Inhabited
abbrev xk:Ty Call:=Ty.iso (bO (aH .i64) (bO jB (bO (aH .i64) (bO qV (bG 2 (aH .i64)))))) (fun g:Call=>(g.Kind,g.Key,g.Arg,g.Got,g.Vals))
abbrev tH (N:BM):Ty Call:=Ty.iso (bO (aH .i64) (bO jB (bO (aH .i64) (bO qV (Ie N (aH .i64)))))) (fun g:Call=>(g.Kind,g.Key,g.Arg,g.Got,g.Vals))
theorem Ff (N:BM):vT N (tH N) xk:=FR (uq uo (uq uo (uq uo (uq uo En))))
structure Event where
 Proc:Int
 Kind:Int
 Calls:List Call
 deriving Inhabited
abbrev DT:Ty Event:=Ty.iso (bO (aH .i64) (bO (aH .i64) (bG 89 xk))) (fun g:Event=>(g.Proc,g.Kind,g.Calls))
structure Op where
 Kind:Int
 Key:Int
 Arg:Int
 Got:Bool
 Vals:List Int
 deriving Inhabited
abbrev kOp:Ty Op:=Ty.iso (bO (aH .i64) (bO (aH .i64) (bO (aH .i64) (bO qV (bG 2 (aH .i64)))))) (fun g:Op=>(g.Kind,g.Key,g.Arg,g.Got,g.Vals))
structure Txn where
 Proc:Int
 Status:Int
 From:Int
 To:Int
 Ops:List Op
 deriving Inhabited
abbrev mq:Ty Txn:=Ty.iso (bO (aH .i64) (bO (aH .i64) (bO (aH .i64) (bO (aH .i64) (bG 64 kOp))))) (fun g:Txn=>(g.Proc,g.Status,g.From,g.To,g.Ops))
structure History where
 Keys:List ByteArray
 Txns:List Txn
 deriving Inhabited
structure Ask where
 Txn:Int
 Place:Int
 Key:Int
 Base:List Int
 deriving Inhabited
abbrev DU:Ty Ask:=Ty.iso (bO (aH .i64) (bO (aH .i64) (bO (aH .i64) (bG 2 (aH .i64))))) (fun g:Ask=>(g.Txn,g.Place,g.Key,g.Base))
structure fP where
 Txn:Int
 Place:Int
 deriving Inhabited,DecidableEq
def fP.enc (x:fP):List Value:=[.int .i64 x.Txn,.int .i64 x.Place]
abbrev Cw:Ty fP:=Ty.flat 2 fP.enc (fun _=>rfl) (fun _=>El rfl)
instance : Flat Cw fP.enc:=⟨Iff.rfl,Iff.rfl⟩
structure dS where
 asks:List Ask
 bad:List fP
 deriving Inhabited
structure bN where
 h:History
 order:List Int
 at_:List (Int×Int)
 deriving Inhabited
structure Exec where
 Order:List Int
 Picks:List Int
 deriving Inhabited
structure aB where
 keys:List ByteArray
 types:List Int
 wrote:List (List Int)
 incs:List Int
 last_:List Int
 deriving Inhabited
structure kr where
 Key:Int
 Txn:Int
 deriving Inhabited,DecidableEq
def kr.enc (x:kr):List Value:=[.int .i64 x.Key,.int .i64 x.Txn]
abbrev yj:Ty kr:=Ty.flat 2 kr.enc (fun _=>rfl) (fun _=>El rfl)
instance : Flat yj kr.enc:=⟨Iff.rfl,Iff.rfl⟩
structure aF where
 txn:Int
 args:List Int
 deriving Inhabited
abbrev fA:Ty aF:=Ty.iso (bO (aH .i64) (bG 2 (aH .i64))) (fun g:aF=>(g.txn,g.args))
abbrev Rw2 (A:Option Addr) (c:Nat) (l:List Int):bP := .row (aH .i64) 2 A l.length c l
abbrev Rn2 (A:Option Addr) (n c:Nat) (l:List Int):bP := .row (aH .i64) 2 A n c l
abbrev Rw3 (A:Option Addr) (c:Nat) (l:List Int):bP := .row (aH .i64) 3 A l.length c l
abbrev Rn3 (A:Option Addr) (n c:Nat) (l:List Int):bP := .row (aH .i64) 3 A n c l
abbrev Rw9 (A:Option Addr) (c:Nat) (l:List ByteArray):bP := .row jB 9 A l.length c l
abbrev Rn9 (A:Option Addr) (n c:Nat) (l:List ByteArray):bP := .row jB 9 A n c l
abbrev Il (A:Option Addr) (c:Nat) (l:List Ask):bP := .row DU 37 A l.length c l
abbrev Im (A:Option Addr) (c:Nat) (l:List Txn):bP := .row mq 41 A l.length c l
abbrev Ky (A:Option Addr) (n c:Nat) (l:List Txn):bP := .row mq 41 A n c l
abbrev Io (A:Option Addr) (n c:Nat) (l:List Op):bP := .row kOp 64 A n c l
abbrev Cx (A:Option Addr) (c:Nat) (l:List aF):bP := .row fA 118 A l.length c l
abbrev Cy (A:Option Addr) (c:Nat) (l:List fP):bP := .row Cw 160 A l.length c l
abbrev Or2 (A:Option Addr) (c:Nat) (l:List Int):bP:=orA noM (aH .i64) 2 A l.length c l
abbrev Or3 (A:Option Addr) (c:Nat) (l:List Int):bP:=orA noM (aH .i64) 3 A l.length c l
abbrev zQ (b:Nat) (m:List (Int×Int)):bP:=AB (fun x:Int => .int .i64 x) (fun x:Int => .int .i64 x) b m
abbrev xm (b:Nat) (m:List (ByteArray×Int)):bP:=AB (fun x:ByteArray => .string x) (fun x:Int => .int .i64 x) b m
abbrev xn (b:Nat) (m:List (cu×Unit)):bP:=AB (fun x:cu => .agg #[.string x.key,.int .i64 x.arg]) (fun _:Unit => .agg #[]) b m
abbrev Be (b:Nat) (m:List (ByteArray×(List Int))):bP:=rD (fun x:ByteArray => .string x) (bG 3 (aH .i64)) b m
abbrev FY (b:Nat) (m:List (Int×Int)):bP:=AB (fun x:Int => .int .i64 x) (fun x:Int => .int .i64 x) b m
abbrev zR (b:Nat) (m:List (Int×Unit)):bP:=AB (fun x:Int => .int .i64 x) (fun _:Unit => .agg #[]) b m
abbrev Bf (b:Nat) (m:List (Int×(List Int))):bP:=rD (fun x:Int => .int .i64 x) (bG 2 (aH .i64)) b m
abbrev rY (x:History) (A0:Option Addr) (c0:Nat) (A1:Option Addr) (c1:Nat):List Value:=[vS A0 x.Keys.length c0,vS A1 x.Txns.length c1]
abbrev tJ (x:History) (A0:Option Addr) (c0:Nat) (A1:Option Addr) (c1:Nat):Value := .agg (rY x A0 c0 A1 c1).toArray
abbrev ku (b:Nat) (x:History) (A0:Option Addr) (c0:Nat) (A1:Option Addr) (c1:Nat):bP := .blk b 25 (rY x A0 c0 A1 c1)
abbrev zS (x:Ask) (A3:Option Addr) (c3:Nat):List Value:=[vI x.Txn,vI x.Place,vI x.Key,vS A3 x.Base.length c3]
abbrev BJ (x:Ask) (A3:Option Addr) (c3:Nat):Value := .agg (zS x A3 c3).toArray
abbrev xq (b:Nat) (x:Ask) (A3:Option Addr) (c3:Nat):bP := .blk b 37 (zS x A3 c3)
abbrev zl (x:Txn) (A4:Option Addr) (c4:Nat):List Value:=[vI x.Proc,vI x.Status,vI x.From,vI x.To,vS A4 x.Ops.length c4]
abbrev Fg (x:Txn) (A4:Option Addr) (c4:Nat):Value := .agg (zl x A4 c4).toArray
abbrev FZ (b:Nat) (x:Txn) (A4:Option Addr) (c4:Nat):bP := .blk b 41 (zl x A4 c4)
abbrev Ip (x:Exec) (A0:Option Addr) (c0:Nat) (A1:Option Addr) (c1:Nat):List Value:=[vS A0 x.Order.length c0,vS A1 x.Picks.length c1]
abbrev Kz (x:Exec) (A0:Option Addr) (c0:Nat) (A1:Option Addr) (c1:Nat):Value := .agg (Ip x A0 c0 A1 c1).toArray
abbrev AR (b:Nat) (x:Exec) (A0:Option Addr) (c0:Nat) (A1:Option Addr) (c1:Nat):bP := .blk b 59 (Ip x A0 c0 A1 c1)
abbrev DV (x:Op) (A4:Option Addr) (c4:Nat):List Value:=[vI x.Kind,vI x.Key,vI x.Arg,vB x.Got,vS A4 x.Vals.length c4]
abbrev wI (b:Nat) (x:Op) (A4:Option Addr) (c4:Nat):bP := .blk b 64 (DV x A4 c4)
abbrev Ga (x:Event) (A2:Option Addr) (c2:Nat):List Value:=[vI x.Proc,vI x.Kind,vS A2 x.Calls.length c2]
abbrev KO (x:Event) (A2:Option Addr) (c2:Nat):Value := .agg (Ga x A2 c2).toArray
abbrev KA (b:Nat) (x:Event) (A2:Option Addr) (c2:Nat):bP := .blk b 84 (Ga x A2 c2)
abbrev DW (x:Call) (A4:Option Addr) (c4:Nat):List Value:=[vI x.Kind,.string x.Key,vI x.Arg,vB x.Got,vS A4 x.Vals.length c4]
abbrev Gb (x:Call) (A4:Option Addr) (c4:Nat):Value := .agg (DW x A4 c4).toArray
abbrev uI (b:Nat) (x:Call) (A4:Option Addr) (c4:Nat):bP := .blk b 89 (DW x A4 c4)
abbrev yS (x:bN) (A0:Option Addr) (c0:Nat) (A1:Option Addr) (c1:Nat) (A2:Option Addr) (c2:Nat) (b3:Nat):List Value:=[vS A0 x.h.Keys.length c0,vS A1 x.h.Txns.length c1,vS A2 x.order.length c2,.map (some b3)]
abbrev EA (x:bN) (A0:Option Addr) (c0:Nat) (A1:Option Addr) (c1:Nat) (A2:Option Addr) (c2:Nat) (b3:Nat):Value := .agg (yS x A0 c0 A1 c1 A2 c2 b3).toArray
abbrev pg (b:Nat) (x:bN) (A0:Option Addr) (c0:Nat) (A1:Option Addr) (c1:Nat) (A2:Option Addr) (c2:Nat) (b3:Nat):bP := .blk b 101 (yS x A0 c0 A1 c1 A2 c2 b3)
abbrev Gc (x:dS) (A0:Option Addr) (c0:Nat) (A1:Option Addr) (c1:Nat):List Value:=[vS A0 x.asks.length c0,vS A1 x.bad.length c1]
abbrev KC (x:dS) (A0:Option Addr) (c0:Nat) (A1:Option Addr) (c1:Nat):Value := .agg (Gc x A0 c0 A1 c1).toArray
abbrev zT (x:aF) (A1:Option Addr) (c1:Nat):List Value:=[vI x.txn,vS A1 x.args.length c1]
abbrev Gd (x:aF) (A1:Option Addr) (c1:Nat):Value := .agg (zT x A1 c1).toArray
abbrev Bg (b:Nat) (x:aF) (A1:Option Addr) (c1:Nat):bP := .blk b 118 (zT x A1 c1)
abbrev uW (b:Nat) (A0:Option Addr) (c0:Nat) (x0:List Ask) (A1:Option Addr) (c1:Nat) (x1:List fP):List bP:=[.blk b 110 [vS A0 x0.length c0,vS A1 x1.length c1],Il A0 c0 x0,Cy A1 c1 x1]
abbrev JU (b:Nat) (x:dS) (A0:Option Addr) (c0:Nat) (A1:Option Addr) (c1:Nat):List bP:=uW b A0 c0 x.asks A1 c1 x.bad
abbrev uX (b:Nat) (A0:Option Addr) (c0:Nat) (x0:List ByteArray) (b1:Nat) (x1:List (ByteArray×Int)) (A2:Option Addr) (c2:Nat) (x2:List Int) (b3:Nat) (x3:List (cu×Unit)) (b4:Nat) (x4:List (ByteArray×(List Int))):List bP:=[.blk b 136 [vS A0 x0.length c0,.map (some b1),vS A2 x2.length c2,.map (some b3),.map (some b4)],Rw9 A0 c0 x0,xm b1 x1,Rw3 A2 c2 x2,xn b3 x3,Be b4 x4]
abbrev Gf (b:Nat) (x:aT) (A0:Option Addr) (c0:Nat) (b1:Nat) (A2:Option Addr) (c2:Nat) (b3:Nat) (b4:Nat):List bP:=uX b A0 c0 x.keys b1 x.at_ A2 c2 x.types b3 x.facts b4 x.incs
theorem Cz {H:BM} {x:Ask} {cs:List Value} (h:DU.rd H x cs):∃ A3 c3,cs=zS x A3 c3∧x.Base.length≤c3∧rdS (aH .i64) H A3 x.Base:=by
 obtain ⟨_,_,rfl,rfl,⟨_,_,rfl,rfl,⟨_,_,rfl,rfl,⟨A0,c0,rfl,l0,r0⟩⟩⟩⟩:=h;exact ⟨A0,c0,rfl,l0,r0⟩
theorem nS {H:BM} {x:Txn} {cs:List Value} (h:mq.rd H x cs):∃ A4 c4,cs=zl x A4 c4∧x.Ops.length≤c4∧rdS kOp H A4 x.Ops:=by
 obtain ⟨_,_,rfl,rfl,⟨_,_,rfl,rfl,⟨_,_,rfl,rfl,⟨_,_,rfl,rfl,⟨A0,c0,rfl,l0,r0⟩⟩⟩⟩⟩:=h;exact ⟨A0,c0,rfl,l0,r0⟩
theorem Gg {H:BM} {x:Op} {cs:List Value} (h:kOp.rd H x cs):∃ A4 c4,cs=DV x A4 c4∧x.Vals.length≤c4∧rdS (aH .i64) H A4 x.Vals:=by
 obtain ⟨_,_,rfl,rfl,⟨_,_,rfl,rfl,⟨_,_,rfl,rfl,⟨_,_,rfl,rfl,⟨A0,c0,rfl,l0,r0⟩⟩⟩⟩⟩:=h;exact ⟨A0,c0,rfl,l0,r0⟩
theorem Iq {H:BM} {x:Event} {cs:List Value} (h:DT.rd H x cs):∃ A2 c2,cs=Ga x A2 c2∧x.Calls.length≤c2∧rdS xk H A2 x.Calls:=by
 obtain ⟨_,_,rfl,rfl,⟨_,_,rfl,rfl,⟨A0,c0,rfl,l0,r0⟩⟩⟩:=h;exact ⟨A0,c0,rfl,l0,r0⟩
theorem Kb {H:BM} {x:Call} {cs:List Value} (h:xk.rd H x cs):∃ A4 c4,cs=DW x A4 c4∧x.Vals.length≤c4∧rdS (aH .i64) H A4 x.Vals:=by
 obtain ⟨_,_,rfl,rfl,⟨_,_,rfl,rfl,⟨_,_,rfl,rfl,⟨_,_,rfl,rfl,⟨A0,c0,rfl,l0,r0⟩⟩⟩⟩⟩:=h;exact ⟨A0,c0,rfl,l0,r0⟩
theorem fu {H:BM} {x:aF} {cs:List Value} (h:fA.rd H x cs):∃ A1 c1,cs=zT x A1 c1∧x.args.length≤c1∧rdS (aH .i64) H A1 x.args:=by
 obtain ⟨_,_,rfl,rfl,⟨A0,c0,rfl,l0,r0⟩⟩:=h;exact ⟨A0,c0,rfl,l0,r0⟩
theorem JV (x:Ask) {R3:List bP} {c3:List Value} (h3:Mk (bG 2 (aH .i64)) R3 x.Base c3):Mk DU ([]++([]++([]++R3))) x ([vI x.Txn]++([vI x.Place]++([vI x.Key]++c3))):=yP (g:=fun g:Ask=>(g.Txn,g.Place,g.Key,g.Base)) (x:=x) (gU (lX _ _ rfl) (gU (lX _ _ rfl) (gU (lX _ _ rfl) h3)))
theorem JW (x:Txn) {R4:List bP} {c4:List Value} (h4:Mk (bG 64 kOp) R4 x.Ops c4):Mk mq ([]++([]++([]++([]++R4)))) x ([vI x.Proc]++([vI x.Status]++([vI x.From]++([vI x.To]++c4)))):=yP (g:=fun g:Txn=>(g.Proc,g.Status,g.From,g.To,g.Ops)) (x:=x) (gU (lX _ _ rfl) (gU (lX _ _ rfl) (gU (lX _ _ rfl) (gU (lX _ _ rfl) h4))))
theorem KD (x:Op) {R4:List bP} {c4:List Value} (h4:Mk (bG 2 (aH .i64)) R4 x.Vals c4):Mk kOp ([]++([]++([]++([]++R4)))) x ([vI x.Kind]++([vI x.Key]++([vI x.Arg]++([vB x.Got]++c4)))):=yP (g:=fun g:Op=>(g.Kind,g.Key,g.Arg,g.Got,g.Vals)) (x:=x) (gU (lX _ _ rfl) (gU (lX _ _ rfl) (gU (lX _ _ rfl) (gU (lX _ _ rfl) h4))))
theorem AU (x:aF) {R1:List bP} {c1:List Value} (h1:Mk (bG 2 (aH .i64)) R1 x.args c1):Mk fA ([]++R1) x ([vI x.txn]++c1):=yP (g:=fun g:aF=>(g.txn,g.args)) (x:=x) (gU (lX _ _ rfl) h1)
noncomputable def jR (a0:List ByteArray) (a1:ByteArray):Int→Option (Int ⊕ Int)
 | a2=>bif decide (a2 < (a0.length:Int)) then must (0≤a2∧a2 < (a0.length:Int)) (bif sEq a1 (idx a0 a2) then out (some a2) else (some (.inl (w64 (a2 + 1))))) else (out (some (-1)))
noncomputable def slices_Index_string (a0:List ByteArray) (a1:ByteArray):Option Int :=
 iter (jR a0 a1) 0
noncomputable def slices_Contains_string (a0:List ByteArray) (a1:ByteArray):Option Bool :=
 (slices_Index_string a0 a1).bind fun y3=>some (decide (y3 ≥ 0))
noncomputable def mH:Option aT :=
 some (⟨([]:List ByteArray),([]:List (ByteArray×Int)),([]:List Int),([]:List (cu×Unit)),([]:List (ByteArray×(List Int)))⟩:aT)
noncomputable def tK (a0:Int):Option (Int×Int) :=
 bif (a0 == 5) then some (0,1) else (bif (a0 == 8) then some (1,1) else (some (0,64)))
noncomputable def oJ (a0:Call) (a1:Int) (a2:Bool):Option (Int ⊕ Bool) :=
 bif a2 then must (0≤w64 (a1 - 1)∧w64 (a1 - 1) < (a0.Vals.length:Int)) (must (0≤a1∧a1 < (a0.Vals.length:Int)) (bif decide (idx a0.Vals (w64 (a1 - 1)) ≥ idx a0.Vals a1) then out (some false) else (some (.inl (w64 (a1 + 1)))))) else (out (some true))
noncomputable def oK (a0:Call):Int→Option (Int ⊕ Bool)
 | a1=>bif (a0.Kind == 7) then oJ a0 a1 (decide (a1 < (a0.Vals.length:Int))) else (oJ a0 a1 false)
noncomputable def oL (a0:Call) (a1:Bool):Option Bool :=
 bif a1 then some false else (iter (oK a0) 1)
noncomputable def oM (a0:Call) (a2:Bool):Option Bool :=
 bif a2 then some false else (bif !a0.Got then some ((a0.Vals.length:Int) == 0) else ((tK a0.Kind).bind fun a1=>bif decide ((a0.Vals.length:Int) < a1.1) then oL a0 true else (oL a0 (decide ((a0.Vals.length:Int) > a1.2)))))
noncomputable def kG (a0:Call) (a1:Int) (a2:Bool):Option Bool :=
 bif a2 then some false else (bif decide (a0.Kind≤4) then bif !a0.Got then bif ((a0.Vals.length:Int) == 0) then bif (a0.Kind != 4) then some true else (bif decide ((-1048576)≤a0.Arg) then some (decide (a0.Arg≤1048576)) else (some false)) else (some false) else (some false) else (bif (a0.Arg != 0) then oM a0 true else (oM a0 (a0.Got != (a1 == 1)))))
noncomputable def bL (a0:Call) (a1:Int):Option Bool :=
 bif decide (a0.Kind < 1) then kG a0 a1 true else (bif decide (a0.Kind > 8) then kG a0 a1 true else (bif sEq a0.Key (⟨#[]⟩:ByteArray) then kG a0 a1 true else (kG a0 a1 (decide ((a0.Key.size:Int) > 32)))))
noncomputable def qf (a0:Call) (a1:Event):Option Bool :=
 (bL a0 a1.Kind).bind fun y5=>some (!y5)
noncomputable def eY (a0:List Call) (a1c0:Event):Int→Option (Int ⊕ Int)
 | a1=>bif decide (a1 < (a0.length:Int)) then must (0≤a1∧a1 < (a0.length:Int)) ((qf (idx a0 a1) a1c0).bind fun a2=>bif a2 then out (some a1) else (some (.inl (w64 (a1 + 1))))) else (out (some (-1)))
noncomputable def bu (a0:List Call) (a1c0:Event):Option Int :=
 iter (eY a0 a1c0) 0
noncomputable def dw (a0:List Call) (a1c0:Event):Option Bool :=
 (bu a0 a1c0).bind fun y3=>some (decide (y3 ≥ 0))
noncomputable def mr (a0:List Event) (a1:Int) (a2:Bool):Option (Int ⊕ Int) :=
 bif a2 then out (some 1) else ((dw ((idx a0 a1).Calls) (idx a0 a1)).bind fun a3=>bif a3 then out (some 1) else (some (.inl (w64 (a1 + 1)))))
noncomputable def rZ (a0:List Event):Int→Option (Int ⊕ Int)
 | a1=>bif decide (a1 < (a0.length:Int)) then must (0≤a1∧a1 < (a0.length:Int)) (bif decide ((idx a0 a1).Kind < 0) then mr a0 a1 true else (bif decide ((idx a0 a1).Kind > 3) then mr a0 a1 true else (mr a0 a1 (decide ((((idx a0 a1).Calls).length:Int) > 16))))) else (out (some 0))
noncomputable def fD (a0:List Event):Option Int :=
 bif decide ((a0.length:Int) > 256) then some 1 else (iter (rZ a0) 0)
noncomputable def qw (a0:History) (a1:Txn) (a3:List Call) (a2:Int):Option ((List Call×Int) ⊕ (Event×Bool)) :=
 some (.inl (a3++([(⟨(idx a1.Ops a2).Kind,idx a0.Keys ((idx a1.Ops a2).Key),(idx a1.Ops a2).Arg,(idx a1.Ops a2).Got,(idx a1.Ops a2).Vals⟩:Call)]:List Call),w64 (a2 + 1)))
noncomputable def mX (a0:History) (a1:Txn) (a2:List Call) (a3:Int) (a4:Bool):Option ((List Call×Int) ⊕ (Event×Bool)) :=
 bif a4 then out (some ((⟨0,a1.Status,a2⟩:Event),false)) else (must (0≤(idx a1.Ops a3).Key∧(idx a1.Ops a3).Key < (a0.Keys.length:Int)) (must (((a2.length + 1) + (a2.length + 1) / 4 + 192) * 64≤281474976710656∧a2.length + 1≤9223372036854775807) (qw a0 a1 a2 a3)))
noncomputable def qx (a0:History) (a1:Txn):(List Call×Int)→Option ((List Call×Int) ⊕ (Event×Bool))
 | (a3,a2)=>bif decide (a2 < (a1.Ops.length:Int)) then must (0≤a2∧a2 < (a1.Ops.length:Int)) (bif decide ((idx a1.Ops a2).Key < 0) then mX a0 a1 a3 a2 true else (mX a0 a1 a3 a2 (decide ((idx a1.Ops a2).Key ≥ (a0.Keys.length:Int))))) else ((fD ([(⟨0,a1.Status,a3⟩:Event)]:List Event)).bind fun a4=>out (some ((⟨0,a1.Status,a3⟩:Event),(a4 == 0))))
noncomputable def dQ (a0:History) (a1:Txn):Option (Event×Bool) :=
 iter (qx a0 a1) ([],0)
noncomputable def mY (a0:Txn) (a1:Txn):Option Bool :=
 bif (a0.Proc == a1.Proc) then bif (a0.To == (-1)) then some true else (some (decide (a0.To ≥ a1.From))) else (some false)
noncomputable def eQ (a0:List Txn) (a1c0:Txn):Int→Option (Int ⊕ Int)
 | a1=>bif decide (a1 < (a0.length:Int)) then must (0≤a1∧a1 < (a0.length:Int)) ((mY (idx a0 a1) a1c0).bind fun a2=>bif a2 then out (some a1) else (some (.inl (w64 (a1 + 1))))) else (out (some (-1)))
noncomputable def aZ (a0:List Txn) (a1c0:Txn):Option Int :=
 iter (eQ a0 a1c0) 0
noncomputable def di (a0:List Txn) (a1c0:Txn):Option Bool :=
 (aZ a0 a1c0).bind fun y3=>some (decide (y3 ≥ 0))
noncomputable def kw (a0:List Txn) (a1:Txn) (a2:Bool):Option Bool :=
 bif a2 then some false else ((di a0 a1).bind fun a3=>some (!a3))
noncomputable def mI (a0:List Txn) (a1:Txn):Option Bool :=
 bif decide (a1.From < 0) then kw a0 a1 true else (bif decide ((a0.length:Int) > 0) then must (0≤w64 ((a0.length:Int) - 1)∧w64 ((a0.length:Int) - 1) < (a0.length:Int)) (kw a0 a1 (decide ((idx a0 (w64 ((a0.length:Int) - 1))).From ≥ a1.From))) else (kw a0 a1 false))
noncomputable def mJ (a0:List Txn) (a1:Txn) (a2:Bool):Option Bool :=
 bif a2 then some false else (mI a0 a1)
noncomputable def mK (a0:List Txn) (a1:Txn) (a2:Bool):Option Bool :=
 bif a2 then bif decide (a1.To≤a1.From) then some false else (mI a0 a1) else (bif (a1.Status == 3) then bif (a1.To != (-1)) then mJ a0 a1 (decide (a1.To≤a1.From)) else (mJ a0 a1 false) else (some false))
noncomputable def bH (a0:List Txn) (a1:Txn):Option Bool :=
 bif (a1.Status == 1) then mK a0 a1 (a1.Status == 1) else (mK a0 a1 (a1.Status == 2))
noncomputable def lM (a0:Int):Option Int :=
 some (w64 ((yN .i64 (w64 (a0 - 1)) 3) + 1))
noncomputable def fZ (a0:List ByteArray) (a3:List (ByteArray×Int)) (a1:List Int) (a2:List (cu×Unit)) (a4:List (ByteArray×(List Int))):Option (Int×aT) :=
 some (0,(⟨a0,a3,a1,a2,a4⟩:aT))
noncomputable def kH (a0:aT) (a1:Call) (a3:List ByteArray) (a4:List (ByteArray×Int)) (a2:List Int):Option (Int×aT) :=
 bif jr a0.facts (⟨a1.Key,a1.Arg⟩:cu) then some (3,(⟨a3,a4,a2,a0.facts,a0.incs⟩:aT)) else (fZ a3 a4 a2 (fM a0.facts (⟨a1.Key,a1.Arg⟩:cu) ()) a0.incs)
noncomputable def iH (a0:aT) (a1:Call) (a4:List ByteArray) (a5:List (ByteArray×Int)) (a3:List Int) (a2:List (ByteArray×(List Int))):Option (Int×aT) :=
 bif decide (((mat a2 a1.Key).length:Int) > 8) then some (51,(⟨a4,a5,a3,a0.facts,a2⟩:aT)) else (fZ a4 a5 a3 a0.facts a2)
noncomputable def iI (a0:aT) (a1:Call) (a2:Int) (a4:List ByteArray) (a5:List (ByteArray×Int)) (a3:List Int) (a6:Bool):Option (Int×aT) :=
 bif a6 then must (((((mat a0.incs a1.Key).length) + 1) + (((mat a0.incs a1.Key).length) + 1) / 4 + 192) * 8≤281474976710656∧((mat a0.incs a1.Key).length) + 1≤9223372036854775807) (iH a0 a1 a4 a5 a3 (fM a0.incs a1.Key ((mat a0.incs a1.Key)++([a2]:List Int)))) else (iH a0 a1 a4 a5 a3 a0.incs)
noncomputable def iJ (a0:aT) (a1:Call) (a2:Int) (a4:List ByteArray) (a5:List (ByteArray×Int)) (a3:List Int) (a6:Bool):Option (Int×aT) :=
 bif a6 then kH a0 a1 a4 a5 a3 else (bif (a1.Kind == 4) then bif (((mat a0.incs a1.Key).length:Int) == 0) then iI a0 a1 a2 a4 a5 a3 true else (must (0≤w64 (((mat a0.incs a1.Key).length:Int) - 1)∧w64 (((mat a0.incs a1.Key).length:Int) - 1) < ((mat a0.incs a1.Key).length:Int)) (iI a0 a1 a2 a4 a5 a3 (idx (mat a0.incs a1.Key) (w64 (((mat a0.incs a1.Key).length:Int) - 1)) != a2))) else (fZ a4 a5 a3 a0.facts a0.incs))
noncomputable def gm (a0:aT) (a1:Call) (a2:Int) (a4:List ByteArray) (a5:List (ByteArray×Int)) (a3:List Int) (a6:Int):Option (Int×aT) :=
 must (0≤a6∧a6 < (a3.length:Int)) ((lM a1.Kind).bind fun a7=>bif (idx a3 a6 != a7) then some (50,(⟨a4,a5,a3,a0.facts,a0.incs⟩:aT)) else (bif (a1.Kind == 2) then iJ a0 a1 a2 a4 a5 a3 (a1.Kind == 2) else (iJ a0 a1 a2 a4 a5 a3 (a1.Kind == 3))))
noncomputable def kI (a0:aT) (a1:Call) (a2:Int):Option (Int×aT) :=
 (lM a1.Kind).bind fun a3=>must (((a0.types.length + 1) + (a0.types.length + 1) / 4 + 192) * 8≤281474976710656∧a0.types.length + 1≤9223372036854775807) (gm a0 a1 a2 (a0.keys++([a1.Key]:List ByteArray)) (fM a0.at_ a1.Key (a0.keys.length:Int)) (a0.types++([a3]:List Int)) (a0.keys.length:Int))
noncomputable def ay (a0:aT) (a1:Call) (a2:Int):Option (Int×aT) :=
 bif !(jr a0.at_ a1.Key) then bif ((a0.keys.length:Int) == 32) then some (2,a0) else (must (((a0.keys.length + 1) + (a0.keys.length + 1) / 4 + 192) * 16≤281474976710656∧a0.keys.length + 1≤9223372036854775807) (kI a0 a1 a2)) else (gm a0 a1 a2 a0.keys a0.at_ a0.types (mat a0.at_ a1.Key))
noncomputable def lm (a1:Int) (a0:Bool):Option (Int ⊕ Int) :=
 bif a0 then out (some 1) else (some (.inl (w64 (a1 + 1))))
noncomputable def mZ (a5:Int) (a2:Event×Bool):(List ByteArray×(List (ByteArray×Int))×List Int×(List (cu×Unit))×(List (ByteArray×(List Int)))×Int)→Option ((List ByteArray×(List (ByteArray×Int))×List Int×(List (cu×Unit))×(List (ByteArray×(List Int)))×Int) ⊕ ((List ByteArray×(List (ByteArray×Int))×List Int×(List (cu×Unit))×(List (ByteArray×(List Int)))×Int) ⊕ (Int ⊕ Int)))
 | (a8,a3,a7,a4,a6,a1)=>bif decide (a1 < (a2.1.Calls.length:Int)) then must (0≤a1∧a1 < (a2.1.Calls.length:Int)) ((ay (⟨a8,a3,a7,a4,a6⟩:aT) (idx a2.1.Calls a1) a5).bind fun a0=>bif (a0.1 != 0) then out (out (out (some 1))) else (some (.inl (a0.2.keys,a0.2.at_,a0.2.types,a0.2.facts,a0.2.incs,w64 (a1 + 1))))) else (out (some (.inl (a8,a3,a7,a4,a6,w64 (a5 + 1)))))
noncomputable def ng (a4:List ByteArray) (a3:List (ByteArray×Int)) (a7:List Int) (a5:List (cu×Unit)) (a6:List (ByteArray×(List Int))) (a0:Int) (a2:Event×Bool) (a1:Bool):Option ((List ByteArray×(List (ByteArray×Int))×List Int×(List (cu×Unit))×(List (ByteArray×(List Int)))×Int) ⊕ (Int ⊕ Int)) :=
 bif a1 then out (out (some 1)) else (iter (mZ a0 a2) (a4,a3,a7,a5,a6,0))
noncomputable def lq (a0:History):(List ByteArray×(List (ByteArray×Int))×List Int×(List (cu×Unit))×(List (ByteArray×(List Int)))×Int)→Option ((List ByteArray×(List (ByteArray×Int))×List Int×(List (cu×Unit))×(List (ByteArray×(List Int)))×Int) ⊕ (Int ⊕ Int))
 | (a4,a3,a7,a5,a6,a1)=>bif decide (a1 < (a0.Txns.length:Int)) then must (0≤a1∧a1 < (a0.Txns.length:Int)) ((dQ a0 (idx a0.Txns a1)).bind fun a2=>bif !a2.2 then ng a4 a3 a7 a5 a6 a1 a2 true else (must (0≤(0:Int)∧(0:Int)≤a1∧a1≤(a0.Txns.length:Int)) ((bH (dA a0.Txns (0:Int) a1) (idx a0.Txns a1)).bind fun a8=>ng a4 a3 a7 a5 a6 a1 a2 (!a8)))) else (out (out (some 0)))
noncomputable def qy (a0:History):Int→Option (Int ⊕ Int)
 | a1=>bif decide (a1 < (a0.Keys.length:Int)) then must (0≤a1∧a1 < (a0.Keys.length:Int)) (bif sEq (idx a0.Keys a1) (⟨#[]⟩:ByteArray) then lm a1 true else (bif decide (((idx a0.Keys a1).size:Int) > 32) then lm a1 true else (must (0≤(0:Int)∧(0:Int)≤a1∧a1≤(a0.Keys.length:Int)) ((slices_Contains_string (dA a0.Keys (0:Int) a1) (idx a0.Keys a1)).bind fun a3=>lm a1 a3)))) else ((mH).bind fun a2=>iter (lq a0) (a2.keys,a2.at_,a2.types,a2.facts,a2.incs,0))
noncomputable def ni (a0:History) (b7:Bool):Option Int :=
 bif b7 then some 1 else (iter (qy a0) 0)
noncomputable def aA (a0:History):Option Int :=
 bif decide ((a0.Keys.length:Int) > 32) then ni a0 true else (ni a0 (decide ((a0.Txns.length:Int) > 32)))
noncomputable def eT (a0:List Int):Option (List Int) :=
 must (a0.length * 8≤140737488355328) (some a0)
noncomputable def jc (a0:Int):Option Int :=
 bif (a0 == 1) then some 171 else (bif (a0 == 2) then some 172 else (bif (a0 == 3) then some 173 else (bif (a0 == 4) then some 174 else (some (-1)))))
noncomputable def jd (a0:Unit) (a1:List Int):Option Bool :=
 some (decide ((a1.length:Int)≤1))
noncomputable def lN (a0:Unit) (a1:List Int):Option Bool :=
 some (decide ((a1.length:Int)≤64))
noncomputable def mM (a1:List Int):Int→Option (Int ⊕ Bool)
 | a0=>bif decide (a0 < (a1.length:Int)) then must (0≤w64 (a0 - 1)∧w64 (a0 - 1) < (a1.length:Int)) (must (0≤a0∧a0 < (a1.length:Int)) (bif decide (idx a1 (w64 (a0 - 1)) ≥ idx a1 a0) then out (some false) else (some (.inl (w64 (a0 + 1)))))) else (out (some (decide ((a1.length:Int)≤64))))
noncomputable def fB (a0:Unit) (a1:List Int):Option Bool :=
 iter (mM a1) 1
noncomputable def jC (a0:Unit) (a1:List Int):Option Bool :=
 some ((a1.length:Int) == 1)
noncomputable def je (a0:Int) (a1:List Int):Option Int :=
 (jc a0).bind fun y8=>bif (y8 == (171:Int)) then (jd () a1).bind fun a5=>bif !a5 then some 80 else (some 0) else (bif (y8 == (172:Int)) then (lN () a1).bind fun a2=>bif !a2 then some 80 else (some 0) else (bif (y8 == (173:Int)) then (fB () a1).bind fun a4=>bif !a4 then some 80 else (some 0) else (bif (y8 == (174:Int)) then (jC () a1).bind fun a3=>bif !a3 then some 80 else (some 0) else (bif (y8 == ((-1):Int)) then some 1 else none))))
noncomputable def fH (a0:Unit) (a1:List Int) (a2:List Int):Option (List Int×Bool) :=
 bif ((a1.length:Int) == 1) then must (0≤(0:Int)∧(0:Int) < (a1.length:Int)) (must (0≤w64 ((a2.length:Int) - 1)∧w64 ((a2.length:Int) - 1) < (a2.length:Int)) (some (([]:List Int),(idx a1 (0:Int) == idx a2 (w64 ((a2.length:Int) - 1)))))) else (some (([]:List Int),false))
noncomputable def nT (a0:List Int) (a1:List Int):Int→Option (Int ⊕ Bool)
 | a2=>bif decide (a2 < (a0.length:Int)) then must (0≤a2∧a2 < (a0.length:Int)) (must (0≤a2∧a2 < (a1.length:Int)) (bif (idx a0 a2 != idx a1 a2) then out (some false) else (some (.inl (w64 (a2 + 1)))))) else (out (some true))
noncomputable def dB (a0:List Int) (a1:List Int):Option Bool :=
 bif ((a0.length:Int) != (a1.length:Int)) then some false else (iter (nT a0 a1) 0)
noncomputable def gp (a1:List Int) (a2:List Int) (a3:Bool):Option (List Int×Bool) :=
 bif a3 then some (([]:List Int),false) else (must (0≤(0:Int)∧(0:Int)≤(w64 ((a1.length:Int) - (a2.length:Int)))∧(w64 ((a1.length:Int) - (a2.length:Int)))≤(a1.length:Int)) ((eT (dA a1 (0:Int) (w64 ((a1.length:Int) - (a2.length:Int))))).bind fun a0=>some (a0,true)))
noncomputable def dC (a0:Unit) (a1:List Int) (a2:List Int):Option (List Int×Bool) :=
 bif decide (w64 ((a1.length:Int) - (a2.length:Int)) < 0) then gp a1 a2 true else (must (0≤(w64 ((a1.length:Int) - (a2.length:Int)))∧(w64 ((a1.length:Int) - (a2.length:Int)))≤(a1.length:Int)∧(a1.length:Int)≤(a1.length:Int)) ((dB (dA a1 (w64 ((a1.length:Int) - (a2.length:Int))) (a1.length:Int)) a2).bind fun a3=>gp a1 a2 (!a3)))
noncomputable def ky (a0:Int):Option Bool :=
 some (a0 != a0)
noncomputable def lu (a0:Int) (a1:Int):Option Bool :=
 (ky a0).bind fun y7=>bif y7 then (ky a1).bind fun a2=>bif !a2 then some true else (some (decide (a0 < a1))) else (some (decide (a0 < a1)))
noncomputable def iB (a0:Int):Option Bool :=
 some (a0 != a0)
noncomputable def gW (a1:Int) (a0:Int):Option ((Int×Int) ⊕ (Int×Bool)) :=
 some (.inl (a1,a0))
noncomputable def gX (a0:List Int) (a1:Int):(Int×Int)→Option ((Int×Int) ⊕ (Int×Bool))
 | (a2,a3)=>bif decide (a2 < a3) then must (0≤(1:Int)∧(1:Int) < (far:Int)) (must (0≤w64 (um .u64 (IntKind.wrap .u64 (w64 (a2 + a3))) (1:Int))∧w64 (um .u64 (IntKind.wrap .u64 (w64 (a2 + a3))) (1:Int)) < (a0.length:Int)) ((lu (idx a0 (w64 (um .u64 (IntKind.wrap .u64 (w64 (a2 + a3))) (1:Int)))) a1).bind fun a4=>bif a4 then gW (w64 ((w64 (um .u64 (IntKind.wrap .u64 (w64 (a2 + a3))) (1:Int))) + 1)) a3 else (gW a2 (w64 (um .u64 (IntKind.wrap .u64 (w64 (a2 + a3))) (1:Int)))))) else (bif decide (a2 < (a0.length:Int)) then must (0≤a2∧a2 < (a0.length:Int)) (bif (idx a0 a2 == a1) then out (some (a2,true)) else ((iB (idx a0 a2)).bind fun a5=>bif a5 then (iB a1).bind fun a6=>out (some (a2,a6)) else (out (some (a2,false))))) else (out (some (a2,false))))
noncomputable def bq (a0:List Int) (a1:Int):Option (Int×Bool) :=
 iter (gX a0 a1) (0,(a0.length:Int))
noncomputable def ib (a0:List Int) (a1 a2:Int):Option (List Int) :=
 must (0≤a1∧a1≤a2∧a2≤(a0.length:Int)) (some (a0.take a1.toNat++a0.drop a2.toNat))
noncomputable def jf (a2:List Int):(List Int×Int)→Option ((List Int×Int) ⊕ (List Int×Bool))
 | (a3,a0)=>bif decide (a0 < (a2.length:Int)) then must (0≤a0∧a0 < (a2.length:Int)) ((bq a3 (idx a2 a0)).bind fun a1=>bif !a1.2 then out (some (([]:List Int),false)) else ((ib a3 a1.1 (w64 (a1.1 + 1))).bind fun a4=>some (.inl (a4,w64 (a0 + 1))))) else (out (some (a3,true)))
noncomputable def dY (a0:Unit) (a1:List Int) (a2:List Int):Option (List Int×Bool) :=
 (eT a1).bind fun y7=>iter (jf a2) (y7,0)
noncomputable def gF (a2:List Int):(Int×Int)→Option ((Int×Int) ⊕ (List Int×Bool))
 | (a1,a0)=>bif decide (a0 < (a2.length:Int)) then must (0≤a0∧a0 < (a2.length:Int)) (some (.inl (w64 (a1 - (idx a2 a0)),w64 (a0 + 1)))) else (out (some (([a1]:List Int),true)))
noncomputable def dF (a0:Unit) (a1:List Int) (a2:List Int):Option (List Int×Bool) :=
 must (0≤(0:Int)∧(0:Int) < (a1.length:Int)) (iter (gF a2) (idx a1 (0:Int),0))
noncomputable def iZ (a0:Int) (a1:List Int) (a2:List Int) (b9:Bool):Option (List Int×Bool) :=
 bif b9 then some (([]:List Int),false) else ((jc a0).bind fun a3=>bif (a3 == (171:Int)) then (fH () a1 a2).bind fun a7=>some (a7.1,a7.2) else (bif (a3 == (172:Int)) then (dC () a1 a2).bind fun a6=>some (a6.1,a6.2) else (bif (a3 == (173:Int)) then (dY () a1 a2).bind fun a5=>some (a5.1,a5.2) else (bif (a3 == (174:Int)) then (dF () a1 a2).bind fun a4=>some (a4.1,a4.2) else (bif (a3 == ((-1):Int)) then none else none)))))
noncomputable def fC (a0:Int) (a1:List Int) (a2:List Int):Option (List Int×Bool) :=
 (je a0 a1).bind fun a3=>bif (a3 != 0) then iZ a0 a1 a2 true else (iZ a0 a1 a2 ((a2.length:Int) == 0))
noncomputable def fO (a0:Int) (a1:List Ask) (a3:List fP) (a2:List (Int×(List Int))):Option ((List Ask×List fP×(List (Int×(List Int)))×Int) ⊕ dS) :=
 some (.inl (a1,a3,a2,w64 (a0 + 1)))
noncomputable def jD (a1:History) (a2:Int) (a0:List Ask) (a4:List fP) (a5:List (Int×(List Int))) (a3:Int) (a6:List Int) (a7:Bool):Option ((List Ask×List fP×(List (Int×(List Int)))×Int) ⊕ dS) :=
 bif !a7 then must (((a4.length + 1) + (a4.length + 1) / 4 + 192) * 16≤281474976710656∧a4.length + 1≤9223372036854775807) (fO a3 a0 (a4++([(⟨a2,a3⟩:fP)]:List fP)) a5) else (must (((a0.length + 1) + (a0.length + 1) / 4 + 192) * 48≤281474976710656∧a0.length + 1≤9223372036854775807) (fO a3 (a0++([(⟨a2,a3,(idx ((idx a1.Txns a2).Ops) a3).Key,a6⟩:Ask)]:List Ask)) a4 a5))
noncomputable def jE (a1:History) (a2:Int) (a3:List Ask) (a5:List fP) (a0:List (Int×(List Int))) (a4:Int) (a6:List Int×Bool) (a7:Bool):Option ((List Ask×List fP×(List (Int×(List Int)))×Int) ⊕ dS) :=
 bif a7 then fO a4 a3 a5 a0 else (jD a1 a2 a3 a5 a0 a4 a6.1 a6.2)
noncomputable def ma (a1:History) (a2:Int):(List Ask×List fP×(List (Int×(List Int)))×Int)→Option ((List Ask×List fP×(List (Int×(List Int)))×Int) ⊕ dS)
 | (a4,a5,a3,a0)=>bif decide (a0 < (((idx a1.Txns a2).Ops).length:Int)) then must (0≤a0∧a0 < (((idx a1.Txns a2).Ops).length:Int)) (bif decide ((idx ((idx a1.Txns a2).Ops) a0).Kind≤4) then must (((((mat a3 ((idx ((idx a1.Txns a2).Ops) a0).Key)).length) + 1) + (((mat a3 ((idx ((idx a1.Txns a2).Ops) a0).Key)).length) + 1) / 4 + 192) * 8≤281474976710656∧((mat a3 ((idx ((idx a1.Txns a2).Ops) a0).Key)).length) + 1≤9223372036854775807) (fO a0 a4 a5 (fM a3 ((idx ((idx a1.Txns a2).Ops) a0).Key) ((mat a3 ((idx ((idx a1.Txns a2).Ops) a0).Key))++([(idx ((idx a1.Txns a2).Ops) a0).Arg]:List Int)))) else ((eT ((idx ((idx a1.Txns a2).Ops) a0).Vals)).bind fun a7=>bif decide (((mat a3 ((idx ((idx a1.Txns a2).Ops) a0).Key)).length:Int) > 0) then (fC (w64 (((idx ((idx a1.Txns a2).Ops) a0).Kind) - 4)) ((idx ((idx a1.Txns a2).Ops) a0).Vals) (mat a3 ((idx ((idx a1.Txns a2).Ops) a0).Key))).bind fun a6=>bif a6.2 then jE a1 a2 a4 a5 a3 a0 a6 ((idx ((idx a1.Txns a2).Ops) a0).Kind == 5) else (jE a1 a2 a4 a5 a3 a0 a6 false) else (jD a1 a2 a4 a5 a3 a0 a7 true))) else (out (some (⟨a4,a5⟩:dS)))
noncomputable def aR (a0:dS) (a1:History) (a2:Int):Option dS :=
 must (0≤a2∧a2 < (a1.Txns.length:Int)) (bif ((idx a1.Txns a2).Status != 1) then some a0 else (iter (ma a1 a2) (a0.asks,a0.bad,[],0)))
noncomputable def tL (a0:History):(List Ask×List fP×Int)→Option ((List Ask×List fP×Int) ⊕ (dS×Int))
 | (a2,a4,a1)=>bif decide (a1 < (a0.Txns.length:Int)) then (aR (⟨a2,a4⟩:dS) a0 a1).bind fun a3=>some (.inl (a3.asks,a3.bad,w64 (a1 + 1))) else (out (some ((⟨a2,a4⟩:dS),0)))
noncomputable def jJ (a0:History):Option (dS×Int) :=
 (aA a0).bind fun a1=>bif (a1 != 0) then some ((⟨([]:List Ask),([]:List fP)⟩:dS),a1) else (iter (tL a0) ([],[],0))
noncomputable def gY (a0:History):Option (List Ask×Int) :=
 (jJ a0).bind fun a1=>some (a1.1.asks,a1.2)
noncomputable def sO (a0:History):Option (List fP×Int) :=
 (jJ a0).bind fun a1=>some (a1.1.bad,a1.2)
noncomputable def pq (a0:History) (a1:List Int) (a3:List (Int×Int)) (a2:Int) (a4:Bool):Option (((List (Int×Int))×Int) ⊕ (bN×Bool)) :=
 bif a4 then out (some ((⟨a0,a1,a3⟩:bN),false)) else (some (.inl (fM a3 (idx a1 a2) a2,w64 (a2 + 1))))
noncomputable def rE (a0:History) (a1:List Int) (a3:List (Int×Int)) (a4:Int) (a2:Bool):Option (Int ⊕ (((List (Int×Int))×Int) ⊕ (bN×Bool))) :=
 bif a2 then out (out (some ((⟨a0,a1,a3⟩:bN),false))) else (some (.inl (w64 (a4 + 1))))
noncomputable def rF (a0:History) (a1:List Int) (a3:List (Int×Int)):Int→Option (Int ⊕ (((List (Int×Int))×Int) ⊕ (bN×Bool)))
 | a2=>bif decide (a2 < (a0.Txns.length:Int)) then must (0≤a2∧a2 < (a0.Txns.length:Int)) (bif !(jr a3 a2) then rE a0 a1 a3 a2 ((idx a0.Txns a2).Status == 1) else (rE a0 a1 a3 a2 false)) else (out (out (some ((⟨a0,a1,a3⟩:bN),true))))
noncomputable def uY (a0:History) (a1:List Int):((List (Int×Int))×Int)→Option (((List (Int×Int))×Int) ⊕ (bN×Bool))
 | (a3,a2)=>bif decide (a2 < (a1.length:Int)) then must (0≤a2∧a2 < (a1.length:Int)) (bif decide (idx a1 a2 < 0) then pq a0 a1 a3 a2 true else (bif decide (idx a1 a2 ≥ (a0.Txns.length:Int)) then pq a0 a1 a3 a2 true else (must (0≤idx a1 a2∧idx a1 a2 < (a0.Txns.length:Int)) (pq a0 a1 a3 a2 ((idx a0.Txns (idx a1 a2)).Status == 2))))) else (bif ((a3.length:Int) != (a1.length:Int)) then out (some ((⟨a0,a1,a3⟩:bN),false)) else (iter (rF a0 a1 a3) 0))
noncomputable def dU (a0:History) (a1:List Int):Option (bN×Bool) :=
 iter (uY a0 a1) ([],0)
noncomputable def iy (a1:Int) (a0:List (Int×Int)):Option (((List (Int×Int))×Int) ⊕ Bool) :=
 some (.inl (a0,w64 (a1 + 1)))
noncomputable def iA (a0:bN) (a2:List (Int×Int)) (a1:Int) (a3:Bool):Option (((List (Int×Int))×Int) ⊕ Bool) :=
 bif a3 then out (some false) else (iy a1 (fM a2 ((idx a0.h.Txns a1).Proc) (zz (mat a0.at_ a1) (mat a2 ((idx a0.h.Txns a1).Proc)))))
noncomputable def jS (a0:bN):((List (Int×Int))×Int)→Option (((List (Int×Int))×Int) ⊕ Bool)
 | (a2,a1)=>bif decide (a1 < (a0.h.Txns.length:Int)) then must (0≤a1∧a1 < (a0.h.Txns.length:Int)) (bif !(jr a0.at_ a1) then iy a1 a2 else (bif jr a2 ((idx a0.h.Txns a1).Proc) then iA a0 a2 a1 (decide (mat a2 ((idx a0.h.Txns a1).Proc) > mat a0.at_ a1)) else (iA a0 a2 a1 false))) else (out (some true))
noncomputable def aX (a0:bN):Option Bool :=
 iter (jS a0) ([],0)
noncomputable def nk (a1:Int) (a0:List Int):Option ((List Int×Int) ⊕ (List Int)) :=
 some (.inl (a0,w64 (a1 + 1)))
noncomputable def nu (a0:Txn) (a1:List Int) (a2:Int) (a3:Bool):Option ((List Int×Int) ⊕ (List Int)) :=
 bif a3 then must (((a1.length + 1) + (a1.length + 1) / 4 + 192) * 8≤281474976710656∧a1.length + 1≤9223372036854775807) (nk a2 (a1++([(idx a0.Ops a2).Arg]:List Int))) else (nk a2 a1)
noncomputable def qz (a0:Txn) (a1:Int):(List Int×Int)→Option ((List Int×Int) ⊕ (List Int))
 | (a3,a2)=>bif decide (a2 < (a0.Ops.length:Int)) then must (0≤a2∧a2 < (a0.Ops.length:Int)) (bif ((idx a0.Ops a2).Key == a1) then nu a0 a3 a2 (decide ((idx a0.Ops a2).Kind≤4)) else (nu a0 a3 a2 false)) else (out (some a3))
noncomputable def dI (a0:Txn) (a1:Int):Option (List Int) :=
 iter (qz a0 a1) ([],0)
noncomputable def lv (a0:History) (a1:Int) (a2:Int) (a4:Bool):Option (List Int×Bool) :=
 bif a4 then some (([]:List Int),false) else (must (0≤a1∧a1 < (a0.Txns.length:Int)) ((dI (idx a0.Txns a1) a2).bind fun a3=>some (a3,decide ((a3.length:Int) > 0))))
noncomputable def fQ (a0:History) (a1:Int) (a2:Int):Option (List Int×Bool) :=
 bif decide (a1 < 0) then lv a0 a1 a2 true else (bif decide (a1 ≥ (a0.Txns.length:Int)) then lv a0 a1 a2 true else ((aA a0).bind fun a3=>lv a0 a1 a2 (a3 != 0)))
noncomputable def jF (a0:bN) (a1:Ask) (a2:Int) (b9:Bool):Option Bool :=
 bif b9 then some false else ((fQ a0.h a2 a1.Key).bind fun a3=>some a3.2)
noncomputable def eD (a0:bN) (a1:Ask) (a2:Int):Option Bool :=
 bif !(jr a0.at_ a2) then jF a0 a1 a2 true else (jF a0 a1 a2 (decide (mat a0.at_ a2 ≥ mat a0.at_ a1.Txn)))
noncomputable def si (a0:History) (a1:Int) (a3:Int):Int→Option (Int ⊕ (Int ⊕ Int))
 | a2=>bif decide (a2 < (((idx a0.Txns a3).Ops).length:Int)) then must (0≤a2∧a2 < (((idx a0.Txns a3).Ops).length:Int)) (bif ((idx ((idx a0.Txns a3).Ops) a2).Key == a1) then (lM ((idx ((idx a0.Txns a3).Ops) a2).Kind)).bind fun a4=>out (out (some a4)) else (some (.inl (w64 (a2 + 1))))) else (out (some (.inl (w64 (a3 + 1)))))
noncomputable def sj (a0:History) (a1:Int):Int→Option (Int ⊕ Int)
 | a2=>bif decide (a2 < (a0.Txns.length:Int)) then must (0≤a2∧a2 < (a0.Txns.length:Int)) (iter (si a0 a1 a2) 0) else (out (some 0))
noncomputable def eB (a0:History) (a1:Int):Option Int :=
 (aA a0).bind fun y8=>bif (y8 != 0) then some 0 else (iter (sj a0 a1) 0)
noncomputable def ny (a0:List Int):Option (List Int):=must (a0.length < 4611686018427387904) (some (a0.mergeSort fun x y=>decide (x≤y)))
noncomputable def iK (a0:List Int):Option (List Int) :=
 some a0
noncomputable def kJ (a1:List Int):(Int×Int)→Option ((Int×Int) ⊕ (List Int))
 | (a2,a0)=>bif decide (a0 < (a1.length:Int)) then must (0≤a0∧a0 < (a1.length:Int)) (some (.inl (w64 (a2 + (idx a1 a0)),w64 (a0 + 1)))) else (out (some ([a2]:List Int)))
noncomputable def gq (a0:bN) (a1:Int) (a2:List Int):Option (List Int) :=
 (eB a0.h a1).bind fun a3=>bif (a3 == 1) then must (0≤(zz 0 (w64 ((a2.length:Int) - 1)))∧(zz 0 (w64 ((a2.length:Int) - 1)))≤(a2.length:Int)∧(a2.length:Int)≤(a2.length:Int)) (some (dA a2 (zz 0 (w64 ((a2.length:Int) - 1))) (a2.length:Int))) else (bif (a3 == 3) then (ny a2).bind fun a4=>iK a4 else (bif (a3 == 4) then iter (kJ a2) (0,0) else (iK a2)))
noncomputable def iL (a0:Int) (a1:List Int):Option ((List Int×Int) ⊕ ((List Int×Int) ⊕ (List Int))) :=
 some (.inl (a1,w64 (a0 + 1)))
noncomputable def iM (a0:bN) (a2:Int) (a4:Int) (a1:List Int) (a3:Int) (a5:Bool):Option ((List Int×Int) ⊕ ((List Int×Int) ⊕ (List Int))) :=
 bif a5 then must (((a1.length + 1) + (a1.length + 1) / 4 + 192) * 8≤281474976710656∧a1.length + 1≤9223372036854775807) (iL a3 (a1++([(idx ((idx a0.h.Txns (idx (dA a0.order (0:Int) (w64 ((mat a0.at_ a2) + 1))) a4)).Ops) a3).Arg]:List Int))) else (iL a3 a1)
noncomputable def kK (a0:bN) (a1:Int) (a2:Int) (a3:Int):(List Int×Int)→Option ((List Int×Int) ⊕ ((List Int×Int) ⊕ (List Int)))
 | (a5,a4)=>bif decide (a4 < (((idx a0.h.Txns (idx (dA a0.order (0:Int) (w64 ((mat a0.at_ a2) + 1))) a3)).Ops).length:Int)) then must (0≤a4∧a4 < (((idx a0.h.Txns (idx (dA a0.order (0:Int) (w64 ((mat a0.at_ a2) + 1))) a3)).Ops).length:Int)) (bif ((idx ((idx a0.h.Txns (idx (dA a0.order (0:Int) (w64 ((mat a0.at_ a2) + 1))) a3)).Ops) a4).Key == a1) then iM a0 a2 a3 a5 a4 (decide ((idx ((idx a0.h.Txns (idx (dA a0.order (0:Int) (w64 ((mat a0.at_ a2) + 1))) a3)).Ops) a4).Kind≤4)) else (iM a0 a2 a3 a5 a4 false)) else (out (some (.inl (a5,w64 (a3 + 1)))))
noncomputable def kM (a0:bN) (a1:Int) (a2:Int):(List Int×Int)→Option ((List Int×Int) ⊕ (List Int))
 | (a4,a3)=>bif decide (a3 < ((dA a0.order (0:Int) (w64 ((mat a0.at_ a2) + 1))).length:Int)) then must (0≤a3∧a3 < ((dA a0.order (0:Int) (w64 ((mat a0.at_ a2) + 1))).length:Int)) (must (0≤idx (dA a0.order (0:Int) (w64 ((mat a0.at_ a2) + 1))) a3∧idx (dA a0.order (0:Int) (w64 ((mat a0.at_ a2) + 1))) a3 < (a0.h.Txns.length:Int)) (iter (kK a0 a1 a2 a3) (a4,0))) else (out (gq a0 a1 a4))
noncomputable def ax (a0:bN) (a1:Int) (a2:Int):Option (List Int) :=
 bif decide (a2 ≥ 0) then must (0≤(0:Int)∧(0:Int)≤(w64 ((mat a0.at_ a2) + 1))∧(w64 ((mat a0.at_ a2) + 1))≤(a0.order.length:Int)) (iter (kM a0 a1 a2) ([],0)) else (gq a0 a1 [])
noncomputable def rG (a1:Exec) (a2:List Ask×Int) (a5:bN×Bool) (a0:Int) (a6:Bool):Option (Int ⊕ (Int×Int)) :=
 bif a6 then out (some (5,0)) else (must (0≤a0∧a0 < (a1.Picks.length:Int)) ((ax a5.1 ((idx a2.1 a0).Key) (idx a1.Picks a0)).bind fun a3=>(dB a3 ((idx a2.1 a0).Base)).bind fun a4=>bif !a4 then out (some (6,0)) else (some (.inl (w64 (a0 + 1))))))
noncomputable def rH (a1:Exec) (a2:List Ask×Int) (a3:bN×Bool):Int→Option (Int ⊕ (Int×Int))
 | a0=>bif decide (a0 < (a2.1.length:Int)) then must (0≤a0∧a0 < (a2.1.length:Int)) (must (0≤a0∧a0 < (a1.Picks.length:Int)) (bif (idx a1.Picks a0 != (-1)) then (eD a3.1 (idx a2.1 a0) (idx a1.Picks a0)).bind fun a4=>rG a1 a2 a3 a0 (!a4) else (rG a1 a2 a3 a0 false))) else (out (some (0,0)))
noncomputable def eF (a0:History) (a1:Exec):Option (Int×Int) :=
 (gY a0).bind fun a2=>bif (a2.2 != 0) then some (0,a2.2) else ((sO a0).bind fun a5=>bif decide ((a5.1.length:Int) > 0) then some (1,0) else ((dU a0 a1.Order).bind fun a3=>bif !a3.2 then some (2,0) else (bif ((a1.Picks.length:Int) != (a2.1.length:Int)) then some (3,0) else ((aX a3.1).bind fun a4=>bif !a4 then some (4,0) else (iter (rH a1 a2 a3) 0)))))
noncomputable def tN (a1:Int) (a0:Bool):Option (Int ⊕ (Int ⊕ Bool)) :=
 bif a0 then out (out (some false)) else (some (.inl (w64 (a1 + 1))))
noncomputable def xu (a0:History) (a1:List Int) (a2:Int):Int→Option (Int ⊕ (Int ⊕ Bool))
 | a3=>bif decide (a3 < ((dA a1 (w64 (a2 + 1)) (a1.length:Int)).length:Int)) then must (0≤a3∧a3 < ((dA a1 (w64 (a2 + 1)) (a1.length:Int)).length:Int)) (must (0≤idx (dA a1 (w64 (a2 + 1)) (a1.length:Int)) a3∧idx (dA a1 (w64 (a2 + 1)) (a1.length:Int)) a3 < (a0.Txns.length:Int)) (bif ((idx a0.Txns (idx (dA a1 (w64 (a2 + 1)) (a1.length:Int)) a3)).Status == 1) then must (0≤idx a1 a2∧idx a1 a2 < (a0.Txns.length:Int)) (tN a3 (decide ((idx a0.Txns (idx (dA a1 (w64 (a2 + 1)) (a1.length:Int)) a3)).To < (idx a0.Txns (idx a1 a2)).From))) else (tN a3 false))) else (out (some (.inl (w64 (a2 + 1)))))
noncomputable def xw (a0:History) (a1:List Int) (a3:bN×Bool):Int→Option (Int ⊕ Bool)
 | a2=>bif decide (a2 < (a1.length:Int)) then must (0≤a2∧a2 < (a1.length:Int)) (must (0≤(w64 (a2 + 1))∧(w64 (a2 + 1))≤(a1.length:Int)∧(a1.length:Int)≤(a1.length:Int)) (iter (xu a0 a1 a2) 0)) else (out (some ((a3.1.order.length:Int) == (a1.length:Int))))
noncomputable def gK (a0:History) (a1:List Int):Option Bool :=
 (aA a0).bind fun y8=>bif (y8 != 0) then some false else ((dU a0 a1).bind fun a2=>bif !a2.2 then some false else (iter (xw a0 a1 a2) 0))
noncomputable def gL:Option Bool :=
 (eF (⟨([(⟨#[120]⟩:ByteArray)]:List ByteArray),([(⟨0,1,0,1,([(⟨1,0,5,false,([]:List Int)⟩:Op)]:List Op)⟩:Txn),(⟨1,1,2,3,([(⟨5,0,0,true,([5]:List Int)⟩:Op)]:List Op)⟩:Txn)]:List Txn)⟩:History) (⟨([0,1]:List Int),([0]:List Int)⟩:Exec)).bind fun a1=>(eF (⟨([(⟨#[120]⟩:ByteArray)]:List ByteArray),([(⟨0,1,0,1,([(⟨1,0,5,false,([]:List Int)⟩:Op)]:List Op)⟩:Txn),(⟨1,1,2,3,([(⟨5,0,0,true,([5]:List Int)⟩:Op)]:List Op)⟩:Txn)]:List Txn)⟩:History) (⟨([1,0]:List Int),([0]:List Int)⟩:Exec)).bind fun a0=>bif (a1.1 == 0) then bif (a1.2 == 0) then bif (a0.1 == 5) then bif (a0.2 == 0) then (gK (⟨([(⟨#[120]⟩:ByteArray)]:List ByteArray),([(⟨0,1,0,1,([(⟨1,0,5,false,([]:List Int)⟩:Op)]:List Op)⟩:Txn),(⟨1,1,2,3,([(⟨5,0,0,true,([5]:List Int)⟩:Op)]:List Op)⟩:Txn)]:List Txn)⟩:History) ([0,1]:List Int)).bind fun a2=>bif a2 then (gK (⟨([(⟨#[120]⟩:ByteArray)]:List ByteArray),([(⟨0,1,0,1,([(⟨1,0,5,false,([]:List Int)⟩:Op)]:List Op)⟩:Txn),(⟨1,1,2,3,([(⟨5,0,0,true,([5]:List Int)⟩:Op)]:List Op)⟩:Txn)]:List Txn)⟩:History) ([1,0]:List Int)).bind fun a3=>some (!a3) else (some false) else (some false) else (some false) else (some false) else (some false)
noncomputable def nz (a0:List Int) (a1:Int):Int→Option (Int ⊕ Bool)
 | a2=>bif decide (a2 < (a0.length:Int)) then must (0≤a2∧a2 < (a0.length:Int)) (bif (idx a0 a2 == a1) then out (some true) else (some (.inl (w64 (a2 + 1))))) else (out (some false))
noncomputable def dD (a0:List Int) (a1:Int):Option Bool :=
 iter (nz a0 a1) 0
noncomputable def iC (a1:Int) (a0:Bool):Option (Int ⊕ Bool) :=
 bif a0 then out (some true) else (some (.inl (w64 (a1 + 1))))
noncomputable def lw (a1:Int) (a0:List Int):Option ((List Int×Int) ⊕ (Int ⊕ Bool)) :=
 some (.inl (a0,w64 (a1 + 1)))
noncomputable def qA (a0:History) (a1:Exec) (a2:Int):(List Int×Int)→Option ((List Int×Int) ⊕ (Int ⊕ Bool))
 | (a4,a3)=>bif decide (a3 < (a1.Order.length:Int)) then must (0≤a3∧a3 < (a1.Order.length:Int)) (bif (idx a1.Order a3 != w64 ((IntKind.wrap .u64 (a2)).tmod (IntKind.wrap .u64 ((a0.Txns.length:Int))))) then must (((a4.length + 1) + (a4.length + 1) / 4 + 192) * 8≤281474976710656∧a4.length + 1≤9223372036854775807) (lw a3 (a4++([idx a1.Order a3]:List Int))) else (lw a3 a4)) else ((eF a0 (⟨a4,a1.Picks⟩:Exec)).bind fun a5=>bif (a5.1 == 0) then out (out (some (a5.2 == 0))) else (out (out (some false))))
noncomputable def qB (a0:History) (a1:Exec) (a2:Int):Int→Option (Int ⊕ Bool)
 | a3=>must (0≤w64 ((IntKind.wrap .u64 (a2)).tmod (IntKind.wrap .u64 ((a0.Txns.length:Int))))∧w64 ((IntKind.wrap .u64 (a2)).tmod (IntKind.wrap .u64 ((a0.Txns.length:Int)))) < (a0.Txns.length:Int)) (bif decide (a3 < (((idx a0.Txns (w64 ((IntKind.wrap .u64 (a2)).tmod (IntKind.wrap .u64 ((a0.Txns.length:Int)))))).Ops).length:Int)) then must (0≤a3∧a3 < (((idx a0.Txns (w64 ((IntKind.wrap .u64 (a2)).tmod (IntKind.wrap .u64 ((a0.Txns.length:Int)))))).Ops).length:Int)) (bif ((idx ((idx a0.Txns (w64 ((IntKind.wrap .u64 (a2)).tmod (IntKind.wrap .u64 ((a0.Txns.length:Int)))))).Ops) a3).Kind == 2) then iC a3 true else (bif ((idx ((idx a0.Txns (w64 ((IntKind.wrap .u64 (a2)).tmod (IntKind.wrap .u64 ((a0.Txns.length:Int)))))).Ops) a3).Kind == 3) then iC a3 true else (iC a3 ((idx ((idx a0.Txns (w64 ((IntKind.wrap .u64 (a2)).tmod (IntKind.wrap .u64 ((a0.Txns.length:Int)))))).Ops) a3).Kind == 4)))) else (iter (qA a0 a1 a2) ([],0)))
noncomputable def lC (a0:History) (a1:Exec) (a2:Int) (a3:Bool):Option Bool :=
 bif a3 then some true else (iter (qB a0 a1 a2) 0)
noncomputable def iD (a0:History) (a1:Exec) (a2:Int) (a4:Bool):Option Bool :=
 bif a4 then some true else (must ((IntKind.wrap .u64 ((a0.Txns.length:Int)))≠0) (must (0≤w64 ((IntKind.wrap .u64 (a2)).tmod (IntKind.wrap .u64 ((a0.Txns.length:Int))))∧w64 ((IntKind.wrap .u64 (a2)).tmod (IntKind.wrap .u64 ((a0.Txns.length:Int)))) < (a0.Txns.length:Int)) (bif ((idx a0.Txns (w64 ((IntKind.wrap .u64 (a2)).tmod (IntKind.wrap .u64 ((a0.Txns.length:Int)))))).Status != 3) then lC a0 a1 a2 true else ((dD a1.Picks (w64 ((IntKind.wrap .u64 (a2)).tmod (IntKind.wrap .u64 ((a0.Txns.length:Int)))))).bind fun a3=>lC a0 a1 a2 a3))))
noncomputable def aN (a0:History) (a1:Exec) (a2:Int):Option Bool :=
 (gL).bind fun a4=>bif !a4 then some false else ((eF a0 a1).bind fun a3=>bif (a3.2 != 0) then iD a0 a1 a2 true else (bif (a3.1 != 0) then iD a0 a1 a2 true else (iD a0 a1 a2 ((a0.Txns.length:Int) == 0))))
noncomputable def qZ (a0:History) (a1:Exec) (a2:Int):Option Bool :=
 (eF a0 (⟨(([]:List Int)++a1.Order)++([a2]:List Int),a1.Picks⟩:Exec)).bind fun a3=>must (0≤a2∧a2 < (a0.Txns.length:Int)) (bif ((idx a0.Txns a2).Status == 2) then bif (a3.2 == 0) then some (a3.1 == 2) else (some false) else (bif (a3.2 == 0) then bif (a3.1 == 0) then some true else (some (a3.1 == 4)) else (some false)))
noncomputable def eZ (a0:History) (a1:Exec) (a2:Int) (a3:Bool):Option Bool :=
 bif a3 then some true else (must (((0 + a1.Order.length) + (0 + a1.Order.length) / 4 + 192) * 8≤281474976710656∧0 + a1.Order.length≤9223372036854775807) (must (((((([]:List Int)++a1.Order).length) + 1) + (((([]:List Int)++a1.Order).length) + 1) / 4 + 192) * 8≤281474976710656∧((([]:List Int)++a1.Order).length) + 1≤9223372036854775807) (qZ a0 a1 a2)))
noncomputable def dL (a0:History) (a1:Exec) (a2:Int):Option Bool :=
 (gL).bind fun a4=>bif !a4 then some false else ((eF a0 a1).bind fun a3=>bif (a3.2 != 0) then eZ a0 a1 a2 true else (bif (a3.1 != 0) then eZ a0 a1 a2 true else (bif decide (a2 < 0) then eZ a0 a1 a2 true else (bif decide (a2 ≥ (a0.Txns.length:Int)) then eZ a0 a1 a2 true else ((dD a1.Order a2).bind fun a5=>eZ a0 a1 a2 a5)))))
noncomputable def gM (a0:List Int) (a1:List Int):Int→Option (Int ⊕ Bool)
 | a2=>bif decide (a2 < (a0.length:Int)) then must (0≤a2∧a2 < (a0.length:Int)) (must (0≤a2∧a2 < (a1.length:Int)) (bif (idx a0 a2 != idx a1 a2) then out (some false) else (some (.inl (w64 (a2 + 1)))))) else (out (some true))
noncomputable def bI (a0:List Int) (a1:List Int):Option Bool :=
 bif ((a0.length:Int) != (a1.length:Int)) then some false else (iter (gM a0 a1) 0)
noncomputable def kz (a2:Int) (a3:Int) (a4:bN×Bool) (a0:Bool):Option (List Int×Bool) :=
 bif a0 then some (([]:List Int),false) else ((ax a4.1 a2 a3).bind fun a1=>some (a1,true))
noncomputable def ja (a0:History) (a1:List Int) (a2:Int) (a3:Int) (a5:Bool):Option (List Int×Bool) :=
 bif a5 then some (([]:List Int),false) else ((dU a0 a1).bind fun a4=>bif !a4.2 then kz a2 a3 a4 true else (bif decide (a3 ≥ 0) then kz a2 a3 a4 (!(jr a4.1.at_ a3)) else (kz a2 a3 a4 false)))
noncomputable def dG (a0:History) (a1:List Int) (a2:Int) (a3:Int):Option (List Int×Bool) :=
 (aA a0).bind fun a4=>bif (a4 != 0) then ja a0 a1 a2 a3 true else (bif decide (a2 < 0) then ja a0 a1 a2 a3 true else (bif decide (a2 ≥ (a0.Keys.length:Int)) then ja a0 a1 a2 a3 true else (ja a0 a1 a2 a3 (decide (a3 < (-1))))))
noncomputable def qa (a0:List ByteArray) (a1:ByteArray):Int→Option (Int ⊕ Int)
 | a2=>bif decide (a2 < (a0.length:Int)) then must (0≤a2∧a2 < (a0.length:Int)) (bif sEq (idx a0 a2) a1 then out (some a2) else (some (.inl (w64 (a2 + 1))))) else (out (some (-1)))
noncomputable def fE (a0:List ByteArray) (a1:ByteArray):Option Int :=
 iter (qa a0 a1) 0
noncomputable def jg (a0:Int) (a1:Bool):Option (Int ⊕ Bool) :=
 bif a1 then out (some false) else (some (.inl (w64 (a0 + 1))))
noncomputable def pu (a0:List ByteArray):Int→Option (Int ⊕ Bool)
 | a1=>bif decide (a1 < (a0.length:Int)) then must (0≤a1∧a1 < (a0.length:Int)) (bif decide (((idx a0 a1).size:Int) < 1) then jg a1 true else (bif decide (((idx a0 a1).size:Int) > 32) then jg a1 true else (must (0≤(0:Int)∧(0:Int)≤a1∧a1≤(a0.length:Int)) ((fE (dA a0 (0:Int) a1) (idx a0 a1)).bind fun a2=>jg a1 (decide (a2 ≥ 0)))))) else (out (some (decide ((a0.length:Int)≤32))))
noncomputable def dM (a0:List ByteArray):Option Bool :=
 iter (pu a0) 0
noncomputable def iN (a1:Int) (a0:Bool):Option (Int ⊕ Bool) :=
 bif a0 then out (some false) else (some (.inl (w64 (a1 + 1))))
noncomputable def kN (a0:List Txn) (a1:Int):Int→Option (Int ⊕ Bool)
 | a2=>bif decide (a2 < a1) then must (0≤a2∧a2 < (a0.length:Int)) (bif ((idx a0 a2).Proc == (idx a0 a1).Proc) then bif ((idx a0 a2).To == (-1)) then iN a2 true else (iN a2 (decide ((idx a0 a2).To ≥ (idx a0 a1).From))) else (iN a2 false)) else (out (some true))
noncomputable def kP (a0:List Txn) (a1:Int) (a2:Bool):Option Bool :=
 bif a2 then some false else (iter (kN a0 a1) 0)
noncomputable def dH (a0:List Txn) (a1:Int) (a2:Bool):Option Bool :=
 bif a2 then some false else (bif decide (a1 > 0) then must (0≤w64 (a1 - 1)∧w64 (a1 - 1) < (a0.length:Int)) (kP a0 a1 (decide ((idx a0 a1).From≤(idx a0 (w64 (a1 - 1))).From))) else (kP a0 a1 false))
noncomputable def aK (a0:List Txn) (a1:Int):Option Bool :=
 must (0≤a1∧a1 < (a0.length:Int)) (bif decide ((idx a0 a1).Status < 1) then dH a0 a1 true else (bif decide ((idx a0 a1).Status > 3) then dH a0 a1 true else (bif decide ((idx a0 a1).From < 0) then dH a0 a1 true else (bif ((idx a0 a1).To != (-1)) then bif decide ((idx a0 a1).To≤(idx a0 a1).From) then dH a0 a1 true else (bif ((idx a0 a1).To == (-1)) then dH a0 a1 ((idx a0 a1).Status != 3) else (dH a0 a1 false)) else (bif ((idx a0 a1).To == (-1)) then dH a0 a1 ((idx a0 a1).Status != 3) else (dH a0 a1 false))))))
noncomputable def jG (a0:Call):Option Bool :=
 some (decide ((a0.Vals.length:Int)≤64))
noncomputable def mf (a0:Call):Int→Option (Int ⊕ Bool)
 | a1=>bif decide (a1 < (a0.Vals.length:Int)) then must (0≤a1∧a1 < (a0.Vals.length:Int)) (must (0≤w64 (a1 - 1)∧w64 (a1 - 1) < (a0.Vals.length:Int)) (bif decide (idx a0.Vals a1≤idx a0.Vals (w64 (a1 - 1))) then out (some false) else (some (.inl (w64 (a1 + 1)))))) else (out (jG a0))
noncomputable def ig (a0:Call) (a1:Bool):Option Bool :=
 bif a1 then some false else (bif (a0.Kind == 5) then some (decide ((a0.Vals.length:Int)≤1)) else (bif (a0.Kind == 8) then bif !a0.Got then some true else (some ((a0.Vals.length:Int) == 1)) else (bif (a0.Kind == 7) then iter (mf a0) 1 else (jG a0))))
noncomputable def ik (a0:Call) (a1:Int) (a2:Bool):Option Bool :=
 bif a2 then some false else (bif decide (a0.Kind≤4) then bif !a0.Got then bif ((a0.Vals.length:Int) == 0) then bif (a0.Kind != 4) then some true else (bif decide (a0.Arg ≥ (-1048576)) then some (decide (a0.Arg≤1048576)) else (some false)) else (some false) else (some false) else (bif (a0.Arg != 0) then ig a0 true else (bif (a0.Got != (a1 == 1)) then ig a0 true else (bif !a0.Got then ig a0 (decide ((a0.Vals.length:Int) > 0)) else (ig a0 false)))))
noncomputable def aV (a0:Call) (a1:Int):Option Bool :=
 bif decide (a0.Kind < 1) then ik a0 a1 true else (bif decide (a0.Kind > 8) then ik a0 a1 true else (bif decide ((a0.Key.size:Int) < 1) then ik a0 a1 true else (ik a0 a1 (decide ((a0.Key.size:Int) > 32)))))
noncomputable def lD (a0:Event):Int→Option (Int ⊕ Bool)
 | a1=>bif decide (a1 < (a0.Calls.length:Int)) then must (0≤a1∧a1 < (a0.Calls.length:Int)) ((aV (idx a0.Calls a1) a0.Kind).bind fun a2=>bif !a2 then out (some false) else (some (.inl (w64 (a1 + 1))))) else (out (some true))
noncomputable def jh (a0:Event) (b9:Bool):Option Bool :=
 bif b9 then some false else (iter (lD a0) 0)
noncomputable def dz (a0:Event):Option Bool :=
 bif decide (a0.Kind < 0) then jh a0 true else (bif decide (a0.Kind > 3) then jh a0 true else (jh a0 (decide ((a0.Calls.length:Int) > 16))))
noncomputable def pz (a0:List Event):Int→Option (Int ⊕ Int)
 | a1=>bif decide (a1 < (a0.length:Int)) then must (0≤a1∧a1 < (a0.length:Int)) ((dz (idx a0 a1)).bind fun a2=>bif !a2 then out (some 1) else (some (.inl (w64 (a1 + 1))))) else (out (some 0))
noncomputable def gN (a0:List Event):Option Int :=
 bif decide ((a0.length:Int) > 256) then some 1 else (iter (pz a0) 0)
noncomputable def jK (a0:Int):Option Int :=
 some (w64 (((w64 (a0 - 1)).tmod (4:Int)) + 1))
noncomputable def fU (a1:List ByteArray) (a3:List Int) (a2:List (List Int)) (a0:List Int) (a4:List Int):Option (Int×aB) :=
 some (0,(⟨a1,a3,a2,a0,a4⟩:aB))
noncomputable def fV (a2:Int) (a4:List ByteArray) (a6:List Int) (a1:List Int) (a3:List Int) (a0:Int) (a5:List (List Int)) (a7:Bool):Option (Int×aB) :=
 bif a7 then must (0≤a0∧a0 < (a3.length:Int)) (must (0≤a0∧a0 < (a1.length:Int)) (bif decide (idx (a1.set a0.toNat (w64 ((idx a1 a0) + 1))) a0 > 8) then some (51,(⟨a4,a6,a5,a1.set a0.toNat (w64 ((idx a1 a0) + 1)),a3.set a0.toNat a2⟩:aB)) else (fU a4 a6 a5 (a1.set a0.toNat (w64 ((idx a1 a0) + 1))) (a3.set a0.toNat a2)))) else (fU a4 a6 a5 a1 a3)
noncomputable def fe (a1:Call) (a2:Int) (a4:List ByteArray) (a7:List Int) (a6:List Int) (a3:List Int) (a0:Int) (a5:List (List Int)):Option (Int×aB) :=
 bif (a1.Kind == 4) then must (0≤a0∧a0 < (a3.length:Int)) (fV a2 a4 a7 a6 a3 a0 a5 (idx a3 a0 != a2)) else (fV a2 a4 a7 a6 a3 a0 a5 false)
noncomputable def iV (a1:Call) (a2:Int) (a5:List ByteArray) (a8:List Int) (a3:List (List Int)) (a6:List Int) (a7:List Int) (a0:Int):Int→Option (Int ⊕ (Int×aB))
 | a4=>must (0≤a0∧a0 < (a3.length:Int)) (bif decide (a4 < ((idx a3 a0).length:Int)) then must (0≤a4∧a4 < ((idx a3 a0).length:Int)) (bif (idx (idx a3 a0) a4 == a1.Arg) then out (some (3,(⟨a5,a8,a3,a6,a7⟩:aB))) else (some (.inl (w64 (a4 + 1))))) else (must (((((idx a3 a0).length) + 1) + (((idx a3 a0).length) + 1) / 4 + 192) * 8≤281474976710656∧((idx a3 a0).length) + 1≤9223372036854775807) (out (fe a1 a2 a5 a8 a6 a7 a0 (a3.set a0.toNat ((idx a3 a0)++([a1.Arg]:List Int)))))))
noncomputable def iW (a1:Call) (a2:Int) (a0:List ByteArray) (a5:List Int) (a6:List (List Int)) (a3:List Int) (a4:List Int) (a7:Int) (a8:Bool):Option (Int×aB) :=
 bif a8 then iter (iV a1 a2 a0 a5 a6 a3 a4 a7) 0 else (fe a1 a2 a0 a5 a3 a4 a7 a6)
noncomputable def eu (a1:Call) (a2:Int) (a4:List ByteArray) (a0:List Int) (a7:List (List Int)) (a5:List Int) (a6:List Int) (a3:Int):Option (Int×aB) :=
 must (0≤a3∧a3 < (a0.length:Int)) ((jK a1.Kind).bind fun a8=>bif (idx a0 a3 != a8) then some (50,(⟨a4,a0,a7,a5,a6⟩:aB)) else (bif (a1.Kind == 2) then iW a1 a2 a4 a0 a7 a5 a6 a3 true else (iW a1 a2 a4 a0 a7 a5 a6 a3 (a1.Kind == 3))))
noncomputable def iX (a0:aB) (a1:Call) (a2:Int) (a3:List Int):Option (Int×aB) :=
 must (((a0.wrote.length + 1) + (a0.wrote.length + 1) / 4 + 192) * 24≤281474976710656∧a0.wrote.length + 1≤9223372036854775807) (must (((a0.incs.length + 1) + (a0.incs.length + 1) / 4 + 192) * 8≤281474976710656∧a0.incs.length + 1≤9223372036854775807) (must (((a0.last_.length + 1) + (a0.last_.length + 1) / 4 + 192) * 8≤281474976710656∧a0.last_.length + 1≤9223372036854775807) (eu a1 a2 (a0.keys++([a1.Key]:List ByteArray)) a3 (a0.wrote++([([]:List Int)]:List (List Int))) (a0.incs++([0]:List Int)) (a0.last_++([(-1)]:List Int)) (a0.keys.length:Int))))
noncomputable def iY (a0:aB) (a1:Call) (a2:Int):Option (Int×aB) :=
 (jK a1.Kind).bind fun a3=>must (((a0.types.length + 1) + (a0.types.length + 1) / 4 + 192) * 8≤281474976710656∧a0.types.length + 1≤9223372036854775807) (iX a0 a1 a2 (a0.types++([a3]:List Int)))
noncomputable def ah (a0:aB) (a1:Call) (a2:Int):Option (Int×aB) :=
 (fE a0.keys a1.Key).bind fun y5=>bif decide (y5 < 0) then bif decide ((a0.keys.length:Int) ≥ 32) then some (2,a0) else (must (((a0.keys.length + 1) + (a0.keys.length + 1) / 4 + 192) * 16≤281474976710656∧a0.keys.length + 1≤9223372036854775807) (iY a0 a1 a2)) else (eu a1 a2 a0.keys a0.types a0.wrote a0.incs a0.last_ y5)
noncomputable def pE (a0:History) (a2:Int) (a3:List Call) (a1:Int):Option ((List Call×Int) ⊕ ((List ByteArray×List Int×(List (List Int))×List Int×List Int×Int) ⊕ Int)) :=
 some (.inl (a3++([(⟨(idx ((idx a0.Txns a2).Ops) a1).Kind,idx a0.Keys ((idx ((idx a0.Txns a2).Ops) a1).Key),(idx ((idx a0.Txns a2).Ops) a1).Arg,(idx ((idx a0.Txns a2).Ops) a1).Got,(idx ((idx a0.Txns a2).Ops) a1).Vals⟩:Call)]:List Call),w64 (a1 + 1)))
noncomputable def lF (a0:History) (a3:Int) (a1:List Call) (a2:Int) (a4:Bool):Option ((List Call×Int) ⊕ ((List ByteArray×List Int×(List (List Int))×List Int×List Int×Int) ⊕ Int)) :=
 bif a4 then out (out (some 1)) else (must (0≤(idx ((idx a0.Txns a3).Ops) a2).Key∧(idx ((idx a0.Txns a3).Ops) a2).Key < (a0.Keys.length:Int)) (must (((a1.length + 1) + (a1.length + 1) / 4 + 192) * 64≤281474976710656∧a1.length + 1≤9223372036854775807) (pE a0 a3 a1 a2)))
noncomputable def fF (a3:Int) (a2:List Call):(List ByteArray×List Int×(List (List Int))×List Int×List Int×Int)→Option ((List ByteArray×List Int×(List (List Int))×List Int×List Int×Int) ⊕ ((List Call×Int) ⊕ ((List ByteArray×List Int×(List (List Int))×List Int×List Int×Int) ⊕ Int)))
 | (a7,a4,a5,a6,a8,a1)=>bif decide (a1 < (a2.length:Int)) then must (0≤a1∧a1 < (a2.length:Int)) ((ah (⟨a7,a4,a5,a6,a8⟩:aB) (idx a2 a1) a3).bind fun a0=>bif (a0.1 != 0) then out (out (out (some 1))) else (some (.inl (a0.2.keys,a0.2.types,a0.2.wrote,a0.2.incs,a0.2.last_,w64 (a1 + 1))))) else (out (out (some (.inl (a7,a4,a5,a6,a8,w64 (a3 + 1))))))
noncomputable def fG (a0:History) (a6:List ByteArray) (a9:List Int) (a4:List (List Int)) (a7:List Int) (a5:List Int) (a1:Int):(List Call×Int)→Option ((List Call×Int) ⊕ ((List ByteArray×List Int×(List (List Int))×List Int×List Int×Int) ⊕ Int))
 | (a3,a2)=>bif decide (a2 < (((idx a0.Txns a1).Ops).length:Int)) then must (0≤a2∧a2 < (((idx a0.Txns a1).Ops).length:Int)) (bif decide ((idx ((idx a0.Txns a1).Ops) a2).Key < 0) then lF a0 a1 a3 a2 true else (lF a0 a1 a3 a2 (decide ((idx ((idx a0.Txns a1).Ops) a2).Key ≥ (a0.Keys.length:Int))))) else ((gN ([(⟨0,(idx a0.Txns a1).Status,a3⟩:Event)]:List Event)).bind fun a8=>bif (a8 != 0) then out (out (some 1)) else (iter (fF a1 a3) (a6,a9,a4,a7,a5,0)))
noncomputable def ji (a0:History) (a5:List ByteArray) (a7:List Int) (a3:List (List Int)) (a6:List Int) (a4:List Int) (a1:Int) (a2:Bool):Option ((List ByteArray×List Int×(List (List Int))×List Int×List Int×Int) ⊕ Int) :=
 bif a2 then out (some 1) else (iter (fG a0 a5 a7 a3 a6 a4 a1) ([],0))
noncomputable def jk (a0:History):(List ByteArray×List Int×(List (List Int))×List Int×List Int×Int)→Option ((List ByteArray×List Int×(List (List Int))×List Int×List Int×Int) ⊕ Int)
 | (a4,a6,a2,a5,a3,a1)=>bif decide (a1 < (a0.Txns.length:Int)) then must (0≤a1∧a1 < (a0.Txns.length:Int)) ((aK a0.Txns a1).bind fun a7=>bif !a7 then ji a0 a4 a6 a2 a5 a3 a1 true else (ji a0 a4 a6 a2 a5 a3 a1 (decide ((((idx a0.Txns a1).Ops).length:Int) > 16)))) else (out (some 0))
noncomputable def gH (a0:History) (a1:Bool):Option Int :=
 bif a1 then some 1 else (iter (jk a0) ([],[],[],[],[],0))
noncomputable def ak (a0:History):Option Int :=
 (dM a0.Keys).bind fun a1=>bif !a1 then gH a0 true else (gH a0 (decide ((a0.Txns.length:Int) > 32)))
noncomputable def iO (a1:List Int) (a2:List Int) (a0:Int) (a3:Bool):Option ((List Int×Int) ⊕ (List Int×Bool)) :=
 bif a3 then out (some (([]:List Int),false)) else (must (0≤idx a1 a0∧idx a1 a0 < (a2.length:Int)) (some (.inl (a2.set (idx a1 a0).toNat (w64 (a0 + 1)),w64 (a0 + 1)))))
noncomputable def nU (a0:Int) (a1:Bool):Option (Int ⊕ ((List Int×Int) ⊕ (List Int×Bool))) :=
 bif a1 then out (out (some (([]:List Int),false))) else (some (.inl (w64 (a0 + 1))))
noncomputable def uJ (a0:History) (a2:List Int):Int→Option (Int ⊕ ((List Int×Int) ⊕ (List Int×Bool)))
 | a1=>bif decide (a1 < (a0.Txns.length:Int)) then must (0≤a1∧a1 < (a0.Txns.length:Int)) (bif ((idx a0.Txns a1).Status == 1) then must (0≤a1∧a1 < (a2.length:Int)) (nU a1 (idx a2 a1 == 0)) else (nU a1 false)) else (out (out (some (a2,true))))
noncomputable def uK (a0:History) (a1:List Int):(List Int×Int)→Option ((List Int×Int) ⊕ (List Int×Bool))
 | (a3,a2)=>bif decide (a2 < (a1.length:Int)) then must (0≤a2∧a2 < (a1.length:Int)) (bif decide (idx a1 a2 < 0) then iO a1 a3 a2 true else (bif decide (idx a1 a2 ≥ (a0.Txns.length:Int)) then iO a1 a3 a2 true else (must (0≤idx a1 a2∧idx a1 a2 < (a3.length:Int)) (bif (idx a3 (idx a1 a2) != 0) then iO a1 a3 a2 true else (must (0≤idx a1 a2∧idx a1 a2 < (a0.Txns.length:Int)) (iO a1 a3 a2 ((idx a0.Txns (idx a1 a2)).Status == 2))))))) else (iter (uJ a0 a3) 0)
noncomputable def cO (a0:History) (a1:List Int):Option (List Int×Bool) :=
 must (0≤(a0.Txns.length:Int)∧(a0.Txns.length:Int)≤9223372036854775807∧(8:Int) * (a0.Txns.length:Int)≤281474976710656) (iter (uK a0 a1) (List.replicate (a0.Txns.length:Int).toNat (default:Int),0))
noncomputable def jT (a0:Int):Option Bool :=
 some (decide (a0≤4))
noncomputable def lG (a1:Int) (a0:List Int):Option ((List Int×Int) ⊕ (List Int)) :=
 some (.inl (a0,w64 (a1 + 1)))
noncomputable def lH (a0:History) (a1:Int) (a2:List Int) (a3:Int) (a4:Bool):Option ((List Int×Int) ⊕ (List Int)) :=
 bif a4 then must (((a2.length + 1) + (a2.length + 1) / 4 + 192) * 8≤281474976710656∧a2.length + 1≤9223372036854775807) (lG a3 (a2++([(idx ((idx a0.Txns a1).Ops) a3).Arg]:List Int))) else (lG a3 a2)
noncomputable def pF (a0:History) (a1:Int) (a2:Int):(List Int×Int)→Option ((List Int×Int) ⊕ (List Int))
 | (a4,a3)=>must (0≤a1∧a1 < (a0.Txns.length:Int)) (bif decide (a3 < (((idx a0.Txns a1).Ops).length:Int)) then must (0≤a3∧a3 < (((idx a0.Txns a1).Ops).length:Int)) (bif ((idx ((idx a0.Txns a1).Ops) a3).Key == a2) then (jT ((idx ((idx a0.Txns a1).Ops) a3).Kind)).bind fun a5=>lH a0 a1 a4 a3 a5 else (lH a0 a1 a4 a3 false)) else (out (some a4)))
noncomputable def aM (a0:History) (a1:Int) (a2:Int):Option (List Int) :=
 iter (pF a0 a1 a2) ([],0)
noncomputable def uL (a1:List Int) (a0:Int):Option ((List Int×Int) ⊕ ((List Int×Int) ⊕ (List Int))) :=
 some (.inl ((a1.set a0.toNat (idx a1 (w64 (a0 - 1)))).set (w64 (a0 - 1)).toNat (idx a1 a0),w64 (a0 - 1)))
noncomputable def nV (a2:Int) (a1:List Int) (a0:Int) (a3:Bool):Option ((List Int×Int) ⊕ ((List Int×Int) ⊕ (List Int))) :=
 bif a3 then must (0≤w64 (a0 - 1)∧w64 (a0 - 1) < (a1.length:Int)) (must (0≤a0∧a0 < (a1.length:Int)) (uL a1 a0)) else (out (some (.inl (a1,w64 (a2 + 1)))))
noncomputable def uM (a2:Int):(List Int×Int)→Option ((List Int×Int) ⊕ ((List Int×Int) ⊕ (List Int)))
 | (a1,a0)=>bif decide (a0 > 0) then must (0≤a0∧a0 < (a1.length:Int)) (must (0≤w64 (a0 - 1)∧w64 (a0 - 1) < (a1.length:Int)) (nV a2 a1 a0 (decide (idx a1 a0 < idx a1 (w64 (a0 - 1)))))) else (nV a2 a1 a0 false)
noncomputable def uN (a0:List Int):(List Int×Int)→Option ((List Int×Int) ⊕ (List Int))
 | (a2,a1)=>bif decide (a1 < (a0.length:Int)) then must (0≤a1∧a1 < (a0.length:Int)) (must (((a2.length + 1) + (a2.length + 1) / 4 + 192) * 8≤281474976710656∧a2.length + 1≤9223372036854775807) (iter (uM a1) (a2++([idx a0 a1]:List Int),w64 (((a2++([idx a0 a1]:List Int)).length:Int) - 1)))) else (out (some a2))
noncomputable def dP (a0:List Int):Option (List Int) :=
 iter (uN a0) ([],0)
noncomputable def gu (a0:List Int):Option (List Int) :=
 some a0
noncomputable def uO (a1:List Int):(Int×Int)→Option ((Int×Int) ⊕ (List Int))
 | (a2,a0)=>bif decide (a0 < (a1.length:Int)) then must (0≤a0∧a0 < (a1.length:Int)) (some (.inl (w64 (a2 + (idx a1 a0)),w64 (a0 + 1)))) else (out (gu ([a2]:List Int)))
noncomputable def nW (a2:Int) (a0:List Int):Option (List Int) :=
 bif (a2 == 1) then bif decide ((a0.length:Int) > 0) then must (0≤(w64 ((a0.length:Int) - 1))∧(w64 ((a0.length:Int) - 1))≤(a0.length:Int)∧(a0.length:Int)≤(a0.length:Int)) (gu (dA a0 (w64 ((a0.length:Int) - 1)) (a0.length:Int))) else (gu a0) else (bif (a2 == 3) then (dP a0).bind fun a1=>gu a1 else (bif (a2 == 4) then iter (uO a0) (0,0) else (gu a0)))
noncomputable def nX (a0:History) (a1:List Int) (a2:Int) (a3:Int) (a4:Int) (a5:List Int) (a7:Int) (a8:Bool):Option ((List Int×Int) ⊕ (List Int)) :=
 bif a8 then must (0≤a7∧a7 < (a1.length:Int)) ((aM a0 (idx a1 a7) a3).bind fun a6=>must (((a5.length + a6.length) + (a5.length + a6.length) / 4 + 192) * 8≤281474976710656∧a5.length + a6.length≤9223372036854775807) (bif (idx a1 a7 == a4) then out (nW a2 (a5++a6)) else (some (.inl (a5++a6,w64 (a7 + 1)))))) else (out (nW a2 a5))
noncomputable def uP (a0:History) (a1:List Int) (a2:Int) (a3:Int) (a4:Int):(List Int×Int)→Option ((List Int×Int) ⊕ (List Int))
 | (a6,a5)=>bif decide (a5 < (a1.length:Int)) then nX a0 a1 a2 a3 a4 a6 a5 (decide (a4 ≥ 0)) else (nX a0 a1 a2 a3 a4 a6 a5 false)
noncomputable def bD (a0:History) (a1:List Int) (a2:Int) (a3:Int) (a4:Int):Option (List Int) :=
 iter (uP a0 a1 a2 a3 a4) ([],0)
noncomputable def wJ (a0:History) (a1:Int) (a2:Int):Int→Option (Int ⊕ (Int ⊕ Int))
 | a3=>must (0≤a2∧a2 < (a0.Txns.length:Int)) (bif decide (a3 < (((idx a0.Txns a2).Ops).length:Int)) then must (0≤a3∧a3 < (((idx a0.Txns a2).Ops).length:Int)) (bif ((idx ((idx a0.Txns a2).Ops) a3).Key == a1) then (jK ((idx ((idx a0.Txns a2).Ops) a3).Kind)).bind fun a4=>out (out (some a4)) else (some (.inl (w64 (a3 + 1))))) else (out (some (.inl (w64 (a2 + 1))))))
noncomputable def wK (a0:History) (a1:Int):Int→Option (Int ⊕ Int)
 | a2=>bif decide (a2 < (a0.Txns.length:Int)) then iter (wJ a0 a1 a2) 0 else (out (some 0))
noncomputable def jL (a0:History) (a1:Int):Option Int :=
 (ak a0).bind fun y8=>bif (y8 != 0) then some 0 else (iter (wK a0 a1) 0)
noncomputable def fI (a0:History) (a1:List Int) (a2:Int) (a3:Int) (a4:Bool):Option (List Int×Bool) :=
 bif a4 then some (([]:List Int),false) else ((jL a0 a2).bind fun a6=>(bD a0 a1 a6 a2 a3).bind fun a5=>some (a5,true))
noncomputable def jU (a0:History) (a1:List Int) (a2:Int) (a3:Int) (a5:Bool):Option (List Int×Bool) :=
 bif a5 then some (([]:List Int),false) else ((cO a0 a1).bind fun a4=>bif !a4.2 then fI a0 a1 a2 a3 true else (bif decide (a3 < (-1)) then fI a0 a1 a2 a3 true else (bif decide (a3 ≥ (a4.1.length:Int)) then fI a0 a1 a2 a3 true else (bif decide (a3 ≥ 0) then must (0≤a3∧a3 < (a4.1.length:Int)) (fI a0 a1 a2 a3 (idx a4.1 a3 == 0)) else (fI a0 a1 a2 a3 false)))))
noncomputable def dJ (a0:History) (a1:List Int) (a2:Int) (a3:Int):Option (List Int×Bool) :=
 (ak a0).bind fun a4=>bif (a4 != 0) then jU a0 a1 a2 a3 true else (bif decide (a2 < 0) then jU a0 a1 a2 a3 true else (jU a0 a1 a2 a3 (decide (a2 ≥ (a0.Keys.length:Int)))))
noncomputable def gI (a1:Int) (a0:Bool):Option (Int ⊕ (Int ⊕ Bool)) :=
 bif a0 then out (out (some false)) else (some (.inl (w64 (a1 + 1))))
noncomputable def uZ (a0:History) (a1:List Int) (a3:Int):Int→Option (Int ⊕ (Int ⊕ Bool))
 | a2=>bif decide (a2 < (a1.length:Int)) then must (0≤a3∧a3 < (a1.length:Int)) (bif (idx a1 a3 != 0) then must (0≤a2∧a2 < (a1.length:Int)) (bif (idx a1 a2 != 0) then must (0≤a3∧a3 < (a0.Txns.length:Int)) (bif ((idx a0.Txns a3).Status == 1) then must (0≤a2∧a2 < (a0.Txns.length:Int)) (bif decide ((idx a0.Txns a3).To < (idx a0.Txns a2).From) then gI a2 (decide (idx a1 a3 ≥ idx a1 a2)) else (gI a2 false)) else (gI a2 false)) else (gI a2 false)) else (gI a2 false)) else (out (some (.inl (w64 (a3 + 1)))))
noncomputable def ve (a0:History) (a1:List Int):Int→Option (Int ⊕ Bool)
 | a2=>bif decide (a2 < (a1.length:Int)) then iter (uZ a0 a1 a2) 0 else (out (some true))
noncomputable def dZ (a0:History) (a1:List Int):Option Bool :=
 iter (ve a0 a1) 0
noncomputable def lQ (a1:Int) (a0:List Int):Option ((List Int×Int) ⊕ (List Int)) :=
 some (.inl (a0,w64 (a1 + 1)))
noncomputable def lS (a0:List Int) (a1:Int) (a2:Bool):Option ((List Int×Int) ⊕ (List Int)) :=
 bif a2 then must (((a0.length + 1) + (a0.length + 1) / 4 + 192) * 8≤281474976710656∧a0.length + 1≤9223372036854775807) (lQ a1 (a0++([a1]:List Int))) else (lQ a1 a0)
noncomputable def oz (a0:History) (a1:Int):(List Int×Int)→Option ((List Int×Int) ⊕ (List Int))
 | (a3,a2)=>bif decide (a2 < (a0.Txns.length:Int)) then must (0≤a2∧a2 < (a0.Txns.length:Int)) (bif ((idx a0.Txns a2).Status != 2) then (dI (idx a0.Txns a2) a1).bind fun a4=>lS a3 a2 (decide ((a4.length:Int) > 0)) else (lS a3 a2 false)) else (out (some a3))
noncomputable def cZ (a0:History) (a1:Int):Option (List Int) :=
 (aA a0).bind fun y8=>bif (y8 != 0) then some ([]:List Int) else (iter (oz a0 a1) ([],0))
noncomputable def lT (a1:Int) (a0:List aF):Option ((List aF×Int) ⊕ (List aF)) :=
 some (.inl (a0,w64 (a1 + 1)))
noncomputable def lU (a2:List Int) (a0:List aF) (a1:Int) (a3:List Int×Bool) (a4:Bool):Option ((List aF×Int) ⊕ (List aF)) :=
 bif a4 then must (((a0.length + 1) + (a0.length + 1) / 4 + 192) * 32≤281474976710656∧a0.length + 1≤9223372036854775807) (lT a1 (a0++([(⟨idx a2 a1,a3.1⟩:aF)]:List aF))) else (lT a1 a0)
noncomputable def oC (a0:History) (a1:Ask) (a3:List Int):(List aF×Int)→Option ((List aF×Int) ⊕ (List aF))
 | (a5,a2)=>bif decide (a2 < (a3.length:Int)) then must (0≤a2∧a2 < (a3.length:Int)) ((fQ a0 (idx a3 a2) a1.Key).bind fun a4=>bif a4.2 then lU a3 a5 a2 a4 (idx a3 a2 != a1.Txn) else (lU a3 a5 a2 a4 false)) else (out (some a5))
noncomputable def bM (a0:History) (a1:Ask):Option (List aF) :=
 (cZ a0 a1.Key).bind fun a2=>iter (oC a0 a1 a2) ([],0)
noncomputable def oN (a0:aF) (a1:List Int):Option Bool :=
 must (0≤(0:Int)∧(0:Int) < (a0.args.length:Int)) (must (0≤(0:Int)∧(0:Int) < (a1.length:Int)) (some (idx a0.args (0:Int) == idx a1 (0:Int))))
noncomputable def mg (a0:List Int) (a1:Int):Int→Option (Int ⊕ Int)
 | a2=>bif decide (a2 < (a0.length:Int)) then must (0≤a2∧a2 < (a0.length:Int)) (bif (a1 == idx a0 a2) then out (some a2) else (some (.inl (w64 (a2 + 1))))) else (out (some (-1)))
noncomputable def slices_Index_int (a0:List Int) (a1:Int):Option Int :=
 iter (mg a0 a1) 0
noncomputable def slices_Contains_int (a0:List Int) (a1:Int):Option Bool :=
 (slices_Index_int a0 a1).bind fun y3=>some (decide (y3 ≥ 0))
noncomputable def eO (a0:List aF) (a1c0:List Int):Int→Option (Int ⊕ Int)
 | a1=>bif decide (a1 < (a0.length:Int)) then must (0≤a1∧a1 < (a0.length:Int)) ((oN (idx a0 a1) a1c0).bind fun a2=>bif a2 then out (some a1) else (some (.inl (w64 (a1 + 1))))) else (out (some (-1)))
noncomputable def aY (a0:List aF) (a1c0:List Int):Option Int :=
 iter (eO a0 a1c0) 0
noncomputable def jM (a1:List aF) (a2:List Int) (a3:List Int) (a0:Int) (a4:Bool):Option ((List Int×List Int) ⊕ (List Int×Bool)) :=
 bif a4 then out (some (([]:List Int),false)) else (must (0≤a0∧a0 < (a1.length:Int)) (must (((a3.length + 1) + (a3.length + 1) / 4 + 192) * 8≤281474976710656∧a3.length + 1≤9223372036854775807) (must (0≤(((idx a1 a0).args).length:Int)∧(((idx a1 a0).args).length:Int)≤(a2.length:Int)∧(a2.length:Int)≤(a2.length:Int)) (some (.inl (dA a2 (((idx a1 a0).args).length:Int) (a2.length:Int),a3++([(idx a1 a0).txn]:List Int)))))))
noncomputable def nA (a1:List aF):(List Int×List Int)→Option ((List Int×List Int) ⊕ (List Int×Bool))
 | (a2,a3)=>bif decide ((a2.length:Int) > 0) then (aY a1 a2).bind fun a0=>bif decide (a0 < 0) then jM a1 a2 a3 a0 true else (must (0≤a0∧a0 < (a1.length:Int)) (bif decide ((((idx a1 a0).args).length:Int) > (a2.length:Int)) then jM a1 a2 a3 a0 true else (must (0≤(0:Int)∧(0:Int)≤(((idx a1 a0).args).length:Int)∧(((idx a1 a0).args).length:Int)≤(a2.length:Int)) ((dB ((idx a1 a0).args) (dA a2 (0:Int) (((idx a1 a0).args).length:Int))).bind fun a4=>bif !a4 then jM a1 a2 a3 a0 true else ((slices_Contains_int a3 ((idx a1 a0).txn)).bind fun a5=>jM a1 a2 a3 a0 a5))))) else (out (some (a3,true)))
noncomputable def dR (a0:List Int) (a1:List aF):Option (List Int×Bool) :=
 iter (nA a1) (a0,[])
noncomputable def oO (a0:Int) (a2:List Int) (a1:List (Int×Unit)):Option ((List Int×(List (Int×Unit))×Int) ⊕ (((List (Int×Unit))×Int) ⊕ (List Int×Bool))) :=
 some (.inl (a2,a1,w64 (a0 + 1)))
noncomputable def oP (a1:Int) (a2:List (Int×Unit)) (a0:Int):Option (((List (Int×Unit))×Int×Int) ⊕ ((List Int×(List (Int×Unit))×Int) ⊕ (((List (Int×Unit))×Int) ⊕ (List Int×Bool)))) :=
 some (.inl (a2,a0,w64 (a1 + 1)))
noncomputable def oQ (a1:List aF) (a0:List Int) (a2:Int) (a3:List (Int×Unit)) (a4:Int) (a5:Bool):Option (((List (Int×Unit))×Int×Int) ⊕ ((List Int×(List (Int×Unit))×Int) ⊕ (((List (Int×Unit))×Int) ⊕ (List Int×Bool)))) :=
 bif a5 then out (out (out (some (([]:List Int),false)))) else (bif decide (a4 > 0) then must (((a0.length + 1) + (a0.length + 1) / 4 + 192) * 8≤281474976710656∧a0.length + 1≤9223372036854775807) (out (oO a2 (a0++([(idx a1 a2).txn]:List Int)) a3)) else (out (oO a2 a0 a3)))
noncomputable def su (a1:List aF) (a5:List Int) (a2:Int):((List (Int×Unit))×Int×Int)→Option (((List (Int×Unit))×Int×Int) ⊕ ((List Int×(List (Int×Unit))×Int) ⊕ (((List (Int×Unit))×Int) ⊕ (List Int×Bool))))
 | (a4,a3,a0)=>bif decide (a0 < (((idx a1 a2).args).length:Int)) then must (0≤a0∧a0 < (((idx a1 a2).args).length:Int)) (bif jr a4 (idx ((idx a1 a2).args) a0) then oP a0 (zB a4 (idx ((idx a1 a2).args) a0)) (w64 (a3 + 1)) else (oP a0 a4 a3)) else (bif decide (a3 > 0) then oQ a1 a5 a2 a4 a3 (decide (a3 < (((idx a1 a2).args).length:Int))) else (oQ a1 a5 a2 a4 a3 false))
noncomputable def sw (a1:List aF):(List Int×(List (Int×Unit))×Int)→Option ((List Int×(List (Int×Unit))×Int) ⊕ (((List (Int×Unit))×Int) ⊕ (List Int×Bool)))
 | (a2,a3,a0)=>bif decide (a0 < (a1.length:Int)) then must (0≤a0∧a0 < (a1.length:Int)) (iter (su a1 a2 a0) (a3,0,0)) else (bif decide ((a3.length:Int) > 0) then out (out (some (([]:List Int),false))) else (out (out (some (a2,true)))))
noncomputable def sD (a0:List Int) (a1:List aF):((List (Int×Unit))×Int)→Option (((List (Int×Unit))×Int) ⊕ (List Int×Bool))
 | (a3,a2)=>bif decide (a2 < (a0.length:Int)) then must (0≤a2∧a2 < (a0.length:Int)) (some (.inl (fM a3 (idx a0 a2) (),w64 (a2 + 1)))) else (iter (sw a1) ([],a3,0))
noncomputable def bF (a0:List Int) (a1:List aF):Option (List Int×Bool) :=
 iter (sD a0 a1) ([],0)
noncomputable def nC (a0:History) (a1:Ask):Option (List Int×Bool) :=
 (eB a0 a1.Key).bind fun a4=>bif (a4 == 2) then (bM a0 a1).bind fun a6=>(dR a1.Base a6).bind fun a3=>some (a3.1,a3.2) else (bif (a4 == 3) then (bM a0 a1).bind fun a5=>(bF a1.Base a5).bind fun a2=>some (a2.1,a2.2) else (some (([]:List Int),false)))
noncomputable def mh (a0:Int) (a2:Int) (a3:List aF) (a4:Int) (rec:Int→Int→Int→(List aF)→Int→Int→Option Int) (a7:Int):(Int×Int)→Option ((Int×Int) ⊕ Int)
 | (a5,a1)=>bif decide (a1 < (((idx a3 a0).args).length:Int)) then must (0≤a1∧a1 < (((idx a3 a0).args).length:Int)) (some (.inl (w64 (a5 + (idx ((idx a3 a0).args) a1)),w64 (a1 + 1)))) else (must (0≤a0∧a0 < (far:Int)) ((rec (w64 (a0 + 1)) a5 (bOr .u64 a2 (zy .u64 1 a0)) a3 a4 a7).bind fun a6=>out (some a6)))
noncomputable def iP (rec:Int→Int→Int→(List aF)→Int→Int→Option Int) (a0:Int) (a1:Int) (a2:Int) (a3:List aF) (a4:Int) (a5:Int):Option Int :=
 bif (a0 == (a3.length:Int)) then bif (a1 == a4) then some (bOr .u64 a5 a2) else (some a5) else ((rec (w64 (a0 + 1)) a1 a2 a3 a4 a5).bind fun a6=>must (0≤a0∧a0 < (a3.length:Int)) (iter (mh a0 a2 a3 a4 rec a6) (a1,0)))
noncomputable def fq:Nat→Int→Int→Int→(List aF)→Int→Int→Option Int
 | 0=>fun _ _ _ _ _ _=>none
 | k + 1=>iP (fq k)
noncomputable def aW (a0:Int) (a1:Int) (a2:Int) (a3:List aF) (a4:Int) (a5:Int):Option Int:=fq 64 a0 a1 a2 a3 a4 a5
noncomputable def kX (a1:Int) (a0:List Int):Option ((List Int×Int) ⊕ (List Int)) :=
 some (.inl (a0,w64 (a1 + 1)))
noncomputable def nD (a1:List aF) (a3:Int):(List Int×Int)→Option ((List Int×Int) ⊕ (List Int))
 | (a2,a0)=>bif decide (a0 < (a1.length:Int)) then must (0≤a0∧a0 < (a1.length:Int)) (must (0≤a0∧a0 < (far:Int)) (bif (yN .u64 (um .u64 a3 a0) 1 == 1) then must (((a2.length + 1) + (a2.length + 1) / 4 + 192) * 8≤281474976710656∧a2.length + 1≤9223372036854775807) (kX a0 (a2++([(idx a1 a0).txn]:List Int))) else (kX a0 a2))) else (out (some a2))
noncomputable def dN (a0:Int) (a1:List aF):Option (List Int) :=
 (aW 0 0 0 a1 a0 0).bind fun a2=>iter (nD a1 a2) ([],0)
noncomputable def eG (a0:List Int):Option (List Int) :=
 some a0
noncomputable def kY (a0:History) (a1:Ask) (a2:List Int):Option (List Int) :=
 must (0≤(0:Int)∧(0:Int) < (a1.Base.length:Int)) ((bM a0 a1).bind fun a4=>(dN (idx a1.Base (0:Int)) a4).bind fun a3=>must (((a2.length + a3.length) + (a2.length + a3.length) / 4 + 192) * 8≤281474976710656∧a2.length + a3.length≤9223372036854775807) (eG (a2++a3)))
noncomputable def kZ (a1:Int) (a0:List Int):Option ((List Int×Int) ⊕ (List Int)) :=
 some (.inl (a0,w64 (a1 + 1)))
noncomputable def lc (a1:Ask) (a2:List aF):(List Int×Int)→Option ((List Int×Int) ⊕ (List Int))
 | (a3,a0)=>bif decide (a0 < (a2.length:Int)) then must (0≤a0∧a0 < (a2.length:Int)) (must (0≤w64 ((((idx a2 a0).args).length:Int) - 1)∧w64 ((((idx a2 a0).args).length:Int) - 1) < (((idx a2 a0).args).length:Int)) (must (0≤(0:Int)∧(0:Int) < (a1.Base.length:Int)) (bif (idx ((idx a2 a0).args) (w64 ((((idx a2 a0).args).length:Int) - 1)) == idx a1.Base (0:Int)) then must (((a3.length + 1) + (a3.length + 1) / 4 + 192) * 8≤281474976710656∧a3.length + 1≤9223372036854775807) (kZ a0 (a3++([(idx a2 a0).txn]:List Int))) else (kZ a0 a3)))) else (out (eG a3))
noncomputable def aO (a0:History) (a1:Ask):Option (List Int) :=
 (eB a0 a1.Key).bind fun a3=>bif (a3 == 4) then must (0≤(0:Int)∧(0:Int) < (a1.Base.length:Int)) (bif (idx a1.Base (0:Int) == 0) then must (((0 + 1) + (0 + 1) / 4 + 192) * 8≤281474976710656∧0 + 1≤9223372036854775807) (kY a0 a1 (([]:List Int)++([(-1)]:List Int))) else (kY a0 a1 [])) else (bif ((a1.Base.length:Int) == 0) then eG ([(-1)]:List Int) else (bif (a3 == 1) then (bM a0 a1).bind fun a4=>iter (lc a1 a4) ([],0) else (bif (a3 == 2) then (nC a0 a1).bind fun a2=>bif a2.2 then must (0≤(w64 ((a2.1.length:Int) - 1))∧(w64 ((a2.1.length:Int) - 1))≤(a2.1.length:Int)∧(a2.1.length:Int)≤(a2.1.length:Int)) (eG (dA a2.1 (w64 ((a2.1.length:Int) - 1)) (a2.1.length:Int))) else (eG []) else ((nC a0 a1).bind fun a5=>eG a5.1))))
noncomputable def lI (a0:Ask) (a1:Ask):Option Bool :=
 bif (a1.Txn == a0.Txn) then bif (a1.Place == a0.Place) then bif (a1.Key == a0.Key) then (dB a1.Base a0.Base).bind fun a2=>some a2 else (some false) else (some false) else (some false)
noncomputable def eU (a0:List Ask) (a1c0:Ask):Int→Option (Int ⊕ Int)
 | a1=>bif decide (a1 < (a0.length:Int)) then must (0≤a1∧a1 < (a0.length:Int)) ((lI (idx a0 a1) a1c0).bind fun a2=>bif a2 then out (some a1) else (some (.inl (w64 (a1 + 1))))) else (out (some (-1)))
noncomputable def bf (a0:List Ask) (a1c0:Ask):Option Int :=
 iter (eU a0 a1c0) 0
noncomputable def dm (a0:List Ask) (a1c0:Ask):Option Bool :=
 (bf a0 a1c0).bind fun y3=>some (decide (y3 ≥ 0))
noncomputable def nE (a0:History) (a1:Ask):Option Int :=
 (gY a0).bind fun y9=>bif (y9.2 != 0) then some y9.2 else ((dm y9.1 a1).bind fun a2=>bif a2 then some 0 else (some 1))
noncomputable def lJ (a0:History) (a1:Ask):Option (List Int×Int) :=
 (nE a0 a1).bind fun a2=>bif (a2 != 0) then some (([]:List Int),a2) else ((aO a0 a1).bind fun a3=>some (a3,0))
noncomputable def dV (a1:Int) (a0:Bool):Option (Int ⊕ Bool) :=
 bif a0 then out (some false) else (some (.inl (w64 (a1 + 1))))
noncomputable def dE (a0:Int) (a1:Bool):Option (Int ⊕ (Int ⊕ Bool)) :=
 bif a1 then out (out (some false)) else (some (.inl (w64 (a0 + 1))))
noncomputable def fJ (a0:History) (a1:Exec):Int→Option (Int ⊕ (Int ⊕ Bool))
 | a2=>bif decide (a2 < (a0.Txns.length:Int)) then must (0≤a2∧a2 < (a0.Txns.length:Int)) (bif ((idx a0.Txns a2).Status == 1) then (dD a1.Order a2).bind fun a3=>bif !a3 then dE a2 true else (bif ((idx a0.Txns a2).Status == 2) then (dD a1.Order a2).bind fun a5=>dE a2 a5 else (dE a2 false)) else (bif ((idx a0.Txns a2).Status == 2) then (dD a1.Order a2).bind fun a4=>dE a2 a4 else (dE a2 false))) else (out (out (some true)))
noncomputable def iE (a0:History) (a1:Exec) (a3:List Ask×Int):Int→Option (Int ⊕ Bool)
 | a2=>bif decide (a2 < (a3.1.length:Int)) then must (0≤a2∧a2 < (a3.1.length:Int)) ((lJ a0 (idx a3.1 a2)).bind fun a5=>must (0≤a2∧a2 < (a1.Picks.length:Int)) ((dG a0 a1.Order ((idx a3.1 a2).Key) (idx a1.Picks a2)).bind fun a4=>bif (a5.2 != 0) then dV a2 true else ((dD a5.1 (idx a1.Picks a2)).bind fun a7=>bif !a7 then dV a2 true else (bif !a4.2 then dV a2 true else ((bI a4.1 ((idx a3.1 a2).Base)).bind fun a6=>dV a2 (!a6)))))) else (iter (fJ a0 a1) 0)
noncomputable def fK (a0:History) (a1:Exec) (a2:List Ask×Int) (a3:Bool):Option Bool :=
 bif a3 then some false else (iter (iE a0 a1 a2) 0)
noncomputable def dW (a0:History) (a1:Exec) (a3:Int×Int) (a4:Bool):Option Bool :=
 bif a4 then bif decide (a3.1 ≥ 0) then some (decide (a3.1≤6)) else (some false) else ((gY a0).bind fun a2=>bif (a2.2 != 0) then fK a0 a1 a2 true else (fK a0 a1 a2 ((a2.1.length:Int) != (a1.Picks.length:Int))))
noncomputable def ai (a0:History) (a1:Exec):Option Bool :=
 (gL).bind fun a3=>bif !a3 then some false else ((eF a0 a1).bind fun a2=>bif (a2.2 != 0) then dW a0 a1 a2 true else (dW a0 a1 a2 (a2.1 != 0)))
noncomputable def jl (a0:Bool):Option Int :=
 bif !a0 then some 80 else (some 0)
noncomputable def pG (a0:Int) (a1:Bool):Option ((Bool×Int) ⊕ Int) :=
 some (.inl (a1,w64 (a0 + 1)))
noncomputable def vg (a1:List Int):(Bool×Int)→Option ((Bool×Int) ⊕ Int)
 | (a2,a0)=>bif decide (a0 < (a1.length:Int)) then bif a2 then must (0≤w64 (a0 - 1)∧w64 (a0 - 1) < (a1.length:Int)) (must (0≤a0∧a0 < (a1.length:Int)) (pG a0 (decide (idx a1 (w64 (a0 - 1)) < idx a1 a0)))) else (pG a0 false) else (out (jl a2))
noncomputable def pI (a0:Int) (a1:List Int) (b5:Bool):Option Int :=
 bif b5 then some 1 else (bif (a0 == 1) then jl (decide ((a1.length:Int)≤1)) else (bif (a0 == 4) then jl ((a1.length:Int) == 1) else (bif (a0 == 3) then iter (vg a1) (decide ((a1.length:Int)≤64),1) else (jl (decide ((a1.length:Int)≤64))))))
noncomputable def cz (a0:Int) (a1:List Int):Option Int :=
 bif decide (a0 < 1) then pI a0 a1 true else (pI a0 a1 (decide (a0 > 4)))
noncomputable def xx (a0:List Int) (a1:Int):Int→Option (Int ⊕ Bool)
 | a2=>bif decide (a2 < (a0.length:Int)) then must (0≤a2∧a2 < (a0.length:Int)) (bif (idx a0 a2 == a1) then out (some true) else (some (.inl (w64 (a2 + 1))))) else (out (some false))
noncomputable def lK (a0:List Int) (a1:Int):Option Bool :=
 iter (xx a0 a1) 0
noncomputable def uQ (a2:List Int):(Int×Int)→Option ((Int×Int) ⊕ (List Int×Bool))
 | (a1,a0)=>bif decide (a0 < (a2.length:Int)) then must (0≤a0∧a0 < (a2.length:Int)) (some (.inl (w64 (a1 - (idx a2 a0)),w64 (a0 + 1)))) else (out (some (([a1]:List Int),true)))
noncomputable def uR (a1:List Int) (a2:List Int):Int→Option (Int ⊕ (List Int×Bool))
 | a0=>bif decide (a0 < (a2.length:Int)) then must (0≤w64 ((w64 ((a1.length:Int) - (a2.length:Int))) + a0)∧w64 ((w64 ((a1.length:Int) - (a2.length:Int))) + a0) < (a1.length:Int)) (must (0≤a0∧a0 < (a2.length:Int)) (bif (idx a1 (w64 ((w64 ((a1.length:Int) - (a2.length:Int))) + a0)) != idx a2 a0) then out (some (([]:List Int),false)) else (some (.inl (w64 (a0 + 1)))))) else (must (0≤(0:Int)∧(0:Int)≤(w64 ((a1.length:Int) - (a2.length:Int)))∧(w64 ((a1.length:Int) - (a2.length:Int)))≤(a1.length:Int)) (must (((0 + ((dA a1 (0:Int) (w64 ((a1.length:Int) - (a2.length:Int)))).length)) + (0 + ((dA a1 (0:Int) (w64 ((a1.length:Int) - (a2.length:Int)))).length)) / 4 + 192) * 8≤281474976710656∧0 + ((dA a1 (0:Int) (w64 ((a1.length:Int) - (a2.length:Int)))).length)≤9223372036854775807) (out (some (([]:List Int)++(dA a1 (0:Int) (w64 ((a1.length:Int) - (a2.length:Int)))),true)))))
noncomputable def nY (a1:Int) (a0:Bool):Option (Int ⊕ (List Int×Bool)) :=
 bif a0 then out (some (([]:List Int),false)) else (some (.inl (w64 (a1 + 1))))
noncomputable def nZ (a0:Int) (a1:List Int):Option ((List Int×Int) ⊕ (Int ⊕ (List Int×Bool))) :=
 some (.inl (a1,w64 (a0 + 1)))
noncomputable def uS (a1:List Int) (a2:List Int):(List Int×Int)→Option ((List Int×Int) ⊕ (Int ⊕ (List Int×Bool)))
 | (a3,a0)=>bif decide (a0 < (a1.length:Int)) then must (0≤a0∧a0 < (a1.length:Int)) ((lK a2 (idx a1 a0)).bind fun a4=>bif !a4 then must (((a3.length + 1) + (a3.length + 1) / 4 + 192) * 8≤281474976710656∧a3.length + 1≤9223372036854775807) (nZ a0 (a3++([idx a1 a0]:List Int))) else (nZ a0 a3)) else (out (out (some (a3,true))))
noncomputable def uT (a1:List Int) (a2:List Int):Int→Option (Int ⊕ (List Int×Bool))
 | a0=>bif decide (a0 < (a2.length:Int)) then must (0≤a0∧a0 < (a2.length:Int)) ((lK a1 (idx a2 a0)).bind fun a4=>bif !a4 then nY a0 true else (must (0≤(0:Int)∧(0:Int)≤a0∧a0≤(a2.length:Int)) ((lK (dA a2 (0:Int) a0) (idx a2 a0)).bind fun a3=>nY a0 a3))) else (iter (uS a1 a2) ([],0))
noncomputable def og (a0:Int) (a1:List Int) (a2:List Int) (b9:Bool):Option (List Int×Bool) :=
 bif b9 then some (([]:List Int),false) else (bif (a0 == 1) then bif ((a1.length:Int) == 1) then must (0≤(0:Int)∧(0:Int) < (a1.length:Int)) (must (0≤w64 ((a2.length:Int) - 1)∧w64 ((a2.length:Int) - 1) < (a2.length:Int)) (some (([]:List Int),(idx a1 (0:Int) == idx a2 (w64 ((a2.length:Int) - 1)))))) else (some (([]:List Int),false)) else (bif (a0 == 4) then must (0≤(0:Int)∧(0:Int) < (a1.length:Int)) (iter (uQ a2) (idx a1 (0:Int),0)) else (bif (a0 == 2) then bif decide ((a2.length:Int) > (a1.length:Int)) then some (([]:List Int),false) else (iter (uR a1 a2) 0) else (iter (uT a1 a2) 0))))
noncomputable def bv (a0:Int) (a1:List Int) (a2:List Int):Option (List Int×Bool) :=
 (cz a0 a1).bind fun a3=>bif (a3 != 0) then og a0 a1 a2 true else (og a0 a1 a2 ((a2.length:Int) == 0))
noncomputable def lg (a0:Int) (a2:List Ask) (a1:List fP):Option ((List Ask×List fP×Int) ⊕ (List Ask×List fP)) :=
 some (.inl (a2,a1,w64 (a0 + 1)))
noncomputable def rJ (a0:Int) (a1:List Int):Option ((List Int×Int) ⊕ ((List Ask×List fP×Int) ⊕ (List Ask×List fP))) :=
 some (.inl (a1,w64 (a0 + 1)))
noncomputable def rM (a0:History) (a1:Int) (a3:List Int) (a2:Int) (a4:Bool):Option ((List Int×Int) ⊕ ((List Ask×List fP×Int) ⊕ (List Ask×List fP))) :=
 bif a4 then must (0≤a2∧a2 < (((idx a0.Txns a1).Ops).length:Int)) (must (((a3.length + 1) + (a3.length + 1) / 4 + 192) * 8≤281474976710656∧a3.length + 1≤9223372036854775807) (rJ a2 (a3++([(idx ((idx a0.Txns a1).Ops) a2).Arg]:List Int)))) else (rJ a2 a3)
noncomputable def rO (a0:History) (a1:Int) (a2:List Ask) (a5:List fP) (a3:Int) (a4:List Int):Option ((List Int×Int) ⊕ ((List Ask×List fP×Int) ⊕ (List Ask×List fP))) :=
 must (((a2.length + 1) + (a2.length + 1) / 4 + 192) * 48≤281474976710656∧a2.length + 1≤9223372036854775807) (out (lg a3 (a2++([(⟨a1,a3,(idx ((idx a0.Txns a1).Ops) a3).Key,a4⟩:Ask)]:List Ask)) a5))
noncomputable def xy (a0:History) (a1:Int) (a6:List Ask) (a4:List fP) (a2:Int):(List Int×Int)→Option ((List Int×Int) ⊕ ((List Ask×List fP×Int) ⊕ (List Ask×List fP)))
 | (a5,a3)=>bif decide (a3 < a2) then must (0≤a3∧a3 < (((idx a0.Txns a1).Ops).length:Int)) (bif ((idx ((idx a0.Txns a1).Ops) a3).Key == (idx ((idx a0.Txns a1).Ops) a2).Key) then (jT ((idx ((idx a0.Txns a1).Ops) a3).Kind)).bind fun a9=>rM a0 a1 a5 a3 a9 else (rM a0 a1 a5 a3 false)) else (must (((0 + (((idx ((idx a0.Txns a1).Ops) a2).Vals).length)) + (0 + (((idx ((idx a0.Txns a1).Ops) a2).Vals).length)) / 4 + 192) * 8≤281474976710656∧0 + (((idx ((idx a0.Txns a1).Ops) a2).Vals).length)≤9223372036854775807) (bif decide ((a5.length:Int) > 0) then (jK ((idx ((idx a0.Txns a1).Ops) a2).Kind)).bind fun a8=>(bv a8 ((idx ((idx a0.Txns a1).Ops) a2).Vals) a5).bind fun a7=>bif !a7.2 then must (((a4.length + 1) + (a4.length + 1) / 4 + 192) * 16≤281474976710656∧a4.length + 1≤9223372036854775807) (out (lg a2 a6 (a4++([(⟨a1,a2⟩:fP)]:List fP)))) else (bif ((idx ((idx a0.Txns a1).Ops) a2).Kind == 5) then out (lg a2 a6 a4) else (rO a0 a1 a6 a4 a2 a7.1)) else (rO a0 a1 a6 a4 a2 (([]:List Int)++((idx ((idx a0.Txns a1).Ops) a2).Vals)))))
noncomputable def xz (a0:History) (a1:Int):(List Ask×List fP×Int)→Option ((List Ask×List fP×Int) ⊕ (List Ask×List fP))
 | (a3,a4,a2)=>bif decide (a2 < (((idx a0.Txns a1).Ops).length:Int)) then must (0≤a2∧a2 < (((idx a0.Txns a1).Ops).length:Int)) ((jT ((idx ((idx a0.Txns a1).Ops) a2).Kind)).bind fun a5=>bif a5 then lg a2 a3 a4 else (iter (xy a0 a1 a3 a4 a2) ([],0))) else (out (some (a3,a4)))
noncomputable def bT (a0:History) (a1:Int):Option (List Ask×List fP) :=
 must (0≤a1∧a1 < (a0.Txns.length:Int)) (bif ((idx a0.Txns a1).Status != 1) then some (([]:List Ask),([]:List fP)) else (iter (xz a0 a1) ([],[],0)))
noncomputable def wS (a0:History):(List Ask×List fP×Int)→Option ((List Ask×List fP×Int) ⊕ (List Ask×List fP))
 | (a2,a3,a4)=>bif decide (a4 < (a0.Txns.length:Int)) then (bT a0 a4).bind fun a1=>must (((a2.length + a1.1.length) + (a2.length + a1.1.length) / 4 + 192) * 48≤281474976710656∧a2.length + a1.1.length≤9223372036854775807) (must (((a3.length + a1.2.length) + (a3.length + a1.2.length) / 4 + 192) * 16≤281474976710656∧a3.length + a1.2.length≤9223372036854775807) (some (.inl (a2++a1.1,a3++a1.2,w64 (a4 + 1))))) else (out (some (a2,a3)))
noncomputable def pU (a0:History):Option (List Ask×List fP) :=
 iter (wS a0) ([],[],0)
noncomputable def oD (a0:History) (a1:Ask):Option Int :=
 must (0≤a1.Txn∧a1.Txn < (a0.Txns.length:Int)) (must (0≤a1.Place∧a1.Place < (((idx a0.Txns a1.Txn).Ops).length:Int)) ((jK ((idx ((idx a0.Txns a1.Txn).Ops) a1.Place).Kind)).bind fun a2=>some a2))
noncomputable def kQ (a1:Int) (a0:List Int):Option ((List Int×Int) ⊕ (List Int)) :=
 some (.inl (a0,w64 (a1 + 1)))
noncomputable def iQ (a0:List Int) (a1:Int) (a2:Bool):Option ((List Int×Int) ⊕ (List Int)) :=
 bif a2 then must (((a0.length + 1) + (a0.length + 1) / 4 + 192) * 8≤281474976710656∧a0.length + 1≤9223372036854775807) (kQ a1 (a0++([a1]:List Int))) else (kQ a1 a0)
noncomputable def oh (a0:History) (a1:Ask):(List Int×Int)→Option ((List Int×Int) ⊕ (List Int))
 | (a3,a2)=>bif decide (a2 < (a0.Txns.length:Int)) then bif (a2 != a1.Txn) then must (0≤a2∧a2 < (a0.Txns.length:Int)) (bif ((idx a0.Txns a2).Status != 2) then (aM a0 a2 a1.Key).bind fun a4=>iQ a3 a2 (decide ((a4.length:Int) > 0)) else (iQ a3 a2 false)) else (iQ a3 a2 false) else (out (some a3))
noncomputable def aQ (a0:History) (a1:Ask):Option (List Int) :=
 iter (oh a0 a1) ([],0)
noncomputable def qC (y7:List Int):(Int×Int)→Option ((Int×Int) ⊕ Int)
 | (a1,a0)=>bif decide (a0 < (y7.length:Int)) then must (0≤a0∧a0 < (y7.length:Int)) (some (.inl (w64 (a1 + (idx y7 a0)),w64 (a0 + 1)))) else (out (some a1))
noncomputable def jb (a0:History) (a1:Int) (a2:Int):Option Int :=
 (aM a0 a1 a2).bind fun y7=>iter (qC y7) (0,0)
noncomputable def kR (a0:Int) (a1:Int):Option ((Int×Int) ⊕ ((List Bool×Int) ⊕ (List Int))) :=
 some (.inl (a1,w64 (a0 + 1)))
noncomputable def kS (a0:Int) (a1:List Bool):Option ((List Bool×Int) ⊕ ((Int×Int) ⊕ ((List Bool×Int) ⊕ (List Int)))) :=
 some (.inl (a1,w64 (a0 + 1)))
noncomputable def kT (a2:Int) (a1:List Bool) (a0:Int) (a3:Bool):Option ((List Bool×Int) ⊕ ((Int×Int) ⊕ ((List Bool×Int) ⊕ (List Int)))) :=
 bif a3 then must (0≤a0∧a0 < (a1.length:Int)) (bif idx a1 a0 then kS a0 (a1.set a0.toNat true) else (must (0≤a0∧a0 < (far:Int)) (kS a0 (a1.set a0.toNat (yN .i64 (um .i64 a2 a0) 1 == 1))))) else (out (out (some (.inl (a1,w64 (a2 + 1))))))
noncomputable def om (a1:Ask) (y9:List Int) (a3:Int) (a4:Int):(List Bool×Int)→Option ((List Bool×Int) ⊕ ((Int×Int) ⊕ ((List Bool×Int) ⊕ (List Int))))
 | (a2,a0)=>bif decide (a0 < (y9.length:Int)) then must (0≤(0:Int)∧(0:Int) < (a1.Base.length:Int)) (kT a3 a2 a0 (a4 == idx a1.Base (0:Int))) else (kT a3 a2 a0 false)
noncomputable def oo (a0:History) (a1:Ask) (y9:List Int) (a6:List Bool) (a4:Int):(Int×Int)→Option ((Int×Int) ⊕ ((List Bool×Int) ⊕ (List Int)))
 | (a3,a2)=>bif decide (a2 < (y9.length:Int)) then must (0≤a2∧a2 < (far:Int)) (bif (yN .i64 (um .i64 a4 a2) 1 == 1) then must (0≤a2∧a2 < (y9.length:Int)) ((jb a0 (idx y9 a2) a1.Key).bind fun a5=>kR a2 (w64 (a3 + a5))) else (kR a2 a3)) else (iter (om a1 y9 a4 a3) (a6,0))
noncomputable def kU (a0:Int) (a1:List Int):Option ((List Int×Int) ⊕ ((List Bool×Int) ⊕ (List Int))) :=
 some (.inl (a1,w64 (a0 + 1)))
noncomputable def oq (y9:List Int) (a2:List Bool):(List Int×Int)→Option ((List Int×Int) ⊕ ((List Bool×Int) ⊕ (List Int)))
 | (a1,a0)=>bif decide (a0 < (y9.length:Int)) then must (0≤a0∧a0 < (a2.length:Int)) (bif idx a2 a0 then must (0≤a0∧a0 < (y9.length:Int)) (must (((a1.length + 1) + (a1.length + 1) / 4 + 192) * 8≤281474976710656∧a1.length + 1≤9223372036854775807) (kU a0 (a1++([idx y9 a0]:List Int)))) else (kU a0 a1)) else (out (out (some a1)))
noncomputable def ou (a0:History) (a1:Ask) (y9:List Int):(List Bool×Int)→Option ((List Bool×Int) ⊕ (List Int))
 | (a2,a3)=>must (0≤(y9.length:Int)∧(y9.length:Int) < (far:Int)) (bif decide (a3 < zy .i64 1 (y9.length:Int)) then iter (oo a0 a1 y9 a2 a3) (0,0) else (iter (oq y9 a2) ([],0)))
noncomputable def aI (a0:History) (a1:Ask):Option (List Int) :=
 (aQ a0 a1).bind fun y9=>must (0≤(y9.length:Int)∧(y9.length:Int)≤9223372036854775807∧(1:Int) * (y9.length:Int)≤281474976710656) (iter (ou a0 a1 y9) (List.replicate (y9.length:Int).toNat (default:Bool),1))
noncomputable def mO (a0:List Int) (a1:List Int):Option Bool :=
 bif decide ((a1.length:Int) > (a0.length:Int)) then some false else (must (0≤(0:Int)∧(0:Int)≤(a1.length:Int)∧(a1.length:Int)≤(a0.length:Int)) ((bI (dA a0 (0:Int) (a1.length:Int)) a1).bind fun a2=>some a2))
noncomputable def mi (a1:Int) (a0:Int):Option ((Int×Int) ⊕ ((List Int×List Int) ⊕ (List Int×Bool))) :=
 some (.inl (a0,w64 (a1 + 1)))
noncomputable def qb (a0:History) (a1:Ask) (a2:List Int) (a4:List Int) (a6:Int):Int→Option (Int ⊕ ((Int×Int) ⊕ ((List Int×List Int) ⊕ (List Int×Bool))))
 | a3=>bif decide (a3 < (a2.length:Int)) then must (0≤a3∧a3 < (a2.length:Int)) (bif (idx a2 a3 == a6) then out (out (out (some (([]:List Int),false)))) else (some (.inl (w64 (a3 + 1))))) else (must (((a2.length + 1) + (a2.length + 1) / 4 + 192) * 8≤281474976710656∧a2.length + 1≤9223372036854775807) ((aM a0 a6 a1.Key).bind fun a5=>must (0≤(a5.length:Int)∧(a5.length:Int)≤(a4.length:Int)∧(a4.length:Int)≤(a4.length:Int)) (out (out (some (.inl (a2++([a6]:List Int),dA a4 (a5.length:Int) (a4.length:Int))))))))
noncomputable def qc (a0:History) (a1:Ask) (y9:List Int) (a7:List Int) (a4:List Int):(Int×Int)→Option ((Int×Int) ⊕ ((List Int×List Int) ⊕ (List Int×Bool)))
 | (a3,a2)=>bif decide (a2 < (y9.length:Int)) then must (0≤a2∧a2 < (y9.length:Int)) ((aM a0 (idx y9 a2) a1.Key).bind fun a5=>(mO a4 a5).bind fun a6=>bif a6 then mi a2 (idx y9 a2) else (mi a2 a3)) else (bif decide (a3 < 0) then out (out (some (([]:List Int),false))) else (iter (qb a0 a1 a7 a4 a3) 0))
noncomputable def jH (a0:History) (a1:Ask) (y9:List Int):(List Int×List Int)→Option ((List Int×List Int) ⊕ (List Int×Bool))
 | (a2,a3)=>bif decide ((a3.length:Int) > 0) then iter (qc a0 a1 y9 a2 a3) ((-1),0) else (out (some (a2,true)))
noncomputable def bK (a0:History) (a1:Ask):Option (List Int×Bool) :=
 (aQ a0 a1).bind fun y9=>iter (jH a0 a1 y9) ([],a1.Base)
noncomputable def pJ (a0:List Int) (a1:Int):Int→Option (Int ⊕ Bool)
 | a2=>bif decide (a2 < (a0.length:Int)) then must (0≤a2∧a2 < (a0.length:Int)) (bif (idx a0 a2 == a1) then out (some true) else (some (.inl (w64 (a2 + 1))))) else (out (some false))
noncomputable def gP (a0:List Int) (a1:Int):Option Bool :=
 iter (pJ a0 a1) 0
noncomputable def mP (a0:Int) (a1:List Int) (a2:Int):Option ((List Int×Int×Int) ⊕ (List Int×Bool)) :=
 some (.inl (a1,a2,w64 (a0 + 1)))
noncomputable def mQ (a1:Int) (a0:Int):Option ((Int×Int) ⊕ ((List Int×Int×Int) ⊕ (List Int×Bool))) :=
 some (.inl (a0,w64 (a1 + 1)))
noncomputable def mR (y9:List Int) (a0:List Int) (a3:Int) (a1:Int) (a2:Int) (a4:Bool):Option ((Int×Int) ⊕ ((List Int×Int×Int) ⊕ (List Int×Bool))) :=
 bif a4 then out (out (some (([]:List Int),false))) else (bif decide (a2 > 0) then must (((a0.length + 1) + (a0.length + 1) / 4 + 192) * 8≤281474976710656∧a0.length + 1≤9223372036854775807) (out (mP a1 (a0++([idx y9 a1]:List Int)) (w64 (a3 + a2)))) else (out (mP a1 a0 a3)))
noncomputable def qD (a1:Ask) (y9:List Int) (a5:List Int) (a4:Int) (a6:Int) (a3:List Int):(Int×Int)→Option ((Int×Int) ⊕ ((List Int×Int×Int) ⊕ (List Int×Bool)))
 | (a0,a2)=>bif decide (a2 < (a3.length:Int)) then must (0≤a2∧a2 < (a3.length:Int)) ((gP a1.Base (idx a3 a2)).bind fun a7=>bif a7 then mQ a2 (w64 (a0 + 1)) else (mQ a2 a0)) else (bif decide (a0 > 0) then mR y9 a5 a4 a6 a0 (decide (a0 < (a3.length:Int))) else (mR y9 a5 a4 a6 a0 false))
noncomputable def qE (a0:History) (a1:Ask) (y9:List Int):(List Int×Int×Int)→Option ((List Int×Int×Int) ⊕ (List Int×Bool))
 | (a4,a3,a2)=>bif decide (a2 < (y9.length:Int)) then must (0≤a2∧a2 < (y9.length:Int)) ((aM a0 (idx y9 a2) a1.Key).bind fun a5=>iter (qD a1 y9 a4 a3 a2 a5) (0,0)) else (bif (a3 != (a1.Base.length:Int)) then out (some (([]:List Int),false)) else (out (some (a4,true))))
noncomputable def bA (a0:History) (a1:Ask):Option (List Int×Bool) :=
 (aQ a0 a1).bind fun y9=>iter (qE a0 a1 y9) ([],0,0)
noncomputable def nG (a0:List Int):Option (List Int) :=
 some a0
noncomputable def gQ (a0:List Int):Option (List Int) :=
 some a0
noncomputable def nH (a1:Int) (a0:List Int):Option ((List Int×Int) ⊕ (List Int)) :=
 some (.inl (a0,w64 (a1 + 1)))
noncomputable def nI (a0:History) (a1:Ask) (a5:List Int):(List Int×Int)→Option ((List Int×Int) ⊕ (List Int))
 | (a3,a2)=>bif decide (a2 < (a5.length:Int)) then must (0≤a2∧a2 < (a5.length:Int)) ((aM a0 (idx a5 a2) a1.Key).bind fun a4=>must (0≤w64 ((a4.length:Int) - 1)∧w64 ((a4.length:Int) - 1) < (a4.length:Int)) (must (0≤(0:Int)∧(0:Int) < (a1.Base.length:Int)) (bif (idx a4 (w64 ((a4.length:Int) - 1)) == idx a1.Base (0:Int)) then must (((a3.length + 1) + (a3.length + 1) / 4 + 192) * 8≤281474976710656∧a3.length + 1≤9223372036854775807) (nH a2 (a3++([idx a5 a2]:List Int))) else (nH a2 a3)))) else (out (gQ a3))
noncomputable def bE (a0:History) (a1:Ask):Option (List Int) :=
 (oD a0 a1).bind fun y7=>bif (y7 == 4) then (aI a0 a1).bind fun a3=>must (0≤(0:Int)∧(0:Int) < (a1.Base.length:Int)) (bif (idx a1.Base (0:Int) == 0) then must (((1 + a3.length) + (1 + a3.length) / 4 + 192) * 8≤281474976710656∧1 + a3.length≤9223372036854775807) (nG (([(-1)]:List Int)++a3)) else (nG a3)) else (bif ((a1.Base.length:Int) == 0) then some ([(-1)]:List Int) else (bif (y7 == 1) then (aQ a0 a1).bind fun a5=>iter (nI a0 a1 a5) ([],0) else (bif (y7 == 2) then (bK a0 a1).bind fun a2=>bif a2.2 then must (0≤w64 ((a2.1.length:Int) - 1)∧w64 ((a2.1.length:Int) - 1) < (a2.1.length:Int)) (must (((0 + 1) + (0 + 1) / 4 + 192) * 8≤281474976710656∧0 + 1≤9223372036854775807) (gQ (([]:List Int)++([idx a2.1 (w64 ((a2.1.length:Int) - 1))]:List Int)))) else (gQ []) else ((bA a0 a1).bind fun a4=>bif a4.2 then gQ a4.1 else (gQ [])))))
noncomputable def pM (a0:Int) (a1:List Ask):Option ((List Ask×Int) ⊕ (List Ask×Int)) :=
 some (.inl (a1,w64 (a0 + 1)))
noncomputable def vk (a0:History) (a3:List Ask×List fP):(List Ask×Int)→Option ((List Ask×Int) ⊕ (List Ask×Int))
 | (a2,a1)=>bif decide (a1 < (a3.1.length:Int)) then must (0≤a1∧a1 < (a3.1.length:Int)) ((bE a0 (idx a3.1 a1)).bind fun a4=>bif ((a4.length:Int) == 0) then must (((a2.length + 1) + (a2.length + 1) / 4 + 192) * 48≤281474976710656∧a2.length + 1≤9223372036854775807) (pM a1 (a2++([(idx a3.1 a1)]:List Ask))) else (pM a1 a2)) else (out (some (a2,0)))
noncomputable def jm (a0:History):Option (List Ask×Int) :=
 (ak a0).bind fun y8=>bif (y8 != 0) then some (([]:List Ask),1) else ((pU a0).bind fun a1=>iter (vk a0 a1) ([],0))
end Go.Proofs.YtnlkggppokcmfaaT
