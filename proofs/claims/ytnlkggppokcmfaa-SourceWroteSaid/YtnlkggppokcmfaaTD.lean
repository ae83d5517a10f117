import Derived.Test.YtnlkggppokcmfaaY
namespace Go.Proofs.YtnlkggppokcmfaaT
open Go Go.Proofs Go.Proofs.YtnlkggppokcmfaaE
set_option linter.unusedVariables false
set_option linter.unusedSimpArgs false
set_option maxHeartbeats 0
set_option maxRecDepth 4096
structure bU where
 key:ByteArray
 arg:Int
 deriving Inhabited,DecidableEq
def bU.enc (x:bU):List Value:=[.string x.key,.int .i64 x.arg]
abbrev Dj:Ty bU:=Ty.flat 2 bU.enc (fun _=>rfl) (fun _=>GJ rfl)
instance : Flat Dj bU.enc:=⟨Iff.rfl,Iff.rfl⟩
structure aQ where
 keys:List ByteArray
 at_:List (ByteArray×Int)
 types:List Int
 facts:List (bU×Unit)
 incs:List (ByteArray×(List Int))
 deriving Inhabited
structure Call where
 Kind:Int
 Key:ByteArray
 Arg:Int
 Got:Bool
 Vals:List Int
 deriving Inhabited
abbrev wB:Ty Call:=Ty.iso (bM (aH .i64) (bM jI (bM (aH .i64) (bM qB (bK 2 (aH .i64)))))) (fun g:Call=>(g.Kind,g.Key,g.Arg,g.Got,g.Vals))
abbrev sD (N:BM):Ty Call:=Ty.iso (bM (aH .i64) (bM jI (bM (aH .i64) (bM qB (GV N (aH .i64)))))) (fun g:Call=>(g.Kind,g.Key,g.Arg,g.Got,g.Vals))
theorem EK (N:BM):uT N (sD N) wB:=Fx (tJ tH (tJ tH (tJ tH (tJ tH DK))))
structure Event where
 Proc:Int
 Kind:Int
 Calls:List Call
 deriving Inhabited
abbrev Dk:Ty Event:=Ty.iso (bM (aH .i64) (bM (aH .i64) (bK 89 wB))) (fun g:Event=>(g.Proc,g.Kind,g.Calls))
structure Op where
 Kind:Int
 Key:Int
 Arg:Int
 Got:Bool
 Vals:List Int
 deriving Inhabited
abbrev kOp:Ty Op:=Ty.iso (bM (aH .i64) (bM (aH .i64) (bM (aH .i64) (bM qB (bK 2 (aH .i64)))))) (fun g:Op=>(g.Kind,g.Key,g.Arg,g.Got,g.Vals))
structure Txn where
 Proc:Int
 Status:Int
 From:Int
 To:Int
 Ops:List Op
 deriving Inhabited
abbrev nC:Ty Txn:=Ty.iso (bM (aH .i64) (bM (aH .i64) (bM (aH .i64) (bM (aH .i64) (bK 64 kOp))))) (fun g:Txn=>(g.Proc,g.Status,g.From,g.To,g.Ops))
structure History where
 Keys:List ByteArray
 Txns:List Txn
 deriving Inhabited
structure Ask where
 Txn:Int
 Place:Int
 Key:Int
 Base:List Int
 deriving Inhabited
abbrev pW:Ty Ask:=Ty.iso (bM (aH .i64) (bM (aH .i64) (bM (aH .i64) (bK 2 (aH .i64))))) (fun g:Ask=>(g.Txn,g.Place,g.Key,g.Base))
structure fJ where
 Txn:Int
 Place:Int
 deriving Inhabited,DecidableEq
def fJ.enc (x:fJ):List Value:=[.int .i64 x.Txn,.int .i64 x.Place]
abbrev Cc:Ty fJ:=Ty.flat 2 fJ.enc (fun _=>rfl) (fun _=>GJ rfl)
instance : Flat Cc fJ.enc:=⟨Iff.rfl,Iff.rfl⟩
structure dK where
 asks:List Ask
 bad:List fJ
 deriving Inhabited
structure aD where
 txn:Int
 args:List Int
 deriving Inhabited
abbrev eT:Ty aD:=Ty.iso (bM (aH .i64) (bK 2 (aH .i64))) (fun g:aD=>(g.txn,g.args))
structure aA where
 keys:List ByteArray
 types:List Int
 wrote:List (List Int)
 incs:List Int
 last_:List Int
 deriving Inhabited
abbrev Rw2 (A:Option Addr) (c:Nat) (l:List Int):bL := .row (aH .i64) 2 A l.length c l
abbrev Rn2 (A:Option Addr) (n c:Nat) (l:List Int):bL := .row (aH .i64) 2 A n c l
abbrev Rw3 (A:Option Addr) (c:Nat) (l:List Int):bL := .row (aH .i64) 3 A l.length c l
abbrev Rw9 (A:Option Addr) (c:Nat) (l:List ByteArray):bL := .row jI 9 A l.length c l
abbrev Rn9 (A:Option Addr) (n c:Nat) (l:List ByteArray):bL := .row jI 9 A n c l
abbrev EL (A:Option Addr) (c:Nat) (l:List Ask):bL := .row pW 37 A l.length c l
abbrev JV (A:Option Addr) (n c:Nat) (l:List Txn):bL := .row nC 41 A n c l
abbrev Hd (A:Option Addr) (n c:Nat) (l:List Op):bL := .row kOp 64 A n c l
abbrev Ce (A:Option Addr) (c:Nat) (l:List aD):bL := .row eT 118 A l.length c l
abbrev Ec (A:Option Addr) (c:Nat) (l:List fJ):bL := .row Cc 160 A l.length c l
abbrev Or2 (A:Option Addr) (c:Nat) (l:List Int):bL:=orA noM (aH .i64) 2 A l.length c l
abbrev Or3 (A:Option Addr) (c:Nat) (l:List Int):bL:=orA noM (aH .i64) 3 A l.length c l
abbrev wC (b:Nat) (m:List (ByteArray×Int)):bL:=BP (fun x:ByteArray => .string x) (fun x:Int => .int .i64 x) b m
abbrev wD (b:Nat) (m:List (bU×Unit)):bL:=BP (fun x:bU => .agg #[.string x.key,.int .i64 x.arg]) (fun _:Unit => .agg #[]) b m
abbrev Ao (b:Nat) (m:List (ByteArray×(List Int))):bL:=qO (fun x:ByteArray => .string x) (bK 3 (aH .i64)) b m
abbrev zl (b:Nat) (m:List (Int×Unit)):bL:=BP (fun x:Int => .int .i64 x) (fun _:Unit => .agg #[]) b m
abbrev Ap (b:Nat) (m:List (Int×(List Int))):bL:=qO (fun x:Int => .int .i64 x) (bK 2 (aH .i64)) b m
abbrev sF (x:History) (A0:Option Addr) (c0:Nat) (A1:Option Addr) (c1:Nat):List Value:=[vS A0 x.Keys.length c0,vS A1 x.Txns.length c1]
abbrev uA (x:History) (A0:Option Addr) (c0:Nat) (A1:Option Addr) (c1:Nat):Value := .agg (sF x A0 c0 A1 c1).toArray
abbrev lK (b:Nat) (x:History) (A0:Option Addr) (c0:Nat) (A1:Option Addr) (c1:Nat):bL := .blk b 25 (sF x A0 c0 A1 c1)
abbrev xz (x:Ask) (A3:Option Addr) (c3:Nat):List Value:=[vI x.Txn,vI x.Place,vI x.Key,vS A3 x.Base.length c3]
abbrev vQ (x:Ask) (A3:Option Addr) (c3:Nat):Value := .agg (xz x A3 c3).toArray
abbrev uh (b:Nat) (x:Ask) (A3:Option Addr) (c3:Nat):bL := .blk b 37 (xz x A3 c3)
abbrev Ad (x:Txn) (A4:Option Addr) (c4:Nat):List Value:=[vI x.Proc,vI x.Status,vI x.From,vI x.To,vS A4 x.Ops.length c4]
abbrev EM (x:Txn) (A4:Option Addr) (c4:Nat):Value := .agg (Ad x A4 c4).toArray
abbrev He (b:Nat) (x:Txn) (A4:Option Addr) (c4:Nat):bL := .blk b 41 (Ad x A4 c4)
abbrev EN (x:Op) (A4:Option Addr) (c4:Nat):List Value:=[vI x.Kind,vI x.Key,vI x.Arg,vB x.Got,vS A4 x.Vals.length c4]
abbrev wE (b:Nat) (x:Op) (A4:Option Addr) (c4:Nat):bL := .blk b 64 (EN x A4 c4)
abbrev FD (x:Event) (A2:Option Addr) (c2:Nat):List Value:=[vI x.Proc,vI x.Kind,vS A2 x.Calls.length c2]
abbrev JW (x:Event) (A2:Option Addr) (c2:Nat):Value := .agg (FD x A2 c2).toArray
abbrev JK (b:Nat) (x:Event) (A2:Option Addr) (c2:Nat):bL := .blk b 84 (FD x A2 c2)
abbrev Dl (x:Call) (A4:Option Addr) (c4:Nat):List Value:=[vI x.Kind,.string x.Key,vI x.Arg,vB x.Got,vS A4 x.Vals.length c4]
abbrev FE (x:Call) (A4:Option Addr) (c4:Nat):Value := .agg (Dl x A4 c4).toArray
abbrev ui (b:Nat) (x:Call) (A4:Option Addr) (c4:Nat):bL := .blk b 89 (Dl x A4 c4)
abbrev Jm (x:dK) (A0:Option Addr) (c0:Nat) (A1:Option Addr) (c1:Nat):List Value:=[vS A0 x.asks.length c0,vS A1 x.bad.length c1]
abbrev JL (x:dK) (A0:Option Addr) (c0:Nat) (A1:Option Addr) (c1:Nat):Value := .agg (Jm x A0 c0 A1 c1).toArray
abbrev zm (x:aD) (A1:Option Addr) (c1:Nat):List Value:=[vI x.txn,vS A1 x.args.length c1]
abbrev FH (x:aD) (A1:Option Addr) (c1:Nat):Value := .agg (zm x A1 c1).toArray
abbrev Aq (b:Nat) (x:aD) (A1:Option Addr) (c1:Nat):bL := .blk b 118 (zm x A1 c1)
abbrev uB (b:Nat) (A0:Option Addr) (c0:Nat) (x0:List Ask) (A1:Option Addr) (c1:Nat) (x1:List fJ):List bL:=[.blk b 110 [vS A0 x0.length c0,vS A1 x1.length c1],EL A0 c0 x0,Ec A1 c1 x1]
abbrev Jn (b:Nat) (x:dK) (A0:Option Addr) (c0:Nat) (A1:Option Addr) (c1:Nat):List bL:=uB b A0 c0 x.asks A1 c1 x.bad
abbrev uC (b:Nat) (A0:Option Addr) (c0:Nat) (x0:List ByteArray) (b1:Nat) (x1:List (ByteArray×Int)) (A2:Option Addr) (c2:Nat) (x2:List Int) (b3:Nat) (x3:List (bU×Unit)) (b4:Nat) (x4:List (ByteArray×(List Int))):List bL:=[.blk b 136 [vS A0 x0.length c0,.map (some b1),vS A2 x2.length c2,.map (some b3),.map (some b4)],Rw9 A0 c0 x0,wC b1 x1,Rw3 A2 c2 x2,wD b3 x3,Ao b4 x4]
abbrev FI (b:Nat) (x:aQ) (A0:Option Addr) (c0:Nat) (b1:Nat) (A2:Option Addr) (c2:Nat) (b3:Nat) (b4:Nat):List bL:=uC b A0 c0 x.keys b1 x.at_ A2 c2 x.types b3 x.facts b4 x.incs
theorem FJ {H:BM} {x:Ask} {cs:List Value} (h:pW.rd H x cs):∃ A3 c3,cs=xz x A3 c3∧x.Base.length≤c3∧rdS (aH .i64) H A3 x.Base:=by
 obtain ⟨_,_,rfl,rfl,⟨_,_,rfl,rfl,⟨_,_,rfl,rfl,⟨A0,c0,rfl,l0,r0⟩⟩⟩⟩:=h;exact ⟨A0,c0,rfl,l0,r0⟩
theorem ym {H:BM} {x:Txn} {cs:List Value} (h:nC.rd H x cs):∃ A4 c4,cs=Ad x A4 c4∧x.Ops.length≤c4∧rdS kOp H A4 x.Ops:=by
 obtain ⟨_,_,rfl,rfl,⟨_,_,rfl,rfl,⟨_,_,rfl,rfl,⟨_,_,rfl,rfl,⟨A0,c0,rfl,l0,r0⟩⟩⟩⟩⟩:=h;exact ⟨A0,c0,rfl,l0,r0⟩
theorem Hf {H:BM} {x:Op} {cs:List Value} (h:kOp.rd H x cs):∃ A4 c4,cs=EN x A4 c4∧x.Vals.length≤c4∧rdS (aH .i64) H A4 x.Vals:=by
 obtain ⟨_,_,rfl,rfl,⟨_,_,rfl,rfl,⟨_,_,rfl,rfl,⟨_,_,rfl,rfl,⟨A0,c0,rfl,l0,r0⟩⟩⟩⟩⟩:=h;exact ⟨A0,c0,rfl,l0,r0⟩
theorem Hg {H:BM} {x:Event} {cs:List Value} (h:Dk.rd H x cs):∃ A2 c2,cs=FD x A2 c2∧x.Calls.length≤c2∧rdS wB H A2 x.Calls:=by
 obtain ⟨_,_,rfl,rfl,⟨_,_,rfl,rfl,⟨A0,c0,rfl,l0,r0⟩⟩⟩:=h;exact ⟨A0,c0,rfl,l0,r0⟩
theorem Jv {H:BM} {x:Call} {cs:List Value} (h:wB.rd H x cs):∃ A4 c4,cs=Dl x A4 c4∧x.Vals.length≤c4∧rdS (aH .i64) H A4 x.Vals:=by
 obtain ⟨_,_,rfl,rfl,⟨_,_,rfl,rfl,⟨_,_,rfl,rfl,⟨_,_,rfl,rfl,⟨A0,c0,rfl,l0,r0⟩⟩⟩⟩⟩:=h;exact ⟨A0,c0,rfl,l0,r0⟩
theorem eP {H:BM} {x:aD} {cs:List Value} (h:eT.rd H x cs):∃ A1 c1,cs=zm x A1 c1∧x.args.length≤c1∧rdS (aH .i64) H A1 x.args:=by
 obtain ⟨_,_,rfl,rfl,⟨A0,c0,rfl,l0,r0⟩⟩:=h;exact ⟨A0,c0,rfl,l0,r0⟩
theorem Jo (x:Ask) {R3:List bL} {c3:List Value} (h3:Mk (bK 2 (aH .i64)) R3 x.Base c3):Mk pW ([]++([]++([]++R3))) x ([vI x.Txn]++([vI x.Place]++([vI x.Key]++c3))):=yg (g:=fun g:Ask=>(g.Txn,g.Place,g.Key,g.Base)) (x:=x) (gL (lw _ _ rfl) (gL (lw _ _ rfl) (gL (lw _ _ rfl) h3)))
theorem Jp (x:Txn) {R4:List bL} {c4:List Value} (h4:Mk (bK 64 kOp) R4 x.Ops c4):Mk nC ([]++([]++([]++([]++R4)))) x ([vI x.Proc]++([vI x.Status]++([vI x.From]++([vI x.To]++c4)))):=yg (g:=fun g:Txn=>(g.Proc,g.Status,g.From,g.To,g.Ops)) (x:=x) (gL (lw _ _ rfl) (gL (lw _ _ rfl) (gL (lw _ _ rfl) (gL (lw _ _ rfl) h4))))
theorem JM (x:Op) {R4:List bL} {c4:List Value} (h4:Mk (bK 2 (aH .i64)) R4 x.Vals c4):Mk kOp ([]++([]++([]++([]++R4)))) x ([vI x.Kind]++([vI x.Key]++([vI x.Arg]++([vB x.Got]++c4)))):=yg (g:=fun g:Op=>(g.Kind,g.Key,g.Arg,g.Got,g.Vals)) (x:=x) (gL (lw _ _ rfl) (gL (lw _ _ rfl) (gL (lw _ _ rfl) (gL (lw _ _ rfl) h4))))
theorem Ae (x:aD) {R1:List bL} {c1:List Value} (h1:Mk (bK 2 (aH .i64)) R1 x.args c1):Mk eT ([]++R1) x ([vI x.txn]++c1):=yg (g:=fun g:aD=>(g.txn,g.args)) (x:=x) (gL (lw _ _ rfl) h1)
noncomputable def jA (a0:List ByteArray) (a1:ByteArray):Int→Option (Int ⊕ Int)
 | a2=>bif decide (a2 < (a0.length:Int)) then must (0≤a2∧a2 < (a0.length:Int)) (bif sEq a1 (idx a0 a2) then out (some a2) else (some (.inl (w64 (a2 + 1))))) else (out (some (-1)))
noncomputable def slices_Index_string (a0:List ByteArray) (a1:ByteArray):Option Int :=
 iter (jA a0 a1) 0
noncomputable def slices_Contains_string (a0:List ByteArray) (a1:ByteArray):Option Bool :=
 (slices_Index_string a0 a1).bind fun y3=>some (decide (y3 ≥ 0))
noncomputable def lQ:Option aQ :=
 some (⟨([]:List ByteArray),([]:List (ByteArray×Int)),([]:List Int),([]:List (bU×Unit)),([]:List (ByteArray×(List Int)))⟩:aQ)
noncomputable def sG (a0:Int):Option (Int×Int) :=
 bif (a0 == 5) then some (0,1) else (bif (a0 == 8) then some (1,1) else (some (0,64)))
noncomputable def og (a0:Call) (a1:Int) (a2:Bool):Option (Int ⊕ Bool) :=
 bif a2 then must (0≤w64 (a1 - 1)∧w64 (a1 - 1) < (a0.Vals.length:Int)) (must (0≤a1∧a1 < (a0.Vals.length:Int)) (bif decide (idx a0.Vals (w64 (a1 - 1)) ≥ idx a0.Vals a1) then out (some false) else (some (.inl (w64 (a1 + 1)))))) else (out (some true))
noncomputable def oh (a0:Call):Int→Option (Int ⊕ Bool)
 | a1=>bif (a0.Kind == 7) then og a0 a1 (decide (a1 < (a0.Vals.length:Int))) else (og a0 a1 false)
noncomputable def om (a0:Call) (a1:Bool):Option Bool :=
 bif a1 then some false else (iter (oh a0) 1)
noncomputable def oo (a0:Call) (a2:Bool):Option Bool :=
 bif a2 then some false else (bif !a0.Got then some ((a0.Vals.length:Int) == 0) else ((sG a0.Kind).bind fun a1=>bif decide ((a0.Vals.length:Int) < a1.1) then om a0 true else (om a0 (decide ((a0.Vals.length:Int) > a1.2)))))
noncomputable def jQ (a0:Call) (a1:Int) (a2:Bool):Option Bool :=
 bif a2 then some false else (bif decide (a0.Kind≤4) then bif !a0.Got then bif ((a0.Vals.length:Int) == 0) then bif (a0.Kind != 4) then some true else (bif decide ((-1048576)≤a0.Arg) then some (decide (a0.Arg≤1048576)) else (some false)) else (some false) else (some false) else (bif (a0.Arg != 0) then oo a0 true else (oo a0 (a0.Got != (a1 == 1)))))
noncomputable def bI (a0:Call) (a1:Int):Option Bool :=
 bif decide (a0.Kind < 1) then jQ a0 a1 true else (bif decide (a0.Kind > 8) then jQ a0 a1 true else (bif sEq a0.Key (⟨#[]⟩:ByteArray) then jQ a0 a1 true else (jQ a0 a1 (decide ((a0.Key.size:Int) > 32)))))
noncomputable def pJ (a0:Call) (a1:Event):Option Bool :=
 (bI a0 a1.Kind).bind fun y5=>some (!y5)
noncomputable def eD (a0:List Call) (a1c0:Event):Int→Option (Int ⊕ Int)
 | a1=>bif decide (a1 < (a0.length:Int)) then must (0≤a1∧a1 < (a0.length:Int)) ((pJ (idx a0 a1) a1c0).bind fun a2=>bif a2 then out (some a1) else (some (.inl (w64 (a1 + 1))))) else (out (some (-1)))
noncomputable def aZ (a0:List Call) (a1c0:Event):Option Int :=
 iter (eD a0 a1c0) 0
noncomputable def cZ (a0:List Call) (a1c0:Event):Option Bool :=
 (aZ a0 a1c0).bind fun y3=>some (decide (y3 ≥ 0))
noncomputable def lL (a0:List Event) (a1:Int) (a2:Bool):Option (Int ⊕ Int) :=
 bif a2 then out (some 1) else ((cZ ((idx a0 a1).Calls) (idx a0 a1)).bind fun a3=>bif a3 then out (some 1) else (some (.inl (w64 (a1 + 1)))))
noncomputable def rA (a0:List Event):Int→Option (Int ⊕ Int)
 | a1=>bif decide (a1 < (a0.length:Int)) then must (0≤a1∧a1 < (a0.length:Int)) (bif decide ((idx a0 a1).Kind < 0) then lL a0 a1 true else (bif decide ((idx a0 a1).Kind > 3) then lL a0 a1 true else (lL a0 a1 (decide ((((idx a0 a1).Calls).length:Int) > 16))))) else (out (some 0))
noncomputable def eY (a0:List Event):Option Int :=
 bif decide ((a0.length:Int) > 256) then some 1 else (iter (rA a0) 0)
noncomputable def pX (a0:History) (a1:Txn) (a3:List Call) (a2:Int):Option ((List Call×Int) ⊕ (Event×Bool)) :=
 some (.inl (a3++([(⟨(idx a1.Ops a2).Kind,idx a0.Keys ((idx a1.Ops a2).Key),(idx a1.Ops a2).Arg,(idx a1.Ops a2).Got,(idx a1.Ops a2).Vals⟩:Call)]:List Call),w64 (a2 + 1)))
noncomputable def mG (a0:History) (a1:Txn) (a2:List Call) (a3:Int) (a4:Bool):Option ((List Call×Int) ⊕ (Event×Bool)) :=
 bif a4 then out (some ((⟨0,a1.Status,a2⟩:Event),false)) else (must (0≤(idx a1.Ops a3).Key∧(idx a1.Ops a3).Key < (a0.Keys.length:Int)) (must (((a2.length + 1) + (a2.length + 1) / 4 + 192) * 64≤281474976710656∧a2.length + 1≤9223372036854775807) (pX a0 a1 a2 a3)))
noncomputable def pY (a0:History) (a1:Txn):(List Call×Int)→Option ((List Call×Int) ⊕ (Event×Bool))
 | (a3,a2)=>bif decide (a2 < (a1.Ops.length:Int)) then must (0≤a2∧a2 < (a1.Ops.length:Int)) (bif decide ((idx a1.Ops a2).Key < 0) then mG a0 a1 a3 a2 true else (mG a0 a1 a3 a2 (decide ((idx a1.Ops a2).Key ≥ (a0.Keys.length:Int))))) else ((eY ([(⟨0,a1.Status,a3⟩:Event)]:List Event)).bind fun a4=>out (some ((⟨0,a1.Status,a3⟩:Event),(a4 == 0))))
noncomputable def dH (a0:History) (a1:Txn):Option (Event×Bool) :=
 iter (pY a0 a1) ([],0)
noncomputable def mH (a0:Txn) (a1:Txn):Option Bool :=
 bif (a0.Proc == a1.Proc) then bif (a0.To == (-1)) then some true else (some (decide (a0.To ≥ a1.From))) else (some false)
noncomputable def eu (a0:List Txn) (a1c0:Txn):Int→Option (Int ⊕ Int)
 | a1=>bif decide (a1 < (a0.length:Int)) then must (0≤a1∧a1 < (a0.length:Int)) ((mH (idx a0 a1) a1c0).bind fun a2=>bif a2 then out (some a1) else (some (.inl (w64 (a1 + 1))))) else (out (some (-1)))
noncomputable def aX (a0:List Txn) (a1c0:Txn):Option Int :=
 iter (eu a0 a1c0) 0
noncomputable def cB (a0:List Txn) (a1c0:Txn):Option Bool :=
 (aX a0 a1c0).bind fun y3=>some (decide (y3 ≥ 0))
noncomputable def jK (a0:List Txn) (a1:Txn) (a2:Bool):Option Bool :=
 bif a2 then some false else ((cB a0 a1).bind fun a3=>some (!a3))
noncomputable def lS (a0:List Txn) (a1:Txn):Option Bool :=
 bif decide (a1.From < 0) then jK a0 a1 true else (bif decide ((a0.length:Int) > 0) then must (0≤w64 ((a0.length:Int) - 1)∧w64 ((a0.length:Int) - 1) < (a0.length:Int)) (jK a0 a1 (decide ((idx a0 (w64 ((a0.length:Int) - 1))).From ≥ a1.From))) else (jK a0 a1 false))
noncomputable def lT (a0:List Txn) (a1:Txn) (a2:Bool):Option Bool :=
 bif a2 then some false else (lS a0 a1)
noncomputable def lU (a0:List Txn) (a1:Txn) (a2:Bool):Option Bool :=
 bif a2 then bif decide (a1.To≤a1.From) then some false else (lS a0 a1) else (bif (a1.Status == 3) then bif (a1.To != (-1)) then lT a0 a1 (decide (a1.To≤a1.From)) else (lT a0 a1 false) else (some false))
noncomputable def bF (a0:List Txn) (a1:Txn):Option Bool :=
 bif (a1.Status == 1) then lU a0 a1 (a1.Status == 1) else (lU a0 a1 (a1.Status == 2))
noncomputable def kX (a0:Int):Option Int :=
 some (w64 ((yf .i64 (w64 (a0 - 1)) 3) + 1))
noncomputable def fK (a4:List ByteArray) (a2:List (ByteArray×Int)) (a1:List Int) (a0:List (bU×Unit)) (a3:List (ByteArray×(List Int))):Option (Int×aQ) :=
 some (0,(⟨a4,a2,a1,a0,a3⟩:aQ))
noncomputable def jT (a0:aQ) (a1:Call) (a2:List ByteArray) (a4:List (ByteArray×Int)) (a3:List Int):Option (Int×aQ) :=
 bif nY a0.facts (⟨a1.Key,a1.Arg⟩:bU) then some (3,(⟨a2,a4,a3,a0.facts,a0.incs⟩:aQ)) else (fK a2 a4 a3 (gW a0.facts (⟨a1.Key,a1.Arg⟩:bU) ()) a0.incs)
noncomputable def iy (a0:aQ) (a1:Call) (a3:List ByteArray) (a5:List (ByteArray×Int)) (a4:List Int) (a2:List (ByteArray×(List Int))):Option (Int×aQ) :=
 bif decide (((mat a2 a1.Key).length:Int) > 8) then some (51,(⟨a3,a5,a4,a0.facts,a2⟩:aQ)) else (fK a3 a5 a4 a0.facts a2)
noncomputable def iA (a0:aQ) (a1:Call) (a2:Int) (a3:List ByteArray) (a5:List (ByteArray×Int)) (a4:List Int) (a6:Bool):Option (Int×aQ) :=
 bif a6 then must (((((mat a0.incs a1.Key).length) + 1) + (((mat a0.incs a1.Key).length) + 1) / 4 + 192) * 8≤281474976710656∧((mat a0.incs a1.Key).length) + 1≤9223372036854775807) (iy a0 a1 a3 a5 a4 (gW a0.incs a1.Key ((mat a0.incs a1.Key)++([a2]:List Int)))) else (iy a0 a1 a3 a5 a4 a0.incs)
noncomputable def iB (a0:aQ) (a1:Call) (a2:Int) (a3:List ByteArray) (a5:List (ByteArray×Int)) (a4:List Int) (a6:Bool):Option (Int×aQ) :=
 bif a6 then jT a0 a1 a3 a5 a4 else (bif (a1.Kind == 4) then bif (((mat a0.incs a1.Key).length:Int) == 0) then iA a0 a1 a2 a3 a5 a4 true else (must (0≤w64 (((mat a0.incs a1.Key).length:Int) - 1)∧w64 (((mat a0.incs a1.Key).length:Int) - 1) < ((mat a0.incs a1.Key).length:Int)) (iA a0 a1 a2 a3 a5 a4 (idx (mat a0.incs a1.Key) (w64 (((mat a0.incs a1.Key).length:Int) - 1)) != a2))) else (fK a3 a5 a4 a0.facts a0.incs))
noncomputable def fM (a0:aQ) (a1:Call) (a2:Int) (a5:List ByteArray) (a4:List (ByteArray×Int)) (a3:List Int) (a6:Int):Option (Int×aQ) :=
 must (0≤a6∧a6 < (a3.length:Int)) ((kX a1.Kind).bind fun a7=>bif (idx a3 a6 != a7) then some (50,(⟨a5,a4,a3,a0.facts,a0.incs⟩:aQ)) else (bif (a1.Kind == 2) then iB a0 a1 a2 a5 a4 a3 (a1.Kind == 2) else (iB a0 a1 a2 a5 a4 a3 (a1.Kind == 3))))
noncomputable def jU (a0:aQ) (a1:Call) (a2:Int):Option (Int×aQ) :=
 (kX a1.Kind).bind fun a3=>must (((a0.types.length + 1) + (a0.types.length + 1) / 4 + 192) * 8≤281474976710656∧a0.types.length + 1≤9223372036854775807) (fM a0 a1 a2 (a0.keys++([a1.Key]:List ByteArray)) (gW a0.at_ a1.Key (a0.keys.length:Int)) (a0.types++([a3]:List Int)) (a0.keys.length:Int))
noncomputable def av (a0:aQ) (a1:Call) (a2:Int):Option (Int×aQ) :=
 bif !(nY a0.at_ a1.Key) then bif ((a0.keys.length:Int) == 32) then some (2,a0) else (must (((a0.keys.length + 1) + (a0.keys.length + 1) / 4 + 192) * 16≤281474976710656∧a0.keys.length + 1≤9223372036854775807) (jU a0 a1 a2)) else (fM a0 a1 a2 a0.keys a0.at_ a0.types (mat a0.at_ a1.Key))
noncomputable def kH (a0:Int) (a1:Bool):Option (Int ⊕ Int) :=
 bif a1 then out (some 1) else (some (.inl (w64 (a0 + 1))))
noncomputable def mI (a6:Int) (a2:Event×Bool):(List ByteArray×(List (ByteArray×Int))×List Int×(List (bU×Unit))×(List (ByteArray×(List Int)))×Int)→Option ((List ByteArray×(List (ByteArray×Int))×List Int×(List (bU×Unit))×(List (ByteArray×(List Int)))×Int) ⊕ ((List ByteArray×(List (ByteArray×Int))×List Int×(List (bU×Unit))×(List (ByteArray×(List Int)))×Int) ⊕ (Int ⊕ Int)))
 | (a7,a3,a8,a5,a4,a1)=>bif decide (a1 < (a2.1.Calls.length:Int)) then must (0≤a1∧a1 < (a2.1.Calls.length:Int)) ((av (⟨a7,a3,a8,a5,a4⟩:aQ) (idx a2.1.Calls a1) a6).bind fun a0=>bif (a0.1 != 0) then out (out (out (some 1))) else (some (.inl (a0.2.keys,a0.2.at_,a0.2.types,a0.2.facts,a0.2.incs,w64 (a1 + 1))))) else (out (some (.inl (a7,a3,a8,a5,a4,w64 (a6 + 1)))))
noncomputable def mJ (a0:List ByteArray) (a6:List (ByteArray×Int)) (a3:List Int) (a1:List (bU×Unit)) (a2:List (ByteArray×(List Int))) (a4:Int) (a5:Event×Bool) (a7:Bool):Option ((List ByteArray×(List (ByteArray×Int))×List Int×(List (bU×Unit))×(List (ByteArray×(List Int)))×Int) ⊕ (Int ⊕ Int)) :=
 bif a7 then out (out (some 1)) else (iter (mI a4 a5) (a0,a6,a3,a1,a2,0))
noncomputable def kI (a0:History):(List ByteArray×(List (ByteArray×Int))×List Int×(List (bU×Unit))×(List (ByteArray×(List Int)))×Int)→Option ((List ByteArray×(List (ByteArray×Int))×List Int×(List (bU×Unit))×(List (ByteArray×(List Int)))×Int) ⊕ (Int ⊕ Int))
 | (a3,a7,a6,a4,a5,a1)=>bif decide (a1 < (a0.Txns.length:Int)) then must (0≤a1∧a1 < (a0.Txns.length:Int)) ((dH a0 (idx a0.Txns a1)).bind fun a2=>bif !a2.2 then mJ a3 a7 a6 a4 a5 a1 a2 true else (must (0≤(0:Int)∧(0:Int)≤a1∧a1≤(a0.Txns.length:Int)) ((bF (gP a0.Txns (0:Int) a1) (idx a0.Txns a1)).bind fun a8=>mJ a3 a7 a6 a4 a5 a1 a2 (!a8)))) else (out (out (some 0)))
noncomputable def qa (a0:History):Int→Option (Int ⊕ Int)
 | a1=>bif decide (a1 < (a0.Keys.length:Int)) then must (0≤a1∧a1 < (a0.Keys.length:Int)) (bif sEq (idx a0.Keys a1) (⟨#[]⟩:ByteArray) then kH a1 true else (bif decide (((idx a0.Keys a1).size:Int) > 32) then kH a1 true else (must (0≤(0:Int)∧(0:Int)≤a1∧a1≤(a0.Keys.length:Int)) ((slices_Contains_string (gP a0.Keys (0:Int) a1) (idx a0.Keys a1)).bind fun a3=>kH a1 a3)))) else ((lQ).bind fun a2=>iter (kI a0) (a2.keys,a2.at_,a2.types,a2.facts,a2.incs,0))
noncomputable def mK (a0:History) (b7:Bool):Option Int :=
 bif b7 then some 1 else (iter (qa a0) 0)
noncomputable def aG (a0:History):Option Int :=
 bif decide ((a0.Keys.length:Int) > 32) then mK a0 true else (mK a0 (decide ((a0.Txns.length:Int) > 32)))
noncomputable def cu (a0:List Int):Option (List Int) :=
 must (a0.length * 8≤140737488355328) (some a0)
noncomputable def eQ (a0:Int):Option Int :=
 bif (a0 == 1) then some 171 else (bif (a0 == 2) then some 172 else (bif (a0 == 3) then some 173 else (bif (a0 == 4) then some 174 else (some (-1)))))
noncomputable def iN (a0:Unit) (a1:List Int):Option Bool :=
 some (decide ((a1.length:Int)≤1))
noncomputable def kY (a0:Unit) (a1:List Int):Option Bool :=
 some (decide ((a1.length:Int)≤64))
noncomputable def lZ (a1:List Int):Int→Option (Int ⊕ Bool)
 | a0=>bif decide (a0 < (a1.length:Int)) then must (0≤w64 (a0 - 1)∧w64 (a0 - 1) < (a1.length:Int)) (must (0≤a0∧a0 < (a1.length:Int)) (bif decide (idx a1 (w64 (a0 - 1)) ≥ idx a1 a0) then out (some false) else (some (.inl (w64 (a0 + 1)))))) else (out (some (decide ((a1.length:Int)≤64))))
noncomputable def eU (a0:Unit) (a1:List Int):Option Bool :=
 iter (lZ a1) 1
noncomputable def jc (a0:Unit) (a1:List Int):Option Bool :=
 some ((a1.length:Int) == 1)
noncomputable def gY (a0:Int) (a1:List Int):Option Int :=
 (eQ a0).bind fun y8=>bif (y8 == (171:Int)) then (iN () a1).bind fun a3=>bif !a3 then some 80 else (some 0) else (bif (y8 == (172:Int)) then (kY () a1).bind fun a2=>bif !a2 then some 80 else (some 0) else (bif (y8 == (173:Int)) then (eU () a1).bind fun a4=>bif !a4 then some 80 else (some 0) else (bif (y8 == (174:Int)) then (jc () a1).bind fun a5=>bif !a5 then some 80 else (some 0) else (bif (y8 == ((-1):Int)) then some 1 else none))))
noncomputable def fw (a0:Unit) (a1:List Int) (a2:List Int):Option (List Int×Bool) :=
 bif ((a1.length:Int) == 1) then must (0≤(0:Int)∧(0:Int) < (a1.length:Int)) (must (0≤w64 ((a2.length:Int) - 1)∧w64 ((a2.length:Int) - 1) < (a2.length:Int)) (some (([]:List Int),(idx a1 (0:Int) == idx a2 (w64 ((a2.length:Int) - 1)))))) else (some (([]:List Int),false))
noncomputable def nD (a0:List Int) (a1:List Int):Int→Option (Int ⊕ Bool)
 | a2=>bif decide (a2 < (a0.length:Int)) then must (0≤a2∧a2 < (a0.length:Int)) (must (0≤a2∧a2 < (a1.length:Int)) (bif (idx a0 a2 != idx a1 a2) then out (some false) else (some (.inl (w64 (a2 + 1)))))) else (out (some true))
noncomputable def dR (a0:List Int) (a1:List Int):Option Bool :=
 bif ((a0.length:Int) != (a1.length:Int)) then some false else (iter (nD a0 a1) 0)
noncomputable def fO (a1:List Int) (a2:List Int) (a3:Bool):Option (List Int×Bool) :=
 bif a3 then some (([]:List Int),false) else (must (0≤(0:Int)∧(0:Int)≤(w64 ((a1.length:Int) - (a2.length:Int)))∧(w64 ((a1.length:Int) - (a2.length:Int)))≤(a1.length:Int)) ((cu (gP a1 (0:Int) (w64 ((a1.length:Int) - (a2.length:Int))))).bind fun a0=>some (a0,true)))
noncomputable def dn (a0:Unit) (a1:List Int) (a2:List Int):Option (List Int×Bool) :=
 bif decide (w64 ((a1.length:Int) - (a2.length:Int)) < 0) then fO a1 a2 true else (must (0≤(w64 ((a1.length:Int) - (a2.length:Int)))∧(w64 ((a1.length:Int) - (a2.length:Int)))≤(a1.length:Int)∧(a1.length:Int)≤(a1.length:Int)) ((dR (gP a1 (w64 ((a1.length:Int) - (a2.length:Int))) (a1.length:Int)) a2).bind fun a3=>fO a1 a2 (!a3)))
noncomputable def jL (a0:Int):Option Bool :=
 some (a0 != a0)
noncomputable def kJ (a0:Int) (a1:Int):Option Bool :=
 (jL a0).bind fun y7=>bif y7 then (jL a1).bind fun a2=>bif !a2 then some true else (some (decide (a0 < a1))) else (some (decide (a0 < a1)))
noncomputable def gZ (a0:Int):Option Bool :=
 some (a0 != a0)
noncomputable def gM (a1:Int) (a0:Int):Option ((Int×Int) ⊕ (Int×Bool)) :=
 some (.inl (a1,a0))
noncomputable def gN (a0:List Int) (a1:Int):(Int×Int)→Option ((Int×Int) ⊕ (Int×Bool))
 | (a2,a3)=>bif decide (a2 < a3) then must (0≤(1:Int)∧(1:Int) < (far:Int)) (must (0≤w64 (tO .u64 (IntKind.wrap .u64 (w64 (a2 + a3))) (1:Int))∧w64 (tO .u64 (IntKind.wrap .u64 (w64 (a2 + a3))) (1:Int)) < (a0.length:Int)) ((kJ (idx a0 (w64 (tO .u64 (IntKind.wrap .u64 (w64 (a2 + a3))) (1:Int)))) a1).bind fun a5=>bif a5 then gM (w64 ((w64 (tO .u64 (IntKind.wrap .u64 (w64 (a2 + a3))) (1:Int))) + 1)) a3 else (gM a2 (w64 (tO .u64 (IntKind.wrap .u64 (w64 (a2 + a3))) (1:Int)))))) else (bif decide (a2 < (a0.length:Int)) then must (0≤a2∧a2 < (a0.length:Int)) (bif (idx a0 a2 == a1) then out (some (a2,true)) else ((gZ (idx a0 a2)).bind fun a6=>bif a6 then (gZ a1).bind fun a4=>out (some (a2,a4)) else (out (some (a2,false))))) else (out (some (a2,false))))
noncomputable def aU (a0:List Int) (a1:Int):Option (Int×Bool) :=
 iter (gN a0 a1) (0,(a0.length:Int))
noncomputable def gQ (a0:List Int) (a1 a2:Int):Option (List Int) :=
 must (0≤a1∧a1≤a2∧a2≤(a0.length:Int)) (some (a0.take a1.toNat++a0.drop a2.toNat))
noncomputable def iO (a2:List Int):(List Int×Int)→Option ((List Int×Int) ⊕ (List Int×Bool))
 | (a1,a0)=>bif decide (a0 < (a2.length:Int)) then must (0≤a0∧a0 < (a2.length:Int)) ((aU a1 (idx a2 a0)).bind fun a3=>bif !a3.2 then out (some (([]:List Int),false)) else ((gQ a1 a3.1 (w64 (a3.1 + 1))).bind fun a4=>some (.inl (a4,w64 (a0 + 1))))) else (out (some (a1,true)))
noncomputable def dM (a0:Unit) (a1:List Int) (a2:List Int):Option (List Int×Bool) :=
 (cu a1).bind fun y7=>iter (iO a2) (y7,0)
noncomputable def gm (a2:List Int):(Int×Int)→Option ((Int×Int) ⊕ (List Int×Bool))
 | (a1,a0)=>bif decide (a0 < (a2.length:Int)) then must (0≤a0∧a0 < (a2.length:Int)) (some (.inl (w64 (a1 - (idx a2 a0)),w64 (a0 + 1)))) else (out (some (([a1]:List Int),true)))
noncomputable def dA (a0:Unit) (a1:List Int) (a2:List Int):Option (List Int×Bool) :=
 must (0≤(0:Int)∧(0:Int) < (a1.length:Int)) (iter (gm a2) (idx a1 (0:Int),0))
noncomputable def iL (a0:Int) (a1:List Int) (a2:List Int) (b9:Bool):Option (List Int×Bool) :=
 bif b9 then some (([]:List Int),false) else ((eQ a0).bind fun a3=>bif (a3 == (171:Int)) then (fw () a1 a2).bind fun a7=>some (a7.1,a7.2) else (bif (a3 == (172:Int)) then (dn () a1 a2).bind fun a6=>some (a6.1,a6.2) else (bif (a3 == (173:Int)) then (dM () a1 a2).bind fun a4=>some (a4.1,a4.2) else (bif (a3 == (174:Int)) then (dA () a1 a2).bind fun a5=>some (a5.1,a5.2) else (bif (a3 == ((-1):Int)) then none else none)))))
noncomputable def eX (a0:Int) (a1:List Int) (a2:List Int):Option (List Int×Bool) :=
 (gY a0 a1).bind fun a3=>bif (a3 != 0) then iL a0 a1 a2 true else (iL a0 a1 a2 ((a2.length:Int) == 0))
noncomputable def fD (a2:Int) (a3:List Ask) (a0:List fJ) (a1:List (Int×(List Int))):Option ((List Ask×List fJ×(List (Int×(List Int)))×Int) ⊕ dK) :=
 some (.inl (a3,a0,a1,w64 (a2 + 1)))
noncomputable def jd (a1:History) (a2:Int) (a3:List Ask) (a0:List fJ) (a5:List (Int×(List Int))) (a4:Int) (a7:List Int) (a6:Bool):Option ((List Ask×List fJ×(List (Int×(List Int)))×Int) ⊕ dK) :=
 bif !a6 then must (((a0.length + 1) + (a0.length + 1) / 4 + 192) * 16≤281474976710656∧a0.length + 1≤9223372036854775807) (fD a4 a3 (a0++([(⟨a2,a4⟩:fJ)]:List fJ)) a5) else (must (((a3.length + 1) + (a3.length + 1) / 4 + 192) * 48≤281474976710656∧a3.length + 1≤9223372036854775807) (fD a4 (a3++([(⟨a2,a4,(idx ((idx a1.Txns a2).Ops) a4).Key,a7⟩:Ask)]:List Ask)) a0 a5))
noncomputable def je (a1:History) (a2:Int) (a5:List Ask) (a4:List fJ) (a0:List (Int×(List Int))) (a6:Int) (a3:List Int×Bool) (a7:Bool):Option ((List Ask×List fJ×(List (Int×(List Int)))×Int) ⊕ dK) :=
 bif a7 then fD a6 a5 a4 a0 else (jd a1 a2 a5 a4 a0 a6 a3.1 a3.2)
noncomputable def lF (a1:History) (a2:Int):(List Ask×List fJ×(List (Int×(List Int)))×Int)→Option ((List Ask×List fJ×(List (Int×(List Int)))×Int) ⊕ dK)
 | (a5,a4,a3,a0)=>bif decide (a0 < (((idx a1.Txns a2).Ops).length:Int)) then must (0≤a0∧a0 < (((idx a1.Txns a2).Ops).length:Int)) (bif decide ((idx ((idx a1.Txns a2).Ops) a0).Kind≤4) then must (((((mat a3 ((idx ((idx a1.Txns a2).Ops) a0).Key)).length) + 1) + (((mat a3 ((idx ((idx a1.Txns a2).Ops) a0).Key)).length) + 1) / 4 + 192) * 8≤281474976710656∧((mat a3 ((idx ((idx a1.Txns a2).Ops) a0).Key)).length) + 1≤9223372036854775807) (fD a0 a5 a4 (gW a3 ((idx ((idx a1.Txns a2).Ops) a0).Key) ((mat a3 ((idx ((idx a1.Txns a2).Ops) a0).Key))++([(idx ((idx a1.Txns a2).Ops) a0).Arg]:List Int)))) else ((cu ((idx ((idx a1.Txns a2).Ops) a0).Vals)).bind fun a7=>bif decide (((mat a3 ((idx ((idx a1.Txns a2).Ops) a0).Key)).length:Int) > 0) then (eX (w64 (((idx ((idx a1.Txns a2).Ops) a0).Kind) - 4)) ((idx ((idx a1.Txns a2).Ops) a0).Vals) (mat a3 ((idx ((idx a1.Txns a2).Ops) a0).Key))).bind fun a6=>bif a6.2 then je a1 a2 a5 a4 a3 a0 a6 ((idx ((idx a1.Txns a2).Ops) a0).Kind == 5) else (je a1 a2 a5 a4 a3 a0 a6 false) else (jd a1 a2 a5 a4 a3 a0 a7 true))) else (out (some (⟨a5,a4⟩:dK)))
noncomputable def aO (a0:dK) (a1:History) (a2:Int):Option dK :=
 must (0≤a2∧a2 < (a1.Txns.length:Int)) (bif ((idx a1.Txns a2).Status != 1) then some a0 else (iter (lF a1 a2) (a0.asks,a0.bad,[],0)))
noncomputable def sH (a0:History):(List Ask×List fJ×Int)→Option ((List Ask×List fJ×Int) ⊕ (dK×Int))
 | (a3,a4,a1)=>bif decide (a1 < (a0.Txns.length:Int)) then (aO (⟨a3,a4⟩:dK) a0 a1).bind fun a2=>some (.inl (a2.asks,a2.bad,w64 (a1 + 1))) else (out (some ((⟨a3,a4⟩:dK),0)))
noncomputable def jR (a0:History):Option (dK×Int) :=
 (aG a0).bind fun a1=>bif (a1 != 0) then some ((⟨([]:List Ask),([]:List fJ)⟩:dK),a1) else (iter (sH a0) ([],[],0))
noncomputable def ib (a0:History):Option (List Ask×Int) :=
 (jR a0).bind fun a1=>some (a1.1.asks,a1.2)
noncomputable def rC (a0:History) (a1:Int) (a3:Int):Int→Option (Int ⊕ (Int ⊕ Int))
 | a2=>bif decide (a2 < (((idx a0.Txns a3).Ops).length:Int)) then must (0≤a2∧a2 < (((idx a0.Txns a3).Ops).length:Int)) (bif ((idx ((idx a0.Txns a3).Ops) a2).Key == a1) then (kX ((idx ((idx a0.Txns a3).Ops) a2).Kind)).bind fun a4=>out (out (some a4)) else (some (.inl (w64 (a2 + 1))))) else (out (some (.inl (w64 (a3 + 1)))))
noncomputable def rD (a0:History) (a1:Int):Int→Option (Int ⊕ Int)
 | a2=>bif decide (a2 < (a0.Txns.length:Int)) then must (0≤a2∧a2 < (a0.Txns.length:Int)) (iter (rC a0 a1 a2) 0) else (out (some 0))
noncomputable def dX (a0:History) (a1:Int):Option Int :=
 (aG a0).bind fun y8=>bif (y8 != 0) then some 0 else (iter (rD a0 a1) 0)
noncomputable def mM (a0:Int) (a1:List Int):Option ((List Int×Int) ⊕ (List Int)) :=
 some (.inl (a1,w64 (a0 + 1)))
noncomputable def mO (a0:Txn) (a1:List Int) (a2:Int) (a3:Bool):Option ((List Int×Int) ⊕ (List Int)) :=
 bif a3 then must (((a1.length + 1) + (a1.length + 1) / 4 + 192) * 8≤281474976710656∧a1.length + 1≤9223372036854775807) (mM a2 (a1++([(idx a0.Ops a2).Arg]:List Int))) else (mM a2 a1)
noncomputable def qb (a0:Txn) (a1:Int):(List Int×Int)→Option ((List Int×Int) ⊕ (List Int))
 | (a3,a2)=>bif decide (a2 < (a0.Ops.length:Int)) then must (0≤a2∧a2 < (a0.Ops.length:Int)) (bif ((idx a0.Ops a2).Key == a1) then mO a0 a3 a2 (decide ((idx a0.Ops a2).Kind≤4)) else (mO a0 a3 a2 false)) else (out (some a3))
noncomputable def dD (a0:Txn) (a1:Int):Option (List Int) :=
 iter (qb a0 a1) ([],0)
noncomputable def kZ (a1:Int) (a0:List Int):Option ((List Int×Int) ⊕ (List Int)) :=
 some (.inl (a0,w64 (a1 + 1)))
noncomputable def lc (a0:List Int) (a1:Int) (a2:Bool):Option ((List Int×Int) ⊕ (List Int)) :=
 bif a2 then must (((a0.length + 1) + (a0.length + 1) / 4 + 192) * 8≤281474976710656∧a0.length + 1≤9223372036854775807) (kZ a1 (a0++([a1]:List Int))) else (kZ a1 a0)
noncomputable def nO (a0:History) (a1:Int):(List Int×Int)→Option ((List Int×Int) ⊕ (List Int))
 | (a3,a2)=>bif decide (a2 < (a0.Txns.length:Int)) then must (0≤a2∧a2 < (a0.Txns.length:Int)) (bif ((idx a0.Txns a2).Status != 2) then (dD (idx a0.Txns a2) a1).bind fun a4=>lc a3 a2 (decide ((a4.length:Int) > 0)) else (lc a3 a2 false)) else (out (some a3))
noncomputable def bV (a0:History) (a1:Int):Option (List Int) :=
 (aG a0).bind fun y8=>bif (y8 != 0) then some ([]:List Int) else (iter (nO a0 a1) ([],0))
noncomputable def kK (a0:History) (a1:Int) (a2:Int) (a4:Bool):Option (List Int×Bool) :=
 bif a4 then some (([]:List Int),false) else (must (0≤a1∧a1 < (a0.Txns.length:Int)) ((dD (idx a0.Txns a1) a2).bind fun a3=>some (a3,decide ((a3.length:Int) > 0))))
noncomputable def fF (a0:History) (a1:Int) (a2:Int):Option (List Int×Bool) :=
 bif decide (a1 < 0) then kK a0 a1 a2 true else (bif decide (a1 ≥ (a0.Txns.length:Int)) then kK a0 a1 a2 true else ((aG a0).bind fun a3=>kK a0 a1 a2 (a3 != 0)))
noncomputable def lg (a0:Int) (a1:List aD):Option ((List aD×Int) ⊕ (List aD)) :=
 some (.inl (a1,w64 (a0 + 1)))
noncomputable def lh (a2:List Int) (a0:List aD) (a1:Int) (a3:List Int×Bool) (a4:Bool):Option ((List aD×Int) ⊕ (List aD)) :=
 bif a4 then must (((a0.length + 1) + (a0.length + 1) / 4 + 192) * 32≤281474976710656∧a0.length + 1≤9223372036854775807) (lg a1 (a0++([(⟨idx a2 a1,a3.1⟩:aD)]:List aD))) else (lg a1 a0)
noncomputable def nP (a0:History) (a1:Ask) (a3:List Int):(List aD×Int)→Option ((List aD×Int) ⊕ (List aD))
 | (a4,a2)=>bif decide (a2 < (a3.length:Int)) then must (0≤a2∧a2 < (a3.length:Int)) ((fF a0 (idx a3 a2) a1.Key).bind fun a5=>bif a5.2 then lh a3 a4 a2 a5 (idx a3 a2 != a1.Txn) else (lh a3 a4 a2 a5 false)) else (out (some a4))
noncomputable def bD (a0:History) (a1:Ask):Option (List aD) :=
 (bV a0 a1.Key).bind fun a2=>iter (nP a0 a1 a2) ([],0)
noncomputable def oq (a0:aD) (a1:List Int):Option Bool :=
 must (0≤(0:Int)∧(0:Int) < (a0.args.length:Int)) (must (0≤(0:Int)∧(0:Int) < (a1.length:Int)) (some (idx a0.args (0:Int) == idx a1 (0:Int))))
noncomputable def lG (a0:List Int) (a1:Int):Int→Option (Int ⊕ Int)
 | a2=>bif decide (a2 < (a0.length:Int)) then must (0≤a2∧a2 < (a0.length:Int)) (bif (a1 == idx a0 a2) then out (some a2) else (some (.inl (w64 (a2 + 1))))) else (out (some (-1)))
noncomputable def slices_Index_int (a0:List Int) (a1:Int):Option Int :=
 iter (lG a0 a1) 0
noncomputable def slices_Contains_int (a0:List Int) (a1:Int):Option Bool :=
 (slices_Index_int a0 a1).bind fun y3=>some (decide (y3 ≥ 0))
noncomputable def ed (a0:List aD) (a1c0:List Int):Int→Option (Int ⊕ Int)
 | a1=>bif decide (a1 < (a0.length:Int)) then must (0≤a1∧a1 < (a0.length:Int)) ((oq (idx a0 a1) a1c0).bind fun a2=>bif a2 then out (some a1) else (some (.inl (w64 (a1 + 1))))) else (out (some (-1)))
noncomputable def aV (a0:List aD) (a1c0:List Int):Option Int :=
 iter (ed a0 a1c0) 0
noncomputable def jm (a1:List aD) (a2:List Int) (a3:List Int) (a0:Int) (a4:Bool):Option ((List Int×List Int) ⊕ (List Int×Bool)) :=
 bif a4 then out (some (([]:List Int),false)) else (must (0≤a0∧a0 < (a1.length:Int)) (must (((a3.length + 1) + (a3.length + 1) / 4 + 192) * 8≤281474976710656∧a3.length + 1≤9223372036854775807) (must (0≤(((idx a1 a0).args).length:Int)∧(((idx a1 a0).args).length:Int)≤(a2.length:Int)∧(a2.length:Int)≤(a2.length:Int)) (some (.inl (gP a2 (((idx a1 a0).args).length:Int) (a2.length:Int),a3++([(idx a1 a0).txn]:List Int)))))))
noncomputable def mP (a1:List aD):(List Int×List Int)→Option ((List Int×List Int) ⊕ (List Int×Bool))
 | (a2,a3)=>bif decide ((a2.length:Int) > 0) then (aV a1 a2).bind fun a0=>bif decide (a0 < 0) then jm a1 a2 a3 a0 true else (must (0≤a0∧a0 < (a1.length:Int)) (bif decide ((((idx a1 a0).args).length:Int) > (a2.length:Int)) then jm a1 a2 a3 a0 true else (must (0≤(0:Int)∧(0:Int)≤(((idx a1 a0).args).length:Int)∧(((idx a1 a0).args).length:Int)≤(a2.length:Int)) ((dR ((idx a1 a0).args) (gP a2 (0:Int) (((idx a1 a0).args).length:Int))).bind fun a5=>bif !a5 then jm a1 a2 a3 a0 true else ((slices_Contains_int a3 ((idx a1 a0).txn)).bind fun a4=>jm a1 a2 a3 a0 a4))))) else (out (some (a3,true)))
noncomputable def dI (a0:List Int) (a1:List aD):Option (List Int×Bool) :=
 iter (mP a1) (a0,[])
noncomputable def ou (a0:Int) (a1:List Int) (a2:List (Int×Unit)):Option ((List Int×(List (Int×Unit))×Int) ⊕ (((List (Int×Unit))×Int) ⊕ (List Int×Bool))) :=
 some (.inl (a1,a2,w64 (a0 + 1)))
noncomputable def ow (a0:Int) (a1:List (Int×Unit)) (a2:Int):Option (((List (Int×Unit))×Int×Int) ⊕ ((List Int×(List (Int×Unit))×Int) ⊕ (((List (Int×Unit))×Int) ⊕ (List Int×Bool)))) :=
 some (.inl (a1,a2,w64 (a0 + 1)))
noncomputable def oz (a1:List aD) (a0:List Int) (a2:Int) (a3:List (Int×Unit)) (a4:Int) (a5:Bool):Option (((List (Int×Unit))×Int×Int) ⊕ ((List Int×(List (Int×Unit))×Int) ⊕ (((List (Int×Unit))×Int) ⊕ (List Int×Bool)))) :=
 bif a5 then out (out (out (some (([]:List Int),false)))) else (bif decide (a4 > 0) then must (((a0.length + 1) + (a0.length + 1) / 4 + 192) * 8≤281474976710656∧a0.length + 1≤9223372036854775807) (out (ou a2 (a0++([(idx a1 a2).txn]:List Int)) a3)) else (out (ou a2 a0 a3)))
noncomputable def rE (a1:List aD) (a5:List Int) (a2:Int):((List (Int×Unit))×Int×Int)→Option (((List (Int×Unit))×Int×Int) ⊕ ((List Int×(List (Int×Unit))×Int) ⊕ (((List (Int×Unit))×Int) ⊕ (List Int×Bool))))
 | (a4,a3,a0)=>bif decide (a0 < (((idx a1 a2).args).length:Int)) then must (0≤a0∧a0 < (((idx a1 a2).args).length:Int)) (bif nY a4 (idx ((idx a1 a2).args) a0) then ow a0 (yT a4 (idx ((idx a1 a2).args) a0)) (w64 (a3 + 1)) else (ow a0 a4 a3)) else (bif decide (a3 > 0) then oz a1 a5 a2 a4 a3 (decide (a3 < (((idx a1 a2).args).length:Int))) else (oz a1 a5 a2 a4 a3 false))
noncomputable def rF (a1:List aD):(List Int×(List (Int×Unit))×Int)→Option ((List Int×(List (Int×Unit))×Int) ⊕ (((List (Int×Unit))×Int) ⊕ (List Int×Bool)))
 | (a2,a3,a0)=>bif decide (a0 < (a1.length:Int)) then must (0≤a0∧a0 < (a1.length:Int)) (iter (rE a1 a2 a0) (a3,0,0)) else (bif decide ((a3.length:Int) > 0) then out (out (some (([]:List Int),false))) else (out (out (some (a2,true)))))
noncomputable def rG (a0:List Int) (a1:List aD):((List (Int×Unit))×Int)→Option (((List (Int×Unit))×Int) ⊕ (List Int×Bool))
 | (a3,a2)=>bif decide (a2 < (a0.length:Int)) then must (0≤a2∧a2 < (a0.length:Int)) (some (.inl (gW a3 (idx a0 a2) (),w64 (a2 + 1)))) else (iter (rF a1) ([],a3,0))
noncomputable def bE (a0:List Int) (a1:List aD):Option (List Int×Bool) :=
 iter (rG a0 a1) ([],0)
noncomputable def iP (a0:History) (a1:Ask):Option (List Int×Bool) :=
 (dX a0 a1.Key).bind fun a2=>bif (a2 == 2) then (bD a0 a1).bind fun a6=>(dI a1.Base a6).bind fun a4=>some (a4.1,a4.2) else (bif (a2 == 3) then (bD a0 a1).bind fun a5=>(bE a1.Base a5).bind fun a3=>some (a3.1,a3.2) else (some (([]:List Int),false)))
noncomputable def lH (a0:Int) (a2:Int) (a3:List aD) (a4:Int) (rec:Int→Int→Int→(List aD)→Int→Int→Option Int) (a7:Int):(Int×Int)→Option ((Int×Int) ⊕ Int)
 | (a5,a1)=>bif decide (a1 < (((idx a3 a0).args).length:Int)) then must (0≤a1∧a1 < (((idx a3 a0).args).length:Int)) (some (.inl (w64 (a5 + (idx ((idx a3 a0).args) a1)),w64 (a1 + 1)))) else (must (0≤a0∧a0 < (far:Int)) ((rec (w64 (a0 + 1)) a5 (bOr .u64 a2 (yR .u64 1 a0)) a3 a4 a7).bind fun a6=>out (some a6)))
noncomputable def iC (rec:Int→Int→Int→(List aD)→Int→Int→Option Int) (a0:Int) (a1:Int) (a2:Int) (a3:List aD) (a4:Int) (a5:Int):Option Int :=
 bif (a0 == (a3.length:Int)) then bif (a1 == a4) then some (bOr .u64 a5 a2) else (some a5) else ((rec (w64 (a0 + 1)) a1 a2 a3 a4 a5).bind fun a6=>must (0≤a0∧a0 < (a3.length:Int)) (iter (lH a0 a2 a3 a4 rec a6) (a1,0)))
noncomputable def eO:Nat→Int→Int→Int→(List aD)→Int→Int→Option Int
 | 0=>fun _ _ _ _ _ _=>none
 | k + 1=>iC (eO k)
noncomputable def aS (a0:Int) (a1:Int) (a2:Int) (a3:List aD) (a4:Int) (a5:Int):Option Int:=eO 64 a0 a1 a2 a3 a4 a5
noncomputable def ky (a1:Int) (a0:List Int):Option ((List Int×Int) ⊕ (List Int)) :=
 some (.inl (a0,w64 (a1 + 1)))
noncomputable def mQ (a1:List aD) (a3:Int):(List Int×Int)→Option ((List Int×Int) ⊕ (List Int))
 | (a2,a0)=>bif decide (a0 < (a1.length:Int)) then must (0≤a0∧a0 < (a1.length:Int)) (must (0≤a0∧a0 < (far:Int)) (bif (yf .u64 (tO .u64 a3 a0) 1 == 1) then must (((a2.length + 1) + (a2.length + 1) / 4 + 192) * 8≤281474976710656∧a2.length + 1≤9223372036854775807) (ky a0 (a2++([(idx a1 a0).txn]:List Int))) else (ky a0 a2))) else (out (some a2))
noncomputable def dE (a0:Int) (a1:List aD):Option (List Int) :=
 (aS 0 0 0 a1 a0 0).bind fun a2=>iter (mQ a1 a2) ([],0)
noncomputable def dY (a0:List Int):Option (List Int) :=
 some a0
noncomputable def kz (a0:History) (a1:Ask) (a3:List Int):Option (List Int) :=
 must (0≤(0:Int)∧(0:Int) < (a1.Base.length:Int)) ((bD a0 a1).bind fun a4=>(dE (idx a1.Base (0:Int)) a4).bind fun a2=>must (((a3.length + a2.length) + (a3.length + a2.length) / 4 + 192) * 8≤281474976710656∧a3.length + a2.length≤9223372036854775807) (dY (a3++a2)))
noncomputable def kC (a0:Int) (a1:List Int):Option ((List Int×Int) ⊕ (List Int)) :=
 some (.inl (a1,w64 (a0 + 1)))
noncomputable def kD (a1:Ask) (a2:List aD):(List Int×Int)→Option ((List Int×Int) ⊕ (List Int))
 | (a3,a0)=>bif decide (a0 < (a2.length:Int)) then must (0≤a0∧a0 < (a2.length:Int)) (must (0≤w64 ((((idx a2 a0).args).length:Int) - 1)∧w64 ((((idx a2 a0).args).length:Int) - 1) < (((idx a2 a0).args).length:Int)) (must (0≤(0:Int)∧(0:Int) < (a1.Base.length:Int)) (bif (idx ((idx a2 a0).args) (w64 ((((idx a2 a0).args).length:Int) - 1)) == idx a1.Base (0:Int)) then must (((a3.length + 1) + (a3.length + 1) / 4 + 192) * 8≤281474976710656∧a3.length + 1≤9223372036854775807) (kC a0 (a3++([(idx a2 a0).txn]:List Int))) else (kC a0 a3)))) else (out (dY a3))
noncomputable def aM (a0:History) (a1:Ask):Option (List Int) :=
 (dX a0 a1.Key).bind fun a3=>bif (a3 == 4) then must (0≤(0:Int)∧(0:Int) < (a1.Base.length:Int)) (bif (idx a1.Base (0:Int) == 0) then must (((0 + 1) + (0 + 1) / 4 + 192) * 8≤281474976710656∧0 + 1≤9223372036854775807) (kz a0 a1 (([]:List Int)++([(-1)]:List Int))) else (kz a0 a1 [])) else (bif ((a1.Base.length:Int) == 0) then dY ([(-1)]:List Int) else (bif (a3 == 1) then (bD a0 a1).bind fun a4=>iter (kD a1 a4) ([],0) else (bif (a3 == 2) then (iP a0 a1).bind fun a2=>bif a2.2 then must (0≤(w64 ((a2.1.length:Int) - 1))∧(w64 ((a2.1.length:Int) - 1))≤(a2.1.length:Int)∧(a2.1.length:Int)≤(a2.1.length:Int)) (dY (gP a2.1 (w64 ((a2.1.length:Int) - 1)) (a2.1.length:Int))) else (dY []) else ((iP a0 a1).bind fun a5=>dY a5.1))))
noncomputable def mR (a0:Ask) (a1:History):Option Bool :=
 (aM a1 a0).bind fun y7=>some (decide ((y7.length:Int) > 0))
noncomputable def gu (a0:List Ask) (a1c0:History):Int→Option (Int ⊕ Int)
 | a1=>bif decide (a1 < (a0.length:Int)) then must (0≤a1∧a1 < (a0.length:Int)) ((mR (idx a0 a1) a1c0).bind fun a2=>bif a2 then out (some a1) else (some (.inl (w64 (a1 + 1))))) else (out (some (-1)))
noncomputable def bW (a0:List Ask) (a1c0:History):Option Int :=
 iter (gu a0 a1c0) 0
noncomputable def fZ (a0:List Ask) (a1c0:History):List Ask×Int→Option ((List Ask×Int) ⊕ List Ask)
 | (l,x)=>bif decide (x < (a0.length:Int)) then must (0≤x∧x < (a0.length:Int)) ((mR (idx a0 x) a1c0).bind fun y=>bif !y then (some (.inl (l++[idx a0 x],w64 (x + 1)))) else (some (.inl (l,w64 (x + 1))))) else (out (some l))
noncomputable def bP (a0:List Ask) (a1c0:History):Option (List Ask) :=
 (bW a0 a1c0).bind fun i=>bif i == -1 then some a0 else must (0≤i∧i < (a0.length:Int)) (iter (fZ a0 a1c0) (a0.take i.toNat,w64 (i + 1)))
noncomputable def sI (a0:History):Option (List Ask×Int) :=
 (ib a0).bind fun y7=>bif (y7.2 != 0) then some (([]:List Ask),y7.2) else ((bP y7.1 a0).bind fun a1=>some (a1,0))
noncomputable def kM (a0:Ask) (a1:Ask):Option Bool :=
 bif (a1.Txn == a0.Txn) then bif (a1.Place == a0.Place) then bif (a1.Key == a0.Key) then (dR a1.Base a0.Base).bind fun a2=>some a2 else (some false) else (some false) else (some false)
noncomputable def eB (a0:List Ask) (a1c0:Ask):Int→Option (Int ⊕ Int)
 | a1=>bif decide (a1 < (a0.length:Int)) then must (0≤a1∧a1 < (a0.length:Int)) ((kM (idx a0 a1) a1c0).bind fun a2=>bif a2 then out (some a1) else (some (.inl (w64 (a1 + 1))))) else (out (some (-1)))
noncomputable def aY (a0:List Ask) (a1c0:Ask):Option Int :=
 iter (eB a0 a1c0) 0
noncomputable def cK (a0:List Ask) (a1c0:Ask):Option Bool :=
 (aY a0 a1c0).bind fun y3=>some (decide (y3 ≥ 0))
noncomputable def lm (a0:History) (a1:Ask):Option Int :=
 (ib a0).bind fun y9=>bif (y9.2 != 0) then some y9.2 else ((cK y9.1 a1).bind fun a2=>bif a2 then some 0 else (some 1))
noncomputable def gy (a0:History) (a1:Ask):Option (List Int×Int) :=
 (lm a0 a1).bind fun a2=>bif (a2 != 0) then some (([]:List Int),a2) else ((aM a0 a1).bind fun a3=>some (a3,0))
noncomputable def iQ:Option Bool :=
 (gy (⟨([(⟨#[120]⟩:ByteArray)]:List ByteArray),([(⟨0,1,0,1,([(⟨1,0,5,false,([]:List Int)⟩:Op)]:List Op)⟩:Txn),(⟨0,1,2,3,([(⟨5,0,0,true,([5]:List Int)⟩:Op)]:List Op)⟩:Txn)]:List Txn)⟩:History) (⟨1,0,0,([5]:List Int)⟩:Ask)).bind fun a0=>(sI (⟨([(⟨#[120]⟩:ByteArray)]:List ByteArray),([(⟨0,1,0,1,([(⟨1,0,5,false,([]:List Int)⟩:Op)]:List Op)⟩:Txn),(⟨0,1,2,3,([(⟨5,0,0,true,([5]:List Int)⟩:Op)]:List Op)⟩:Txn)]:List Txn)⟩:History)).bind fun a1=>bif (a0.2 == 0) then bif ((a0.1.length:Int) == 1) then must (0≤(0:Int)∧(0:Int) < (a0.1.length:Int)) (bif (idx a0.1 (0:Int) == 0) then bif (a1.2 == 0) then some ((a1.1.length:Int) == 0) else (some false) else (some false)) else (some false) else (some false)
noncomputable def ig (a1:Int) (a0:List Ask×Int) (a2:Bool):Option (Ask×Bool) :=
 bif a2 then some ((⟨0,0,0,([]:List Int)⟩:Ask),false) else (must ((IntKind.wrap .u64 ((a0.1.length:Int)))≠0) (must (0≤w64 ((IntKind.wrap .u64 (a1)).tmod (IntKind.wrap .u64 ((a0.1.length:Int))))∧w64 ((IntKind.wrap .u64 (a1)).tmod (IntKind.wrap .u64 ((a0.1.length:Int)))) < (a0.1.length:Int)) (some ((idx a0.1 (w64 ((IntKind.wrap .u64 (a1)).tmod (IntKind.wrap .u64 ((a0.1.length:Int)))))),true))))
noncomputable def dJ (a0:History) (a1:Int):Option (Ask×Bool) :=
 (ib a0).bind fun a2=>bif (a2.2 != 0) then ig a1 a2 true else (ig a1 a2 ((a2.1.length:Int) == 0))
noncomputable def vG (a0:History) (a4:List Txn) (a1:Int):(List Op×Int)→Option ((List Op×Int) ⊕ ((List Txn×Int) ⊕ History))
 | (a3,a2)=>bif decide (a2 < (((idx a0.Txns a1).Ops).length:Int)) then must (0≤a2∧a2 < (((idx a0.Txns a1).Ops).length:Int)) (must (((0 + (((idx ((idx a0.Txns a1).Ops) a2).Vals).length)) + (0 + (((idx ((idx a0.Txns a1).Ops) a2).Vals).length)) / 4 + 192) * 8≤281474976710656∧0 + (((idx ((idx a0.Txns a1).Ops) a2).Vals).length)≤9223372036854775807) (must (((a3.length + 1) + (a3.length + 1) / 4 + 192) * 56≤281474976710656∧a3.length + 1≤9223372036854775807) (some (.inl (a3++([(⟨(idx ((idx a0.Txns a1).Ops) a2).Kind,(idx ((idx a0.Txns a1).Ops) a2).Key,(idx ((idx a0.Txns a1).Ops) a2).Arg,(idx ((idx a0.Txns a1).Ops) a2).Got,([]:List Int)++((idx ((idx a0.Txns a1).Ops) a2).Vals)⟩:Op)]:List Op),w64 (a2 + 1)))))) else (must (((a4.length + 1) + (a4.length + 1) / 4 + 192) * 56≤281474976710656∧a4.length + 1≤9223372036854775807) (out (some (.inl (a4++([(⟨(idx a0.Txns a1).Proc,(idx a0.Txns a1).Status,(idx a0.Txns a1).From,(idx a0.Txns a1).To,a3⟩:Txn)]:List Txn),w64 (a1 + 1))))))
noncomputable def vH (a0:History):(List Txn×Int)→Option ((List Txn×Int) ⊕ History)
 | (a2,a1)=>bif decide (a1 < (a0.Txns.length:Int)) then must (0≤a1∧a1 < (a0.Txns.length:Int)) (iter (vG a0 a2 a1) ([],0)) else (out (some (⟨([]:List ByteArray)++a0.Keys,a2⟩:History)))
noncomputable def jo (a0:History):Option History :=
 must (((0 + a0.Keys.length) + (0 + a0.Keys.length) / 4 + 192) * 16≤281474976710656∧0 + a0.Keys.length≤9223372036854775807) (iter (vH a0) ([],0))
noncomputable def mU (a0:List Int) (a1:Int):Int→Option (Int ⊕ Bool)
 | a2=>bif decide (a2 < (a0.length:Int)) then must (0≤a2∧a2 < (a0.length:Int)) (bif (idx a0 a2 == a1) then out (some true) else (some (.inl (w64 (a2 + 1))))) else (out (some false))
noncomputable def dw (a0:List Int) (a1:Int):Option Bool :=
 iter (mU a0 a1) 0
noncomputable def qE (a1:List Int×Int) (a2:List Int×Int):Int→Option (Int ⊕ Bool)
 | a0=>bif decide (a0 < (a1.1.length:Int)) then must (0≤a0∧a0 < (a1.1.length:Int)) ((dw a2.1 (idx a1.1 a0)).bind fun a3=>bif !a3 then out (some false) else (some (.inl (w64 (a0 + 1))))) else (out (some true))
noncomputable def lC (a1:List Int×Int) (a0:List Int×Int) (a2:Bool):Option Bool :=
 bif a2 then some (a1.2 == 0) else (bif (a0.2 != 0) then some false else (iter (qE a1 a0) 0))
noncomputable def lD (a0:History) (a2:Txn) (a4:Ask×Bool) (a6:Bool):Option Bool :=
 bif a6 then some true else ((jo a0).bind fun a1=>must (((a1.Txns.length + 1) + (a1.Txns.length + 1) / 4 + 192) * 56≤281474976710656∧a1.Txns.length + 1≤9223372036854775807) ((gy a0 a4.1).bind fun a3=>(gy (⟨a1.Keys,a1.Txns++([a2]:List Txn)⟩:History) a4.1).bind fun a5=>bif (a3.2 != 0) then lC a3 a5 true else ((aG (⟨a1.Keys,a1.Txns++([a2]:List Txn)⟩:History)).bind fun a7=>lC a3 a5 (a7 != 0))))
noncomputable def dF (a0:History) (a1:Int) (a2:Txn):Option Bool :=
 (iQ).bind fun a4=>bif !a4 then some false else ((dJ a0 a1).bind fun a3=>bif !a3.2 then lD a0 a2 a3 true else (lD a0 a2 a3 (a2.Status != 3)))
noncomputable def mV (a0:History) (a1:Ask):Option (List Int×Bool×Int) :=
 (lm a0 a1).bind fun a3=>bif (a3 != 0) then some (([]:List Int),false,a3) else ((iP a0 a1).bind fun a2=>some (a2.1,a2.2,0))
noncomputable def iR (a0:Unit):Option (List Int) :=
 some ([]:List Int)
noncomputable def lq (a0:Unit):Option (List Int) :=
 some ([]:List Int)
noncomputable def lV (a0:Unit):Option (List Int) :=
 some ([]:List Int)
noncomputable def jf (a0:Unit):Option (List Int) :=
 some ([0]:List Int)
noncomputable def mr (a0:Int):Option (List Int×Int) :=
 (eQ a0).bind fun y8=>bif (y8 == (171:Int)) then (iR ()).bind fun a2=>some (a2,0) else (bif (y8 == (172:Int)) then (lq ()).bind fun a1=>some (a1,0) else (bif (y8 == (173:Int)) then (lV ()).bind fun a4=>some (a4,0) else (bif (y8 == (174:Int)) then (jf ()).bind fun a3=>some (a3,0) else (bif (y8 == ((-1):Int)) then some (([]:List Int),1) else none))))
noncomputable def jg (a0:Unit) (a1:List Int) (a2:Int):Option (List Int) :=
 some ([a2]:List Int)
noncomputable def lW (a0:Unit) (a1:List Int) (a2:Int):Option (List Int) :=
 (cu a1).bind fun a3=>must (((a3.length + 1) + (a3.length + 1) / 4 + 192) * 8≤281474976710656∧a3.length + 1≤9223372036854775807) (some (a3++([a2]:List Int)))
noncomputable def gT (a0:List Int) (a1:Int) (a2:List Int):Option (List Int) :=
 must (0≤a1∧a1≤(a0.length:Int)∧0 < a2.length∧(a0.length + a2.length) * 8≤140737488355328) (some (a0.take a1.toNat++a2++a0.drop a1.toNat))
noncomputable def kN (a0:Unit) (a1:List Int) (a2:Int):Option (List Int) :=
 (aU a1 a2).bind fun y5=>bif y5.2 then (cu a1).bind fun a3=>some a3 else ((cu a1).bind fun a4=>(gT a4 y5.1 ([a2]:List Int)).bind fun a5=>some a5)
noncomputable def jB (a0:Unit) (a1:List Int) (a2:Int):Option (List Int) :=
 must (0≤(0:Int)∧(0:Int) < (a1.length:Int)) (some ([w64 ((idx a1 (0:Int)) + a2)]:List Int))
noncomputable def ik (a0:List Int):Option (List Int×Int) :=
 bif decide ((a0.length:Int) > 64) then some (([]:List Int),2) else (some (a0,0))
noncomputable def eZ (a0:Int) (a1:List Int) (a2:Int):Option (List Int×Int) :=
 (gY a0 a1).bind fun y6=>bif (y6 != 0) then some (([]:List Int),y6) else ((eQ a0).bind fun a3=>bif (a3 == (171:Int)) then (jg () a1 a2).bind fun a4=>ik a4 else (bif (a3 == (172:Int)) then (lW () a1 a2).bind fun a6=>ik a6 else (bif (a3 == (173:Int)) then (kN () a1 a2).bind fun a7=>ik a7 else (bif (a3 == (174:Int)) then (jB () a1 a2).bind fun a5=>ik a5 else (bif (a3 == ((-1):Int)) then none else none)))))
noncomputable def rH (a0:List Int) (a1:Int):Option (List Int×Int) :=
 some (a0,a1)
noncomputable def rJ (a0:Int) (a1:List Int):(List Int×Int×Int)→Option ((List Int×Int×Int) ⊕ (List Int×Int))
 | (a3,a4,a2)=>bif decide (a2 < (a1.length:Int)) then must (0≤a2∧a2 < (a1.length:Int)) (bif (a4 != 0) then out (rH a3 a4) else ((eZ a0 a3 (idx a1 a2)).bind fun a5=>some (.inl (a5.1,a5.2,w64 (a2 + 1))))) else (out (rH a3 a4))
noncomputable def fU (a0:Int) (a1:List Int):Option (List Int×Int) :=
 (mr a0).bind fun y5=>iter (rJ a0 a1) (y5.1,y5.2,0)
noncomputable def gH (a0:List Int) (a1:List Int):Int→Option (Int ⊕ Bool)
 | a2=>bif decide (a2 < (a0.length:Int)) then must (0≤a2∧a2 < (a0.length:Int)) (must (0≤a2∧a2 < (a1.length:Int)) (bif (idx a0 a2 != idx a1 a2) then out (some false) else (some (.inl (w64 (a2 + 1)))))) else (out (some true))
noncomputable def bG (a0:List Int) (a1:List Int):Option Bool :=
 bif ((a0.length:Int) != (a1.length:Int)) then some false else (iter (gH a0 a1) 0)
noncomputable def aW (a1:Int) (a0:Bool):Option (Int ⊕ Bool) :=
 bif a0 then out (some false) else (some (.inl (w64 (a1 + 1))))
noncomputable def az (a1:List Int×Int) (a2:List Int×Bool×Int) (a3:Int) (a0:Int) (a6:Bool):Option (Int ⊕ Bool) :=
 bif a6 then out (some false) else (bif (a3 == 2) then must (0≤a0∧a0 < (a1.1.length:Int)) (bif (idx a1.1 a0 != (-1)) then bif !a2.2.1 then aW a0 true else ((dw a2.1 (idx a1.1 a0)).bind fun a5=>aW a0 (!a5)) else (aW a0 false)) else (bif (a3 == 3) then must (0≤a0∧a0 < (a1.1.length:Int)) (bif (idx a1.1 a0 != (-1)) then bif !a2.2.1 then aW a0 true else ((dw a2.1 (idx a1.1 a0)).bind fun a4=>aW a0 (!a4)) else (aW a0 false)) else (aW a0 false)))
noncomputable def fA (a0:History) (a6:Ask×Bool) (a4:List Int×Bool×Int) (a7:Int):(List Int×Int)→Option ((List Int×Int) ⊕ (Int ⊕ Bool))
 | (a1,a2)=>bif decide (a2 < (a4.1.length:Int)) then must (0≤a2∧a2 < (a4.1.length:Int)) ((fF a0 (idx a4.1 a2) a6.1.Key).bind fun a3=>bif !a3.2 then out (out (some false)) else (must (((a1.length + a3.1.length) + (a1.length + a3.1.length) / 4 + 192) * 8≤281474976710656∧a1.length + a3.1.length≤9223372036854775807) (some (.inl (a1++a3.1,w64 (a2 + 1)))))) else ((fU a7 a1).bind fun a5=>bif (a5.2 == 0) then (bG a5.1 a6.1.Base).bind fun a8=>out (out (some a8)) else (out (out (some false))))
noncomputable def iq (a0:History) (a5:Ask×Bool) (a2:List Int×Int) (a6:List Int) (a4:List Int×Bool×Int) (a3:Int):Int→Option (Int ⊕ Bool)
 | a1=>bif decide (a1 < (a2.1.length:Int)) then bif decide (a1 > 0) then must (0≤a1∧a1 < (a2.1.length:Int)) (must (0≤w64 (a1 - 1)∧w64 (a1 - 1) < (a2.1.length:Int)) (bif decide (idx a2.1 a1≤idx a2.1 (w64 (a1 - 1))) then az a2 a4 a3 a1 true else (bif (idx a2.1 a1 != (-1)) then bif (idx a2.1 a1 == a5.1.Txn) then az a2 a4 a3 a1 true else ((dw a6 (idx a2.1 a1)).bind fun a7=>bif !a7 then az a2 a4 a3 a1 true else (bif decide (a3 < 4) then az a2 a4 a3 a1 ((idx a2.1 a1 == (-1)) != ((a5.1.Base.length:Int) == 0)) else (az a2 a4 a3 a1 false))) else (bif decide (a3 < 4) then az a2 a4 a3 a1 ((idx a2.1 a1 == (-1)) != ((a5.1.Base.length:Int) == 0)) else (az a2 a4 a3 a1 false))))) else (must (0≤a1∧a1 < (a2.1.length:Int)) (bif (idx a2.1 a1 != (-1)) then bif (idx a2.1 a1 == a5.1.Txn) then az a2 a4 a3 a1 true else ((dw a6 (idx a2.1 a1)).bind fun a8=>bif !a8 then az a2 a4 a3 a1 true else (bif decide (a3 < 4) then az a2 a4 a3 a1 ((idx a2.1 a1 == (-1)) != ((a5.1.Base.length:Int) == 0)) else (az a2 a4 a3 a1 false))) else (bif decide (a3 < 4) then az a2 a4 a3 a1 ((idx a2.1 a1 == (-1)) != ((a5.1.Base.length:Int) == 0)) else (az a2 a4 a3 a1 false)))) else (bif !a4.2.1 then out (some ((a4.1.length:Int) == 0)) else (iter (fA a0 a5 a4 a3) ([],0)))
noncomputable def dz (a0:History) (a6:Ask×Bool) (a1:List Int×Int) (a5:List Int) (a4:List Int×Bool×Int) (a2:Int) (a3:Bool):Option Bool :=
 bif a3 then some false else (iter (iq a0 a6 a1 a5 a4 a2) 0)
noncomputable def af (a0:History) (a1:Int):Option Bool :=
 (iQ).bind fun y8=>bif !y8 then some false else ((dJ a0 a1).bind fun a2=>bif !a2.2 then some true else ((gy a0 a2.1).bind fun a3=>(bV a0 a2.1.Key).bind fun a6=>(mV a0 a2.1).bind fun a5=>(dX a0 a2.1.Key).bind fun a4=>bif (a3.2 != 0) then dz a0 a2 a3 a6 a5 a4 true else (bif (a5.2.2 != 0) then dz a0 a2 a3 a6 a5 a4 true else (bif (a4 == 2) then dz a0 a2 a3 a6 a5 a4 (decide ((a3.1.length:Int) > 1)) else (dz a0 a2 a3 a6 a5 a4 false)))))
noncomputable def pz (a0:List ByteArray) (a1:ByteArray):Int→Option (Int ⊕ Int)
 | a2=>bif decide (a2 < (a0.length:Int)) then must (0≤a2∧a2 < (a0.length:Int)) (bif sEq (idx a0 a2) a1 then out (some a2) else (some (.inl (w64 (a2 + 1))))) else (out (some (-1)))
noncomputable def fe (a0:List ByteArray) (a1:ByteArray):Option Int :=
 iter (pz a0 a1) 0
noncomputable def iT (a0:Int) (a1:Bool):Option (Int ⊕ Bool) :=
 bif a1 then out (some false) else (some (.inl (w64 (a0 + 1))))
noncomputable def oG (a0:List ByteArray):Int→Option (Int ⊕ Bool)
 | a1=>bif decide (a1 < (a0.length:Int)) then must (0≤a1∧a1 < (a0.length:Int)) (bif decide (((idx a0 a1).size:Int) < 1) then iT a1 true else (bif decide (((idx a0 a1).size:Int) > 32) then iT a1 true else (must (0≤(0:Int)∧(0:Int)≤a1∧a1≤(a0.length:Int)) ((fe (gP a0 (0:Int) a1) (idx a0 a1)).bind fun a2=>iT a1 (decide (a2 ≥ 0)))))) else (out (some (decide ((a0.length:Int)≤32))))
noncomputable def dG (a0:List ByteArray):Option Bool :=
 iter (oG a0) 0
noncomputable def iD (a1:Int) (a0:Bool):Option (Int ⊕ Bool) :=
 bif a0 then out (some false) else (some (.inl (w64 (a1 + 1))))
noncomputable def jV (a0:List Txn) (a1:Int):Int→Option (Int ⊕ Bool)
 | a2=>bif decide (a2 < a1) then must (0≤a2∧a2 < (a0.length:Int)) (bif ((idx a0 a2).Proc == (idx a0 a1).Proc) then bif ((idx a0 a2).To == (-1)) then iD a2 true else (iD a2 (decide ((idx a0 a2).To ≥ (idx a0 a1).From))) else (iD a2 false)) else (out (some true))
noncomputable def jW (a0:List Txn) (a1:Int) (a2:Bool):Option Bool :=
 bif a2 then some false else (iter (jV a0 a1) 0)
noncomputable def dB (a0:List Txn) (a1:Int) (a2:Bool):Option Bool :=
 bif a2 then some false else (bif decide (a1 > 0) then must (0≤w64 (a1 - 1)∧w64 (a1 - 1) < (a0.length:Int)) (jW a0 a1 (decide ((idx a0 a1).From≤(idx a0 (w64 (a1 - 1))).From))) else (jW a0 a1 false))
noncomputable def aJ (a0:List Txn) (a1:Int):Option Bool :=
 must (0≤a1∧a1 < (a0.length:Int)) (bif decide ((idx a0 a1).Status < 1) then dB a0 a1 true else (bif decide ((idx a0 a1).Status > 3) then dB a0 a1 true else (bif decide ((idx a0 a1).From < 0) then dB a0 a1 true else (bif ((idx a0 a1).To != (-1)) then bif decide ((idx a0 a1).To≤(idx a0 a1).From) then dB a0 a1 true else (bif ((idx a0 a1).To == (-1)) then dB a0 a1 ((idx a0 a1).Status != 3) else (dB a0 a1 false)) else (bif ((idx a0 a1).To == (-1)) then dB a0 a1 ((idx a0 a1).Status != 3) else (dB a0 a1 false))))))
noncomputable def jh (a0:Call):Option Bool :=
 some (decide ((a0.Vals.length:Int)≤64))
noncomputable def lI (a0:Call):Int→Option (Int ⊕ Bool)
 | a1=>bif decide (a1 < (a0.Vals.length:Int)) then must (0≤a1∧a1 < (a0.Vals.length:Int)) (must (0≤w64 (a1 - 1)∧w64 (a1 - 1) < (a0.Vals.length:Int)) (bif decide (idx a0.Vals a1≤idx a0.Vals (w64 (a1 - 1))) then out (some false) else (some (.inl (w64 (a1 + 1)))))) else (out (jh a0))
noncomputable def gU (a0:Call) (a1:Bool):Option Bool :=
 bif a1 then some false else (bif (a0.Kind == 5) then some (decide ((a0.Vals.length:Int)≤1)) else (bif (a0.Kind == 8) then bif !a0.Got then some true else (some ((a0.Vals.length:Int) == 1)) else (bif (a0.Kind == 7) then iter (lI a0) 1 else (jh a0))))
noncomputable def gV (a0:Call) (a1:Int) (a2:Bool):Option Bool :=
 bif a2 then some false else (bif decide (a0.Kind≤4) then bif !a0.Got then bif ((a0.Vals.length:Int) == 0) then bif (a0.Kind != 4) then some true else (bif decide (a0.Arg ≥ (-1048576)) then some (decide (a0.Arg≤1048576)) else (some false)) else (some false) else (some false) else (bif (a0.Arg != 0) then gU a0 true else (bif (a0.Got != (a1 == 1)) then gU a0 true else (bif !a0.Got then gU a0 (decide ((a0.Vals.length:Int) > 0)) else (gU a0 false)))))
noncomputable def aT (a0:Call) (a1:Int):Option Bool :=
 bif decide (a0.Kind < 1) then gV a0 a1 true else (bif decide (a0.Kind > 8) then gV a0 a1 true else (bif decide ((a0.Key.size:Int) < 1) then gV a0 a1 true else (gV a0 a1 (decide ((a0.Key.size:Int) > 32)))))
noncomputable def kP (a0:Event):Int→Option (Int ⊕ Bool)
 | a1=>bif decide (a1 < (a0.Calls.length:Int)) then must (0≤a1∧a1 < (a0.Calls.length:Int)) ((aT (idx a0.Calls a1) a0.Kind).bind fun a2=>bif !a2 then out (some false) else (some (.inl (w64 (a1 + 1))))) else (out (some true))
noncomputable def iU (a0:Event) (b9:Bool):Option Bool :=
 bif b9 then some false else (iter (kP a0) 0)
noncomputable def df (a0:Event):Option Bool :=
 bif decide (a0.Kind < 0) then iU a0 true else (bif decide (a0.Kind > 3) then iU a0 true else (iU a0 (decide ((a0.Calls.length:Int) > 16))))
noncomputable def oH (a0:List Event):Int→Option (Int ⊕ Int)
 | a1=>bif decide (a1 < (a0.length:Int)) then must (0≤a1∧a1 < (a0.length:Int)) ((df (idx a0 a1)).bind fun a2=>bif !a2 then out (some 1) else (some (.inl (w64 (a1 + 1))))) else (out (some 0))
noncomputable def gI (a0:List Event):Option Int :=
 bif decide ((a0.length:Int) > 256) then some 1 else (iter (oH a0) 0)
noncomputable def kQ (a0:Int):Option Int :=
 some (w64 (((w64 (a0 - 1)).tmod (4:Int)) + 1))
noncomputable def fG (a1:List ByteArray) (a2:List Int) (a0:List (List Int)) (a3:List Int) (a4:List Int):Option (Int×aA) :=
 some (0,(⟨a1,a2,a0,a3,a4⟩:aA))
noncomputable def fH (a2:Int) (a4:List ByteArray) (a6:List Int) (a1:List Int) (a3:List Int) (a0:Int) (a5:List (List Int)) (a7:Bool):Option (Int×aA) :=
 bif a7 then must (0≤a0∧a0 < (a3.length:Int)) (must (0≤a0∧a0 < (a1.length:Int)) (bif decide (idx (a1.set a0.toNat (w64 ((idx a1 a0) + 1))) a0 > 8) then some (51,(⟨a4,a6,a5,a1.set a0.toNat (w64 ((idx a1 a0) + 1)),a3.set a0.toNat a2⟩:aA)) else (fG a4 a6 a5 (a1.set a0.toNat (w64 ((idx a1 a0) + 1))) (a3.set a0.toNat a2)))) else (fG a4 a6 a5 a1 a3)
noncomputable def eG (a1:Call) (a2:Int) (a4:List ByteArray) (a6:List Int) (a7:List Int) (a3:List Int) (a0:Int) (a5:List (List Int)):Option (Int×aA) :=
 bif (a1.Kind == 4) then must (0≤a0∧a0 < (a3.length:Int)) (fH a2 a4 a6 a7 a3 a0 a5 (idx a3 a0 != a2)) else (fH a2 a4 a6 a7 a3 a0 a5 false)
noncomputable def iH (a1:Call) (a2:Int) (a5:List ByteArray) (a6:List Int) (a3:List (List Int)) (a8:List Int) (a7:List Int) (a0:Int):Int→Option (Int ⊕ (Int×aA))
 | a4=>must (0≤a0∧a0 < (a3.length:Int)) (bif decide (a4 < ((idx a3 a0).length:Int)) then must (0≤a4∧a4 < ((idx a3 a0).length:Int)) (bif (idx (idx a3 a0) a4 == a1.Arg) then out (some (3,(⟨a5,a6,a3,a8,a7⟩:aA))) else (some (.inl (w64 (a4 + 1))))) else (must (((((idx a3 a0).length) + 1) + (((idx a3 a0).length) + 1) / 4 + 192) * 8≤281474976710656∧((idx a3 a0).length) + 1≤9223372036854775807) (out (eG a1 a2 a5 a6 a8 a7 a0 (a3.set a0.toNat ((idx a3 a0)++([a1.Arg]:List Int)))))))
noncomputable def iI (a1:Call) (a2:Int) (a0:List ByteArray) (a3:List Int) (a5:List (List Int)) (a7:List Int) (a6:List Int) (a4:Int) (a8:Bool):Option (Int×aA) :=
 bif a8 then iter (iH a1 a2 a0 a3 a5 a7 a6 a4) 0 else (eG a1 a2 a0 a3 a7 a6 a4 a5)
noncomputable def dQ (a1:Call) (a2:Int) (a4:List ByteArray) (a0:List Int) (a5:List (List Int)) (a7:List Int) (a6:List Int) (a3:Int):Option (Int×aA) :=
 must (0≤a3∧a3 < (a0.length:Int)) ((kQ a1.Kind).bind fun a8=>bif (idx a0 a3 != a8) then some (50,(⟨a4,a0,a5,a7,a6⟩:aA)) else (bif (a1.Kind == 2) then iI a1 a2 a4 a0 a5 a7 a6 a3 true else (iI a1 a2 a4 a0 a5 a7 a6 a3 (a1.Kind == 3))))
noncomputable def iJ (a0:aA) (a1:Call) (a2:Int) (a3:List Int):Option (Int×aA) :=
 must (((a0.wrote.length + 1) + (a0.wrote.length + 1) / 4 + 192) * 24≤281474976710656∧a0.wrote.length + 1≤9223372036854775807) (must (((a0.incs.length + 1) + (a0.incs.length + 1) / 4 + 192) * 8≤281474976710656∧a0.incs.length + 1≤9223372036854775807) (must (((a0.last_.length + 1) + (a0.last_.length + 1) / 4 + 192) * 8≤281474976710656∧a0.last_.length + 1≤9223372036854775807) (dQ a1 a2 (a0.keys++([a1.Key]:List ByteArray)) a3 (a0.wrote++([([]:List Int)]:List (List Int))) (a0.incs++([0]:List Int)) (a0.last_++([(-1)]:List Int)) (a0.keys.length:Int))))
noncomputable def iK (a0:aA) (a1:Call) (a2:Int):Option (Int×aA) :=
 (kQ a1.Kind).bind fun a3=>must (((a0.types.length + 1) + (a0.types.length + 1) / 4 + 192) * 8≤281474976710656∧a0.types.length + 1≤9223372036854775807) (iJ a0 a1 a2 (a0.types++([a3]:List Int)))
noncomputable def ah (a0:aA) (a1:Call) (a2:Int):Option (Int×aA) :=
 (fe a0.keys a1.Key).bind fun y5=>bif decide (y5 < 0) then bif decide ((a0.keys.length:Int) ≥ 32) then some (2,a0) else (must (((a0.keys.length + 1) + (a0.keys.length + 1) / 4 + 192) * 16≤281474976710656∧a0.keys.length + 1≤9223372036854775807) (iK a0 a1 a2)) else (dQ a1 a2 a0.keys a0.types a0.wrote a0.incs a0.last_ y5)
noncomputable def oI (a0:History) (a2:Int) (a3:List Call) (a1:Int):Option ((List Call×Int) ⊕ ((List ByteArray×List Int×(List (List Int))×List Int×List Int×Int) ⊕ Int)) :=
 some (.inl (a3++([(⟨(idx ((idx a0.Txns a2).Ops) a1).Kind,idx a0.Keys ((idx ((idx a0.Txns a2).Ops) a1).Key),(idx ((idx a0.Txns a2).Ops) a1).Arg,(idx ((idx a0.Txns a2).Ops) a1).Got,(idx ((idx a0.Txns a2).Ops) a1).Vals⟩:Call)]:List Call),w64 (a1 + 1)))
noncomputable def kR (a0:History) (a3:Int) (a1:List Call) (a2:Int) (a4:Bool):Option ((List Call×Int) ⊕ ((List ByteArray×List Int×(List (List Int))×List Int×List Int×Int) ⊕ Int)) :=
 bif a4 then out (out (some 1)) else (must (0≤(idx ((idx a0.Txns a3).Ops) a2).Key∧(idx ((idx a0.Txns a3).Ops) a2).Key < (a0.Keys.length:Int)) (must (((a1.length + 1) + (a1.length + 1) / 4 + 192) * 64≤281474976710656∧a1.length + 1≤9223372036854775807) (oI a0 a3 a1 a2)))
noncomputable def fq (a7:Int) (a2:List Call):(List ByteArray×List Int×(List (List Int))×List Int×List Int×Int)→Option ((List ByteArray×List Int×(List (List Int))×List Int×List Int×Int) ⊕ ((List Call×Int) ⊕ ((List ByteArray×List Int×(List (List Int))×List Int×List Int×Int) ⊕ Int)))
 | (a5,a8,a4,a3,a6,a1)=>bif decide (a1 < (a2.length:Int)) then must (0≤a1∧a1 < (a2.length:Int)) ((ah (⟨a5,a8,a4,a3,a6⟩:aA) (idx a2 a1) a7).bind fun a0=>bif (a0.1 != 0) then out (out (out (some 1))) else (some (.inl (a0.2.keys,a0.2.types,a0.2.wrote,a0.2.incs,a0.2.last_,w64 (a1 + 1))))) else (out (out (some (.inl (a5,a8,a4,a3,a6,w64 (a7 + 1))))))
noncomputable def fu (a0:History) (a7:List ByteArray) (a6:List Int) (a4:List (List Int)) (a9:List Int) (a5:List Int) (a1:Int):(List Call×Int)→Option ((List Call×Int) ⊕ ((List ByteArray×List Int×(List (List Int))×List Int×List Int×Int) ⊕ Int))
 | (a3,a2)=>bif decide (a2 < (((idx a0.Txns a1).Ops).length:Int)) then must (0≤a2∧a2 < (((idx a0.Txns a1).Ops).length:Int)) (bif decide ((idx ((idx a0.Txns a1).Ops) a2).Key < 0) then kR a0 a1 a3 a2 true else (kR a0 a1 a3 a2 (decide ((idx ((idx a0.Txns a1).Ops) a2).Key ≥ (a0.Keys.length:Int))))) else ((gI ([(⟨0,(idx a0.Txns a1).Status,a3⟩:Event)]:List Event)).bind fun a8=>bif (a8 != 0) then out (out (some 1)) else (iter (fq a1 a3) (a7,a6,a4,a9,a5,0)))
noncomputable def iV (a0:History) (a4:List ByteArray) (a3:List Int) (a1:List (List Int)) (a7:List Int) (a2:List Int) (a6:Int) (a5:Bool):Option ((List ByteArray×List Int×(List (List Int))×List Int×List Int×Int) ⊕ Int) :=
 bif a5 then out (some 1) else (iter (fu a0 a4 a3 a1 a7 a2 a6) ([],0))
noncomputable def iW (a0:History):(List ByteArray×List Int×(List (List Int))×List Int×List Int×Int)→Option ((List ByteArray×List Int×(List (List Int))×List Int×List Int×Int) ⊕ Int)
 | (a5,a4,a2,a6,a3,a1)=>bif decide (a1 < (a0.Txns.length:Int)) then must (0≤a1∧a1 < (a0.Txns.length:Int)) ((aJ a0.Txns a1).bind fun a7=>bif !a7 then iV a0 a5 a4 a2 a6 a3 a1 true else (iV a0 a5 a4 a2 a6 a3 a1 (decide ((((idx a0.Txns a1).Ops).length:Int) > 16)))) else (out (some 0))
noncomputable def gz (a0:History) (a1:Bool):Option Int :=
 bif a1 then some 1 else (iter (iW a0) ([],[],[],[],[],0))
noncomputable def aj (a0:History):Option Int :=
 (dG a0.Keys).bind fun a1=>bif !a1 then gz a0 true else (gz a0 (decide ((a0.Txns.length:Int) > 32)))
noncomputable def jC (a0:Int):Option Bool :=
 some (decide (a0≤4))
noncomputable def iX (a0:Bool):Option Int :=
 bif !a0 then some 80 else (some 0)
noncomputable def oJ (a0:Int) (a1:Bool):Option ((Bool×Int) ⊕ Int) :=
 some (.inl (a1,w64 (a0 + 1)))
noncomputable def uD (a1:List Int):(Bool×Int)→Option ((Bool×Int) ⊕ Int)
 | (a2,a0)=>bif decide (a0 < (a1.length:Int)) then bif a2 then must (0≤w64 (a0 - 1)∧w64 (a0 - 1) < (a1.length:Int)) (must (0≤a0∧a0 < (a1.length:Int)) (oJ a0 (decide (idx a1 (w64 (a0 - 1)) < idx a1 a0)))) else (oJ a0 false) else (out (iX a2))
noncomputable def oK (a0:Int) (a1:List Int) (b5:Bool):Option Int :=
 bif b5 then some 1 else (bif (a0 == 1) then iX (decide ((a1.length:Int)≤1)) else (bif (a0 == 4) then iX ((a1.length:Int) == 1) else (bif (a0 == 3) then iter (uD a1) (decide ((a1.length:Int)≤64),1) else (iX (decide ((a1.length:Int)≤64))))))
noncomputable def bX (a0:Int) (a1:List Int):Option Int :=
 bif decide (a0 < 1) then oK a0 a1 true else (oK a0 a1 (decide (a0 > 4)))
noncomputable def wF (a0:List Int) (a1:Int):Int→Option (Int ⊕ Bool)
 | a2=>bif decide (a2 < (a0.length:Int)) then must (0≤a2∧a2 < (a0.length:Int)) (bif (idx a0 a2 == a1) then out (some true) else (some (.inl (w64 (a2 + 1))))) else (out (some false))
noncomputable def kS (a0:List Int) (a1:Int):Option Bool :=
 iter (wF a0 a1) 0
noncomputable def uj (a2:List Int):(Int×Int)→Option ((Int×Int) ⊕ (List Int×Bool))
 | (a1,a0)=>bif decide (a0 < (a2.length:Int)) then must (0≤a0∧a0 < (a2.length:Int)) (some (.inl (w64 (a1 - (idx a2 a0)),w64 (a0 + 1)))) else (out (some (([a1]:List Int),true)))
noncomputable def uk (a1:List Int) (a2:List Int):Int→Option (Int ⊕ (List Int×Bool))
 | a0=>bif decide (a0 < (a2.length:Int)) then must (0≤w64 ((w64 ((a1.length:Int) - (a2.length:Int))) + a0)∧w64 ((w64 ((a1.length:Int) - (a2.length:Int))) + a0) < (a1.length:Int)) (must (0≤a0∧a0 < (a2.length:Int)) (bif (idx a1 (w64 ((w64 ((a1.length:Int) - (a2.length:Int))) + a0)) != idx a2 a0) then out (some (([]:List Int),false)) else (some (.inl (w64 (a0 + 1)))))) else (must (0≤(0:Int)∧(0:Int)≤(w64 ((a1.length:Int) - (a2.length:Int)))∧(w64 ((a1.length:Int) - (a2.length:Int)))≤(a1.length:Int)) (must (((0 + ((gP a1 (0:Int) (w64 ((a1.length:Int) - (a2.length:Int)))).length)) + (0 + ((gP a1 (0:Int) (w64 ((a1.length:Int) - (a2.length:Int)))).length)) / 4 + 192) * 8≤281474976710656∧0 + ((gP a1 (0:Int) (w64 ((a1.length:Int) - (a2.length:Int)))).length)≤9223372036854775807) (out (some (([]:List Int)++(gP a1 (0:Int) (w64 ((a1.length:Int) - (a2.length:Int)))),true)))))
noncomputable def nE (a1:Int) (a0:Bool):Option (Int ⊕ (List Int×Bool)) :=
 bif a0 then out (some (([]:List Int),false)) else (some (.inl (w64 (a1 + 1))))
noncomputable def nG (a0:Int) (a1:List Int):Option ((List Int×Int) ⊕ (Int ⊕ (List Int×Bool))) :=
 some (.inl (a1,w64 (a0 + 1)))
noncomputable def ul (a1:List Int) (a2:List Int):(List Int×Int)→Option ((List Int×Int) ⊕ (Int ⊕ (List Int×Bool)))
 | (a3,a0)=>bif decide (a0 < (a1.length:Int)) then must (0≤a0∧a0 < (a1.length:Int)) ((kS a2 (idx a1 a0)).bind fun a4=>bif !a4 then must (((a3.length + 1) + (a3.length + 1) / 4 + 192) * 8≤281474976710656∧a3.length + 1≤9223372036854775807) (nG a0 (a3++([idx a1 a0]:List Int))) else (nG a0 a3)) else (out (out (some (a3,true))))
noncomputable def um (a1:List Int) (a2:List Int):Int→Option (Int ⊕ (List Int×Bool))
 | a0=>bif decide (a0 < (a2.length:Int)) then must (0≤a0∧a0 < (a2.length:Int)) ((kS a1 (idx a2 a0)).bind fun a4=>bif !a4 then nE a0 true else (must (0≤(0:Int)∧(0:Int)≤a0∧a0≤(a2.length:Int)) ((kS (gP a2 (0:Int) a0) (idx a2 a0)).bind fun a3=>nE a0 a3))) else (iter (ul a1 a2) ([],0))
noncomputable def nH (a0:Int) (a1:List Int) (a2:List Int) (b9:Bool):Option (List Int×Bool) :=
 bif b9 then some (([]:List Int),false) else (bif (a0 == 1) then bif ((a1.length:Int) == 1) then must (0≤(0:Int)∧(0:Int) < (a1.length:Int)) (must (0≤w64 ((a2.length:Int) - 1)∧w64 ((a2.length:Int) - 1) < (a2.length:Int)) (some (([]:List Int),(idx a1 (0:Int) == idx a2 (w64 ((a2.length:Int) - 1)))))) else (some (([]:List Int),false)) else (bif (a0 == 4) then must (0≤(0:Int)∧(0:Int) < (a1.length:Int)) (iter (uj a2) (idx a1 (0:Int),0)) else (bif (a0 == 2) then bif decide ((a2.length:Int) > (a1.length:Int)) then some (([]:List Int),false) else (iter (uk a1 a2) 0) else (iter (um a1 a2) 0))))
noncomputable def bq (a0:Int) (a1:List Int) (a2:List Int):Option (List Int×Bool) :=
 (bX a0 a1).bind fun a3=>bif (a3 != 0) then nH a0 a1 a2 true else (nH a0 a1 a2 ((a2.length:Int) == 0))
noncomputable def kE (a0:Int) (a1:List Ask) (a2:List fJ):Option ((List Ask×List fJ×Int) ⊕ (List Ask×List fJ)) :=
 some (.inl (a1,a2,w64 (a0 + 1)))
noncomputable def qP (a0:Int) (a1:List Int):Option ((List Int×Int) ⊕ ((List Ask×List fJ×Int) ⊕ (List Ask×List fJ))) :=
 some (.inl (a1,w64 (a0 + 1)))
noncomputable def qQ (a0:History) (a1:Int) (a3:List Int) (a2:Int) (a4:Bool):Option ((List Int×Int) ⊕ ((List Ask×List fJ×Int) ⊕ (List Ask×List fJ))) :=
 bif a4 then must (0≤a2∧a2 < (((idx a0.Txns a1).Ops).length:Int)) (must (((a3.length + 1) + (a3.length + 1) / 4 + 192) * 8≤281474976710656∧a3.length + 1≤9223372036854775807) (qP a2 (a3++([(idx ((idx a0.Txns a1).Ops) a2).Arg]:List Int)))) else (qP a2 a3)
noncomputable def qR (a0:History) (a1:Int) (a2:List Ask) (a4:List fJ) (a3:Int) (a5:List Int):Option ((List Int×Int) ⊕ ((List Ask×List fJ×Int) ⊕ (List Ask×List fJ))) :=
 must (((a2.length + 1) + (a2.length + 1) / 4 + 192) * 48≤281474976710656∧a2.length + 1≤9223372036854775807) (out (kE a3 (a2++([(⟨a1,a3,(idx ((idx a0.Txns a1).Ops) a3).Key,a5⟩:Ask)]:List Ask)) a4))
noncomputable def wG (a0:History) (a1:Int) (a6:List Ask) (a4:List fJ) (a2:Int):(List Int×Int)→Option ((List Int×Int) ⊕ ((List Ask×List fJ×Int) ⊕ (List Ask×List fJ)))
 | (a5,a3)=>bif decide (a3 < a2) then must (0≤a3∧a3 < (((idx a0.Txns a1).Ops).length:Int)) (bif ((idx ((idx a0.Txns a1).Ops) a3).Key == (idx ((idx a0.Txns a1).Ops) a2).Key) then (jC ((idx ((idx a0.Txns a1).Ops) a3).Kind)).bind fun a8=>qQ a0 a1 a5 a3 a8 else (qQ a0 a1 a5 a3 false)) else (must (((0 + (((idx ((idx a0.Txns a1).Ops) a2).Vals).length)) + (0 + (((idx ((idx a0.Txns a1).Ops) a2).Vals).length)) / 4 + 192) * 8≤281474976710656∧0 + (((idx ((idx a0.Txns a1).Ops) a2).Vals).length)≤9223372036854775807) (bif decide ((a5.length:Int) > 0) then (kQ ((idx ((idx a0.Txns a1).Ops) a2).Kind)).bind fun a9=>(bq a9 ((idx ((idx a0.Txns a1).Ops) a2).Vals) a5).bind fun a7=>bif !a7.2 then must (((a4.length + 1) + (a4.length + 1) / 4 + 192) * 16≤281474976710656∧a4.length + 1≤9223372036854775807) (out (kE a2 a6 (a4++([(⟨a1,a2⟩:fJ)]:List fJ)))) else (bif ((idx ((idx a0.Txns a1).Ops) a2).Kind == 5) then out (kE a2 a6 a4) else (qR a0 a1 a6 a4 a2 a7.1)) else (qR a0 a1 a6 a4 a2 (([]:List Int)++((idx ((idx a0.Txns a1).Ops) a2).Vals)))))
noncomputable def wH (a0:History) (a1:Int):(List Ask×List fJ×Int)→Option ((List Ask×List fJ×Int) ⊕ (List Ask×List fJ))
 | (a4,a3,a2)=>bif decide (a2 < (((idx a0.Txns a1).Ops).length:Int)) then must (0≤a2∧a2 < (((idx a0.Txns a1).Ops).length:Int)) ((jC ((idx ((idx a0.Txns a1).Ops) a2).Kind)).bind fun a5=>bif a5 then kE a2 a4 a3 else (iter (wG a0 a1 a4 a3 a2) ([],0))) else (out (some (a4,a3)))
noncomputable def bO (a0:History) (a1:Int):Option (List Ask×List fJ) :=
 must (0≤a1∧a1 < (a0.Txns.length:Int)) (bif ((idx a0.Txns a1).Status != 1) then some (([]:List Ask),([]:List fJ)) else (iter (wH a0 a1) ([],[],0)))
noncomputable def vR (a0:History):(List Ask×List fJ×Int)→Option ((List Ask×List fJ×Int) ⊕ (List Ask×List fJ))
 | (a3,a2,a4)=>bif decide (a4 < (a0.Txns.length:Int)) then (bO a0 a4).bind fun a1=>must (((a3.length + a1.1.length) + (a3.length + a1.1.length) / 4 + 192) * 48≤281474976710656∧a3.length + a1.1.length≤9223372036854775807) (must (((a2.length + a1.2.length) + (a2.length + a1.2.length) / 4 + 192) * 16≤281474976710656∧a2.length + a1.2.length≤9223372036854775807) (some (.inl (a3++a1.1,a2++a1.2,w64 (a4 + 1))))) else (out (some (a3,a2)))
noncomputable def pg (a0:History):Option (List Ask×List fJ) :=
 iter (vR a0) ([],[],0)
noncomputable def nQ (a0:History) (a1:Ask):Option Int :=
 must (0≤a1.Txn∧a1.Txn < (a0.Txns.length:Int)) (must (0≤a1.Place∧a1.Place < (((idx a0.Txns a1.Txn).Ops).length:Int)) ((kQ ((idx ((idx a0.Txns a1.Txn).Ops) a1.Place).Kind)).bind fun a2=>some a2))
noncomputable def kT (a0:Int) (a1:List Int):Option ((List Int×Int) ⊕ (List Int)) :=
 some (.inl (a1,w64 (a0 + 1)))
noncomputable def kU (a0:History) (a1:Int) (a2:List Int) (a3:Int) (a4:Bool):Option ((List Int×Int) ⊕ (List Int)) :=
 bif a4 then must (((a2.length + 1) + (a2.length + 1) / 4 + 192) * 8≤281474976710656∧a2.length + 1≤9223372036854775807) (kT a3 (a2++([(idx ((idx a0.Txns a1).Ops) a3).Arg]:List Int))) else (kT a3 a2)
noncomputable def oL (a0:History) (a1:Int) (a2:Int):(List Int×Int)→Option ((List Int×Int) ⊕ (List Int))
 | (a4,a3)=>must (0≤a1∧a1 < (a0.Txns.length:Int)) (bif decide (a3 < (((idx a0.Txns a1).Ops).length:Int)) then must (0≤a3∧a3 < (((idx a0.Txns a1).Ops).length:Int)) (bif ((idx ((idx a0.Txns a1).Ops) a3).Key == a2) then (jC ((idx ((idx a0.Txns a1).Ops) a3).Kind)).bind fun a5=>kU a0 a1 a4 a3 a5 else (kU a0 a1 a4 a3 false)) else (out (some a4)))
noncomputable def aL (a0:History) (a1:Int) (a2:Int):Option (List Int) :=
 iter (oL a0 a1 a2) ([],0)
noncomputable def jX (a1:Int) (a0:List Int):Option ((List Int×Int) ⊕ (List Int)) :=
 some (.inl (a0,w64 (a1 + 1)))
noncomputable def iE (a0:List Int) (a1:Int) (a2:Bool):Option ((List Int×Int) ⊕ (List Int)) :=
 bif a2 then must (((a0.length + 1) + (a0.length + 1) / 4 + 192) * 8≤281474976710656∧a0.length + 1≤9223372036854775807) (jX a1 (a0++([a1]:List Int))) else (jX a1 a0)
noncomputable def nI (a0:History) (a1:Ask):(List Int×Int)→Option ((List Int×Int) ⊕ (List Int))
 | (a3,a2)=>bif decide (a2 < (a0.Txns.length:Int)) then bif (a2 != a1.Txn) then must (0≤a2∧a2 < (a0.Txns.length:Int)) (bif ((idx a0.Txns a2).Status != 2) then (aL a0 a2 a1.Key).bind fun a4=>iE a3 a2 (decide ((a4.length:Int) > 0)) else (iE a3 a2 false)) else (iE a3 a2 false) else (out (some a3))
noncomputable def aN (a0:History) (a1:Ask):Option (List Int) :=
 iter (nI a0 a1) ([],0)
noncomputable def qc (y7:List Int):(Int×Int)→Option ((Int×Int) ⊕ Int)
 | (a1,a0)=>bif decide (a0 < (y7.length:Int)) then must (0≤a0∧a0 < (y7.length:Int)) (some (.inl (w64 (a1 + (idx y7 a0)),w64 (a0 + 1)))) else (out (some a1))
noncomputable def iM (a0:History) (a1:Int) (a2:Int):Option Int :=
 (aL a0 a1 a2).bind fun y7=>iter (qc y7) (0,0)
noncomputable def jY (a0:Int) (a1:Int):Option ((Int×Int) ⊕ ((List Bool×Int) ⊕ (List Int))) :=
 some (.inl (a1,w64 (a0 + 1)))
noncomputable def jZ (a1:Int) (a0:List Bool):Option ((List Bool×Int) ⊕ ((Int×Int) ⊕ ((List Bool×Int) ⊕ (List Int)))) :=
 some (.inl (a0,w64 (a1 + 1)))
noncomputable def kg (a2:Int) (a1:List Bool) (a0:Int) (a3:Bool):Option ((List Bool×Int) ⊕ ((Int×Int) ⊕ ((List Bool×Int) ⊕ (List Int)))) :=
 bif a3 then must (0≤a0∧a0 < (a1.length:Int)) (bif idx a1 a0 then jZ a0 (a1.set a0.toNat true) else (must (0≤a0∧a0 < (far:Int)) (jZ a0 (a1.set a0.toNat (yf .i64 (tO .i64 a2 a0) 1 == 1))))) else (out (out (some (.inl (a1,w64 (a2 + 1))))))
noncomputable def nJ (a1:Ask) (y9:List Int) (a3:Int) (a4:Int):(List Bool×Int)→Option ((List Bool×Int) ⊕ ((Int×Int) ⊕ ((List Bool×Int) ⊕ (List Int))))
 | (a2,a0)=>bif decide (a0 < (y9.length:Int)) then must (0≤(0:Int)∧(0:Int) < (a1.Base.length:Int)) (kg a3 a2 a0 (a4 == idx a1.Base (0:Int))) else (kg a3 a2 a0 false)
noncomputable def nK (a0:History) (a1:Ask) (y9:List Int) (a5:List Bool) (a4:Int):(Int×Int)→Option ((Int×Int) ⊕ ((List Bool×Int) ⊕ (List Int)))
 | (a3,a2)=>bif decide (a2 < (y9.length:Int)) then must (0≤a2∧a2 < (far:Int)) (bif (yf .i64 (tO .i64 a4 a2) 1 == 1) then must (0≤a2∧a2 < (y9.length:Int)) ((iM a0 (idx y9 a2) a1.Key).bind fun a6=>jY a2 (w64 (a3 + a6))) else (jY a2 a3)) else (iter (nJ a1 y9 a4 a3) (a5,0))
noncomputable def ko (a0:Int) (a1:List Int):Option ((List Int×Int) ⊕ ((List Bool×Int) ⊕ (List Int))) :=
 some (.inl (a1,w64 (a0 + 1)))
noncomputable def nL (y9:List Int) (a2:List Bool):(List Int×Int)→Option ((List Int×Int) ⊕ ((List Bool×Int) ⊕ (List Int)))
 | (a1,a0)=>bif decide (a0 < (y9.length:Int)) then must (0≤a0∧a0 < (a2.length:Int)) (bif idx a2 a0 then must (0≤a0∧a0 < (y9.length:Int)) (must (((a1.length + 1) + (a1.length + 1) / 4 + 192) * 8≤281474976710656∧a1.length + 1≤9223372036854775807) (ko a0 (a1++([idx y9 a0]:List Int)))) else (ko a0 a1)) else (out (out (some a1)))
noncomputable def nM (a0:History) (a1:Ask) (y9:List Int):(List Bool×Int)→Option ((List Bool×Int) ⊕ (List Int))
 | (a2,a3)=>must (0≤(y9.length:Int)∧(y9.length:Int) < (far:Int)) (bif decide (a3 < yR .i64 1 (y9.length:Int)) then iter (nK a0 a1 y9 a2 a3) (0,0) else (iter (nL y9 a2) ([],0)))
noncomputable def aF (a0:History) (a1:Ask):Option (List Int) :=
 (aN a0 a1).bind fun y9=>must (0≤(y9.length:Int)∧(y9.length:Int)≤9223372036854775807∧(1:Int) * (y9.length:Int)≤281474976710656) (iter (nM a0 a1 y9) (List.replicate (y9.length:Int).toNat (default:Bool),1))
noncomputable def ma (a0:List Int) (a1:List Int):Option Bool :=
 bif decide ((a1.length:Int) > (a0.length:Int)) then some false else (must (0≤(0:Int)∧(0:Int)≤(a1.length:Int)∧(a1.length:Int)≤(a0.length:Int)) ((bG (gP a0 (0:Int) (a1.length:Int)) a1).bind fun a2=>some a2))
noncomputable def lJ (a1:Int) (a0:Int):Option ((Int×Int) ⊕ ((List Int×List Int) ⊕ (List Int×Bool))) :=
 some (.inl (a0,w64 (a1 + 1)))
noncomputable def pE (a0:History) (a1:Ask) (a2:List Int) (a3:List Int) (a5:Int):Int→Option (Int ⊕ ((Int×Int) ⊕ ((List Int×List Int) ⊕ (List Int×Bool))))
 | a4=>bif decide (a4 < (a2.length:Int)) then must (0≤a4∧a4 < (a2.length:Int)) (bif (idx a2 a4 == a5) then out (out (out (some (([]:List Int),false)))) else (some (.inl (w64 (a4 + 1))))) else (must (((a2.length + 1) + (a2.length + 1) / 4 + 192) * 8≤281474976710656∧a2.length + 1≤9223372036854775807) ((aL a0 a5 a1.Key).bind fun a6=>must (0≤(a6.length:Int)∧(a6.length:Int)≤(a3.length:Int)∧(a3.length:Int)≤(a3.length:Int)) (out (out (some (.inl (a2++([a5]:List Int),gP a3 (a6.length:Int) (a3.length:Int))))))))
noncomputable def pF (a0:History) (a1:Ask) (y9:List Int) (a7:List Int) (a4:List Int):(Int×Int)→Option ((Int×Int) ⊕ ((List Int×List Int) ⊕ (List Int×Bool)))
 | (a3,a2)=>bif decide (a2 < (y9.length:Int)) then must (0≤a2∧a2 < (y9.length:Int)) ((aL a0 (idx y9 a2) a1.Key).bind fun a6=>(ma a4 a6).bind fun a5=>bif a5 then lJ a2 (idx y9 a2) else (lJ a2 a3)) else (bif decide (a3 < 0) then out (out (some (([]:List Int),false))) else (iter (pE a0 a1 a7 a4 a3) 0))
noncomputable def ji (a0:History) (a1:Ask) (y9:List Int):(List Int×List Int)→Option ((List Int×List Int) ⊕ (List Int×Bool))
 | (a2,a3)=>bif decide ((a3.length:Int) > 0) then iter (pF a0 a1 y9 a2 a3) ((-1),0) else (out (some (a2,true)))
noncomputable def bH (a0:History) (a1:Ask):Option (List Int×Bool) :=
 (aN a0 a1).bind fun y9=>iter (ji a0 a1 y9) ([],a1.Base)
noncomputable def oM (a0:List Int) (a1:Int):Int→Option (Int ⊕ Bool)
 | a2=>bif decide (a2 < (a0.length:Int)) then must (0≤a2∧a2 < (a0.length:Int)) (bif (idx a0 a2 == a1) then out (some true) else (some (.inl (w64 (a2 + 1))))) else (out (some false))
noncomputable def gJ (a0:List Int) (a1:Int):Option Bool :=
 iter (oM a0 a1) 0
noncomputable def mf (a2:Int) (a1:List Int) (a0:Int):Option ((List Int×Int×Int) ⊕ (List Int×Bool)) :=
 some (.inl (a1,a0,w64 (a2 + 1)))
noncomputable def mg (a0:Int) (a1:Int):Option ((Int×Int) ⊕ ((List Int×Int×Int) ⊕ (List Int×Bool))) :=
 some (.inl (a1,w64 (a0 + 1)))
noncomputable def mh (y9:List Int) (a0:List Int) (a2:Int) (a1:Int) (a3:Int) (a4:Bool):Option ((Int×Int) ⊕ ((List Int×Int×Int) ⊕ (List Int×Bool))) :=
 bif a4 then out (out (some (([]:List Int),false))) else (bif decide (a3 > 0) then must (((a0.length + 1) + (a0.length + 1) / 4 + 192) * 8≤281474976710656∧a0.length + 1≤9223372036854775807) (out (mf a1 (a0++([idx y9 a1]:List Int)) (w64 (a2 + a3)))) else (out (mf a1 a0 a2)))
noncomputable def qd (a1:Ask) (y9:List Int) (a6:List Int) (a5:Int) (a4:Int) (a3:List Int):(Int×Int)→Option ((Int×Int) ⊕ ((List Int×Int×Int) ⊕ (List Int×Bool)))
 | (a2,a0)=>bif decide (a0 < (a3.length:Int)) then must (0≤a0∧a0 < (a3.length:Int)) ((gJ a1.Base (idx a3 a0)).bind fun a7=>bif a7 then mg a0 (w64 (a2 + 1)) else (mg a0 a2)) else (bif decide (a2 > 0) then mh y9 a6 a5 a4 a2 (decide (a2 < (a3.length:Int))) else (mh y9 a6 a5 a4 a2 false))
noncomputable def qf (a0:History) (a1:Ask) (y9:List Int):(List Int×Int×Int)→Option ((List Int×Int×Int) ⊕ (List Int×Bool))
 | (a4,a3,a2)=>bif decide (a2 < (y9.length:Int)) then must (0≤a2∧a2 < (y9.length:Int)) ((aL a0 (idx y9 a2) a1.Key).bind fun a5=>iter (qd a1 y9 a4 a3 a2 a5) (0,0)) else (bif (a3 != (a1.Base.length:Int)) then out (some (([]:List Int),false)) else (out (some (a4,true))))
noncomputable def bu (a0:History) (a1:Ask):Option (List Int×Bool) :=
 (aN a0 a1).bind fun y9=>iter (qf a0 a1 y9) ([],0,0)
noncomputable def mW (a0:List Int):Option (List Int) :=
 some a0
noncomputable def gK (a0:List Int):Option (List Int) :=
 some a0
noncomputable def mX (a0:Int) (a1:List Int):Option ((List Int×Int) ⊕ (List Int)) :=
 some (.inl (a1,w64 (a0 + 1)))
noncomputable def mY (a0:History) (a1:Ask) (a5:List Int):(List Int×Int)→Option ((List Int×Int) ⊕ (List Int))
 | (a3,a2)=>bif decide (a2 < (a5.length:Int)) then must (0≤a2∧a2 < (a5.length:Int)) ((aL a0 (idx a5 a2) a1.Key).bind fun a4=>must (0≤w64 ((a4.length:Int) - 1)∧w64 ((a4.length:Int) - 1) < (a4.length:Int)) (must (0≤(0:Int)∧(0:Int) < (a1.Base.length:Int)) (bif (idx a4 (w64 ((a4.length:Int) - 1)) == idx a1.Base (0:Int)) then must (((a3.length + 1) + (a3.length + 1) / 4 + 192) * 8≤281474976710656∧a3.length + 1≤9223372036854775807) (mX a2 (a3++([idx a5 a2]:List Int))) else (mX a2 a3)))) else (out (gK a3))
noncomputable def bA (a0:History) (a1:Ask):Option (List Int) :=
 (nQ a0 a1).bind fun y7=>bif (y7 == 4) then (aF a0 a1).bind fun a3=>must (0≤(0:Int)∧(0:Int) < (a1.Base.length:Int)) (bif (idx a1.Base (0:Int) == 0) then must (((1 + a3.length) + (1 + a3.length) / 4 + 192) * 8≤281474976710656∧1 + a3.length≤9223372036854775807) (mW (([(-1)]:List Int)++a3)) else (mW a3)) else (bif ((a1.Base.length:Int) == 0) then some ([(-1)]:List Int) else (bif (y7 == 1) then (aN a0 a1).bind fun a5=>iter (mY a0 a1 a5) ([],0) else (bif (y7 == 2) then (bH a0 a1).bind fun a2=>bif a2.2 then must (0≤w64 ((a2.1.length:Int) - 1)∧w64 ((a2.1.length:Int) - 1) < (a2.1.length:Int)) (must (((0 + 1) + (0 + 1) / 4 + 192) * 8≤281474976710656∧0 + 1≤9223372036854775807) (gK (([]:List Int)++([idx a2.1 (w64 ((a2.1.length:Int) - 1))]:List Int)))) else (gK []) else ((bu a0 a1).bind fun a4=>bif a4.2 then gK a4.1 else (gK [])))))
noncomputable def oN (a0:Int) (a1:List Ask):Option ((List Ask×Int) ⊕ (List Ask×Int)) :=
 some (.inl (a1,w64 (a0 + 1)))
noncomputable def uE (a0:History) (a3:List Ask×List fJ):(List Ask×Int)→Option ((List Ask×Int) ⊕ (List Ask×Int))
 | (a2,a1)=>bif decide (a1 < (a3.1.length:Int)) then must (0≤a1∧a1 < (a3.1.length:Int)) ((bA a0 (idx a3.1 a1)).bind fun a4=>bif ((a4.length:Int) == 0) then must (((a2.length + 1) + (a2.length + 1) / 4 + 192) * 48≤281474976710656∧a2.length + 1≤9223372036854775807) (oN a1 (a2++([(idx a3.1 a1)]:List Ask))) else (oN a1 a2)) else (out (some (a2,0)))
noncomputable def iY (a0:History):Option (List Ask×Int) :=
 (aj a0).bind fun y8=>bif (y8 != 0) then some (([]:List Ask),1) else ((pg a0).bind fun a1=>iter (uE a0 a1) ([],0))
end Go.Proofs.YtnlkggppokcmfaaT
