import Derived.Test.YtnlkggppokcmfaaGreatY
namespace Go.Proofs.YtnlkggppokcmfaaGreatT
open Go Go.Proofs Go.Proofs.YtnlkggppokcmfaaGreatE
set_option linter.unusedVariables false
set_option linter.unusedSimpArgs false
set_option maxHeartbeats 0
set_option maxRecDepth 4096
structure cu where
 key:ByteArray
 arg:Int
 deriving Inhabited,DecidableEq
def cu.enc (x:cu):List Value:=[.string x.key,.int .i64 x.arg]
abbrev Dy:Ty cu:=Ty.flat 2 cu.enc (fun _=>rfl) (fun _=>GQ rfl)
instance : Flat Dy cu.enc:=⟨Iff.rfl,Iff.rfl⟩
structure bf where
 keys:List ByteArray
 at_:List (ByteArray×Int)
 types:List Int
 facts:List (cu×Unit)
 incs:List (ByteArray×(List Int))
 deriving Inhabited
structure Call where
 Kind:Int
 Key:ByteArray
 Arg:Int
 Got:Bool
 Vals:List Int
 deriving Inhabited
abbrev wH:Ty Call:=Ty.iso (bR (aG .i64) (bR fI (bR (aG .i64) (bR oK (bG 2 (aG .i64)))))) (fun g:Call=>(g.Kind,g.Key,g.Arg,g.Got,g.Vals))
abbrev nE (N:BM):Ty Call:=Ty.iso (bR (aG .i64) (bR fI (bR (aG .i64) (bR oK (Hg N (aG .i64)))))) (fun g:Call=>(g.Kind,g.Key,g.Arg,g.Got,g.Vals))
theorem AO (N:BM):uA N (nE N) wH:=FJ (ul uk (ul uk (ul uk (ul uk Eb))))
structure Event where
 Proc:Int
 Kind:Int
 Calls:List Call
 deriving Inhabited
abbrev zD:Ty Event:=Ty.iso (bR (aG .i64) (bR (aG .i64) (bG 109 wH))) (fun g:Event=>(g.Proc,g.Kind,g.Calls))
structure Op where
 Kind:Int
 Key:Int
 Arg:Int
 Got:Bool
 Vals:List Int
 deriving Inhabited
abbrev kOp:Ty Op:=Ty.iso (bR (aG .i64) (bR (aG .i64) (bR (aG .i64) (bR oK (bG 2 (aG .i64)))))) (fun g:Op=>(g.Kind,g.Key,g.Arg,g.Got,g.Vals))
structure Txn where
 Proc:Int
 Status:Int
 From:Int
 To:Int
 Ops:List Op
 deriving Inhabited
abbrev jN:Ty Txn:=Ty.iso (bR (aG .i64) (bR (aG .i64) (bR (aG .i64) (bR (aG .i64) (bG 50 kOp))))) (fun g:Txn=>(g.Proc,g.Status,g.From,g.To,g.Ops))
structure History where
 Keys:List ByteArray
 Txns:List Txn
 deriving Inhabited
structure Ask where
 Txn:Int
 Place:Int
 Key:Int
 Base:List Int
 deriving Inhabited
abbrev oV:Ty Ask:=Ty.iso (bR (aG .i64) (bR (aG .i64) (bR (aG .i64) (bG 2 (aG .i64))))) (fun g:Ask=>(g.Txn,g.Place,g.Key,g.Base))
structure fE where
 Txn:Int
 Place:Int
 deriving Inhabited,DecidableEq
def fE.enc (x:fE):List Value:=[.int .i64 x.Txn,.int .i64 x.Place]
abbrev xe:Ty fE:=Ty.flat 2 fE.enc (fun _=>rfl) (fun _=>GQ rfl)
instance : Flat xe fE.enc:=⟨Iff.rfl,Iff.rfl⟩
structure dH where
 asks:List Ask
 bad:List fE
 deriving Inhabited
structure aJ where
 txn:Int
 args:List Int
 deriving Inhabited
abbrev fu:Ty aJ:=Ty.iso (bR (aG .i64) (bG 2 (aG .i64))) (fun g:aJ=>(g.txn,g.args))
structure aF where
 keys:List ByteArray
 types:List Int
 wrote:List (List Int)
 incs:List Int
 last_:List Int
 deriving Inhabited
abbrev Rw2 (A:Option Addr) (c:Nat) (l:List Int):bS := .row (aG .i64) 2 A l.length c l
abbrev Rn2 (A:Option Addr) (n c:Nat) (l:List Int):bS := .row (aG .i64) 2 A n c l
abbrev Rw3 (A:Option Addr) (c:Nat) (l:List Int):bS := .row (aG .i64) 3 A l.length c l
abbrev Rw4 (A:Option Addr) (c:Nat) (l:List Bool):bS := .row oK 4 A l.length c l
abbrev Rw9 (A:Option Addr) (c:Nat) (l:List ByteArray):bS := .row fI 9 A l.length c l
abbrev Rn9 (A:Option Addr) (n c:Nat) (l:List ByteArray):bS := .row fI 9 A n c l
abbrev Cr (A:Option Addr) (c:Nat) (l:List (List Int)):bS := .row (bG 2 (aG .i64)) 26 A l.length c l
abbrev tq (A:Option Addr) (c:Nat) (l:List Ask):bS := .row oV 28 A l.length c l
abbrev Hr (A:Option Addr) (n c:Nat) (l:List Op):bS := .row kOp 50 A n c l
abbrev Kl (A:Option Addr) (n c:Nat) (l:List Txn):bS := .row jN 53 A n c l
abbrev FQ (A:Option Addr) (c:Nat) (l:List aJ):bS := .row fu 88 A l.length c l
abbrev nQ (A:Option Addr) (c:Nat) (l:List fE):bS := .row xe 149 A l.length c l
abbrev Or3 (A:Option Addr) (c:Nat) (l:List Int):bS:=orA noM (aG .i64) 3 A l.length c l
abbrev zF (b:Nat) (m:List (Int×Unit)):bS:=Ch (fun x:Int => .int .i64 x) (fun _:Unit => .agg #[]) b m
abbrev AP (b:Nat) (m:List (Int×(List Int))):bS:=rq (fun x:Int => .int .i64 x) (bG 2 (aG .i64)) b m
abbrev xg (b:Nat) (m:List (ByteArray×Int)):bS:=Ch (fun x:ByteArray => .string x) (fun x:Int => .int .i64 x) b m
abbrev xh (b:Nat) (m:List (cu×Unit)):bS:=Ch (fun x:cu => .agg #[.string x.key,.int .i64 x.arg]) (fun _:Unit => .agg #[]) b m
abbrev AQ (b:Nat) (m:List (ByteArray×(List Int))):bS:=rq (fun x:ByteArray => .string x) (bG 3 (aG .i64)) b m
abbrev mO (x:History) (A0:Option Addr) (c0:Nat) (A1:Option Addr) (c1:Nat):List Value:=[vS A0 x.Keys.length c0,vS A1 x.Txns.length c1]
abbrev nG (x:History) (A0:Option Addr) (c0:Nat) (A1:Option Addr) (c1:Nat):Value := .agg (mO x A0 c0 A1 c1).toArray
abbrev dY (b:Nat) (x:History) (A0:Option Addr) (c0:Nat) (A1:Option Addr) (c1:Nat):bS := .blk b 25 (mO x A0 c0 A1 c1)
abbrev qU (x:Ask) (A3:Option Addr) (c3:Nat):List Value:=[vI x.Txn,vI x.Place,vI x.Key,vS A3 x.Base.length c3]
abbrev qC (x:Ask) (A3:Option Addr) (c3:Nat):Value := .agg (qU x A3 c3).toArray
abbrev jO (b:Nat) (x:Ask) (A3:Option Addr) (c3:Nat):bS := .blk b 28 (qU x A3 c3)
abbrev BA (x:Op) (A4:Option Addr) (c4:Nat):List Value:=[vI x.Kind,vI x.Key,vI x.Arg,vB x.Got,vS A4 x.Vals.length c4]
abbrev oW (b:Nat) (x:Op) (A4:Option Addr) (c4:Nat):bS := .blk b 50 (BA x A4 c4)
abbrev yg (x:Txn) (A4:Option Addr) (c4:Nat):List Value:=[vI x.Proc,vI x.Status,vI x.From,vI x.To,vS A4 x.Ops.length c4]
abbrev Fb (x:Txn) (A4:Option Addr) (c4:Nat):Value := .agg (yg x A4 c4).toArray
abbrev ql (b:Nat) (x:Txn) (A4:Option Addr) (c4:Nat):bS := .blk b 53 (yg x A4 c4)
abbrev JW (x:dH) (A0:Option Addr) (c0:Nat) (A1:Option Addr) (c1:Nat):List Value:=[vS A0 x.asks.length c0,vS A1 x.bad.length c1]
abbrev Km (x:dH) (A0:Option Addr) (c0:Nat) (A1:Option Addr) (c1:Nat):Value := .agg (JW x A0 c0 A1 c1).toArray
abbrev Dz (x:aJ) (A1:Option Addr) (c1:Nat):List Value:=[vI x.txn,vS A1 x.args.length c1]
abbrev JI (x:aJ) (A1:Option Addr) (c1:Nat):Value := .agg (Dz x A1 c1).toArray
abbrev Fe (b:Nat) (x:aJ) (A1:Option Addr) (c1:Nat):bS := .blk b 88 (Dz x A1 c1)
abbrev JX (x:aF) (A0:Option Addr) (c0:Nat) (A1:Option Addr) (c1:Nat) (A2:Option Addr) (c2:Nat) (A3:Option Addr) (c3:Nat) (A4:Option Addr) (c4:Nat):List Value:=[vS A0 x.keys.length c0,vS A1 x.types.length c1,vS A2 x.wrote.length c2,vS A3 x.incs.length c3,vS A4 x.last_.length c4]
abbrev JC (b:Nat) (x:aF) (A0:Option Addr) (c0:Nat) (A1:Option Addr) (c1:Nat) (A2:Option Addr) (c2:Nat) (A3:Option Addr) (c3:Nat) (A4:Option Addr) (c4:Nat):bS := .blk b 103 (JX x A0 c0 A1 c1 A2 c2 A3 c3 A4 c4)
abbrev AR (x:Event) (A2:Option Addr) (c2:Nat):List Value:=[vI x.Proc,vI x.Kind,vS A2 x.Calls.length c2]
abbrev JD (x:Event) (A2:Option Addr) (c2:Nat):Value := .agg (AR x A2 c2).toArray
abbrev En (b:Nat) (x:Event) (A2:Option Addr) (c2:Nat):bS := .blk b 107 (AR x A2 c2)
abbrev xk (x:Call) (A4:Option Addr) (c4:Nat):List Value:=[vI x.Kind,.string x.Key,vI x.Arg,vB x.Got,vS A4 x.Vals.length c4]
abbrev zG (x:Call) (A4:Option Addr) (c4:Nat):Value := .agg (xk x A4 c4).toArray
abbrev fJ (b:Nat) (x:Call) (A4:Option Addr) (c4:Nat):bS := .blk b 109 (xk x A4 c4)
abbrev zH (b:Nat) (A0:Option Addr) (c0:Nat) (x0:List Ask) (A1:Option Addr) (c1:Nat) (x1:List fE):List bS:=[.blk b 79 [vS A0 x0.length c0,vS A1 x1.length c1],tq A0 c0 x0,nQ A1 c1 x1]
abbrev JY (b:Nat) (x:dH) (A0:Option Addr) (c0:Nat) (A1:Option Addr) (c1:Nat):List bS:=zH b A0 c0 x.asks A1 c1 x.bad
abbrev oN (b:Nat) (A0:Option Addr) (c0:Nat) (x0:List ByteArray) (A1:Option Addr) (c1:Nat) (x1:List Int) (A2:Option Addr) (c2:Nat) (x2:List (List Int)) (A3:Option Addr) (c3:Nat) (x3:List Int) (A4:Option Addr) (c4:Nat) (x4:List Int):List bS:=[.blk b 103 [vS A0 x0.length c0,vS A1 x1.length c1,vS A2 x2.length c2,vS A3 x3.length c3,vS A4 x4.length c4],Rw9 A0 c0 x0,Rw3 A1 c1 x1,Cr A2 c2 x2,Rw3 A3 c3 x3,Rw3 A4 c4 x4]
abbrev JE (b:Nat) (x:aF) (A0:Option Addr) (c0:Nat) (A1:Option Addr) (c1:Nat) (A2:Option Addr) (c2:Nat) (A3:Option Addr) (c3:Nat) (A4:Option Addr) (c4:Nat):List bS:=oN b A0 c0 x.keys A1 c1 x.types A2 c2 x.wrote A3 c3 x.incs A4 c4 x.last_
abbrev uI (b:Nat) (A0:Option Addr) (c0:Nat) (x0:List ByteArray) (b1:Nat) (x1:List (ByteArray×Int)) (A2:Option Addr) (c2:Nat) (x2:List Int) (b3:Nat) (x3:List (cu×Unit)) (b4:Nat) (x4:List (ByteArray×(List Int))):List bS:=[.blk b 155 [vS A0 x0.length c0,.map (some b1),vS A2 x2.length c2,.map (some b3),.map (some b4)],Rw9 A0 c0 x0,xg b1 x1,Rw3 A2 c2 x2,xh b3 x3,AQ b4 x4]
abbrev FR (b:Nat) (x:bf) (A0:Option Addr) (c0:Nat) (b1:Nat) (A2:Option Addr) (c2:Nat) (b3:Nat) (b4:Nat):List bS:=uI b A0 c0 x.keys b1 x.at_ A2 c2 x.types b3 x.facts b4 x.incs
theorem AU {H:BM} {x:Ask} {cs:List Value} (h:oV.rd H x cs):∃ A3 c3,cs=qU x A3 c3∧x.Base.length≤c3∧rdS (aG .i64) H A3 x.Base:=by
 obtain ⟨_,_,rfl,rfl,⟨_,_,rfl,rfl,⟨_,_,rfl,rfl,⟨A0,c0,rfl,l0,r0⟩⟩⟩⟩:=h;exact ⟨A0,c0,rfl,l0,r0⟩
theorem zI {H:BM} {x:Op} {cs:List Value} (h:kOp.rd H x cs):∃ A4 c4,cs=BA x A4 c4∧x.Vals.length≤c4∧rdS (aG .i64) H A4 x.Vals:=by
 obtain ⟨_,_,rfl,rfl,⟨_,_,rfl,rfl,⟨_,_,rfl,rfl,⟨_,_,rfl,rfl,⟨A0,c0,rfl,l0,r0⟩⟩⟩⟩⟩:=h;exact ⟨A0,c0,rfl,l0,r0⟩
theorem nT {H:BM} {x:Txn} {cs:List Value} (h:jN.rd H x cs):∃ A4 c4,cs=yg x A4 c4∧x.Ops.length≤c4∧rdS kOp H A4 x.Ops:=by
 obtain ⟨_,_,rfl,rfl,⟨_,_,rfl,rfl,⟨_,_,rfl,rfl,⟨_,_,rfl,rfl,⟨A0,c0,rfl,l0,r0⟩⟩⟩⟩⟩:=h;exact ⟨A0,c0,rfl,l0,r0⟩
theorem fe {H:BM} {x:aJ} {cs:List Value} (h:fu.rd H x cs):∃ A1 c1,cs=Dz x A1 c1∧x.args.length≤c1∧rdS (aG .i64) H A1 x.args:=by
 obtain ⟨_,_,rfl,rfl,⟨A0,c0,rfl,l0,r0⟩⟩:=h;exact ⟨A0,c0,rfl,l0,r0⟩
theorem Eo {H:BM} {x:Event} {cs:List Value} (h:zD.rd H x cs):∃ A2 c2,cs=AR x A2 c2∧x.Calls.length≤c2∧rdS wH H A2 x.Calls:=by
 obtain ⟨_,_,rfl,rfl,⟨_,_,rfl,rfl,⟨A0,c0,rfl,l0,r0⟩⟩⟩:=h;exact ⟨A0,c0,rfl,l0,r0⟩
theorem FT {H:BM} {x:Call} {cs:List Value} (h:wH.rd H x cs):∃ A4 c4,cs=xk x A4 c4∧x.Vals.length≤c4∧rdS (aG .i64) H A4 x.Vals:=by
 obtain ⟨_,_,rfl,rfl,⟨_,_,rfl,rfl,⟨_,_,rfl,rfl,⟨_,_,rfl,rfl,⟨A0,c0,rfl,l0,r0⟩⟩⟩⟩⟩:=h;exact ⟨A0,c0,rfl,l0,r0⟩
theorem FU (x:Ask) {R3:List bS} {c3:List Value} (h3:Mk (bG 2 (aG .i64)) R3 x.Base c3):Mk oV ([]++([]++([]++R3))) x ([vI x.Txn]++([vI x.Place]++([vI x.Key]++c3))):=vw (g:=fun g:Ask=>(g.Txn,g.Place,g.Key,g.Base)) (x:=x) (dX (mK _ _ rfl) (dX (mK _ _ rfl) (dX (mK _ _ rfl) h3)))
theorem JZ (x:Op) {R4:List bS} {c4:List Value} (h4:Mk (bG 2 (aG .i64)) R4 x.Vals c4):Mk kOp ([]++([]++([]++([]++R4)))) x ([vI x.Kind]++([vI x.Key]++([vI x.Arg]++([vB x.Got]++c4)))):=vw (g:=fun g:Op=>(g.Kind,g.Key,g.Arg,g.Got,g.Vals)) (x:=x) (dX (mK _ _ rfl) (dX (mK _ _ rfl) (dX (mK _ _ rfl) (dX (mK _ _ rfl) h4))))
theorem JF (x:Txn) {R4:List bS} {c4:List Value} (h4:Mk (bG 50 kOp) R4 x.Ops c4):Mk jN ([]++([]++([]++([]++R4)))) x ([vI x.Proc]++([vI x.Status]++([vI x.From]++([vI x.To]++c4)))):=vw (g:=fun g:Txn=>(g.Proc,g.Status,g.From,g.To,g.Ops)) (x:=x) (dX (mK _ _ rfl) (dX (mK _ _ rfl) (dX (mK _ _ rfl) (dX (mK _ _ rfl) h4))))
theorem Ar (x:aJ) {R1:List bS} {c1:List Value} (h1:Mk (bG 2 (aG .i64)) R1 x.args c1):Mk fu ([]++R1) x ([vI x.txn]++c1):=vw (g:=fun g:aJ=>(g.txn,g.args)) (x:=x) (dX (mK _ _ rfl) h1)
noncomputable def kD (a0:List ByteArray) (a1:ByteArray):Int→Option (Int ⊕ Int)
 | a2=>bif decide (a2 < (a0.length:Int)) then must (0≤a2∧a2 < (a0.length:Int)) (bif sEq a1 (idx a0 a2) then out (some a2) else (some (.inl (w64 (a2 + 1))))) else (out (some (-1)))
noncomputable def slices_Index_string (a0:List ByteArray) (a1:ByteArray):Option Int :=
 iter (kD a0 a1) 0
noncomputable def slices_Contains_string (a0:List ByteArray) (a1:ByteArray):Option Bool :=
 (slices_Index_string a0 a1).bind fun y3=>some (decide (y3 ≥ 0))
noncomputable def ni:Option bf :=
 some (⟨([]:List ByteArray),([]:List (ByteArray×Int)),([]:List Int),([]:List (cu×Unit)),([]:List (ByteArray×(List Int)))⟩:bf)
noncomputable def tu (a0:Int):Option (Int×Int) :=
 bif (a0 == 5) then some (0,1) else (bif (a0 == 8) then some (1,1) else (some (0,64)))
noncomputable def pG (a0:Call) (a1:Int) (a2:Bool):Option (Int ⊕ Bool) :=
 bif a2 then must (0≤w64 (a1 - 1)∧w64 (a1 - 1) < (a0.Vals.length:Int)) (must (0≤a1∧a1 < (a0.Vals.length:Int)) (bif decide (idx a0.Vals (w64 (a1 - 1)) ≥ idx a0.Vals a1) then out (some false) else (some (.inl (w64 (a1 + 1)))))) else (out (some true))
noncomputable def pI (a0:Call):Int→Option (Int ⊕ Bool)
 | a1=>bif (a0.Kind == 7) then pG a0 a1 (decide (a1 < (a0.Vals.length:Int))) else (pG a0 a1 false)
noncomputable def pJ (a0:Call) (a1:Bool):Option Bool :=
 bif a1 then some false else (iter (pI a0) 1)
noncomputable def pM (a0:Call) (a2:Bool):Option Bool :=
 bif a2 then some false else (bif !a0.Got then some ((a0.Vals.length:Int) == 0) else ((tu a0.Kind).bind fun a1=>bif decide ((a0.Vals.length:Int) < a1.1) then pJ a0 true else (pJ a0 (decide ((a0.Vals.length:Int) > a1.2)))))
noncomputable def kV (a0:Call) (a1:Int) (a2:Bool):Option Bool :=
 bif a2 then some false else (bif decide (a0.Kind≤4) then bif !a0.Got then bif ((a0.Vals.length:Int) == 0) then bif (a0.Kind != 4) then some true else (bif decide ((-1048576)≤a0.Arg) then some (decide (a0.Arg≤1048576)) else (some false)) else (some false) else (some false) else (bif (a0.Arg != 0) then pM a0 true else (pM a0 (a0.Got != (a1 == 1)))))
noncomputable def bQ (a0:Call) (a1:Int):Option Bool :=
 bif decide (a0.Kind < 1) then kV a0 a1 true else (bif decide (a0.Kind > 8) then kV a0 a1 true else (bif sEq a0.Key (⟨#[]⟩:ByteArray) then kV a0 a1 true else (kV a0 a1 (decide ((a0.Key.size:Int) > 32)))))
noncomputable def qm (a0:Call) (a1:Event):Option Bool :=
 (bQ a0 a1.Kind).bind fun y5=>some (!y5)
noncomputable def eP (a0:List Call) (a1c0:Event):Int→Option (Int ⊕ Int)
 | a1=>bif decide (a1 < (a0.length:Int)) then must (0≤a1∧a1 < (a0.length:Int)) ((qm (idx a0 a1) a1c0).bind fun a2=>bif a2 then out (some a1) else (some (.inl (w64 (a1 + 1))))) else (out (some (-1)))
noncomputable def bF (a0:List Call) (a1c0:Event):Option Int :=
 iter (eP a0 a1c0) 0
noncomputable def df (a0:List Call) (a1c0:Event):Option Bool :=
 (bF a0 a1c0).bind fun y3=>some (decide (y3 ≥ 0))
noncomputable def mX (a0:List Event) (a1:Int) (a2:Bool):Option (Int ⊕ Int) :=
 bif a2 then out (some 1) else ((df ((idx a0 a1).Calls) (idx a0 a1)).bind fun a3=>bif a3 then out (some 1) else (some (.inl (w64 (a1 + 1)))))
noncomputable def rM (a0:List Event):Int→Option (Int ⊕ Int)
 | a1=>bif decide (a1 < (a0.length:Int)) then must (0≤a1∧a1 < (a0.length:Int)) (bif decide ((idx a0 a1).Kind < 0) then mX a0 a1 true else (bif decide ((idx a0 a1).Kind > 3) then mX a0 a1 true else (mX a0 a1 (decide ((((idx a0 a1).Calls).length:Int) > 16))))) else (out (some 0))
noncomputable def fD (a0:List Event):Option Int :=
 bif decide ((a0.length:Int) > 256) then some 1 else (iter (rM a0) 0)
noncomputable def qD (a0:History) (a1:Txn) (a3:List Call) (a2:Int):Option ((List Call×Int) ⊕ (Event×Bool)) :=
 some (.inl (a3++([(⟨(idx a1.Ops a2).Kind,idx a0.Keys ((idx a1.Ops a2).Key),(idx a1.Ops a2).Arg,(idx a1.Ops a2).Got,(idx a1.Ops a2).Vals⟩:Call)]:List Call),w64 (a2 + 1)))
noncomputable def nU (a0:History) (a1:Txn) (a2:List Call) (a3:Int) (a4:Bool):Option ((List Call×Int) ⊕ (Event×Bool)) :=
 bif a4 then out (some ((⟨0,a1.Status,a2⟩:Event),false)) else (must (0≤(idx a1.Ops a3).Key∧(idx a1.Ops a3).Key < (a0.Keys.length:Int)) (must (((a2.length + 1) + (a2.length + 1) / 4 + 192) * 64≤281474976710656∧a2.length + 1≤9223372036854775807) (qD a0 a1 a2 a3)))
noncomputable def qE (a0:History) (a1:Txn):(List Call×Int)→Option ((List Call×Int) ⊕ (Event×Bool))
 | (a3,a2)=>bif decide (a2 < (a1.Ops.length:Int)) then must (0≤a2∧a2 < (a1.Ops.length:Int)) (bif decide ((idx a1.Ops a2).Key < 0) then nU a0 a1 a3 a2 true else (nU a0 a1 a3 a2 (decide ((idx a1.Ops a2).Key ≥ (a0.Keys.length:Int))))) else ((fD ([(⟨0,a1.Status,a3⟩:Event)]:List Event)).bind fun a4=>out (some ((⟨0,a1.Status,a3⟩:Event),(a4 == 0))))
noncomputable def dF (a0:History) (a1:Txn):Option (Event×Bool) :=
 iter (qE a0 a1) ([],0)
noncomputable def nV (a0:Txn) (a1:Txn):Option Bool :=
 bif (a0.Proc == a1.Proc) then bif (a0.To == (-1)) then some true else (some (decide (a0.To ≥ a1.From))) else (some false)
noncomputable def dZ (a0:List Txn) (a1c0:Txn):Int→Option (Int ⊕ Int)
 | a1=>bif decide (a1 < (a0.length:Int)) then must (0≤a1∧a1 < (a0.length:Int)) ((nV (idx a0 a1) a1c0).bind fun a2=>bif a2 then out (some a1) else (some (.inl (w64 (a1 + 1))))) else (out (some (-1)))
noncomputable def bB (a0:List Txn) (a1c0:Txn):Option Int :=
 iter (dZ a0 a1c0) 0
noncomputable def cO (a0:List Txn) (a1c0:Txn):Option Bool :=
 (bB a0 a1c0).bind fun y3=>some (decide (y3 ≥ 0))
noncomputable def kQ (a0:List Txn) (a1:Txn) (a2:Bool):Option Bool :=
 bif a2 then some false else ((cO a0 a1).bind fun a3=>some (!a3))
noncomputable def nk (a0:List Txn) (a1:Txn):Option Bool :=
 bif decide (a1.From < 0) then kQ a0 a1 true else (bif decide ((a0.length:Int) > 0) then must (0≤w64 ((a0.length:Int) - 1)∧w64 ((a0.length:Int) - 1) < (a0.length:Int)) (kQ a0 a1 (decide ((idx a0 (w64 ((a0.length:Int) - 1))).From ≥ a1.From))) else (kQ a0 a1 false))
noncomputable def nu (a0:List Txn) (a1:Txn) (a2:Bool):Option Bool :=
 bif a2 then some false else (nk a0 a1)
noncomputable def ny (a0:List Txn) (a1:Txn) (a2:Bool):Option Bool :=
 bif a2 then bif decide (a1.To≤a1.From) then some false else (nk a0 a1) else (bif (a1.Status == 3) then bif (a1.To != (-1)) then nu a0 a1 (decide (a1.To≤a1.From)) else (nu a0 a1 false) else (some false))
noncomputable def bO (a0:List Txn) (a1:Txn):Option Bool :=
 bif (a1.Status == 1) then ny a0 a1 (a1.Status == 1) else (ny a0 a1 (a1.Status == 2))
noncomputable def mr (a0:Int):Option Int :=
 some (w64 ((wG .i64 (w64 (a0 - 1)) 3) + 1))
noncomputable def gF (a2:List ByteArray) (a3:List (ByteArray×Int)) (a0:List Int) (a4:List (cu×Unit)) (a1:List (ByteArray×(List Int))):Option (Int×bf) :=
 some (0,(⟨a2,a3,a0,a4,a1⟩:bf))
noncomputable def kX (a0:bf) (a1:Call) (a3:List ByteArray) (a2:List (ByteArray×Int)) (a4:List Int):Option (Int×bf) :=
 bif pE a0.facts (⟨a1.Key,a1.Arg⟩:cu) then some (3,(⟨a3,a2,a4,a0.facts,a0.incs⟩:bf)) else (gF a3 a2 a4 (iM a0.facts (⟨a1.Key,a1.Arg⟩:cu) ()) a0.incs)
noncomputable def iV (a0:bf) (a1:Call) (a4:List ByteArray) (a3:List (ByteArray×Int)) (a5:List Int) (a2:List (ByteArray×(List Int))):Option (Int×bf) :=
 bif decide (((mat a2 a1.Key).length:Int) > 8) then some (51,(⟨a4,a3,a5,a0.facts,a2⟩:bf)) else (gF a4 a3 a5 a0.facts a2)
noncomputable def iW (a0:bf) (a1:Call) (a2:Int) (a4:List ByteArray) (a3:List (ByteArray×Int)) (a5:List Int) (a6:Bool):Option (Int×bf) :=
 bif a6 then must (((((mat a0.incs a1.Key).length) + 1) + (((mat a0.incs a1.Key).length) + 1) / 4 + 192) * 8≤281474976710656∧((mat a0.incs a1.Key).length) + 1≤9223372036854775807) (iV a0 a1 a4 a3 a5 (iM a0.incs a1.Key ((mat a0.incs a1.Key)++([a2]:List Int)))) else (iV a0 a1 a4 a3 a5 a0.incs)
noncomputable def iX (a0:bf) (a1:Call) (a2:Int) (a4:List ByteArray) (a3:List (ByteArray×Int)) (a5:List Int) (a6:Bool):Option (Int×bf) :=
 bif a6 then kX a0 a1 a4 a3 a5 else (bif (a1.Kind == 4) then bif (((mat a0.incs a1.Key).length:Int) == 0) then iW a0 a1 a2 a4 a3 a5 true else (must (0≤w64 (((mat a0.incs a1.Key).length:Int) - 1)∧w64 (((mat a0.incs a1.Key).length:Int) - 1) < ((mat a0.incs a1.Key).length:Int)) (iW a0 a1 a2 a4 a3 a5 (idx (mat a0.incs a1.Key) (w64 (((mat a0.incs a1.Key).length:Int) - 1)) != a2))) else (gF a4 a3 a5 a0.facts a0.incs))
noncomputable def gG (a0:bf) (a1:Call) (a2:Int) (a5:List ByteArray) (a6:List (ByteArray×Int)) (a3:List Int) (a4:Int):Option (Int×bf) :=
 must (0≤a4∧a4 < (a3.length:Int)) ((mr a1.Kind).bind fun a7=>bif (idx a3 a4 != a7) then some (50,(⟨a5,a6,a3,a0.facts,a0.incs⟩:bf)) else (bif (a1.Kind == 2) then iX a0 a1 a2 a5 a6 a3 (a1.Kind == 2) else (iX a0 a1 a2 a5 a6 a3 (a1.Kind == 3))))
noncomputable def kY (a0:bf) (a1:Call) (a2:Int):Option (Int×bf) :=
 (mr a1.Kind).bind fun a3=>must (((a0.types.length + 1) + (a0.types.length + 1) / 4 + 192) * 8≤281474976710656∧a0.types.length + 1≤9223372036854775807) (gG a0 a1 a2 (a0.keys++([a1.Key]:List ByteArray)) (iM a0.at_ a1.Key (a0.keys.length:Int)) (a0.types++([a3]:List Int)) (a0.keys.length:Int))
noncomputable def az (a0:bf) (a1:Call) (a2:Int):Option (Int×bf) :=
 bif !(pE a0.at_ a1.Key) then bif ((a0.keys.length:Int) == 32) then some (2,a0) else (must (((a0.keys.length + 1) + (a0.keys.length + 1) / 4 + 192) * 16≤281474976710656∧a0.keys.length + 1≤9223372036854775807) (kY a0 a1 a2)) else (gG a0 a1 a2 a0.keys a0.at_ a0.types (mat a0.at_ a1.Key))
noncomputable def lN (a0:Int) (a1:Bool):Option (Int ⊕ Int) :=
 bif a1 then out (some 1) else (some (.inl (w64 (a0 + 1))))
noncomputable def nW (a4:Int) (a2:Event×Bool):(List ByteArray×(List (ByteArray×Int))×List Int×(List (cu×Unit))×(List (ByteArray×(List Int)))×Int)→Option ((List ByteArray×(List (ByteArray×Int))×List Int×(List (cu×Unit))×(List (ByteArray×(List Int)))×Int) ⊕ ((List ByteArray×(List (ByteArray×Int))×List Int×(List (cu×Unit))×(List (ByteArray×(List Int)))×Int) ⊕ (Int ⊕ Int)))
 | (a6,a8,a5,a7,a3,a1)=>bif decide (a1 < (a2.1.Calls.length:Int)) then must (0≤a1∧a1 < (a2.1.Calls.length:Int)) ((az (⟨a6,a8,a5,a7,a3⟩:bf) (idx a2.1.Calls a1) a4).bind fun a0=>bif (a0.1 != 0) then out (out (out (some 1))) else (some (.inl (a0.2.keys,a0.2.at_,a0.2.types,a0.2.facts,a0.2.incs,w64 (a1 + 1))))) else (out (some (.inl (a6,a8,a5,a7,a3,w64 (a4 + 1)))))
noncomputable def nX (a2:List ByteArray) (a7:List (ByteArray×Int)) (a5:List Int) (a0:List (cu×Unit)) (a1:List (ByteArray×(List Int))) (a3:Int) (a6:Event×Bool) (a4:Bool):Option ((List ByteArray×(List (ByteArray×Int))×List Int×(List (cu×Unit))×(List (ByteArray×(List Int)))×Int) ⊕ (Int ⊕ Int)) :=
 bif a4 then out (out (some 1)) else (iter (nW a3 a6) (a2,a7,a5,a0,a1,0))
noncomputable def lQ (a0:History):(List ByteArray×(List (ByteArray×Int))×List Int×(List (cu×Unit))×(List (ByteArray×(List Int)))×Int)→Option ((List ByteArray×(List (ByteArray×Int))×List Int×(List (cu×Unit))×(List (ByteArray×(List Int)))×Int) ⊕ (Int ⊕ Int))
 | (a5,a7,a6,a3,a4,a1)=>bif decide (a1 < (a0.Txns.length:Int)) then must (0≤a1∧a1 < (a0.Txns.length:Int)) ((dF a0 (idx a0.Txns a1)).bind fun a2=>bif !a2.2 then nX a5 a7 a6 a3 a4 a1 a2 true else (must (0≤(0:Int)∧(0:Int)≤a1∧a1≤(a0.Txns.length:Int)) ((bO (fZ a0.Txns (0:Int) a1) (idx a0.Txns a1)).bind fun a8=>nX a5 a7 a6 a3 a4 a1 a2 (!a8)))) else (out (out (some 0)))
noncomputable def qF (a0:History):Int→Option (Int ⊕ Int)
 | a1=>bif decide (a1 < (a0.Keys.length:Int)) then must (0≤a1∧a1 < (a0.Keys.length:Int)) (bif sEq (idx a0.Keys a1) (⟨#[]⟩:ByteArray) then lN a1 true else (bif decide (((idx a0.Keys a1).size:Int) > 32) then lN a1 true else (must (0≤(0:Int)∧(0:Int)≤a1∧a1≤(a0.Keys.length:Int)) ((slices_Contains_string (fZ a0.Keys (0:Int) a1) (idx a0.Keys a1)).bind fun a3=>lN a1 a3)))) else ((ni).bind fun a2=>iter (lQ a0) (a2.keys,a2.at_,a2.types,a2.facts,a2.incs,0))
noncomputable def nY (a0:History) (b7:Bool):Option Int :=
 bif b7 then some 1 else (iter (qF a0) 0)
noncomputable def aN (a0:History):Option Int :=
 bif decide ((a0.Keys.length:Int) > 32) then nY a0 true else (nY a0 (decide ((a0.Txns.length:Int) > 32)))
noncomputable def ed (a0:List Int):Option (List Int) :=
 must (a0.length * 8≤140737488355328) (some a0)
noncomputable def jq (a0:Int):Option Int :=
 bif (a0 == 1) then some 188 else (bif (a0 == 2) then some 189 else (bif (a0 == 3) then some 190 else (bif (a0 == 4) then some 191 else (some (-1)))))
noncomputable def jr (a0:Unit) (a1:List Int):Option Bool :=
 some (decide ((a1.length:Int)≤1))
noncomputable def mD (a0:Unit) (a1:List Int):Option Bool :=
 some (decide ((a1.length:Int)≤64))
noncomputable def nH (a1:List Int):Int→Option (Int ⊕ Bool)
 | a0=>bif decide (a0 < (a1.length:Int)) then must (0≤w64 (a0 - 1)∧w64 (a0 - 1) < (a1.length:Int)) (must (0≤a0∧a0 < (a1.length:Int)) (bif decide (idx a1 (w64 (a0 - 1)) ≥ idx a1 a0) then out (some false) else (some (.inl (w64 (a0 + 1)))))) else (out (some (decide ((a1.length:Int)≤64))))
noncomputable def fw (a0:Unit) (a1:List Int):Option Bool :=
 iter (nH a1) 1
noncomputable def jS (a0:Unit) (a1:List Int):Option Bool :=
 some ((a1.length:Int) == 1)
noncomputable def jv (a0:Int) (a1:List Int):Option Int :=
 (jq a0).bind fun y8=>bif (y8 == (188:Int)) then (jr () a1).bind fun a5=>bif !a5 then some 80 else (some 0) else (bif (y8 == (189:Int)) then (mD () a1).bind fun a4=>bif !a4 then some 80 else (some 0) else (bif (y8 == (190:Int)) then (fw () a1).bind fun a2=>bif !a2 then some 80 else (some 0) else (bif (y8 == (191:Int)) then (jS () a1).bind fun a3=>bif !a3 then some 80 else (some 0) else (bif (y8 == ((-1):Int)) then some 1 else none))))
noncomputable def fK (a0:Unit) (a1:List Int) (a2:List Int):Option (List Int×Bool) :=
 bif ((a1.length:Int) == 1) then must (0≤(0:Int)∧(0:Int) < (a1.length:Int)) (must (0≤w64 ((a2.length:Int) - 1)∧w64 ((a2.length:Int) - 1) < (a2.length:Int)) (some (([]:List Int),(idx a1 (0:Int) == idx a2 (w64 ((a2.length:Int) - 1)))))) else (some (([]:List Int),false))
noncomputable def oO (a0:List Int) (a1:List Int):Int→Option (Int ⊕ Bool)
 | a2=>bif decide (a2 < (a0.length:Int)) then must (0≤a2∧a2 < (a0.length:Int)) (must (0≤a2∧a2 < (a1.length:Int)) (bif (idx a0 a2 != idx a1 a2) then out (some false) else (some (.inl (w64 (a2 + 1)))))) else (out (some true))
noncomputable def dL (a0:List Int) (a1:List Int):Option Bool :=
 bif ((a0.length:Int) != (a1.length:Int)) then some false else (iter (oO a0 a1) 0)
noncomputable def gH (a1:List Int) (a2:List Int) (a0:Bool):Option (List Int×Bool) :=
 bif a0 then some (([]:List Int),false) else (must (0≤(0:Int)∧(0:Int)≤(w64 ((a1.length:Int) - (a2.length:Int)))∧(w64 ((a1.length:Int) - (a2.length:Int)))≤(a1.length:Int)) ((ed (fZ a1 (0:Int) (w64 ((a1.length:Int) - (a2.length:Int))))).bind fun a3=>some (a3,true)))
noncomputable def dw (a0:Unit) (a1:List Int) (a2:List Int):Option (List Int×Bool) :=
 bif decide (w64 ((a1.length:Int) - (a2.length:Int)) < 0) then gH a1 a2 true else (must (0≤(w64 ((a1.length:Int) - (a2.length:Int)))∧(w64 ((a1.length:Int) - (a2.length:Int)))≤(a1.length:Int)∧(a1.length:Int)≤(a1.length:Int)) ((dL (fZ a1 (w64 ((a1.length:Int) - (a2.length:Int))) (a1.length:Int)) a2).bind fun a3=>gH a1 a2 (!a3)))
noncomputable def kR (a0:Int):Option Bool :=
 some (a0 != a0)
noncomputable def lS (a0:Int) (a1:Int):Option Bool :=
 (kR a0).bind fun y7=>bif y7 then (kR a1).bind fun a2=>bif !a2 then some true else (some (decide (a0 < a1))) else (some (decide (a0 < a1)))
noncomputable def iR (a0:Int):Option Bool :=
 some (a0 != a0)
noncomputable def iE (a0:Int) (a1:Int):Option ((Int×Int) ⊕ (Int×Bool)) :=
 some (.inl (a0,a1))
noncomputable def iF (a0:List Int) (a1:Int):(Int×Int)→Option ((Int×Int) ⊕ (Int×Bool))
 | (a2,a3)=>bif decide (a2 < a3) then must (0≤(1:Int)∧(1:Int) < (far:Int)) (must (0≤w64 (ru .u64 (IntKind.wrap .u64 (w64 (a2 + a3))) (1:Int))∧w64 (ru .u64 (IntKind.wrap .u64 (w64 (a2 + a3))) (1:Int)) < (a0.length:Int)) ((lS (idx a0 (w64 (ru .u64 (IntKind.wrap .u64 (w64 (a2 + a3))) (1:Int)))) a1).bind fun a5=>bif a5 then iE (w64 ((w64 (ru .u64 (IntKind.wrap .u64 (w64 (a2 + a3))) (1:Int))) + 1)) a3 else (iE a2 (w64 (ru .u64 (IntKind.wrap .u64 (w64 (a2 + a3))) (1:Int)))))) else (bif decide (a2 < (a0.length:Int)) then must (0≤a2∧a2 < (a0.length:Int)) (bif (idx a0 a2 == a1) then out (some (a2,true)) else ((iR (idx a0 a2)).bind fun a6=>bif a6 then (iR a1).bind fun a4=>out (some (a2,a4)) else (out (some (a2,false))))) else (out (some (a2,false))))
noncomputable def bE (a0:List Int) (a1:Int):Option (Int×Bool) :=
 iter (iF a0 a1) (0,(a0.length:Int))
noncomputable def iH (a0:List Int) (a1 a2:Int):Option (List Int) :=
 must (0≤a1∧a1≤a2∧a2≤(a0.length:Int)) (some (a0.take a1.toNat++a0.drop a2.toNat))
noncomputable def jw (a2:List Int):(List Int×Int)→Option ((List Int×Int) ⊕ (List Int×Bool))
 | (a1,a0)=>bif decide (a0 < (a2.length:Int)) then must (0≤a0∧a0 < (a2.length:Int)) ((bE a1 (idx a2 a0)).bind fun a3=>bif !a3.2 then out (some (([]:List Int),false)) else ((iH a1 a3.1 (w64 (a3.1 + 1))).bind fun a4=>some (.inl (a4,w64 (a0 + 1))))) else (out (some (a1,true)))
noncomputable def dJ (a0:Unit) (a1:List Int) (a2:List Int):Option (List Int×Bool) :=
 (ed a1).bind fun y7=>iter (jw a2) (y7,0)
noncomputable def gQ (a2:List Int):(Int×Int)→Option ((Int×Int) ⊕ (List Int×Bool))
 | (a1,a0)=>bif decide (a0 < (a2.length:Int)) then must (0≤a0∧a0 < (a2.length:Int)) (some (.inl (w64 (a1 - (idx a2 a0)),w64 (a0 + 1)))) else (out (some (([a1]:List Int),true)))
noncomputable def dz (a0:Unit) (a1:List Int) (a2:List Int):Option (List Int×Bool) :=
 must (0≤(0:Int)∧(0:Int) < (a1.length:Int)) (iter (gQ a2) (idx a1 (0:Int),0))
noncomputable def jo (a0:Int) (a1:List Int) (a2:List Int) (b9:Bool):Option (List Int×Bool) :=
 bif b9 then some (([]:List Int),false) else ((jq a0).bind fun a3=>bif (a3 == (188:Int)) then (fK () a1 a2).bind fun a4=>some (a4.1,a4.2) else (bif (a3 == (189:Int)) then (dw () a1 a2).bind fun a6=>some (a6.1,a6.2) else (bif (a3 == (190:Int)) then (dJ () a1 a2).bind fun a7=>some (a7.1,a7.2) else (bif (a3 == (191:Int)) then (dz () a1 a2).bind fun a5=>some (a5.1,a5.2) else (bif (a3 == ((-1):Int)) then none else none)))))
noncomputable def fA (a0:Int) (a1:List Int) (a2:List Int):Option (List Int×Bool) :=
 (jv a0 a1).bind fun a3=>bif (a3 != 0) then jo a0 a1 a2 true else (jo a0 a1 a2 ((a2.length:Int) == 0))
noncomputable def fT (a0:Int) (a3:List Ask) (a2:List fE) (a1:List (Int×(List Int))):Option ((List Ask×List fE×(List (Int×(List Int)))×Int) ⊕ dH) :=
 some (.inl (a3,a2,a1,w64 (a0 + 1)))
noncomputable def jT (a1:History) (a2:Int) (a4:List Ask) (a3:List fE) (a5:List (Int×(List Int))) (a0:Int) (a7:List Int) (a6:Bool):Option ((List Ask×List fE×(List (Int×(List Int)))×Int) ⊕ dH) :=
 bif !a6 then must (((a3.length + 1) + (a3.length + 1) / 4 + 192) * 16≤281474976710656∧a3.length + 1≤9223372036854775807) (fT a0 a4 (a3++([(⟨a2,a0⟩:fE)]:List fE)) a5) else (must (((a4.length + 1) + (a4.length + 1) / 4 + 192) * 48≤281474976710656∧a4.length + 1≤9223372036854775807) (fT a0 (a4++([(⟨a2,a0,(idx ((idx a1.Txns a2).Ops) a0).Key,a7⟩:Ask)]:List Ask)) a3 a5))
noncomputable def jU (a1:History) (a2:Int) (a6:List Ask) (a3:List fE) (a5:List (Int×(List Int))) (a0:Int) (a4:List Int×Bool) (a7:Bool):Option ((List Ask×List fE×(List (Int×(List Int)))×Int) ⊕ dH) :=
 bif a7 then fT a0 a6 a3 a5 else (jT a1 a2 a6 a3 a5 a0 a4.1 a4.2)
noncomputable def mP (a1:History) (a2:Int):(List Ask×List fE×(List (Int×(List Int)))×Int)→Option ((List Ask×List fE×(List (Int×(List Int)))×Int) ⊕ dH)
 | (a5,a4,a3,a0)=>bif decide (a0 < (((idx a1.Txns a2).Ops).length:Int)) then must (0≤a0∧a0 < (((idx a1.Txns a2).Ops).length:Int)) (bif decide ((idx ((idx a1.Txns a2).Ops) a0).Kind≤4) then must (((((mat a3 ((idx ((idx a1.Txns a2).Ops) a0).Key)).length) + 1) + (((mat a3 ((idx ((idx a1.Txns a2).Ops) a0).Key)).length) + 1) / 4 + 192) * 8≤281474976710656∧((mat a3 ((idx ((idx a1.Txns a2).Ops) a0).Key)).length) + 1≤9223372036854775807) (fT a0 a5 a4 (iM a3 ((idx ((idx a1.Txns a2).Ops) a0).Key) ((mat a3 ((idx ((idx a1.Txns a2).Ops) a0).Key))++([(idx ((idx a1.Txns a2).Ops) a0).Arg]:List Int)))) else ((ed ((idx ((idx a1.Txns a2).Ops) a0).Vals)).bind fun a7=>bif decide (((mat a3 ((idx ((idx a1.Txns a2).Ops) a0).Key)).length:Int) > 0) then (fA (w64 (((idx ((idx a1.Txns a2).Ops) a0).Kind) - 4)) ((idx ((idx a1.Txns a2).Ops) a0).Vals) (mat a3 ((idx ((idx a1.Txns a2).Ops) a0).Key))).bind fun a6=>bif a6.2 then jU a1 a2 a5 a4 a3 a0 a6 ((idx ((idx a1.Txns a2).Ops) a0).Kind == 5) else (jU a1 a2 a5 a4 a3 a0 a6 false) else (jT a1 a2 a5 a4 a3 a0 a7 true))) else (out (some (⟨a5,a4⟩:dH)))
noncomputable def aU (a0:dH) (a1:History) (a2:Int):Option dH :=
 must (0≤a2∧a2 < (a1.Txns.length:Int)) (bif ((idx a1.Txns a2).Status != 1) then some a0 else (iter (mP a1 a2) (a0.asks,a0.bad,[],0)))
noncomputable def tC (a0:History):(List Ask×List fE×Int)→Option ((List Ask×List fE×Int) ⊕ (dH×Int))
 | (a3,a2,a1)=>bif decide (a1 < (a0.Txns.length:Int)) then (aU (⟨a3,a2⟩:dH) a0 a1).bind fun a4=>some (.inl (a4.asks,a4.bad,w64 (a1 + 1))) else (out (some ((⟨a3,a2⟩:dH),0)))
noncomputable def kW (a0:History):Option (dH×Int) :=
 (aN a0).bind fun a1=>bif (a1 != 0) then some ((⟨([]:List Ask),([]:List fE)⟩:dH),a1) else (iter (tC a0) ([],[],0))
noncomputable def lT (a0:History):Option (List Ask×Int) :=
 (kW a0).bind fun a1=>some (a1.1.asks,a1.2)
noncomputable def lU (a0:Ask) (a1:Ask):Option Bool :=
 bif (a1.Txn == a0.Txn) then bif (a1.Place == a0.Place) then bif (a1.Key == a0.Key) then (dL a1.Base a0.Base).bind fun a2=>some a2 else (some false) else (some false) else (some false)
noncomputable def eu (a0:List Ask) (a1c0:Ask):Int→Option (Int ⊕ Int)
 | a1=>bif decide (a1 < (a0.length:Int)) then must (0≤a1∧a1 < (a0.length:Int)) ((lU (idx a0 a1) a1c0).bind fun a2=>bif a2 then out (some a1) else (some (.inl (w64 (a1 + 1))))) else (out (some (-1)))
noncomputable def bD (a0:List Ask) (a1c0:Ask):Option Int :=
 iter (eu a0 a1c0) 0
noncomputable def cZ (a0:List Ask) (a1c0:Ask):Option Bool :=
 (bD a0 a1c0).bind fun y3=>some (decide (y3 ≥ 0))
noncomputable def jy (a0:History) (a1:Ask):Option Int :=
 (lT a0).bind fun y9=>bif (y9.2 != 0) then some y9.2 else ((cZ y9.1 a1).bind fun a2=>bif a2 then some 0 else (some 1))
noncomputable def rO (a0:History) (a1:Int) (a3:Int):Int→Option (Int ⊕ (Int ⊕ Int))
 | a2=>bif decide (a2 < (((idx a0.Txns a3).Ops).length:Int)) then must (0≤a2∧a2 < (((idx a0.Txns a3).Ops).length:Int)) (bif ((idx ((idx a0.Txns a3).Ops) a2).Key == a1) then (mr ((idx ((idx a0.Txns a3).Ops) a2).Kind)).bind fun a4=>out (out (some a4)) else (some (.inl (w64 (a2 + 1))))) else (out (some (.inl (w64 (a3 + 1)))))
noncomputable def rP (a0:History) (a1:Int):Int→Option (Int ⊕ Int)
 | a2=>bif decide (a2 < (a0.Txns.length:Int)) then must (0≤a2∧a2 < (a0.Txns.length:Int)) (iter (rO a0 a1 a2) 0) else (out (some 0))
noncomputable def eU (a0:History) (a1:Int):Option Int :=
 (aN a0).bind fun y8=>bif (y8 != 0) then some 0 else (iter (rP a0 a1) 0)
noncomputable def nZ (a0:Int) (a1:List Int):Option ((List Int×Int) ⊕ (List Int)) :=
 some (.inl (a1,w64 (a0 + 1)))
noncomputable def og (a0:Txn) (a1:List Int) (a2:Int) (a3:Bool):Option ((List Int×Int) ⊕ (List Int)) :=
 bif a3 then must (((a1.length + 1) + (a1.length + 1) / 4 + 192) * 8≤281474976710656∧a1.length + 1≤9223372036854775807) (nZ a2 (a1++([(idx a0.Ops a2).Arg]:List Int))) else (nZ a2 a1)
noncomputable def qG (a0:Txn) (a1:Int):(List Int×Int)→Option ((List Int×Int) ⊕ (List Int))
 | (a3,a2)=>bif decide (a2 < (a0.Ops.length:Int)) then must (0≤a2∧a2 < (a0.Ops.length:Int)) (bif ((idx a0.Ops a2).Key == a1) then og a0 a3 a2 (decide ((idx a0.Ops a2).Kind≤4)) else (og a0 a3 a2 false)) else (out (some a3))
noncomputable def dA (a0:Txn) (a1:Int):Option (List Int) :=
 iter (qG a0 a1) ([],0)
noncomputable def lV (a0:History) (a1:Int) (a2:Int) (a4:Bool):Option (List Int×Bool) :=
 bif a4 then some (([]:List Int),false) else (must (0≤a1∧a1 < (a0.Txns.length:Int)) ((dA (idx a0.Txns a1) a2).bind fun a3=>some (a3,decide ((a3.length:Int) > 0))))
noncomputable def ib (a0:History) (a1:Int) (a2:Int):Option (List Int×Bool) :=
 bif decide (a1 < 0) then lV a0 a1 a2 true else (bif decide (a1 ≥ (a0.Txns.length:Int)) then lV a0 a1 a2 true else ((aN a0).bind fun a3=>lV a0 a1 a2 (a3 != 0)))
noncomputable def mE (a1:Int) (a0:List Int):Option ((List Int×Int) ⊕ (List Int)) :=
 some (.inl (a0,w64 (a1 + 1)))
noncomputable def mF (a0:List Int) (a1:Int) (a2:Bool):Option ((List Int×Int) ⊕ (List Int)) :=
 bif a2 then must (((a0.length + 1) + (a0.length + 1) / 4 + 192) * 8≤281474976710656∧a0.length + 1≤9223372036854775807) (mE a1 (a0++([a1]:List Int))) else (mE a1 a0)
noncomputable def oZ (a0:History) (a1:Int):(List Int×Int)→Option ((List Int×Int) ⊕ (List Int))
 | (a3,a2)=>bif decide (a2 < (a0.Txns.length:Int)) then must (0≤a2∧a2 < (a0.Txns.length:Int)) (bif ((idx a0.Txns a2).Status != 2) then (dA (idx a0.Txns a2) a1).bind fun a4=>mF a3 a2 (decide ((a4.length:Int) > 0)) else (mF a3 a2 false)) else (out (some a3))
noncomputable def cK (a0:History) (a1:Int):Option (List Int) :=
 (aN a0).bind fun y8=>bif (y8 != 0) then some ([]:List Int) else (iter (oZ a0 a1) ([],0))
noncomputable def mG (a0:Int) (a1:List aJ):Option ((List aJ×Int) ⊕ (List aJ)) :=
 some (.inl (a1,w64 (a0 + 1)))
noncomputable def mH (a2:List Int) (a0:List aJ) (a1:Int) (a3:List Int×Bool) (a4:Bool):Option ((List aJ×Int) ⊕ (List aJ)) :=
 bif a4 then must (((a0.length + 1) + (a0.length + 1) / 4 + 192) * 32≤281474976710656∧a0.length + 1≤9223372036854775807) (mG a1 (a0++([(⟨idx a2 a1,a3.1⟩:aJ)]:List aJ))) else (mG a1 a0)
noncomputable def pg (a0:History) (a1:Ask) (a3:List Int):(List aJ×Int)→Option ((List aJ×Int) ⊕ (List aJ))
 | (a5,a2)=>bif decide (a2 < (a3.length:Int)) then must (0≤a2∧a2 < (a3.length:Int)) ((ib a0 (idx a3 a2) a1.Key).bind fun a4=>bif a4.2 then mH a3 a5 a2 a4 (idx a3 a2 != a1.Txn) else (mH a3 a5 a2 a4 false)) else (out (some a5))
noncomputable def bM (a0:History) (a1:Ask):Option (List aJ) :=
 (cK a0 a1.Key).bind fun a2=>iter (pg a0 a1 a2) ([],0)
noncomputable def pO (a0:aJ) (a1:List Int):Option Bool :=
 must (0≤(0:Int)∧(0:Int) < (a0.args.length:Int)) (must (0≤(0:Int)∧(0:Int) < (a1.length:Int)) (some (idx a0.args (0:Int) == idx a1 (0:Int))))
noncomputable def mQ (a0:List Int) (a1:Int):Int→Option (Int ⊕ Int)
 | a2=>bif decide (a2 < (a0.length:Int)) then must (0≤a2∧a2 < (a0.length:Int)) (bif (a1 == idx a0 a2) then out (some a2) else (some (.inl (w64 (a2 + 1))))) else (out (some (-1)))
noncomputable def slices_Index_int (a0:List Int) (a1:Int):Option Int :=
 iter (mQ a0 a1) 0
noncomputable def slices_Contains_int (a0:List Int) (a1:Int):Option Bool :=
 (slices_Index_int a0 a1).bind fun y3=>some (decide (y3 ≥ 0))
noncomputable def dV (a0:List aJ) (a1c0:List Int):Int→Option (Int ⊕ Int)
 | a1=>bif decide (a1 < (a0.length:Int)) then must (0≤a1∧a1 < (a0.length:Int)) ((pO (idx a0 a1) a1c0).bind fun a2=>bif a2 then out (some a1) else (some (.inl (w64 (a1 + 1))))) else (out (some (-1)))
noncomputable def bA (a0:List aJ) (a1c0:List Int):Option Int :=
 iter (dV a0 a1c0) 0
noncomputable def jY (a1:List aJ) (a2:List Int) (a3:List Int) (a0:Int) (a4:Bool):Option ((List Int×List Int) ⊕ (List Int×Bool)) :=
 bif a4 then out (some (([]:List Int),false)) else (must (0≤a0∧a0 < (a1.length:Int)) (must (((a3.length + 1) + (a3.length + 1) / 4 + 192) * 8≤281474976710656∧a3.length + 1≤9223372036854775807) (must (0≤(((idx a1 a0).args).length:Int)∧(((idx a1 a0).args).length:Int)≤(a2.length:Int)∧(a2.length:Int)≤(a2.length:Int)) (some (.inl (fZ a2 (((idx a1 a0).args).length:Int) (a2.length:Int),a3++([(idx a1 a0).txn]:List Int)))))))
noncomputable def oh (a1:List aJ):(List Int×List Int)→Option ((List Int×List Int) ⊕ (List Int×Bool))
 | (a2,a3)=>bif decide ((a2.length:Int) > 0) then (bA a1 a2).bind fun a0=>bif decide (a0 < 0) then jY a1 a2 a3 a0 true else (must (0≤a0∧a0 < (a1.length:Int)) (bif decide ((((idx a1 a0).args).length:Int) > (a2.length:Int)) then jY a1 a2 a3 a0 true else (must (0≤(0:Int)∧(0:Int)≤(((idx a1 a0).args).length:Int)∧(((idx a1 a0).args).length:Int)≤(a2.length:Int)) ((dL ((idx a1 a0).args) (fZ a2 (0:Int) (((idx a1 a0).args).length:Int))).bind fun a4=>bif !a4 then jY a1 a2 a3 a0 true else ((slices_Contains_int a3 ((idx a1 a0).txn)).bind fun a5=>jY a1 a2 a3 a0 a5))))) else (out (some (a3,true)))
noncomputable def dG (a0:List Int) (a1:List aJ):Option (List Int×Bool) :=
 iter (oh a1) (a0,[])
noncomputable def pQ (a0:Int) (a1:List Int) (a2:List (Int×Unit)):Option ((List Int×(List (Int×Unit))×Int) ⊕ (((List (Int×Unit))×Int) ⊕ (List Int×Bool))) :=
 some (.inl (a1,a2,w64 (a0 + 1)))
noncomputable def pR (a0:Int) (a2:List (Int×Unit)) (a1:Int):Option (((List (Int×Unit))×Int×Int) ⊕ ((List Int×(List (Int×Unit))×Int) ⊕ (((List (Int×Unit))×Int) ⊕ (List Int×Bool)))) :=
 some (.inl (a2,a1,w64 (a0 + 1)))
noncomputable def pU (a1:List aJ) (a0:List Int) (a2:Int) (a3:List (Int×Unit)) (a4:Int) (a5:Bool):Option (((List (Int×Unit))×Int×Int) ⊕ ((List Int×(List (Int×Unit))×Int) ⊕ (((List (Int×Unit))×Int) ⊕ (List Int×Bool)))) :=
 bif a5 then out (out (out (some (([]:List Int),false)))) else (bif decide (a4 > 0) then must (((a0.length + 1) + (a0.length + 1) / 4 + 192) * 8≤281474976710656∧a0.length + 1≤9223372036854775807) (out (pQ a2 (a0++([(idx a1 a2).txn]:List Int)) a3)) else (out (pQ a2 a0 a3)))
noncomputable def rQ (a1:List aJ) (a5:List Int) (a0:Int):((List (Int×Unit))×Int×Int)→Option (((List (Int×Unit))×Int×Int) ⊕ ((List Int×(List (Int×Unit))×Int) ⊕ (((List (Int×Unit))×Int) ⊕ (List Int×Bool))))
 | (a4,a3,a2)=>bif decide (a2 < (((idx a1 a0).args).length:Int)) then must (0≤a2∧a2 < (((idx a1 a0).args).length:Int)) (bif pE a4 (idx ((idx a1 a0).args) a2) then pR a2 (zk a4 (idx ((idx a1 a0).args) a2)) (w64 (a3 + 1)) else (pR a2 a4 a3)) else (bif decide (a3 > 0) then pU a1 a5 a0 a4 a3 (decide (a3 < (((idx a1 a0).args).length:Int))) else (pU a1 a5 a0 a4 a3 false))
noncomputable def rR (a1:List aJ):(List Int×(List (Int×Unit))×Int)→Option ((List Int×(List (Int×Unit))×Int) ⊕ (((List (Int×Unit))×Int) ⊕ (List Int×Bool)))
 | (a2,a3,a0)=>bif decide (a0 < (a1.length:Int)) then must (0≤a0∧a0 < (a1.length:Int)) (iter (rQ a1 a2 a0) (a3,0,0)) else (bif decide ((a3.length:Int) > 0) then out (out (some (([]:List Int),false))) else (out (out (some (a2,true)))))
noncomputable def rT (a0:List Int) (a1:List aJ):((List (Int×Unit))×Int)→Option (((List (Int×Unit))×Int) ⊕ (List Int×Bool))
 | (a3,a2)=>bif decide (a2 < (a0.length:Int)) then must (0≤a2∧a2 < (a0.length:Int)) (some (.inl (iM a3 (idx a0 a2) (),w64 (a2 + 1)))) else (iter (rR a1) ([],a3,0))
noncomputable def bN (a0:List Int) (a1:List aJ):Option (List Int×Bool) :=
 iter (rT a0 a1) ([],0)
noncomputable def gT (a0:History) (a1:Ask):Option (List Int×Bool) :=
 (eU a0 a1.Key).bind fun a3=>bif (a3 == 2) then (bM a0 a1).bind fun a6=>(dG a1.Base a6).bind fun a4=>some (a4.1,a4.2) else (bif (a3 == 3) then (bM a0 a1).bind fun a5=>(bN a1.Base a5).bind fun a2=>some (a2.1,a2.2) else (some (([]:List Int),false)))
noncomputable def mR (a0:Int) (a2:Int) (a3:List aJ) (a4:Int) (rec:Int→Int→Int→(List aJ)→Int→Int→Option Int) (a7:Int):(Int×Int)→Option ((Int×Int) ⊕ Int)
 | (a5,a1)=>bif decide (a1 < (((idx a3 a0).args).length:Int)) then must (0≤a1∧a1 < (((idx a3 a0).args).length:Int)) (some (.inl (w64 (a5 + (idx ((idx a3 a0).args) a1)),w64 (a1 + 1)))) else (must (0≤a0∧a0 < (far:Int)) ((rec (w64 (a0 + 1)) a5 (bOr .u64 a2 (zh .u64 1 a0)) a3 a4 a7).bind fun a6=>out (some a6)))
noncomputable def iY (rec:Int→Int→Int→(List aJ)→Int→Int→Option Int) (a0:Int) (a1:Int) (a2:Int) (a3:List aJ) (a4:Int) (a5:Int):Option Int :=
 bif (a0 == (a3.length:Int)) then bif (a1 == a4) then some (bOr .u64 a5 a2) else (some a5) else ((rec (w64 (a0 + 1)) a1 a2 a3 a4 a5).bind fun a6=>must (0≤a0∧a0 < (a3.length:Int)) (iter (mR a0 a2 a3 a4 rec a6) (a1,0)))
noncomputable def eY:Nat→Int→Int→Int→(List aJ)→Int→Int→Option Int
 | 0=>fun _ _ _ _ _ _=>none
 | k + 1=>iY (eY k)
noncomputable def bq (a0:Int) (a1:Int) (a2:Int) (a3:List aJ) (a4:Int) (a5:Int):Option Int:=eY 64 a0 a1 a2 a3 a4 a5
noncomputable def lv (a0:Int) (a1:List Int):Option ((List Int×Int) ⊕ (List Int)) :=
 some (.inl (a1,w64 (a0 + 1)))
noncomputable def om (a1:List aJ) (a3:Int):(List Int×Int)→Option ((List Int×Int) ⊕ (List Int))
 | (a2,a0)=>bif decide (a0 < (a1.length:Int)) then must (0≤a0∧a0 < (a1.length:Int)) (must (0≤a0∧a0 < (far:Int)) (bif (wG .u64 (ru .u64 a3 a0) 1 == 1) then must (((a2.length + 1) + (a2.length + 1) / 4 + 192) * 8≤281474976710656∧a2.length + 1≤9223372036854775807) (lv a0 (a2++([(idx a1 a0).txn]:List Int))) else (lv a0 a2))) else (out (some a2))
noncomputable def dC (a0:Int) (a1:List aJ):Option (List Int) :=
 (bq 0 0 0 a1 a0 0).bind fun a2=>iter (om a1 a2) ([],0)
noncomputable def dQ (a0:List Int):Option (List Int) :=
 some a0
noncomputable def lw (a0:History) (a1:Ask) (a2:List Int):Option (List Int) :=
 must (0≤(0:Int)∧(0:Int) < (a1.Base.length:Int)) ((bM a0 a1).bind fun a4=>(dC (idx a1.Base (0:Int)) a4).bind fun a3=>must (((a2.length + a3.length) + (a2.length + a3.length) / 4 + 192) * 8≤281474976710656∧a2.length + a3.length≤9223372036854775807) (dQ (a2++a3)))
noncomputable def lC (a0:Int) (a1:List Int):Option ((List Int×Int) ⊕ (List Int)) :=
 some (.inl (a1,w64 (a0 + 1)))
noncomputable def lD (a1:Ask) (a2:List aJ):(List Int×Int)→Option ((List Int×Int) ⊕ (List Int))
 | (a3,a0)=>bif decide (a0 < (a2.length:Int)) then must (0≤a0∧a0 < (a2.length:Int)) (must (0≤w64 ((((idx a2 a0).args).length:Int) - 1)∧w64 ((((idx a2 a0).args).length:Int) - 1) < (((idx a2 a0).args).length:Int)) (must (0≤(0:Int)∧(0:Int) < (a1.Base.length:Int)) (bif (idx ((idx a2 a0).args) (w64 ((((idx a2 a0).args).length:Int) - 1)) == idx a1.Base (0:Int)) then must (((a3.length + 1) + (a3.length + 1) / 4 + 192) * 8≤281474976710656∧a3.length + 1≤9223372036854775807) (lC a0 (a3++([(idx a2 a0).txn]:List Int))) else (lC a0 a3)))) else (out (dQ a3))
noncomputable def aR (a0:History) (a1:Ask):Option (List Int) :=
 (eU a0 a1.Key).bind fun a3=>bif (a3 == 4) then must (0≤(0:Int)∧(0:Int) < (a1.Base.length:Int)) (bif (idx a1.Base (0:Int) == 0) then must (((0 + 1) + (0 + 1) / 4 + 192) * 8≤281474976710656∧0 + 1≤9223372036854775807) (lw a0 a1 (([]:List Int)++([(-1)]:List Int))) else (lw a0 a1 [])) else (bif ((a1.Base.length:Int) == 0) then dQ ([(-1)]:List Int) else (bif (a3 == 1) then (bM a0 a1).bind fun a5=>iter (lD a1 a5) ([],0) else (bif (a3 == 2) then (gT a0 a1).bind fun a2=>bif a2.2 then must (0≤(w64 ((a2.1.length:Int) - 1))∧(w64 ((a2.1.length:Int) - 1))≤(a2.1.length:Int)∧(a2.1.length:Int)≤(a2.1.length:Int)) (dQ (fZ a2.1 (w64 ((a2.1.length:Int) - 1)) (a2.1.length:Int))) else (dQ []) else ((gT a0 a1).bind fun a4=>dQ a4.1))))
noncomputable def fM (a0:History) (a1:Ask):Option (List Int×Int) :=
 (jy a0 a1).bind fun a2=>bif (a2 != 0) then some (([]:List Int),a2) else ((aR a0 a1).bind fun a3=>some (a3,0))
noncomputable def oo (a0:Ask) (a1:History):Option Bool :=
 (aR a1 a0).bind fun y7=>some (decide ((y7.length:Int) > 0))
noncomputable def ig (a0:List Ask) (a1c0:History):Int→Option (Int ⊕ Int)
 | a1=>bif decide (a1 < (a0.length:Int)) then must (0≤a1∧a1 < (a0.length:Int)) ((oo (idx a0 a1) a1c0).bind fun a2=>bif a2 then out (some a1) else (some (.inl (w64 (a1 + 1))))) else (out (some (-1)))
noncomputable def cz (a0:List Ask) (a1c0:History):Option Int :=
 iter (ig a0 a1c0) 0
noncomputable def gP (a0:List Ask) (a1c0:History):List Ask×Int→Option ((List Ask×Int) ⊕ List Ask)
 | (l,x)=>bif decide (x < (a0.length:Int)) then must (0≤x∧x < (a0.length:Int)) ((oo (idx a0 x) a1c0).bind fun y=>bif !y then (some (.inl (l++[idx a0 x],w64 (x + 1)))) else (some (.inl (l,w64 (x + 1))))) else (out (some l))
noncomputable def bX (a0:List Ask) (a1c0:History):Option (List Ask) :=
 (cz a0 a1c0).bind fun i=>bif i == -1 then some a0 else must (0≤i∧i < (a0.length:Int)) (iter (gP a0 a1c0) (a0.take i.toNat,w64 (i + 1)))
noncomputable def tF (a0:History):Option (List Ask×Int) :=
 (lT a0).bind fun y7=>bif (y7.2 != 0) then some (([]:List Ask),y7.2) else ((bX y7.1 a0).bind fun a1=>some (a1,0))
noncomputable def jA:Option Bool :=
 (fM (⟨([(⟨#[120]⟩:ByteArray)]:List ByteArray),([(⟨0,1,0,1,([(⟨1,0,5,false,([]:List Int)⟩:Op)]:List Op)⟩:Txn),(⟨0,1,2,3,([(⟨5,0,0,true,([5]:List Int)⟩:Op)]:List Op)⟩:Txn)]:List Txn)⟩:History) (⟨1,0,0,([5]:List Int)⟩:Ask)).bind fun a0=>(tF (⟨([(⟨#[120]⟩:ByteArray)]:List ByteArray),([(⟨0,1,0,1,([(⟨1,0,5,false,([]:List Int)⟩:Op)]:List Op)⟩:Txn),(⟨0,1,2,3,([(⟨5,0,0,true,([5]:List Int)⟩:Op)]:List Op)⟩:Txn)]:List Txn)⟩:History)).bind fun a1=>bif (a0.2 == 0) then bif ((a0.1.length:Int) == 1) then must (0≤(0:Int)∧(0:Int) < (a0.1.length:Int)) (bif (idx a0.1 (0:Int) == 0) then bif (a1.2 == 0) then some ((a1.1.length:Int) == 0) else (some false) else (some false)) else (some false) else (some false)
noncomputable def qH (a1:Int) (a0:List Ask×Int) (a2:Bool):Option (Ask×Bool) :=
 bif a2 then some ((⟨0,0,0,([]:List Int)⟩:Ask),false) else (must ((IntKind.wrap .u64 ((a0.1.length:Int)))≠0) (must (0≤w64 ((IntKind.wrap .u64 (a1)).tmod (IntKind.wrap .u64 ((a0.1.length:Int))))∧w64 ((IntKind.wrap .u64 (a1)).tmod (IntKind.wrap .u64 ((a0.1.length:Int)))) < (a0.1.length:Int)) (some ((idx a0.1 (w64 ((IntKind.wrap .u64 (a1)).tmod (IntKind.wrap .u64 ((a0.1.length:Int)))))),true))))
noncomputable def nz (a0:History) (a1:Int):Option (Ask×Bool) :=
 (lT a0).bind fun a2=>bif (a2.2 != 0) then qH a1 a2 true else (qH a1 a2 ((a2.1.length:Int) == 0))
noncomputable def wm (a0:History) (a4:List Txn) (a1:Int):(List Op×Int)→Option ((List Op×Int) ⊕ ((List Txn×Int) ⊕ History))
 | (a3,a2)=>bif decide (a2 < (((idx a0.Txns a1).Ops).length:Int)) then must (0≤a2∧a2 < (((idx a0.Txns a1).Ops).length:Int)) (must (((0 + (((idx ((idx a0.Txns a1).Ops) a2).Vals).length)) + (0 + (((idx ((idx a0.Txns a1).Ops) a2).Vals).length)) / 4 + 192) * 8≤281474976710656∧0 + (((idx ((idx a0.Txns a1).Ops) a2).Vals).length)≤9223372036854775807) (must (((a3.length + 1) + (a3.length + 1) / 4 + 192) * 56≤281474976710656∧a3.length + 1≤9223372036854775807) (some (.inl (a3++([(⟨(idx ((idx a0.Txns a1).Ops) a2).Kind,(idx ((idx a0.Txns a1).Ops) a2).Key,(idx ((idx a0.Txns a1).Ops) a2).Arg,(idx ((idx a0.Txns a1).Ops) a2).Got,([]:List Int)++((idx ((idx a0.Txns a1).Ops) a2).Vals)⟩:Op)]:List Op),w64 (a2 + 1)))))) else (must (((a4.length + 1) + (a4.length + 1) / 4 + 192) * 56≤281474976710656∧a4.length + 1≤9223372036854775807) (out (some (.inl (a4++([(⟨(idx a0.Txns a1).Proc,(idx a0.Txns a1).Status,(idx a0.Txns a1).From,(idx a0.Txns a1).To,a3⟩:Txn)]:List Txn),w64 (a1 + 1))))))
noncomputable def wo (a0:History):(List Txn×Int)→Option ((List Txn×Int) ⊕ History)
 | (a2,a1)=>bif decide (a1 < (a0.Txns.length:Int)) then must (0≤a1∧a1 < (a0.Txns.length:Int)) (iter (wm a0 a2 a1) ([],0)) else (out (some (⟨([]:List ByteArray)++a0.Keys,a2⟩:History)))
noncomputable def jZ (a0:History):Option History :=
 must (((0 + a0.Keys.length) + (0 + a0.Keys.length) / 4 + 192) * 16≤281474976710656∧0 + a0.Keys.length≤9223372036854775807) (iter (wo a0) ([],0))
noncomputable def iC (a0:List Int) (a1:List Int):Int→Option (Int ⊕ Bool)
 | a2=>bif decide (a2 < (a0.length:Int)) then must (0≤a2∧a2 < (a0.length:Int)) (must (0≤a2∧a2 < (a1.length:Int)) (bif (idx a0 a2 != idx a1 a2) then out (some false) else (some (.inl (w64 (a2 + 1)))))) else (out (some true))
noncomputable def bK (a0:List Int) (a1:List Int):Option Bool :=
 bif ((a0.length:Int) != (a1.length:Int)) then some false else (iter (iC a0 a1) 0)
noncomputable def mU (a0:List ByteArray) (a1:ByteArray):Int→Option (Int ⊕ Int)
 | a2=>bif decide (a2 < (a0.length:Int)) then must (0≤a2∧a2 < (a0.length:Int)) (bif sEq (idx a0 a2) a1 then out (some a2) else (some (.inl (w64 (a2 + 1))))) else (out (some (-1)))
noncomputable def dI (a0:List ByteArray) (a1:ByteArray):Option Int :=
 iter (mU a0 a1) 0
noncomputable def ik (a1:Int) (a0:Bool):Option (Int ⊕ Bool) :=
 bif a0 then out (some false) else (some (.inl (w64 (a1 + 1))))
noncomputable def lW (a0:List ByteArray):Int→Option (Int ⊕ Bool)
 | a1=>bif decide (a1 < (a0.length:Int)) then must (0≤a1∧a1 < (a0.length:Int)) (bif decide (((idx a0 a1).size:Int) < 1) then ik a1 true else (bif decide (((idx a0 a1).size:Int) > 32) then ik a1 true else (must (0≤(0:Int)∧(0:Int)≤a1∧a1≤(a0.length:Int)) ((dI (fZ a0 (0:Int) a1) (idx a0 a1)).bind fun a2=>ik a1 (decide (a2 ≥ 0)))))) else (out (some (decide ((a0.length:Int)≤32))))
noncomputable def bW (a0:List ByteArray):Option Bool :=
 iter (lW a0) 0
noncomputable def gI (a0:Int) (a1:Bool):Option (Int ⊕ Bool) :=
 bif a1 then out (some false) else (some (.inl (w64 (a0 + 1))))
noncomputable def iZ (a0:List Txn) (a1:Int):Int→Option (Int ⊕ Bool)
 | a2=>bif decide (a2 < a1) then must (0≤a2∧a2 < (a0.length:Int)) (bif ((idx a0 a2).Proc == (idx a0 a1).Proc) then bif ((idx a0 a2).To == (-1)) then gI a2 true else (gI a2 (decide ((idx a0 a2).To ≥ (idx a0 a1).From))) else (gI a2 false)) else (out (some true))
noncomputable def ja (a0:List Txn) (a1:Int) (a2:Bool):Option Bool :=
 bif a2 then some false else (iter (iZ a0 a1) 0)
noncomputable def dh (a0:List Txn) (a1:Int) (a2:Bool):Option Bool :=
 bif a2 then some false else (bif decide (a1 > 0) then must (0≤w64 (a1 - 1)∧w64 (a1 - 1) < (a0.length:Int)) (ja a0 a1 (decide ((idx a0 a1).From≤(idx a0 (w64 (a1 - 1))).From))) else (ja a0 a1 false))
noncomputable def aI (a0:List Txn) (a1:Int):Option Bool :=
 must (0≤a1∧a1 < (a0.length:Int)) (bif decide ((idx a0 a1).Status < 1) then dh a0 a1 true else (bif decide ((idx a0 a1).Status > 3) then dh a0 a1 true else (bif decide ((idx a0 a1).From < 0) then dh a0 a1 true else (bif ((idx a0 a1).To != (-1)) then bif decide ((idx a0 a1).To≤(idx a0 a1).From) then dh a0 a1 true else (bif ((idx a0 a1).To == (-1)) then dh a0 a1 ((idx a0 a1).Status != 3) else (dh a0 a1 false)) else (bif ((idx a0 a1).To == (-1)) then dh a0 a1 ((idx a0 a1).Status != 3) else (dh a0 a1 false))))))
noncomputable def iI (a0:Call):Option Bool :=
 some (decide ((a0.Vals.length:Int)≤64))
noncomputable def jV (a0:Call):Int→Option (Int ⊕ Bool)
 | a1=>bif decide (a1 < (a0.Vals.length:Int)) then must (0≤a1∧a1 < (a0.Vals.length:Int)) (must (0≤w64 (a1 - 1)∧w64 (a1 - 1) < (a0.Vals.length:Int)) (bif decide (idx a0.Vals a1≤idx a0.Vals (w64 (a1 - 1))) then out (some false) else (some (.inl (w64 (a1 + 1)))))) else (out (iI a0))
noncomputable def fU (a0:Call) (a1:Bool):Option Bool :=
 bif a1 then some false else (bif (a0.Kind == 5) then some (decide ((a0.Vals.length:Int)≤1)) else (bif (a0.Kind == 8) then bif !a0.Got then some true else (some ((a0.Vals.length:Int) == 1)) else (bif (a0.Kind == 7) then iter (jV a0) 1 else (iI a0))))
noncomputable def fV (a0:Call) (a1:Int) (a2:Bool):Option Bool :=
 bif a2 then some false else (bif decide (a0.Kind≤4) then bif !a0.Got then bif ((a0.Vals.length:Int) == 0) then bif (a0.Kind != 4) then some true else (bif decide (a0.Arg ≥ (-1048576)) then some (decide (a0.Arg≤1048576)) else (some false)) else (some false) else (some false) else (bif (a0.Arg != 0) then fU a0 true else (bif (a0.Got != (a1 == 1)) then fU a0 true else (bif !a0.Got then fU a0 (decide ((a0.Vals.length:Int) > 0)) else (fU a0 false)))))
noncomputable def aQ (a0:Call) (a1:Int):Option Bool :=
 bif decide (a0.Kind < 1) then fV a0 a1 true else (bif decide (a0.Kind > 8) then fV a0 a1 true else (bif decide ((a0.Key.size:Int) < 1) then fV a0 a1 true else (fV a0 a1 (decide ((a0.Key.size:Int) > 32)))))
noncomputable def jB (a0:Event):Int→Option (Int ⊕ Bool)
 | a1=>bif decide (a1 < (a0.Calls.length:Int)) then must (0≤a1∧a1 < (a0.Calls.length:Int)) ((aQ (idx a0.Calls a1) a0.Kind).bind fun a2=>bif !a2 then out (some false) else (some (.inl (w64 (a1 + 1))))) else (out (some true))
noncomputable def iq (a0:Event) (b9:Bool):Option Bool :=
 bif b9 then some false else (iter (jB a0) 0)
noncomputable def bP (a0:Event):Option Bool :=
 bif decide (a0.Kind < 0) then iq a0 true else (bif decide (a0.Kind > 3) then iq a0 true else (iq a0 (decide ((a0.Calls.length:Int) > 16))))
noncomputable def lX (a0:List Event):Int→Option (Int ⊕ Int)
 | a1=>bif decide (a1 < (a0.length:Int)) then must (0≤a1∧a1 < (a0.length:Int)) ((bP (idx a0 a1)).bind fun a2=>bif !a2 then out (some 1) else (some (.inl (w64 (a1 + 1))))) else (out (some 0))
noncomputable def dR (a0:List Event):Option Int :=
 bif decide ((a0.length:Int) > 256) then some 1 else (iter (lX a0) 0)
noncomputable def iw (a0:Int):Option Int :=
 some (w64 (((w64 (a0 - 1)).tmod (4:Int)) + 1))
noncomputable def eQ (a3:List ByteArray) (a0:List Int) (a2:List (List Int)) (a1:List Int) (a4:List Int):Option (Int×aF) :=
 some (0,(⟨a3,a0,a2,a1,a4⟩:aF))
noncomputable def eT (a2:Int) (a6:List ByteArray) (a4:List Int) (a1:List Int) (a3:List Int) (a0:Int) (a5:List (List Int)) (a7:Bool):Option (Int×aF) :=
 bif a7 then must (0≤a0∧a0 < (a3.length:Int)) (must (0≤a0∧a0 < (a1.length:Int)) (bif decide (idx (a1.set a0.toNat (w64 ((idx a1 a0) + 1))) a0 > 8) then some (51,(⟨a6,a4,a5,a1.set a0.toNat (w64 ((idx a1 a0) + 1)),a3.set a0.toNat a2⟩:aF)) else (eQ a6 a4 a5 (a1.set a0.toNat (w64 ((idx a1 a0) + 1))) (a3.set a0.toNat a2)))) else (eQ a6 a4 a5 a1 a3)
noncomputable def dK (a1:Call) (a2:Int) (a7:List ByteArray) (a4:List Int) (a5:List Int) (a3:List Int) (a0:Int) (a6:List (List Int)):Option (Int×aF) :=
 bif (a1.Kind == 4) then must (0≤a0∧a0 < (a3.length:Int)) (eT a2 a7 a4 a5 a3 a0 a6 (idx a3 a0 != a2)) else (eT a2 a7 a4 a5 a3 a0 a6 false)
noncomputable def gp (a1:Call) (a2:Int) (a8:List ByteArray) (a6:List Int) (a3:List (List Int)) (a7:List Int) (a5:List Int) (a0:Int):Int→Option (Int ⊕ (Int×aF))
 | a4=>must (0≤a0∧a0 < (a3.length:Int)) (bif decide (a4 < ((idx a3 a0).length:Int)) then must (0≤a4∧a4 < ((idx a3 a0).length:Int)) (bif (idx (idx a3 a0) a4 == a1.Arg) then out (some (3,(⟨a8,a6,a3,a7,a5⟩:aF))) else (some (.inl (w64 (a4 + 1))))) else (must (((((idx a3 a0).length) + 1) + (((idx a3 a0).length) + 1) / 4 + 192) * 8≤281474976710656∧((idx a3 a0).length) + 1≤9223372036854775807) (out (dK a1 a2 a8 a6 a7 a5 a0 (a3.set a0.toNat ((idx a3 a0)++([a1.Arg]:List Int)))))))
noncomputable def gq (a1:Call) (a2:Int) (a7:List ByteArray) (a5:List Int) (a4:List (List Int)) (a6:List Int) (a3:List Int) (a0:Int) (a8:Bool):Option (Int×aF) :=
 bif a8 then iter (gp a1 a2 a7 a5 a4 a6 a3 a0) 0 else (dK a1 a2 a7 a5 a6 a3 a0 a4)
noncomputable def dB (a1:Call) (a2:Int) (a7:List ByteArray) (a3:List Int) (a5:List (List Int)) (a6:List Int) (a4:List Int) (a0:Int):Option (Int×aF) :=
 must (0≤a0∧a0 < (a3.length:Int)) ((iw a1.Kind).bind fun a8=>bif (idx a3 a0 != a8) then some (50,(⟨a7,a3,a5,a6,a4⟩:aF)) else (bif (a1.Kind == 2) then gq a1 a2 a7 a3 a5 a6 a4 a0 true else (gq a1 a2 a7 a3 a5 a6 a4 a0 (a1.Kind == 3))))
noncomputable def gu (a0:aF) (a1:Call) (a2:Int) (a3:List Int):Option (Int×aF) :=
 must (((a0.wrote.length + 1) + (a0.wrote.length + 1) / 4 + 192) * 24≤281474976710656∧a0.wrote.length + 1≤9223372036854775807) (must (((a0.incs.length + 1) + (a0.incs.length + 1) / 4 + 192) * 8≤281474976710656∧a0.incs.length + 1≤9223372036854775807) (must (((a0.last_.length + 1) + (a0.last_.length + 1) / 4 + 192) * 8≤281474976710656∧a0.last_.length + 1≤9223372036854775807) (dB a1 a2 (a0.keys++([a1.Key]:List ByteArray)) a3 (a0.wrote++([([]:List Int)]:List (List Int))) (a0.incs++([0]:List Int)) (a0.last_++([(-1)]:List Int)) (a0.keys.length:Int))))
noncomputable def gy (a0:aF) (a1:Call) (a2:Int):Option (Int×aF) :=
 (iw a1.Kind).bind fun a3=>must (((a0.types.length + 1) + (a0.types.length + 1) / 4 + 192) * 8≤281474976710656∧a0.types.length + 1≤9223372036854775807) (gu a0 a1 a2 (a0.types++([a3]:List Int)))
noncomputable def ag (a0:aF) (a1:Call) (a2:Int):Option (Int×aF) :=
 (dI a0.keys a1.Key).bind fun y5=>bif decide (y5 < 0) then bif decide ((a0.keys.length:Int) ≥ 32) then some (2,a0) else (must (((a0.keys.length + 1) + (a0.keys.length + 1) / 4 + 192) * 16≤281474976710656∧a0.keys.length + 1≤9223372036854775807) (gy a0 a1 a2)) else (dB a1 a2 a0.keys a0.types a0.wrote a0.incs a0.last_ y5)
noncomputable def lY (a0:History) (a2:Int) (a3:List Call) (a1:Int):Option ((List Call×Int) ⊕ ((List ByteArray×List Int×(List (List Int))×List Int×List Int×Int) ⊕ Int)) :=
 some (.inl (a3++([(⟨(idx ((idx a0.Txns a2).Ops) a1).Kind,idx a0.Keys ((idx ((idx a0.Txns a2).Ops) a1).Key),(idx ((idx a0.Txns a2).Ops) a1).Arg,(idx ((idx a0.Txns a2).Ops) a1).Got,(idx ((idx a0.Txns a2).Ops) a1).Vals⟩:Call)]:List Call),w64 (a1 + 1)))
noncomputable def jC (a0:History) (a3:Int) (a1:List Call) (a2:Int) (a4:Bool):Option ((List Call×Int) ⊕ ((List ByteArray×List Int×(List (List Int))×List Int×List Int×Int) ⊕ Int)) :=
 bif a4 then out (out (some 1)) else (must (0≤(idx ((idx a0.Txns a3).Ops) a2).Key∧(idx ((idx a0.Txns a3).Ops) a2).Key < (a0.Keys.length:Int)) (must (((a1.length + 1) + (a1.length + 1) / 4 + 192) * 64≤281474976710656∧a1.length + 1≤9223372036854775807) (lY a0 a3 a1 a2)))
noncomputable def eB (a6:Int) (a2:List Call):(List ByteArray×List Int×(List (List Int))×List Int×List Int×Int)→Option ((List ByteArray×List Int×(List (List Int))×List Int×List Int×Int) ⊕ ((List Call×Int) ⊕ ((List ByteArray×List Int×(List (List Int))×List Int×List Int×Int) ⊕ Int)))
 | (a5,a8,a7,a3,a4,a1)=>bif decide (a1 < (a2.length:Int)) then must (0≤a1∧a1 < (a2.length:Int)) ((ag (⟨a5,a8,a7,a3,a4⟩:aF) (idx a2 a1) a6).bind fun a0=>bif (a0.1 != 0) then out (out (out (some 1))) else (some (.inl (a0.2.keys,a0.2.types,a0.2.wrote,a0.2.incs,a0.2.last_,w64 (a1 + 1))))) else (out (out (some (.inl (a5,a8,a7,a3,a4,w64 (a6 + 1))))))
noncomputable def eD (a0:History) (a5:List ByteArray) (a7:List Int) (a9:List (List Int)) (a6:List Int) (a4:List Int) (a1:Int):(List Call×Int)→Option ((List Call×Int) ⊕ ((List ByteArray×List Int×(List (List Int))×List Int×List Int×Int) ⊕ Int))
 | (a3,a2)=>bif decide (a2 < (((idx a0.Txns a1).Ops).length:Int)) then must (0≤a2∧a2 < (((idx a0.Txns a1).Ops).length:Int)) (bif decide ((idx ((idx a0.Txns a1).Ops) a2).Key < 0) then jC a0 a1 a3 a2 true else (jC a0 a1 a3 a2 (decide ((idx ((idx a0.Txns a1).Ops) a2).Key ≥ (a0.Keys.length:Int))))) else ((dR ([(⟨0,(idx a0.Txns a1).Status,a3⟩:Event)]:List Event)).bind fun a8=>bif (a8 != 0) then out (out (some 1)) else (iter (eB a1 a3) (a5,a7,a9,a6,a4,0)))
noncomputable def iy (a0:History) (a3:List ByteArray) (a6:List Int) (a7:List (List Int)) (a5:List Int) (a1:List Int) (a2:Int) (a4:Bool):Option ((List ByteArray×List Int×(List (List Int))×List Int×List Int×Int) ⊕ Int) :=
 bif a4 then out (some 1) else (iter (eD a0 a3 a6 a7 a5 a1 a2) ([],0))
noncomputable def iA (a0:History):(List ByteArray×List Int×(List (List Int))×List Int×List Int×Int)→Option ((List ByteArray×List Int×(List (List Int))×List Int×List Int×Int) ⊕ Int)
 | (a3,a5,a6,a4,a2,a1)=>bif decide (a1 < (a0.Txns.length:Int)) then must (0≤a1∧a1 < (a0.Txns.length:Int)) ((aI a0.Txns a1).bind fun a7=>bif !a7 then iy a0 a3 a5 a6 a4 a2 a1 true else (iy a0 a3 a5 a6 a4 a2 a1 (decide ((((idx a0.Txns a1).Ops).length:Int) > 16)))) else (out (some 0))
noncomputable def fF (a0:History) (a1:Bool):Option Int :=
 bif a1 then some 1 else (iter (iA a0) ([],[],[],[],[],0))
noncomputable def ak (a0:History):Option Int :=
 (bW a0.Keys).bind fun a1=>bif !a1 then fF a0 true else (fF a0 (decide ((a0.Txns.length:Int) > 32)))
noncomputable def eF (a0:Int):Option Bool :=
 some (decide (a0≤4))
noncomputable def dD (a0:Bool):Option Int :=
 bif !a0 then some 80 else (some 0)
noncomputable def lZ (a0:Int) (a1:Bool):Option ((Bool×Int) ⊕ Int) :=
 some (.inl (a1,w64 (a0 + 1)))
noncomputable def jD (a1:List Int):(Bool×Int)→Option ((Bool×Int) ⊕ Int)
 | (a2,a0)=>bif decide (a0 < (a1.length:Int)) then bif a2 then must (0≤w64 (a0 - 1)∧w64 (a0 - 1) < (a1.length:Int)) (must (0≤a0∧a0 < (a1.length:Int)) (lZ a0 (decide (idx a1 (w64 (a0 - 1)) < idx a1 a0)))) else (lZ a0 false) else (out (dD a2))
noncomputable def dE (a0:Int) (a1:List Int) (b5:Bool):Option Int :=
 bif b5 then some 1 else (bif (a0 == 1) then dD (decide ((a1.length:Int)≤1)) else (bif (a0 == 4) then dD ((a1.length:Int) == 1) else (bif (a0 == 3) then iter (jD a1) (decide ((a1.length:Int)≤64),1) else (dD (decide ((a1.length:Int)≤64))))))
noncomputable def aH (a0:Int) (a1:List Int):Option Int :=
 bif decide (a0 < 1) then dE a0 a1 true else (dE a0 a1 (decide (a0 > 4)))
noncomputable def oq (a0:List Int) (a1:Int):Int→Option (Int ⊕ Bool)
 | a2=>bif decide (a2 < (a0.length:Int)) then must (0≤a2∧a2 < (a0.length:Int)) (bif (idx a0 a2 == a1) then out (some true) else (some (.inl (w64 (a2 + 1))))) else (out (some false))
noncomputable def eG (a0:List Int) (a1:Int):Option Bool :=
 iter (oq a0 a1) 0
noncomputable def oP (a2:List Int):(Int×Int)→Option ((Int×Int) ⊕ (List Int×Bool))
 | (a1,a0)=>bif decide (a0 < (a2.length:Int)) then must (0≤a0∧a0 < (a2.length:Int)) (some (.inl (w64 (a1 - (idx a2 a0)),w64 (a0 + 1)))) else (out (some (([a1]:List Int),true)))
noncomputable def jb (a1:List Int) (a2:List Int):Int→Option (Int ⊕ (List Int×Bool))
 | a0=>bif decide (a0 < (a2.length:Int)) then must (0≤w64 ((w64 ((a1.length:Int) - (a2.length:Int))) + a0)∧w64 ((w64 ((a1.length:Int) - (a2.length:Int))) + a0) < (a1.length:Int)) (must (0≤a0∧a0 < (a2.length:Int)) (bif (idx a1 (w64 ((w64 ((a1.length:Int) - (a2.length:Int))) + a0)) != idx a2 a0) then out (some (([]:List Int),false)) else (some (.inl (w64 (a0 + 1)))))) else (must (0≤(0:Int)∧(0:Int)≤(w64 ((a1.length:Int) - (a2.length:Int)))∧(w64 ((a1.length:Int) - (a2.length:Int)))≤(a1.length:Int)) (must (((0 + ((fZ a1 (0:Int) (w64 ((a1.length:Int) - (a2.length:Int)))).length)) + (0 + ((fZ a1 (0:Int) (w64 ((a1.length:Int) - (a2.length:Int)))).length)) / 4 + 192) * 8≤281474976710656∧0 + ((fZ a1 (0:Int) (w64 ((a1.length:Int) - (a2.length:Int)))).length)≤9223372036854775807) (out (some (([]:List Int)++(fZ a1 (0:Int) (w64 ((a1.length:Int) - (a2.length:Int)))),true)))))
noncomputable def gJ (a0:Int) (a1:Bool):Option (Int ⊕ (List Int×Bool)) :=
 bif a1 then out (some (([]:List Int),false)) else (some (.inl (w64 (a0 + 1))))
noncomputable def kZ (a0:Int) (a1:List Int):Option ((List Int×Int) ⊕ (Int ⊕ (List Int×Bool))) :=
 some (.inl (a1,w64 (a0 + 1)))
noncomputable def jc (a1:List Int) (a2:List Int):(List Int×Int)→Option ((List Int×Int) ⊕ (Int ⊕ (List Int×Bool)))
 | (a3,a0)=>bif decide (a0 < (a1.length:Int)) then must (0≤a0∧a0 < (a1.length:Int)) ((eG a2 (idx a1 a0)).bind fun a4=>bif !a4 then must (((a3.length + 1) + (a3.length + 1) / 4 + 192) * 8≤281474976710656∧a3.length + 1≤9223372036854775807) (kZ a0 (a3++([idx a1 a0]:List Int))) else (kZ a0 a3)) else (out (out (some (a3,true))))
noncomputable def jd (a1:List Int) (a2:List Int):Int→Option (Int ⊕ (List Int×Bool))
 | a0=>bif decide (a0 < (a2.length:Int)) then must (0≤a0∧a0 < (a2.length:Int)) ((eG a1 (idx a2 a0)).bind fun a3=>bif !a3 then gJ a0 true else (must (0≤(0:Int)∧(0:Int)≤a0∧a0≤(a2.length:Int)) ((eG (fZ a2 (0:Int) a0) (idx a2 a0)).bind fun a4=>gJ a0 a4))) else (iter (jc a1 a2) ([],0))
noncomputable def eZ (a0:Int) (a1:List Int) (a2:List Int) (b9:Bool):Option (List Int×Bool) :=
 bif b9 then some (([]:List Int),false) else (bif (a0 == 1) then bif ((a1.length:Int) == 1) then must (0≤(0:Int)∧(0:Int) < (a1.length:Int)) (must (0≤w64 ((a2.length:Int) - 1)∧w64 ((a2.length:Int) - 1) < (a2.length:Int)) (some (([]:List Int),(idx a1 (0:Int) == idx a2 (w64 ((a2.length:Int) - 1)))))) else (some (([]:List Int),false)) else (bif (a0 == 4) then must (0≤(0:Int)∧(0:Int) < (a1.length:Int)) (iter (oP a2) (idx a1 (0:Int),0)) else (bif (a0 == 2) then bif decide ((a2.length:Int) > (a1.length:Int)) then some (([]:List Int),false) else (iter (jb a1 a2) 0) else (iter (jd a1 a2) 0))))
noncomputable def aC (a0:Int) (a1:List Int) (a2:List Int):Option (List Int×Bool) :=
 (aH a0 a1).bind fun a3=>bif (a3 != 0) then eZ a0 a1 a2 true else (eZ a0 a1 a2 ((a2.length:Int) == 0))
noncomputable def fO (a1:Int) (a0:List Ask) (a2:List fE):Option ((List Ask×List fE×Int) ⊕ (List Ask×List fE)) :=
 some (.inl (a0,a2,w64 (a1 + 1)))
noncomputable def lF (a1:Int) (a0:List Int):Option ((List Int×Int) ⊕ ((List Ask×List fE×Int) ⊕ (List Ask×List fE))) :=
 some (.inl (a0,w64 (a1 + 1)))
noncomputable def lG (a0:History) (a1:Int) (a2:List Int) (a3:Int) (a4:Bool):Option ((List Int×Int) ⊕ ((List Ask×List fE×Int) ⊕ (List Ask×List fE))) :=
 bif a4 then must (0≤a3∧a3 < (((idx a0.Txns a1).Ops).length:Int)) (must (((a2.length + 1) + (a2.length + 1) / 4 + 192) * 8≤281474976710656∧a2.length + 1≤9223372036854775807) (lF a3 (a2++([(idx ((idx a0.Txns a1).Ops) a3).Arg]:List Int)))) else (lF a3 a2)
noncomputable def lH (a0:History) (a1:Int) (a2:List Ask) (a4:List fE) (a3:Int) (a5:List Int):Option ((List Int×Int) ⊕ ((List Ask×List fE×Int) ⊕ (List Ask×List fE))) :=
 must (((a2.length + 1) + (a2.length + 1) / 4 + 192) * 48≤281474976710656∧a2.length + 1≤9223372036854775807) (out (fO a3 (a2++([(⟨a1,a3,(idx ((idx a0.Txns a1).Ops) a3).Key,a5⟩:Ask)]:List Ask)) a4))
noncomputable def ou (a0:History) (a1:Int) (a5:List Ask) (a3:List fE) (a2:Int):(List Int×Int)→Option ((List Int×Int) ⊕ ((List Ask×List fE×Int) ⊕ (List Ask×List fE)))
 | (a6,a4)=>bif decide (a4 < a2) then must (0≤a4∧a4 < (((idx a0.Txns a1).Ops).length:Int)) (bif ((idx ((idx a0.Txns a1).Ops) a4).Key == (idx ((idx a0.Txns a1).Ops) a2).Key) then (eF ((idx ((idx a0.Txns a1).Ops) a4).Kind)).bind fun a8=>lG a0 a1 a6 a4 a8 else (lG a0 a1 a6 a4 false)) else (must (((0 + (((idx ((idx a0.Txns a1).Ops) a2).Vals).length)) + (0 + (((idx ((idx a0.Txns a1).Ops) a2).Vals).length)) / 4 + 192) * 8≤281474976710656∧0 + (((idx ((idx a0.Txns a1).Ops) a2).Vals).length)≤9223372036854775807) (bif decide ((a6.length:Int) > 0) then (iw ((idx ((idx a0.Txns a1).Ops) a2).Kind)).bind fun a9=>(aC a9 ((idx ((idx a0.Txns a1).Ops) a2).Vals) a6).bind fun a7=>bif !a7.2 then must (((a3.length + 1) + (a3.length + 1) / 4 + 192) * 16≤281474976710656∧a3.length + 1≤9223372036854775807) (out (fO a2 a5 (a3++([(⟨a1,a2⟩:fE)]:List fE)))) else (bif ((idx ((idx a0.Txns a1).Ops) a2).Kind == 5) then out (fO a2 a5 a3) else (lH a0 a1 a5 a3 a2 a7.1)) else (lH a0 a1 a5 a3 a2 (([]:List Int)++((idx ((idx a0.Txns a1).Ops) a2).Vals)))))
noncomputable def ow (a0:History) (a1:Int):(List Ask×List fE×Int)→Option ((List Ask×List fE×Int) ⊕ (List Ask×List fE))
 | (a4,a3,a2)=>bif decide (a2 < (((idx a0.Txns a1).Ops).length:Int)) then must (0≤a2∧a2 < (((idx a0.Txns a1).Ops).length:Int)) ((eF ((idx ((idx a0.Txns a1).Ops) a2).Kind)).bind fun a5=>bif a5 then fO a2 a4 a3 else (iter (ou a0 a1 a4 a3 a2) ([],0))) else (out (some (a4,a3)))
noncomputable def aO (a0:History) (a1:Int):Option (List Ask×List fE) :=
 must (0≤a1∧a1 < (a0.Txns.length:Int)) (bif ((idx a0.Txns a1).Status != 1) then some (([]:List Ask),([]:List fE)) else (iter (ow a0 a1) ([],[],0)))
noncomputable def nI (a0:History):(List Ask×List fE×Int)→Option ((List Ask×List fE×Int) ⊕ (List Ask×List fE))
 | (a2,a3,a4)=>bif decide (a4 < (a0.Txns.length:Int)) then (aO a0 a4).bind fun a1=>must (((a2.length + a1.1.length) + (a2.length + a1.1.length) / 4 + 192) * 48≤281474976710656∧a2.length + a1.1.length≤9223372036854775807) (must (((a3.length + a1.2.length) + (a3.length + a1.2.length) / 4 + 192) * 16≤281474976710656∧a3.length + a1.2.length≤9223372036854775807) (some (.inl (a2++a1.1,a3++a1.2,w64 (a4 + 1))))) else (out (some (a2,a3)))
noncomputable def fB (a0:History):Option (List Ask×List fE) :=
 iter (nI a0) ([],[],0)
noncomputable def fG (a1:Int) (a0:Bool):Option (Int ⊕ Bool) :=
 bif a0 then out (some true) else (some (.inl (w64 (a1 + 1))))
noncomputable def ma (a1:Ask) (a2:List Ask×List fE):Int→Option (Int ⊕ Bool)
 | a0=>bif decide (a0 < (a2.1.length:Int)) then must (0≤a0∧a0 < (a2.1.length:Int)) (bif ((idx a2.1 a0).Txn == a1.Txn) then bif ((idx a2.1 a0).Place == a1.Place) then bif ((idx a2.1 a0).Key == a1.Key) then (bK ((idx a2.1 a0).Base) a1.Base).bind fun a3=>fG a0 a3 else (fG a0 false) else (fG a0 false) else (fG a0 false)) else (out (some false))
noncomputable def bI (a0:History) (a1:Ask):Option Bool :=
 (ak a0).bind fun a2=>bif (a2 != 0) then some false else ((fB a0).bind fun a3=>iter (ma a1 a3) 0)
noncomputable def iO (a0:History) (a1:Ask):Option Int :=
 must (0≤a1.Txn∧a1.Txn < (a0.Txns.length:Int)) (must (0≤a1.Place∧a1.Place < (((idx a0.Txns a1.Txn).Ops).length:Int)) ((iw ((idx ((idx a0.Txns a1.Txn).Ops) a1.Place).Kind)).bind fun a2=>some a2))
noncomputable def jE (a0:Int) (a1:List Int):Option ((List Int×Int) ⊕ (List Int)) :=
 some (.inl (a1,w64 (a0 + 1)))
noncomputable def jF (a0:History) (a1:Int) (a2:List Int) (a3:Int) (a4:Bool):Option ((List Int×Int) ⊕ (List Int)) :=
 bif a4 then must (((a2.length + 1) + (a2.length + 1) / 4 + 192) * 8≤281474976710656∧a2.length + 1≤9223372036854775807) (jE a3 (a2++([(idx ((idx a0.Txns a1).Ops) a3).Arg]:List Int))) else (jE a3 a2)
noncomputable def mf (a0:History) (a1:Int) (a2:Int):(List Int×Int)→Option ((List Int×Int) ⊕ (List Int))
 | (a4,a3)=>must (0≤a1∧a1 < (a0.Txns.length:Int)) (bif decide (a3 < (((idx a0.Txns a1).Ops).length:Int)) then must (0≤a3∧a3 < (((idx a0.Txns a1).Ops).length:Int)) (bif ((idx ((idx a0.Txns a1).Ops) a3).Key == a2) then (eF ((idx ((idx a0.Txns a1).Ops) a3).Kind)).bind fun a5=>jF a0 a1 a4 a3 a5 else (jF a0 a1 a4 a3 false)) else (out (some a4)))
noncomputable def aL (a0:History) (a1:Int) (a2:Int):Option (List Int) :=
 iter (mf a0 a1 a2) ([],0)
noncomputable def je (a1:Int) (a0:List Int):Option ((List Int×Int) ⊕ (List Int)) :=
 some (.inl (a0,w64 (a1 + 1)))
noncomputable def gL (a0:List Int) (a1:Int) (a2:Bool):Option ((List Int×Int) ⊕ (List Int)) :=
 bif a2 then must (((a0.length + 1) + (a0.length + 1) / 4 + 192) * 8≤281474976710656∧a0.length + 1≤9223372036854775807) (je a1 (a0++([a1]:List Int))) else (je a1 a0)
noncomputable def lc (a0:History) (a1:Ask):(List Int×Int)→Option ((List Int×Int) ⊕ (List Int))
 | (a3,a2)=>bif decide (a2 < (a0.Txns.length:Int)) then bif (a2 != a1.Txn) then must (0≤a2∧a2 < (a0.Txns.length:Int)) (bif ((idx a0.Txns a2).Status != 2) then (aL a0 a2 a1.Key).bind fun a4=>gL a3 a2 (decide ((a4.length:Int) > 0)) else (gL a3 a2 false)) else (gL a3 a2 false) else (out (some a3))
noncomputable def aM (a0:History) (a1:Ask):Option (List Int) :=
 iter (lc a0 a1) ([],0)
noncomputable def nJ (y7:List Int):(Int×Int)→Option ((Int×Int) ⊕ Int)
 | (a1,a0)=>bif decide (a0 < (y7.length:Int)) then must (0≤a0∧a0 < (y7.length:Int)) (some (.inl (w64 (a1 + (idx y7 a0)),w64 (a0 + 1)))) else (out (some a1))
noncomputable def fC (a0:History) (a1:Int) (a2:Int):Option Int :=
 (aL a0 a1 a2).bind fun y7=>iter (nJ y7) (0,0)
noncomputable def jf (a1:Int) (a0:Int):Option ((Int×Int) ⊕ ((List Bool×Int) ⊕ (List Int))) :=
 some (.inl (a0,w64 (a1 + 1)))
noncomputable def jg (a0:Int) (a1:List Bool):Option ((List Bool×Int) ⊕ ((Int×Int) ⊕ ((List Bool×Int) ⊕ (List Int)))) :=
 some (.inl (a1,w64 (a0 + 1)))
noncomputable def jh (a2:Int) (a1:List Bool) (a0:Int) (a3:Bool):Option ((List Bool×Int) ⊕ ((Int×Int) ⊕ ((List Bool×Int) ⊕ (List Int)))) :=
 bif a3 then must (0≤a0∧a0 < (a1.length:Int)) (bif idx a1 a0 then jg a0 (a1.set a0.toNat true) else (must (0≤a0∧a0 < (far:Int)) (jg a0 (a1.set a0.toNat (wG .i64 (ru .i64 a2 a0) 1 == 1))))) else (out (out (some (.inl (a1,w64 (a2 + 1))))))
noncomputable def lg (a1:Ask) (y9:List Int) (a2:Int) (a4:Int):(List Bool×Int)→Option ((List Bool×Int) ⊕ ((Int×Int) ⊕ ((List Bool×Int) ⊕ (List Int))))
 | (a3,a0)=>bif decide (a0 < (y9.length:Int)) then must (0≤(0:Int)∧(0:Int) < (a1.Base.length:Int)) (jh a2 a3 a0 (a4 == idx a1.Base (0:Int))) else (jh a2 a3 a0 false)
noncomputable def lh (a0:History) (a1:Ask) (y9:List Int) (a5:List Bool) (a4:Int):(Int×Int)→Option ((Int×Int) ⊕ ((List Bool×Int) ⊕ (List Int)))
 | (a3,a2)=>bif decide (a2 < (y9.length:Int)) then must (0≤a2∧a2 < (far:Int)) (bif (wG .i64 (ru .i64 a4 a2) 1 == 1) then must (0≤a2∧a2 < (y9.length:Int)) ((fC a0 (idx y9 a2) a1.Key).bind fun a6=>jf a2 (w64 (a3 + a6))) else (jf a2 a3)) else (iter (lg a1 y9 a4 a3) (a5,0))
noncomputable def ji (a1:Int) (a0:List Int):Option ((List Int×Int) ⊕ ((List Bool×Int) ⊕ (List Int))) :=
 some (.inl (a0,w64 (a1 + 1)))
noncomputable def lm (y9:List Int) (a2:List Bool):(List Int×Int)→Option ((List Int×Int) ⊕ ((List Bool×Int) ⊕ (List Int)))
 | (a1,a0)=>bif decide (a0 < (y9.length:Int)) then must (0≤a0∧a0 < (a2.length:Int)) (bif idx a2 a0 then must (0≤a0∧a0 < (y9.length:Int)) (must (((a1.length + 1) + (a1.length + 1) / 4 + 192) * 8≤281474976710656∧a1.length + 1≤9223372036854775807) (ji a0 (a1++([idx y9 a0]:List Int)))) else (ji a0 a1)) else (out (out (some a1)))
noncomputable def lq (a0:History) (a1:Ask) (y9:List Int):(List Bool×Int)→Option ((List Bool×Int) ⊕ (List Int))
 | (a3,a2)=>must (0≤(y9.length:Int)∧(y9.length:Int) < (far:Int)) (bif decide (a2 < zh .i64 1 (y9.length:Int)) then iter (lh a0 a1 y9 a3 a2) (0,0) else (iter (lm y9 a3) ([],0)))
noncomputable def aA (a0:History) (a1:Ask):Option (List Int) :=
 (aM a0 a1).bind fun y9=>must (0≤(y9.length:Int)∧(y9.length:Int)≤9223372036854775807∧(1:Int) * (y9.length:Int)≤281474976710656) (iter (lq a0 a1 y9) (List.replicate (y9.length:Int).toNat (default:Bool),1))
noncomputable def iT (a0:List Int) (a1:List Int):Option Bool :=
 bif decide ((a1.length:Int) > (a0.length:Int)) then some false else (must (0≤(0:Int)∧(0:Int)≤(a1.length:Int)∧(a1.length:Int)≤(a0.length:Int)) ((bK (fZ a0 (0:Int) (a1.length:Int)) a1).bind fun a2=>some a2))
noncomputable def jW (a0:Int) (a1:Int):Option ((Int×Int) ⊕ ((List Int×List Int) ⊕ (List Int×Bool))) :=
 some (.inl (a1,w64 (a0 + 1)))
noncomputable def mV (a0:History) (a1:Ask) (a2:List Int) (a4:List Int) (a5:Int):Int→Option (Int ⊕ ((Int×Int) ⊕ ((List Int×List Int) ⊕ (List Int×Bool))))
 | a3=>bif decide (a3 < (a2.length:Int)) then must (0≤a3∧a3 < (a2.length:Int)) (bif (idx a2 a3 == a5) then out (out (out (some (([]:List Int),false)))) else (some (.inl (w64 (a3 + 1))))) else (must (((a2.length + 1) + (a2.length + 1) / 4 + 192) * 8≤281474976710656∧a2.length + 1≤9223372036854775807) ((aL a0 a5 a1.Key).bind fun a6=>must (0≤(a6.length:Int)∧(a6.length:Int)≤(a4.length:Int)∧(a4.length:Int)≤(a4.length:Int)) (out (out (some (.inl (a2++([a5]:List Int),fZ a4 (a6.length:Int) (a4.length:Int))))))))
noncomputable def mW (a0:History) (a1:Ask) (y9:List Int) (a6:List Int) (a4:List Int):(Int×Int)→Option ((Int×Int) ⊕ ((List Int×List Int) ⊕ (List Int×Bool)))
 | (a3,a2)=>bif decide (a2 < (y9.length:Int)) then must (0≤a2∧a2 < (y9.length:Int)) ((aL a0 (idx y9 a2) a1.Key).bind fun a5=>(iT a4 a5).bind fun a7=>bif a7 then jW a2 (idx y9 a2) else (jW a2 a3)) else (bif decide (a3 < 0) then out (out (some (([]:List Int),false))) else (iter (mV a0 a1 a6 a4 a3) 0))
noncomputable def iJ (a0:History) (a1:Ask) (y9:List Int):(List Int×List Int)→Option ((List Int×List Int) ⊕ (List Int×Bool))
 | (a2,a3)=>bif decide ((a3.length:Int) > 0) then iter (mW a0 a1 y9 a2 a3) ((-1),0) else (out (some (a2,true)))
noncomputable def aW (a0:History) (a1:Ask):Option (List Int×Bool) :=
 (aM a0 a1).bind fun y9=>iter (iJ a0 a1 y9) ([],a1.Base)
noncomputable def mg (a0:List Int) (a1:Int):Int→Option (Int ⊕ Bool)
 | a2=>bif decide (a2 < (a0.length:Int)) then must (0≤a2∧a2 < (a0.length:Int)) (bif (idx a0 a2 == a1) then out (some true) else (some (.inl (w64 (a2 + 1))))) else (out (some false))
noncomputable def dS (a0:List Int) (a1:Int):Option Bool :=
 iter (mg a0 a1) 0
noncomputable def kE (a0:Int) (a1:List Int) (a2:Int):Option ((List Int×Int×Int) ⊕ (List Int×Bool)) :=
 some (.inl (a1,a2,w64 (a0 + 1)))
noncomputable def kF (a0:Int) (a1:Int):Option ((Int×Int) ⊕ ((List Int×Int×Int) ⊕ (List Int×Bool))) :=
 some (.inl (a1,w64 (a0 + 1)))
noncomputable def kG (y9:List Int) (a0:List Int) (a2:Int) (a1:Int) (a3:Int) (a4:Bool):Option ((Int×Int) ⊕ ((List Int×Int×Int) ⊕ (List Int×Bool))) :=
 bif a4 then out (out (some (([]:List Int),false))) else (bif decide (a3 > 0) then must (((a0.length + 1) + (a0.length + 1) / 4 + 192) * 8≤281474976710656∧a0.length + 1≤9223372036854775807) (out (kE a1 (a0++([idx y9 a1]:List Int)) (w64 (a2 + a3)))) else (out (kE a1 a0 a2)))
noncomputable def nK (a1:Ask) (y9:List Int) (a6:List Int) (a4:Int) (a5:Int) (a3:List Int):(Int×Int)→Option ((Int×Int) ⊕ ((List Int×Int×Int) ⊕ (List Int×Bool)))
 | (a2,a0)=>bif decide (a0 < (a3.length:Int)) then must (0≤a0∧a0 < (a3.length:Int)) ((dS a1.Base (idx a3 a0)).bind fun a7=>bif a7 then kF a0 (w64 (a2 + 1)) else (kF a0 a2)) else (bif decide (a2 > 0) then kG y9 a6 a4 a5 a2 (decide (a2 < (a3.length:Int))) else (kG y9 a6 a4 a5 a2 false))
noncomputable def nL (a0:History) (a1:Ask) (y9:List Int):(List Int×Int×Int)→Option ((List Int×Int×Int) ⊕ (List Int×Bool))
 | (a4,a3,a2)=>bif decide (a2 < (y9.length:Int)) then must (0≤a2∧a2 < (y9.length:Int)) ((aL a0 (idx y9 a2) a1.Key).bind fun a5=>iter (nK a1 y9 a4 a3 a2 a5) (0,0)) else (bif (a3 != (a1.Base.length:Int)) then out (some (([]:List Int),false)) else (out (some (a4,true))))
noncomputable def aS (a0:History) (a1:Ask):Option (List Int×Bool) :=
 (aM a0 a1).bind fun y9=>iter (nL a0 a1 y9) ([],0,0)
noncomputable def lI (a0:List Int):Option (List Int) :=
 some a0
noncomputable def fP (a0:List Int):Option (List Int) :=
 some a0
noncomputable def lJ (a0:Int) (a1:List Int):Option ((List Int×Int) ⊕ (List Int)) :=
 some (.inl (a1,w64 (a0 + 1)))
noncomputable def lK (a0:History) (a1:Ask) (a5:List Int):(List Int×Int)→Option ((List Int×Int) ⊕ (List Int))
 | (a3,a2)=>bif decide (a2 < (a5.length:Int)) then must (0≤a2∧a2 < (a5.length:Int)) ((aL a0 (idx a5 a2) a1.Key).bind fun a4=>must (0≤w64 ((a4.length:Int) - 1)∧w64 ((a4.length:Int) - 1) < (a4.length:Int)) (must (0≤(0:Int)∧(0:Int) < (a1.Base.length:Int)) (bif (idx a4 (w64 ((a4.length:Int) - 1)) == idx a1.Base (0:Int)) then must (((a3.length + 1) + (a3.length + 1) / 4 + 192) * 8≤281474976710656∧a3.length + 1≤9223372036854775807) (lJ a2 (a3++([idx a5 a2]:List Int))) else (lJ a2 a3)))) else (out (fP a3))
noncomputable def aX (a0:History) (a1:Ask):Option (List Int) :=
 (iO a0 a1).bind fun y7=>bif (y7 == 4) then (aA a0 a1).bind fun a3=>must (0≤(0:Int)∧(0:Int) < (a1.Base.length:Int)) (bif (idx a1.Base (0:Int) == 0) then must (((1 + a3.length) + (1 + a3.length) / 4 + 192) * 8≤281474976710656∧1 + a3.length≤9223372036854775807) (lI (([(-1)]:List Int)++a3)) else (lI a3)) else (bif ((a1.Base.length:Int) == 0) then some ([(-1)]:List Int) else (bif (y7 == 1) then (aM a0 a1).bind fun a5=>iter (lK a0 a1 a5) ([],0) else (bif (y7 == 2) then (aW a0 a1).bind fun a2=>bif a2.2 then must (0≤w64 ((a2.1.length:Int) - 1)∧w64 ((a2.1.length:Int) - 1) < (a2.1.length:Int)) (must (((0 + 1) + (0 + 1) / 4 + 192) * 8≤281474976710656∧0 + 1≤9223372036854775807) (fP (([]:List Int)++([idx a2.1 (w64 ((a2.1.length:Int) - 1))]:List Int)))) else (fP []) else ((aS a0 a1).bind fun a4=>bif a4.2 then fP a4.1 else (fP [])))))
noncomputable def dO (a0:History) (a1:Ask):Option (List Int×Int) :=
 (bI a0 a1).bind fun a2=>bif !a2 then some (([]:List Int),1) else ((aX a0 a1).bind fun a3=>some (a3,0))
noncomputable def jG (a0:History) (a1:Ask):Option (List Int×Bool×Int) :=
 (jy a0 a1).bind fun a2=>bif (a2 != 0) then some (([]:List Int),false,a2) else ((gT a0 a1).bind fun a3=>some (a3.1,a3.2,0))
noncomputable def iP (a0:History) (a1:Ask):Option (List Int×Bool) :=
 (iO a0 a1).bind fun a3=>bif (a3 == 2) then (aW a0 a1).bind fun a4=>some (a4.1,a4.2) else (bif (a3 == 3) then (aS a0 a1).bind fun a2=>some (a2.1,a2.2) else (some (([]:List Int),false)))
noncomputable def eX (a0:History) (a1:Ask):Option (List Int×Bool×Int) :=
 (bI a0 a1).bind fun a3=>bif !a3 then some (([]:List Int),false,1) else ((iP a0 a1).bind fun a2=>some (a2.1,a2.2,0))
noncomputable def kg (a0:List Int) (a1:List Int):Int→Option (Int ⊕ Bool)
 | a2=>bif decide (a2 < (a0.length:Int)) then must (0≤a2∧a2 < (a0.length:Int)) (must (0≤a2∧a2 < (a1.length:Int)) (bif (idx a0 a2 != idx a1 a2) then out (some false) else (some (.inl (w64 (a2 + 1)))))) else (out (some true))
noncomputable def bY (a0:List Int) (a1:List Int):Option Bool :=
 bif ((a0.length:Int) != (a1.length:Int)) then some false else (iter (kg a0 a1) 0)
noncomputable def iK (a1:Int) (a0:Bool):Option (Int ⊕ (Int ⊕ (Int ⊕ Bool))) :=
 bif a0 then out (out (out (some false))) else (some (.inl (w64 (a1 + 1))))
noncomputable def wu (a0:History) (a1:History) (a3:Int) (a2:Int):Option (Int ⊕ (Int ⊕ (Int ⊕ Bool))) :=
 bif ((idx ((idx a0.Txns a3).Ops) a2).Kind != (idx ((idx a1.Txns a3).Ops) a2).Kind) then iK a2 true else (bif ((idx ((idx a0.Txns a3).Ops) a2).Key != (idx ((idx a1.Txns a3).Ops) a2).Key) then iK a2 true else (bif ((idx ((idx a0.Txns a3).Ops) a2).Arg != (idx ((idx a1.Txns a3).Ops) a2).Arg) then iK a2 true else (bif ((idx ((idx a0.Txns a3).Ops) a2).Got != (idx ((idx a1.Txns a3).Ops) a2).Got) then iK a2 true else ((bK ((idx ((idx a0.Txns a3).Ops) a2).Vals) ((idx ((idx a1.Txns a3).Ops) a2).Vals)).bind fun a4=>iK a2 (!a4)))))
noncomputable def ww (a0:History) (a1:History) (a3:Int):Int→Option (Int ⊕ (Int ⊕ (Int ⊕ Bool)))
 | a2=>bif decide (a2 < (((idx a0.Txns a3).Ops).length:Int)) then must (0≤a2∧a2 < (((idx a0.Txns a3).Ops).length:Int)) (must (0≤a2∧a2 < (((idx a1.Txns a3).Ops).length:Int)) (wu a0 a1 a3 a2)) else (out (some (.inl (w64 (a3 + 1)))))
noncomputable def iL (a0:History) (a1:History) (a2:Int) (a3:Bool):Option (Int ⊕ (Int ⊕ Bool)) :=
 bif a3 then out (out (some false)) else (iter (ww a0 a1 a2) 0)
noncomputable def wy (a0:History) (a1:History) (a2:Int):Option (Int ⊕ (Int ⊕ Bool)) :=
 bif ((idx a0.Txns a2).Proc != (idx a1.Txns a2).Proc) then iL a0 a1 a2 true else (bif ((idx a0.Txns a2).Status != (idx a1.Txns a2).Status) then iL a0 a1 a2 true else (bif ((idx a0.Txns a2).From != (idx a1.Txns a2).From) then iL a0 a1 a2 true else (bif ((idx a0.Txns a2).To != (idx a1.Txns a2).To) then iL a0 a1 a2 true else (iL a0 a1 a2 ((((idx a0.Txns a2).Ops).length:Int) != (((idx a1.Txns a2).Ops).length:Int))))))
noncomputable def wz (a0:History) (a1:History):Int→Option (Int ⊕ (Int ⊕ Bool))
 | a2=>bif decide (a2 < (a0.Txns.length:Int)) then must (0≤a2∧a2 < (a0.Txns.length:Int)) (must (0≤a2∧a2 < (a1.Txns.length:Int)) (wy a0 a1 a2)) else (out (out (some true)))
noncomputable def wB (a0:History) (a1:History):Int→Option (Int ⊕ Bool)
 | a2=>bif decide (a2 < (a0.Keys.length:Int)) then must (0≤a2∧a2 < (a0.Keys.length:Int)) (must (0≤a2∧a2 < (a1.Keys.length:Int)) (bif !(sEq (idx a0.Keys a2) (idx a1.Keys a2)) then out (some false) else (some (.inl (w64 (a2 + 1)))))) else (iter (wz a0 a1) 0)
noncomputable def qi (a0:History) (a1:History) (b9:Bool):Option Bool :=
 bif b9 then some false else (iter (wB a0 a1) 0)
noncomputable def aV (a0:History) (a1:History):Option Bool :=
 bif ((a0.Keys.length:Int) != (a1.Keys.length:Int)) then qi a0 a1 true else (qi a0 a1 ((a0.Txns.length:Int) != (a1.Txns.length:Int)))
noncomputable def mh (a0:History) (a3:Int) (a2:Int) (a1:Int) (a4:List Int):Option Bool :=
 (jZ a0).bind fun a6=>(fM a6 (⟨a3,a2,a1,a4⟩:Ask)).bind fun a8=>(dO a0 (⟨a3,a2,a1,a4⟩:Ask)).bind fun a9=>(jG a6 (⟨a3,a2,a1,a4⟩:Ask)).bind fun a7=>(eX a0 (⟨a3,a2,a1,a4⟩:Ask)).bind fun a5=>bif (a8.2 == a9.2) then (bY a8.1 a9.1).bind fun b1=>bif b1 then bif (a7.2.2 == a5.2.2) then bif (a7.2.1 == a5.2.1) then (bY a7.1 a5.1).bind fun b0=>bif b0 then (aV a6 a0).bind fun b2=>some b2 else (some false) else (some false) else (some false) else (some false) else (some false)
noncomputable def ko (a0:History) (a1:Int) (a2:Ask):Option Bool :=
 (jA).bind fun a4=>bif !a4 then some false else ((nz a0 a1).bind fun a3=>bif !a3.2 then mh a0 a2.Txn a2.Place a2.Key a2.Base else (mh a0 a3.1.Txn a3.1.Place a3.1.Key a3.1.Base))
noncomputable def jk (a0:History) (a1:Ask):Option Bool :=
 (jA).bind fun a6=>bif !a6 then some false else ((fM a0 a1).bind fun a4=>(dO a0 a1).bind fun a5=>(jG a0 a1).bind fun a3=>(eX a0 a1).bind fun a2=>bif (a4.2 == a5.2) then (bY a4.1 a5.1).bind fun a7=>bif a7 then bif (a3.2.2 == a2.2.2) then bif (a3.2.1 == a2.2.1) then (bY a3.1 a2.1).bind fun a8=>some a8 else (some false) else (some false) else (some false) else (some false))
end Go.Proofs.YtnlkggppokcmfaaGreatT
