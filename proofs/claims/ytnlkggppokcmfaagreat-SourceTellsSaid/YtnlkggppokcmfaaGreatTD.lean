import Derived.Test.YtnlkggppokcmfaaGreatY
namespace Go.Proofs.YtnlkggppokcmfaaGreatT
open Go Go.Proofs Go.Proofs.YtnlkggppokcmfaaGreatE
set_option linter.unusedVariables false
set_option linter.unusedSimpArgs false
set_option maxHeartbeats 0
set_option maxRecDepth 4096
structure bY where
 key:ByteArray
 arg:Int
 deriving Inhabited,DecidableEq
def bY.enc (x:bY):List Value:=[.string x.key,.int .i64 x.arg]
abbrev DK:Ty bY:=Ty.flat 2 bY.enc (fun _=>rfl) (fun _=>Hl rfl)
instance : Flat DK bY.enc:=⟨Iff.rfl,Iff.rfl⟩
structure bn where
 keys:List ByteArray
 at_:List (ByteArray×Int)
 types:List Int
 facts:List (bY×Unit)
 incs:List (ByteArray×(List Int))
 deriving Inhabited
structure Call where
 Kind:Int
 Key:ByteArray
 Arg:Int
 Got:Bool
 Vals:List Int
 deriving Inhabited
abbrev wM:Ty Call:=Ty.iso (bS (aG .i64) (bS fB (bS (aG .i64) (bS pq (bH 2 (aG .i64)))))) (fun g:Call=>(g.Kind,g.Key,g.Arg,g.Got,g.Vals))
abbrev nS (N:BM):Ty Call:=Ty.iso (bS (aG .i64) (bS fB (bS (aG .i64) (bS pq (Hu N (aG .i64)))))) (fun g:Call=>(g.Kind,g.Key,g.Arg,g.Got,g.Vals))
theorem AY (N:BM):uM N (nS N) wM:=FP (uC uB (uC uB (uC uB (uC uB Eh))))
structure Event where
 Proc:Int
 Kind:Int
 Calls:List Call
 deriving Inhabited
abbrev zK:Ty Event:=Ty.iso (bS (aG .i64) (bS (aG .i64) (bH 109 wM))) (fun g:Event=>(g.Proc,g.Kind,g.Calls))
structure Op where
 Kind:Int
 Key:Int
 Arg:Int
 Got:Bool
 Vals:List Int
 deriving Inhabited
abbrev kOp:Ty Op:=Ty.iso (bS (aG .i64) (bS (aG .i64) (bS (aG .i64) (bS pq (bH 2 (aG .i64)))))) (fun g:Op=>(g.Kind,g.Key,g.Arg,g.Got,g.Vals))
structure Txn where
 Proc:Int
 Status:Int
 From:Int
 To:Int
 Ops:List Op
 deriving Inhabited
abbrev iV:Ty Txn:=Ty.iso (bS (aG .i64) (bS (aG .i64) (bS (aG .i64) (bS (aG .i64) (bH 50 kOp))))) (fun g:Txn=>(g.Proc,g.Status,g.From,g.To,g.Ops))
structure History where
 Keys:List ByteArray
 Txns:List Txn
 deriving Inhabited
structure Ask where
 Txn:Int
 Place:Int
 Key:Int
 Base:List Int
 deriving Inhabited
abbrev pM:Ty Ask:=Ty.iso (bS (aG .i64) (bS (aG .i64) (bS (aG .i64) (bH 2 (aG .i64))))) (fun g:Ask=>(g.Txn,g.Place,g.Key,g.Base))
structure fP where
 Txn:Int
 Place:Int
 deriving Inhabited,DecidableEq
def fP.enc (x:fP):List Value:=[.int .i64 x.Txn,.int .i64 x.Place]
abbrev xm:Ty fP:=Ty.flat 2 fP.enc (fun _=>rfl) (fun _=>Hl rfl)
instance : Flat xm fP.enc:=⟨Iff.rfl,Iff.rfl⟩
structure dL where
 asks:List Ask
 bad:List fP
 deriving Inhabited
structure aL where
 txn:Int
 args:List Int
 deriving Inhabited
abbrev fG:Ty aL:=Ty.iso (bS (aG .i64) (bH 2 (aG .i64))) (fun g:aL=>(g.txn,g.args))
structure aH where
 keys:List ByteArray
 types:List Int
 wrote:List (List Int)
 incs:List Int
 last_:List Int
 deriving Inhabited
abbrev Rw2 (A:Option Addr) (c:Nat) (l:List Int):bO := .row (aG .i64) 2 A l.length c l
abbrev Rn2 (A:Option Addr) (n c:Nat) (l:List Int):bO := .row (aG .i64) 2 A n c l
abbrev Rw3 (A:Option Addr) (c:Nat) (l:List Int):bO := .row (aG .i64) 3 A l.length c l
abbrev Rw4 (A:Option Addr) (c:Nat) (l:List Bool):bO := .row pq 4 A l.length c l
abbrev Rw9 (A:Option Addr) (c:Nat) (l:List ByteArray):bO := .row fB 9 A l.length c l
abbrev Rn9 (A:Option Addr) (n c:Nat) (l:List ByteArray):bO := .row fB 9 A n c l
abbrev Cy (A:Option Addr) (c:Nat) (l:List (List Int)):bO := .row (bH 2 (aG .i64)) 26 A l.length c l
abbrev tO (A:Option Addr) (c:Nat) (l:List Ask):bO := .row pM 28 A l.length c l
abbrev Km (A:Option Addr) (c:Nat) (l:List Op):bO := .row kOp 50 A l.length c l
abbrev HY (A:Option Addr) (n c:Nat) (l:List Op):bO := .row kOp 50 A n c l
abbrev Kn (A:Option Addr) (c:Nat) (l:List Txn):bO := .row iV 53 A l.length c l
abbrev KE (A:Option Addr) (n c:Nat) (l:List Txn):bO := .row iV 53 A n c l
abbrev FX (A:Option Addr) (c:Nat) (l:List aL):bO := .row fG 88 A l.length c l
abbrev oh (A:Option Addr) (c:Nat) (l:List fP):bO := .row xm 149 A l.length c l
abbrev Or2 (A:Option Addr) (c:Nat) (l:List Int):bO:=orA noM (aG .i64) 2 A l.length c l
abbrev Or3 (A:Option Addr) (c:Nat) (l:List Int):bO:=orA noM (aG .i64) 3 A l.length c l
abbrev zL (b:Nat) (m:List (Int×Unit)):bO:=Cq (fun x:Int => .int .i64 x) (fun _:Unit => .agg #[]) b m
abbrev AZ (b:Nat) (m:List (Int×(List Int))):bO:=rH (fun x:Int => .int .i64 x) (bH 2 (aG .i64)) b m
abbrev xn (b:Nat) (m:List (ByteArray×Int)):bO:=Cq (fun x:ByteArray => .string x) (fun x:Int => .int .i64 x) b m
abbrev xq (b:Nat) (m:List (bY×Unit)):bO:=Cq (fun x:bY => .agg #[.string x.key,.int .i64 x.arg]) (fun _:Unit => .agg #[]) b m
abbrev Ba (b:Nat) (m:List (ByteArray×(List Int))):bO:=rH (fun x:ByteArray => .string x) (bH 3 (aG .i64)) b m
abbrev kX (x:History) (A0:Option Addr) (c0:Nat) (A1:Option Addr) (c1:Nat):List Value:=[vS A0 x.Keys.length c0,vS A1 x.Txns.length c1]
abbrev mf (x:History) (A0:Option Addr) (c0:Nat) (A1:Option Addr) (c1:Nat):Value := .agg (kX x A0 c0 A1 c1).toArray
abbrev dA (b:Nat) (x:History) (A0:Option Addr) (c0:Nat) (A1:Option Addr) (c1:Nat):bO := .blk b 25 (kX x A0 c0 A1 c1)
abbrev qA (x:Ask) (A3:Option Addr) (c3:Nat):List Value:=[vI x.Txn,vI x.Place,vI x.Key,vS A3 x.Base.length c3]
abbrev qm (x:Ask) (A3:Option Addr) (c3:Nat):Value := .agg (qA x A3 c3).toArray
abbrev jW (b:Nat) (x:Ask) (A3:Option Addr) (c3:Nat):bO := .blk b 28 (qA x A3 c3)
abbrev xu (x:Op) (A4:Option Addr) (c4:Nat):List Value:=[vI x.Kind,vI x.Key,vI x.Arg,vB x.Got,vS A4 x.Vals.length c4]
abbrev oq (b:Nat) (x:Op) (A4:Option Addr) (c4:Nat):bO := .blk b 50 (xu x A4 c4)
abbrev uP (x:Txn) (A4:Option Addr) (c4:Nat):List Value:=[vI x.Proc,vI x.Status,vI x.From,vI x.To,vS A4 x.Ops.length c4]
abbrev Fh (x:Txn) (A4:Option Addr) (c4:Nat):Value := .agg (uP x A4 c4).toArray
abbrev mO (b:Nat) (x:Txn) (A4:Option Addr) (c4:Nat):bO := .blk b 53 (uP x A4 c4)
abbrev Ko (x:dL) (A0:Option Addr) (c0:Nat) (A1:Option Addr) (c1:Nat):List Value:=[vS A0 x.asks.length c0,vS A1 x.bad.length c1]
abbrev KF (x:dL) (A0:Option Addr) (c0:Nat) (A1:Option Addr) (c1:Nat):Value := .agg (Ko x A0 c0 A1 c1).toArray
abbrev DL (x:aL) (A1:Option Addr) (c1:Nat):List Value:=[vI x.txn,vS A1 x.args.length c1]
abbrev JR (x:aL) (A1:Option Addr) (c1:Nat):Value := .agg (DL x A1 c1).toArray
abbrev Fj (b:Nat) (x:aL) (A1:Option Addr) (c1:Nat):bO := .blk b 88 (DL x A1 c1)
abbrev Kq (x:aH) (A0:Option Addr) (c0:Nat) (A1:Option Addr) (c1:Nat) (A2:Option Addr) (c2:Nat) (A3:Option Addr) (c3:Nat) (A4:Option Addr) (c4:Nat):List Value:=[vS A0 x.keys.length c0,vS A1 x.types.length c1,vS A2 x.wrote.length c2,vS A3 x.incs.length c3,vS A4 x.last_.length c4]
abbrev JM (b:Nat) (x:aH) (A0:Option Addr) (c0:Nat) (A1:Option Addr) (c1:Nat) (A2:Option Addr) (c2:Nat) (A3:Option Addr) (c3:Nat) (A4:Option Addr) (c4:Nat):bO := .blk b 103 (Kq x A0 c0 A1 c1 A2 c2 A3 c3 A4 c4)
abbrev Bb (x:Event) (A2:Option Addr) (c2:Nat):List Value:=[vI x.Proc,vI x.Kind,vS A2 x.Calls.length c2]
abbrev JN (x:Event) (A2:Option Addr) (c2:Nat):Value := .agg (Bb x A2 c2).toArray
abbrev Eu (b:Nat) (x:Event) (A2:Option Addr) (c2:Nat):bO := .blk b 107 (Bb x A2 c2)
abbrev xw (x:Call) (A4:Option Addr) (c4:Nat):List Value:=[vI x.Kind,.string x.Key,vI x.Arg,vB x.Got,vS A4 x.Vals.length c4]
abbrev zM (x:Call) (A4:Option Addr) (c4:Nat):Value := .agg (xw x A4 c4).toArray
abbrev fV (b:Nat) (x:Call) (A4:Option Addr) (c4:Nat):bO := .blk b 109 (xw x A4 c4)
abbrev HZ (b:Nat) (A0:Option Addr) (c0:Nat) (x0:List ByteArray) (A1:Option Addr) (c1:Nat) (x1:List Txn):List bO:=[.blk b 25 [vS A0 x0.length c0,vS A1 x1.length c1],Rw9 A0 c0 x0,Kn A1 c1 x1]
abbrev Kr (b:Nat) (x0:Int) (x1:Int) (x2:Int) (x3:Int) (A4:Option Addr) (c4:Nat) (x4:List Op):List bO:=[.blk b 53 [vI x0,vI x1,vI x2,vI x3,vS A4 x4.length c4],Km A4 c4 x4]
abbrev zN (b:Nat) (A0:Option Addr) (c0:Nat) (x0:List Ask) (A1:Option Addr) (c1:Nat) (x1:List fP):List bO:=[.blk b 79 [vS A0 x0.length c0,vS A1 x1.length c1],tO A0 c0 x0,oh A1 c1 x1]
abbrev Kt (b:Nat) (x:dL) (A0:Option Addr) (c0:Nat) (A1:Option Addr) (c1:Nat):List bO:=zN b A0 c0 x.asks A1 c1 x.bad
abbrev pE (b:Nat) (A0:Option Addr) (c0:Nat) (x0:List ByteArray) (A1:Option Addr) (c1:Nat) (x1:List Int) (A2:Option Addr) (c2:Nat) (x2:List (List Int)) (A3:Option Addr) (c3:Nat) (x3:List Int) (A4:Option Addr) (c4:Nat) (x4:List Int):List bO:=[.blk b 103 [vS A0 x0.length c0,vS A1 x1.length c1,vS A2 x2.length c2,vS A3 x3.length c3,vS A4 x4.length c4],Rw9 A0 c0 x0,Rw3 A1 c1 x1,Cy A2 c2 x2,Rw3 A3 c3 x3,Rw3 A4 c4 x4]
abbrev JO (b:Nat) (x:aH) (A0:Option Addr) (c0:Nat) (A1:Option Addr) (c1:Nat) (A2:Option Addr) (c2:Nat) (A3:Option Addr) (c3:Nat) (A4:Option Addr) (c4:Nat):List bO:=pE b A0 c0 x.keys A1 c1 x.types A2 c2 x.wrote A3 c3 x.incs A4 c4 x.last_
abbrev uW (b:Nat) (A0:Option Addr) (c0:Nat) (x0:List ByteArray) (b1:Nat) (x1:List (ByteArray×Int)) (A2:Option Addr) (c2:Nat) (x2:List Int) (b3:Nat) (x3:List (bY×Unit)) (b4:Nat) (x4:List (ByteArray×(List Int))):List bO:=[.blk b 155 [vS A0 x0.length c0,.map (some b1),vS A2 x2.length c2,.map (some b3),.map (some b4)],Rw9 A0 c0 x0,xn b1 x1,Rw3 A2 c2 x2,xq b3 x3,Ba b4 x4]
abbrev FY (b:Nat) (x:bn) (A0:Option Addr) (c0:Nat) (b1:Nat) (A2:Option Addr) (c2:Nat) (b3:Nat) (b4:Nat):List bO:=uW b A0 c0 x.keys b1 x.at_ A2 c2 x.types b3 x.facts b4 x.incs
theorem zO {H:BM} {x:Ask} {cs:List Value} (h:pM.rd H x cs):∃ A3 c3,cs=qA x A3 c3∧x.Base.length≤c3∧rdS (aG .i64) H A3 x.Base:=by
 obtain ⟨_,_,rfl,rfl,⟨_,_,rfl,rfl,⟨_,_,rfl,rfl,⟨A0,c0,rfl,l0,r0⟩⟩⟩⟩:=h;exact ⟨A0,c0,rfl,l0,r0⟩
theorem xx {H:BM} {x:Op} {cs:List Value} (h:kOp.rd H x cs):∃ A4 c4,cs=xu x A4 c4∧x.Vals.length≤c4∧rdS (aG .i64) H A4 x.Vals:=by
 obtain ⟨_,_,rfl,rfl,⟨_,_,rfl,rfl,⟨_,_,rfl,rfl,⟨_,_,rfl,rfl,⟨A0,c0,rfl,l0,r0⟩⟩⟩⟩⟩:=h;exact ⟨A0,c0,rfl,l0,r0⟩
theorem lI {H:BM} {x:Txn} {cs:List Value} (h:iV.rd H x cs):∃ A4 c4,cs=uP x A4 c4∧x.Ops.length≤c4∧rdS kOp H A4 x.Ops:=by
 obtain ⟨_,_,rfl,rfl,⟨_,_,rfl,rfl,⟨_,_,rfl,rfl,⟨_,_,rfl,rfl,⟨A0,c0,rfl,l0,r0⟩⟩⟩⟩⟩:=h;exact ⟨A0,c0,rfl,l0,r0⟩
theorem fE {H:BM} {x:aL} {cs:List Value} (h:fG.rd H x cs):∃ A1 c1,cs=DL x A1 c1∧x.args.length≤c1∧rdS (aG .i64) H A1 x.args:=by
 obtain ⟨_,_,rfl,rfl,⟨A0,c0,rfl,l0,r0⟩⟩:=h;exact ⟨A0,c0,rfl,l0,r0⟩
theorem Ev {H:BM} {x:Event} {cs:List Value} (h:zK.rd H x cs):∃ A2 c2,cs=Bb x A2 c2∧x.Calls.length≤c2∧rdS wM H A2 x.Calls:=by
 obtain ⟨_,_,rfl,rfl,⟨_,_,rfl,rfl,⟨A0,c0,rfl,l0,r0⟩⟩⟩:=h;exact ⟨A0,c0,rfl,l0,r0⟩
theorem FZ {H:BM} {x:Call} {cs:List Value} (h:wM.rd H x cs):∃ A4 c4,cs=xw x A4 c4∧x.Vals.length≤c4∧rdS (aG .i64) H A4 x.Vals:=by
 obtain ⟨_,_,rfl,rfl,⟨_,_,rfl,rfl,⟨_,_,rfl,rfl,⟨_,_,rfl,rfl,⟨A0,c0,rfl,l0,r0⟩⟩⟩⟩⟩:=h;exact ⟨A0,c0,rfl,l0,r0⟩
theorem Ga (x:Ask) {R3:List bO} {c3:List Value} (h3:Mk (bH 2 (aG .i64)) R3 x.Base c3):Mk pM ([]++([]++([]++R3))) x ([vI x.Txn]++([vI x.Place]++([vI x.Key]++c3))):=vM (g:=fun g:Ask=>(g.Txn,g.Place,g.Key,g.Base)) (x:=x) (eD (mX _ _ rfl) (eD (mX _ _ rfl) (eD (mX _ _ rfl) h3)))
theorem JS (x:Op) {R4:List bO} {c4:List Value} (h4:Mk (bH 2 (aG .i64)) R4 x.Vals c4):Mk kOp ([]++([]++([]++([]++R4)))) x ([vI x.Kind]++([vI x.Key]++([vI x.Arg]++([vB x.Got]++c4)))):=vM (g:=fun g:Op=>(g.Kind,g.Key,g.Arg,g.Got,g.Vals)) (x:=x) (eD (mX _ _ rfl) (eD (mX _ _ rfl) (eD (mX _ _ rfl) (eD (mX _ _ rfl) h4))))
theorem Gb (x:Txn) {R4:List bO} {c4:List Value} (h4:Mk (bH 50 kOp) R4 x.Ops c4):Mk iV ([]++([]++([]++([]++R4)))) x ([vI x.Proc]++([vI x.Status]++([vI x.From]++([vI x.To]++c4)))):=vM (g:=fun g:Txn=>(g.Proc,g.Status,g.From,g.To,g.Ops)) (x:=x) (eD (mX _ _ rfl) (eD (mX _ _ rfl) (eD (mX _ _ rfl) (eD (mX _ _ rfl) h4))))
theorem AC (x:aL) {R1:List bO} {c1:List Value} (h1:Mk (bH 2 (aG .i64)) R1 x.args c1):Mk fG ([]++R1) x ([vI x.txn]++c1):=vM (g:=fun g:aL=>(g.txn,g.args)) (x:=x) (eD (mX _ _ rfl) h1)
noncomputable def kK (a0:List ByteArray) (a1:ByteArray):Int→Option (Int ⊕ Int)
 | a2=>bif decide (a2 < (a0.length:Int)) then must (0≤a2∧a2 < (a0.length:Int)) (bif sEq a1 (idx a0 a2) then out (some a2) else (some (.inl (w64 (a2 + 1))))) else (out (some (-1)))
noncomputable def slices_Index_string (a0:List ByteArray) (a1:ByteArray):Option Int :=
 iter (kK a0 a1) 0
noncomputable def slices_Contains_string (a0:List ByteArray) (a1:ByteArray):Option Bool :=
 (slices_Index_string a0 a1).bind fun y3=>some (decide (y3 ≥ 0))
noncomputable def nM:Option bn :=
 some (⟨([]:List ByteArray),([]:List (ByteArray×Int)),([]:List Int),([]:List (bY×Unit)),([]:List (ByteArray×(List Int)))⟩:bn)
noncomputable def tQ (a0:Int):Option (Int×Int) :=
 bif (a0 == 5) then some (0,1) else (bif (a0 == 8) then some (1,1) else (some (0,64)))
noncomputable def qb (a0:Call) (a1:Int) (a2:Bool):Option (Int ⊕ Bool) :=
 bif a2 then must (0≤w64 (a1 - 1)∧w64 (a1 - 1) < (a0.Vals.length:Int)) (must (0≤a1∧a1 < (a0.Vals.length:Int)) (bif decide (idx a0.Vals (w64 (a1 - 1)) ≥ idx a0.Vals a1) then out (some false) else (some (.inl (w64 (a1 + 1)))))) else (out (some true))
noncomputable def qc (a0:Call):Int→Option (Int ⊕ Bool)
 | a1=>bif (a0.Kind == 7) then qb a0 a1 (decide (a1 < (a0.Vals.length:Int))) else (qb a0 a1 false)
noncomputable def qd (a0:Call) (a1:Bool):Option Bool :=
 bif a1 then some false else (iter (qc a0) 1)
noncomputable def qf (a0:Call) (a2:Bool):Option Bool :=
 bif a2 then some false else (bif !a0.Got then some ((a0.Vals.length:Int) == 0) else ((tQ a0.Kind).bind fun a1=>bif decide ((a0.Vals.length:Int) < a1.1) then qd a0 true else (qd a0 (decide ((a0.Vals.length:Int) > a1.2)))))
noncomputable def lm (a0:Call) (a1:Int) (a2:Bool):Option Bool :=
 bif a2 then some false else (bif decide (a0.Kind≤4) then bif !a0.Got then bif ((a0.Vals.length:Int) == 0) then bif (a0.Kind != 4) then some true else (bif decide ((-1048576)≤a0.Arg) then some (decide (a0.Arg≤1048576)) else (some false)) else (some false) else (some false) else (bif (a0.Arg != 0) then qf a0 true else (qf a0 (a0.Got != (a1 == 1)))))
noncomputable def bR (a0:Call) (a1:Int):Option Bool :=
 bif decide (a0.Kind < 1) then lm a0 a1 true else (bif decide (a0.Kind > 8) then lm a0 a1 true else (bif sEq a0.Key (⟨#[]⟩:ByteArray) then lm a0 a1 true else (lm a0 a1 (decide ((a0.Key.size:Int) > 32)))))
noncomputable def qG (a0:Call) (a1:Event):Option Bool :=
 (bR a0 a1.Kind).bind fun y5=>some (!y5)
noncomputable def eY (a0:List Call) (a1c0:Event):Int→Option (Int ⊕ Int)
 | a1=>bif decide (a1 < (a0.length:Int)) then must (0≤a1∧a1 < (a0.length:Int)) ((qG (idx a0 a1) a1c0).bind fun a2=>bif a2 then out (some a1) else (some (.inl (w64 (a1 + 1))))) else (out (some (-1)))
noncomputable def bF (a0:List Call) (a1c0:Event):Option Int :=
 iter (eY a0 a1c0) 0
noncomputable def dh (a0:List Call) (a1c0:Event):Option Bool :=
 (bF a0 a1c0).bind fun y3=>some (decide (y3 ≥ 0))
noncomputable def nJ (a0:List Event) (a1:Int) (a2:Bool):Option (Int ⊕ Int) :=
 bif a2 then out (some 1) else ((dh ((idx a0 a1).Calls) (idx a0 a1)).bind fun a3=>bif a3 then out (some 1) else (some (.inl (w64 (a1 + 1)))))
noncomputable def rX (a0:List Event):Int→Option (Int ⊕ Int)
 | a1=>bif decide (a1 < (a0.length:Int)) then must (0≤a1∧a1 < (a0.length:Int)) (bif decide ((idx a0 a1).Kind < 0) then nJ a0 a1 true else (bif decide ((idx a0 a1).Kind > 3) then nJ a0 a1 true else (nJ a0 a1 (decide ((((idx a0 a1).Calls).length:Int) > 16))))) else (out (some 0))
noncomputable def fM (a0:List Event):Option Int :=
 bif decide ((a0.length:Int) > 256) then some 1 else (iter (rX a0) 0)
noncomputable def qP (a0:History) (a1:Txn) (a3:List Call) (a2:Int):Option ((List Call×Int) ⊕ (Event×Bool)) :=
 some (.inl (a3++([(⟨(idx a1.Ops a2).Kind,idx a0.Keys ((idx a1.Ops a2).Key),(idx a1.Ops a2).Arg,(idx a1.Ops a2).Got,(idx a1.Ops a2).Vals⟩:Call)]:List Call),w64 (a2 + 1)))
noncomputable def ou (a0:History) (a1:Txn) (a2:List Call) (a3:Int) (a4:Bool):Option ((List Call×Int) ⊕ (Event×Bool)) :=
 bif a4 then out (some ((⟨0,a1.Status,a2⟩:Event),false)) else (must (0≤(idx a1.Ops a3).Key∧(idx a1.Ops a3).Key < (a0.Keys.length:Int)) (must (((a2.length + 1) + (a2.length + 1) / 4 + 192) * 64≤281474976710656∧a2.length + 1≤9223372036854775807) (qP a0 a1 a2 a3)))
noncomputable def qQ (a0:History) (a1:Txn):(List Call×Int)→Option ((List Call×Int) ⊕ (Event×Bool))
 | (a3,a2)=>bif decide (a2 < (a1.Ops.length:Int)) then must (0≤a2∧a2 < (a1.Ops.length:Int)) (bif decide ((idx a1.Ops a2).Key < 0) then ou a0 a1 a3 a2 true else (ou a0 a1 a3 a2 (decide ((idx a1.Ops a2).Key ≥ (a0.Keys.length:Int))))) else ((fM ([(⟨0,a1.Status,a3⟩:Event)]:List Event)).bind fun a4=>out (some ((⟨0,a1.Status,a3⟩:Event),(a4 == 0))))
noncomputable def dJ (a0:History) (a1:Txn):Option (Event×Bool) :=
 iter (qQ a0 a1) ([],0)
noncomputable def ow (a0:Txn) (a1:Txn):Option Bool :=
 bif (a0.Proc == a1.Proc) then bif (a0.To == (-1)) then some true else (some (decide (a0.To ≥ a1.From))) else (some false)
noncomputable def eF (a0:List Txn) (a1c0:Txn):Int→Option (Int ⊕ Int)
 | a1=>bif decide (a1 < (a0.length:Int)) then must (0≤a1∧a1 < (a0.length:Int)) ((ow (idx a0 a1) a1c0).bind fun a2=>bif a2 then out (some a1) else (some (.inl (w64 (a1 + 1))))) else (out (some (-1)))
noncomputable def bB (a0:List Txn) (a1c0:Txn):Option Int :=
 iter (eF a0 a1c0) 0
noncomputable def cO (a0:List Txn) (a1c0:Txn):Option Bool :=
 (bB a0 a1c0).bind fun y3=>some (decide (y3 ≥ 0))
noncomputable def kY (a0:List Txn) (a1:Txn) (a2:Bool):Option Bool :=
 bif a2 then some false else ((cO a0 a1).bind fun a3=>some (!a3))
noncomputable def nN (a0:List Txn) (a1:Txn):Option Bool :=
 bif decide (a1.From < 0) then kY a0 a1 true else (bif decide ((a0.length:Int) > 0) then must (0≤w64 ((a0.length:Int) - 1)∧w64 ((a0.length:Int) - 1) < (a0.length:Int)) (kY a0 a1 (decide ((idx a0 (w64 ((a0.length:Int) - 1))).From ≥ a1.From))) else (kY a0 a1 false))
noncomputable def nO (a0:List Txn) (a1:Txn) (a2:Bool):Option Bool :=
 bif a2 then some false else (nN a0 a1)
noncomputable def nP (a0:List Txn) (a1:Txn) (a2:Bool):Option Bool :=
 bif a2 then bif decide (a1.To≤a1.From) then some false else (nN a0 a1) else (bif (a1.Status == 3) then bif (a1.To != (-1)) then nO a0 a1 (decide (a1.To≤a1.From)) else (nO a0 a1 false) else (some false))
noncomputable def bP (a0:List Txn) (a1:Txn):Option Bool :=
 bif (a1.Status == 1) then nP a0 a1 (a1.Status == 1) else (nP a0 a1 (a1.Status == 2))
noncomputable def mP (a0:Int):Option Int :=
 some (w64 ((wL .i64 (w64 (a0 - 1)) 3) + 1))
noncomputable def gP (a4:List ByteArray) (a2:List (ByteArray×Int)) (a0:List Int) (a1:List (bY×Unit)) (a3:List (ByteArray×(List Int))):Option (Int×bn) :=
 some (0,(⟨a4,a2,a0,a1,a3⟩:bn))
noncomputable def lq (a0:bn) (a1:Call) (a2:List ByteArray) (a4:List (ByteArray×Int)) (a3:List Int):Option (Int×bn) :=
 bif pY a0.facts (⟨a1.Key,a1.Arg⟩:bY) then some (3,(⟨a2,a4,a3,a0.facts,a0.incs⟩:bn)) else (gP a2 a4 a3 (iT a0.facts (⟨a1.Key,a1.Arg⟩:bY) ()) a0.incs)
noncomputable def jf (a0:bn) (a1:Call) (a3:List ByteArray) (a5:List (ByteArray×Int)) (a4:List Int) (a2:List (ByteArray×(List Int))):Option (Int×bn) :=
 bif decide (((mat a2 a1.Key).length:Int) > 8) then some (51,(⟨a3,a5,a4,a0.facts,a2⟩:bn)) else (gP a3 a5 a4 a0.facts a2)
noncomputable def jg (a0:bn) (a1:Call) (a2:Int) (a3:List ByteArray) (a5:List (ByteArray×Int)) (a4:List Int) (a6:Bool):Option (Int×bn) :=
 bif a6 then must (((((mat a0.incs a1.Key).length) + 1) + (((mat a0.incs a1.Key).length) + 1) / 4 + 192) * 8≤281474976710656∧((mat a0.incs a1.Key).length) + 1≤9223372036854775807) (jf a0 a1 a3 a5 a4 (iT a0.incs a1.Key ((mat a0.incs a1.Key)++([a2]:List Int)))) else (jf a0 a1 a3 a5 a4 a0.incs)
noncomputable def jh (a0:bn) (a1:Call) (a2:Int) (a3:List ByteArray) (a5:List (ByteArray×Int)) (a4:List Int) (a6:Bool):Option (Int×bn) :=
 bif a6 then lq a0 a1 a3 a5 a4 else (bif (a1.Kind == 4) then bif (((mat a0.incs a1.Key).length:Int) == 0) then jg a0 a1 a2 a3 a5 a4 true else (must (0≤w64 (((mat a0.incs a1.Key).length:Int) - 1)∧w64 (((mat a0.incs a1.Key).length:Int) - 1) < ((mat a0.incs a1.Key).length:Int)) (jg a0 a1 a2 a3 a5 a4 (idx (mat a0.incs a1.Key) (w64 (((mat a0.incs a1.Key).length:Int) - 1)) != a2))) else (gP a3 a5 a4 a0.facts a0.incs))
noncomputable def gQ (a0:bn) (a1:Call) (a2:Int) (a5:List ByteArray) (a4:List (ByteArray×Int)) (a3:List Int) (a6:Int):Option (Int×bn) :=
 must (0≤a6∧a6 < (a3.length:Int)) ((mP a1.Kind).bind fun a7=>bif (idx a3 a6 != a7) then some (50,(⟨a5,a4,a3,a0.facts,a0.incs⟩:bn)) else (bif (a1.Kind == 2) then jh a0 a1 a2 a5 a4 a3 (a1.Kind == 2) else (jh a0 a1 a2 a5 a4 a3 (a1.Kind == 3))))
noncomputable def lu (a0:bn) (a1:Call) (a2:Int):Option (Int×bn) :=
 (mP a1.Kind).bind fun a3=>must (((a0.types.length + 1) + (a0.types.length + 1) / 4 + 192) * 8≤281474976710656∧a0.types.length + 1≤9223372036854775807) (gQ a0 a1 a2 (a0.keys++([a1.Key]:List ByteArray)) (iT a0.at_ a1.Key (a0.keys.length:Int)) (a0.types++([a3]:List Int)) (a0.keys.length:Int))
noncomputable def aB (a0:bn) (a1:Call) (a2:Int):Option (Int×bn) :=
 bif !(pY a0.at_ a1.Key) then bif ((a0.keys.length:Int) == 32) then some (2,a0) else (must (((a0.keys.length + 1) + (a0.keys.length + 1) / 4 + 192) * 16≤281474976710656∧a0.keys.length + 1≤9223372036854775807) (lu a0 a1 a2)) else (gQ a0 a1 a2 a0.keys a0.at_ a0.types (mat a0.at_ a1.Key))
noncomputable def mg (a0:Int) (a1:Bool):Option (Int ⊕ Int) :=
 bif a1 then out (some 1) else (some (.inl (w64 (a0 + 1))))
noncomputable def oz (a5:Int) (a2:Event×Bool):(List ByteArray×(List (ByteArray×Int))×List Int×(List (bY×Unit))×(List (ByteArray×(List Int)))×Int)→Option ((List ByteArray×(List (ByteArray×Int))×List Int×(List (bY×Unit))×(List (ByteArray×(List Int)))×Int) ⊕ ((List ByteArray×(List (ByteArray×Int))×List Int×(List (bY×Unit))×(List (ByteArray×(List Int)))×Int) ⊕ (Int ⊕ Int)))
 | (a7,a8,a6,a3,a4,a1)=>bif decide (a1 < (a2.1.Calls.length:Int)) then must (0≤a1∧a1 < (a2.1.Calls.length:Int)) ((aB (⟨a7,a8,a6,a3,a4⟩:bn) (idx a2.1.Calls a1) a5).bind fun a0=>bif (a0.1 != 0) then out (out (out (some 1))) else (some (.inl (a0.2.keys,a0.2.at_,a0.2.types,a0.2.facts,a0.2.incs,w64 (a1 + 1))))) else (out (some (.inl (a7,a8,a6,a3,a4,w64 (a5 + 1)))))
noncomputable def oC (a6:List ByteArray) (a3:List (ByteArray×Int)) (a7:List Int) (a4:List (bY×Unit)) (a1:List (ByteArray×(List Int))) (a5:Int) (a0:Event×Bool) (a2:Bool):Option ((List ByteArray×(List (ByteArray×Int))×List Int×(List (bY×Unit))×(List (ByteArray×(List Int)))×Int) ⊕ (Int ⊕ Int)) :=
 bif a2 then out (out (some 1)) else (iter (oz a5 a0) (a6,a3,a7,a4,a1,0))
noncomputable def mh (a0:History):(List ByteArray×(List (ByteArray×Int))×List Int×(List (bY×Unit))×(List (ByteArray×(List Int)))×Int)→Option ((List ByteArray×(List (ByteArray×Int))×List Int×(List (bY×Unit))×(List (ByteArray×(List Int)))×Int) ⊕ (Int ⊕ Int))
 | (a6,a4,a7,a5,a3,a1)=>bif decide (a1 < (a0.Txns.length:Int)) then must (0≤a1∧a1 < (a0.Txns.length:Int)) ((dJ a0 (idx a0.Txns a1)).bind fun a2=>bif !a2.2 then oC a6 a4 a7 a5 a3 a1 a2 true else (must (0≤(0:Int)∧(0:Int)≤a1∧a1≤(a0.Txns.length:Int)) ((bP (gH a0.Txns (0:Int) a1) (idx a0.Txns a1)).bind fun a8=>oC a6 a4 a7 a5 a3 a1 a2 (!a8)))) else (out (out (some 0)))
noncomputable def qR (a0:History):Int→Option (Int ⊕ Int)
 | a1=>bif decide (a1 < (a0.Keys.length:Int)) then must (0≤a1∧a1 < (a0.Keys.length:Int)) (bif sEq (idx a0.Keys a1) (⟨#[]⟩:ByteArray) then mg a1 true else (bif decide (((idx a0.Keys a1).size:Int) > 32) then mg a1 true else (must (0≤(0:Int)∧(0:Int)≤a1∧a1≤(a0.Keys.length:Int)) ((slices_Contains_string (gH a0.Keys (0:Int) a1) (idx a0.Keys a1)).bind fun a3=>mg a1 a3)))) else ((nM).bind fun a2=>iter (mh a0) (a2.keys,a2.at_,a2.types,a2.facts,a2.incs,0))
noncomputable def oD (a0:History) (b7:Bool):Option Int :=
 bif b7 then some 1 else (iter (qR a0) 0)
noncomputable def aO (a0:History):Option Int :=
 bif decide ((a0.Keys.length:Int) > 32) then oD a0 true else (oD a0 (decide ((a0.Txns.length:Int) > 32)))
noncomputable def eG (a0:List Int):Option (List Int) :=
 must (a0.length * 8≤140737488355328) (some a0)
noncomputable def jG (a0:Int):Option Int :=
 bif (a0 == 1) then some 188 else (bif (a0 == 2) then some 189 else (bif (a0 == 3) then some 190 else (bif (a0 == 4) then some 191 else (some (-1)))))
noncomputable def jH (a0:Unit) (a1:List Int):Option Bool :=
 some (decide ((a1.length:Int)≤1))
noncomputable def mQ (a0:Unit) (a1:List Int):Option Bool :=
 some (decide ((a1.length:Int)≤64))
noncomputable def nT (a1:List Int):Int→Option (Int ⊕ Bool)
 | a0=>bif decide (a0 < (a1.length:Int)) then must (0≤w64 (a0 - 1)∧w64 (a0 - 1) < (a1.length:Int)) (must (0≤a0∧a0 < (a1.length:Int)) (bif decide (idx a1 (w64 (a0 - 1)) ≥ idx a1 a0) then out (some false) else (some (.inl (w64 (a0 + 1)))))) else (out (some (decide ((a1.length:Int)≤64))))
noncomputable def fH (a0:Unit) (a1:List Int):Option Bool :=
 iter (nT a1) 1
noncomputable def kg (a0:Unit) (a1:List Int):Option Bool :=
 some ((a1.length:Int) == 1)
noncomputable def jI (a0:Int) (a1:List Int):Option Int :=
 (jG a0).bind fun y8=>bif (y8 == (188:Int)) then (jH () a1).bind fun a5=>bif !a5 then some 80 else (some 0) else (bif (y8 == (189:Int)) then (mQ () a1).bind fun a2=>bif !a2 then some 80 else (some 0) else (bif (y8 == (190:Int)) then (fH () a1).bind fun a3=>bif !a3 then some 80 else (some 0) else (bif (y8 == (191:Int)) then (kg () a1).bind fun a4=>bif !a4 then some 80 else (some 0) else (bif (y8 == ((-1):Int)) then some 1 else none))))
noncomputable def fZ (a0:Unit) (a1:List Int) (a2:List Int):Option (List Int×Bool) :=
 bif ((a1.length:Int) == 1) then must (0≤(0:Int)∧(0:Int) < (a1.length:Int)) (must (0≤w64 ((a2.length:Int) - 1)∧w64 ((a2.length:Int) - 1) < (a2.length:Int)) (some (([]:List Int),(idx a1 (0:Int) == idx a2 (w64 ((a2.length:Int) - 1)))))) else (some (([]:List Int),false))
noncomputable def pF (a0:List Int) (a1:List Int):Int→Option (Int ⊕ Bool)
 | a2=>bif decide (a2 < (a0.length:Int)) then must (0≤a2∧a2 < (a0.length:Int)) (must (0≤a2∧a2 < (a1.length:Int)) (bif (idx a0 a2 != idx a1 a2) then out (some false) else (some (.inl (w64 (a2 + 1)))))) else (out (some true))
noncomputable def dQ (a0:List Int) (a1:List Int):Option Bool :=
 bif ((a0.length:Int) != (a1.length:Int)) then some false else (iter (pF a0 a1) 0)
noncomputable def gT (a1:List Int) (a2:List Int) (a3:Bool):Option (List Int×Bool) :=
 bif a3 then some (([]:List Int),false) else (must (0≤(0:Int)∧(0:Int)≤(w64 ((a1.length:Int) - (a2.length:Int)))∧(w64 ((a1.length:Int) - (a2.length:Int)))≤(a1.length:Int)) ((eG (gH a1 (0:Int) (w64 ((a1.length:Int) - (a2.length:Int))))).bind fun a0=>some (a0,true)))
noncomputable def dB (a0:Unit) (a1:List Int) (a2:List Int):Option (List Int×Bool) :=
 bif decide (w64 ((a1.length:Int) - (a2.length:Int)) < 0) then gT a1 a2 true else (must (0≤(w64 ((a1.length:Int) - (a2.length:Int)))∧(w64 ((a1.length:Int) - (a2.length:Int)))≤(a1.length:Int)∧(a1.length:Int)≤(a1.length:Int)) ((dQ (gH a1 (w64 ((a1.length:Int) - (a2.length:Int))) (a1.length:Int)) a2).bind fun a3=>gT a1 a2 (!a3)))
noncomputable def kZ (a0:Int):Option Bool :=
 some (a0 != a0)
noncomputable def mi (a0:Int) (a1:Int):Option Bool :=
 (kZ a0).bind fun y7=>bif y7 then (kZ a1).bind fun a2=>bif !a2 then some true else (some (decide (a0 < a1))) else (some (decide (a0 < a1)))
noncomputable def iY (a0:Int):Option Bool :=
 some (a0 != a0)
noncomputable def iL (a0:Int) (a1:Int):Option ((Int×Int) ⊕ (Int×Bool)) :=
 some (.inl (a0,a1))
noncomputable def iM (a0:List Int) (a1:Int):(Int×Int)→Option ((Int×Int) ⊕ (Int×Bool))
 | (a2,a3)=>bif decide (a2 < a3) then must (0≤(1:Int)∧(1:Int) < (far:Int)) (must (0≤w64 (rJ .u64 (IntKind.wrap .u64 (w64 (a2 + a3))) (1:Int))∧w64 (rJ .u64 (IntKind.wrap .u64 (w64 (a2 + a3))) (1:Int)) < (a0.length:Int)) ((mi (idx a0 (w64 (rJ .u64 (IntKind.wrap .u64 (w64 (a2 + a3))) (1:Int)))) a1).bind fun a6=>bif a6 then iL (w64 ((w64 (rJ .u64 (IntKind.wrap .u64 (w64 (a2 + a3))) (1:Int))) + 1)) a3 else (iL a2 (w64 (rJ .u64 (IntKind.wrap .u64 (w64 (a2 + a3))) (1:Int)))))) else (bif decide (a2 < (a0.length:Int)) then must (0≤a2∧a2 < (a0.length:Int)) (bif (idx a0 a2 == a1) then out (some (a2,true)) else ((iY (idx a0 a2)).bind fun a4=>bif a4 then (iY a1).bind fun a5=>out (some (a2,a5)) else (out (some (a2,false))))) else (out (some (a2,false))))
noncomputable def bE (a0:List Int) (a1:Int):Option (Int×Bool) :=
 iter (iM a0 a1) (0,(a0.length:Int))
noncomputable def iP (a0:List Int) (a1 a2:Int):Option (List Int) :=
 must (0≤a1∧a1≤a2∧a2≤(a0.length:Int)) (some (a0.take a1.toNat++a0.drop a2.toNat))
noncomputable def jJ (a2:List Int):(List Int×Int)→Option ((List Int×Int) ⊕ (List Int×Bool))
 | (a1,a0)=>bif decide (a0 < (a2.length:Int)) then must (0≤a0∧a0 < (a2.length:Int)) ((bE a1 (idx a2 a0)).bind fun a3=>bif !a3.2 then out (some (([]:List Int),false)) else ((iP a1 a3.1 (w64 (a3.1 + 1))).bind fun a4=>some (.inl (a4,w64 (a0 + 1))))) else (out (some (a1,true)))
noncomputable def dO (a0:Unit) (a1:List Int) (a2:List Int):Option (List Int×Bool) :=
 (eG a1).bind fun y7=>iter (jJ a2) (y7,0)
noncomputable def ig (a2:List Int):(Int×Int)→Option ((Int×Int) ⊕ (List Int×Bool))
 | (a1,a0)=>bif decide (a0 < (a2.length:Int)) then must (0≤a0∧a0 < (a2.length:Int)) (some (.inl (w64 (a1 - (idx a2 a0)),w64 (a0 + 1)))) else (out (some (([a1]:List Int),true)))
noncomputable def dC (a0:Unit) (a1:List Int) (a2:List Int):Option (List Int×Bool) :=
 must (0≤(0:Int)∧(0:Int) < (a1.length:Int)) (iter (ig a2) (idx a1 (0:Int),0))
noncomputable def jF (a0:Int) (a1:List Int) (a2:List Int) (b9:Bool):Option (List Int×Bool) :=
 bif b9 then some (([]:List Int),false) else ((jG a0).bind fun a3=>bif (a3 == (188:Int)) then (fZ () a1 a2).bind fun a5=>some (a5.1,a5.2) else (bif (a3 == (189:Int)) then (dB () a1 a2).bind fun a7=>some (a7.1,a7.2) else (bif (a3 == (190:Int)) then (dO () a1 a2).bind fun a6=>some (a6.1,a6.2) else (bif (a3 == (191:Int)) then (dC () a1 a2).bind fun a4=>some (a4.1,a4.2) else (bif (a3 == ((-1):Int)) then none else none)))))
noncomputable def fI (a0:Int) (a1:List Int) (a2:List Int):Option (List Int×Bool) :=
 (jI a0 a1).bind fun a3=>bif (a3 != 0) then jF a0 a1 a2 true else (jF a0 a1 a2 ((a2.length:Int) == 0))
noncomputable def gz (a2:Int) (a0:List Ask) (a3:List fP) (a1:List (Int×(List Int))):Option ((List Ask×List fP×(List (Int×(List Int)))×Int) ⊕ dL) :=
 some (.inl (a0,a3,a1,w64 (a2 + 1)))
noncomputable def ko (a1:History) (a2:Int) (a4:List Ask) (a3:List fP) (a5:List (Int×(List Int))) (a0:Int) (a6:List Int) (a7:Bool):Option ((List Ask×List fP×(List (Int×(List Int)))×Int) ⊕ dL) :=
 bif !a7 then must (((a3.length + 1) + (a3.length + 1) / 4 + 192) * 16≤281474976710656∧a3.length + 1≤9223372036854775807) (gz a0 a4 (a3++([(⟨a2,a0⟩:fP)]:List fP)) a5) else (must (((a4.length + 1) + (a4.length + 1) / 4 + 192) * 48≤281474976710656∧a4.length + 1≤9223372036854775807) (gz a0 (a4++([(⟨a2,a0,(idx ((idx a1.Txns a2).Ops) a0).Key,a6⟩:Ask)]:List Ask)) a3 a5))
noncomputable def kr (a1:History) (a2:Int) (a6:List Ask) (a4:List fP) (a0:List (Int×(List Int))) (a3:Int) (a5:List Int×Bool) (a7:Bool):Option ((List Ask×List fP×(List (Int×(List Int)))×Int) ⊕ dL) :=
 bif a7 then gz a3 a6 a4 a0 else (ko a1 a2 a6 a4 a0 a3 a5.1 a5.2)
noncomputable def mZ (a1:History) (a2:Int):(List Ask×List fP×(List (Int×(List Int)))×Int)→Option ((List Ask×List fP×(List (Int×(List Int)))×Int) ⊕ dL)
 | (a5,a4,a3,a0)=>bif decide (a0 < (((idx a1.Txns a2).Ops).length:Int)) then must (0≤a0∧a0 < (((idx a1.Txns a2).Ops).length:Int)) (bif decide ((idx ((idx a1.Txns a2).Ops) a0).Kind≤4) then must (((((mat a3 ((idx ((idx a1.Txns a2).Ops) a0).Key)).length) + 1) + (((mat a3 ((idx ((idx a1.Txns a2).Ops) a0).Key)).length) + 1) / 4 + 192) * 8≤281474976710656∧((mat a3 ((idx ((idx a1.Txns a2).Ops) a0).Key)).length) + 1≤9223372036854775807) (gz a0 a5 a4 (iT a3 ((idx ((idx a1.Txns a2).Ops) a0).Key) ((mat a3 ((idx ((idx a1.Txns a2).Ops) a0).Key))++([(idx ((idx a1.Txns a2).Ops) a0).Arg]:List Int)))) else ((eG ((idx ((idx a1.Txns a2).Ops) a0).Vals)).bind fun a7=>bif decide (((mat a3 ((idx ((idx a1.Txns a2).Ops) a0).Key)).length:Int) > 0) then (fI (w64 (((idx ((idx a1.Txns a2).Ops) a0).Kind) - 4)) ((idx ((idx a1.Txns a2).Ops) a0).Vals) (mat a3 ((idx ((idx a1.Txns a2).Ops) a0).Key))).bind fun a6=>bif a6.2 then kr a1 a2 a5 a4 a3 a0 a6 ((idx ((idx a1.Txns a2).Ops) a0).Kind == 5) else (kr a1 a2 a5 a4 a3 a0 a6 false) else (ko a1 a2 a5 a4 a3 a0 a7 true))) else (out (some (⟨a5,a4⟩:dL)))
noncomputable def aW (a0:dL) (a1:History) (a2:Int):Option dL :=
 must (0≤a2∧a2 < (a1.Txns.length:Int)) (bif ((idx a1.Txns a2).Status != 1) then some a0 else (iter (mZ a1 a2) (a0.asks,a0.bad,[],0)))
noncomputable def tT (a0:History):(List Ask×List fP×Int)→Option ((List Ask×List fP×Int) ⊕ (dL×Int))
 | (a2,a3,a1)=>bif decide (a1 < (a0.Txns.length:Int)) then (aW (⟨a2,a3⟩:dL) a0 a1).bind fun a4=>some (.inl (a4.asks,a4.bad,w64 (a1 + 1))) else (out (some ((⟨a2,a3⟩:dL),0)))
noncomputable def kD (a0:History):Option (dL×Int) :=
 (aO a0).bind fun a1=>bif (a1 != 0) then some ((⟨([]:List Ask),([]:List fP)⟩:dL),a1) else (iter (tT a0) ([],[],0))
noncomputable def iN (a0:History):Option (List Ask×Int) :=
 (kD a0).bind fun a1=>some (a1.1.asks,a1.2)
noncomputable def mo (a0:Ask) (a1:Ask):Option Bool :=
 bif (a1.Txn == a0.Txn) then bif (a1.Place == a0.Place) then bif (a1.Key == a0.Key) then (dQ a1.Base a0.Base).bind fun a2=>some a2 else (some false) else (some false) else (some false)
noncomputable def eH (a0:List Ask) (a1c0:Ask):Int→Option (Int ⊕ Int)
 | a1=>bif decide (a1 < (a0.length:Int)) then must (0≤a1∧a1 < (a0.length:Int)) ((mo (idx a0 a1) a1c0).bind fun a2=>bif a2 then out (some a1) else (some (.inl (w64 (a1 + 1))))) else (out (some (-1)))
noncomputable def bD (a0:List Ask) (a1c0:Ask):Option Int :=
 iter (eH a0 a1c0) 0
noncomputable def cZ (a0:List Ask) (a1c0:Ask):Option Bool :=
 (bD a0 a1c0).bind fun y3=>some (decide (y3 ≥ 0))
noncomputable def jK (a0:History) (a1:Ask):Option Int :=
 (iN a0).bind fun y9=>bif (y9.2 != 0) then some y9.2 else ((cZ y9.1 a1).bind fun a2=>bif a2 then some 0 else (some 1))
noncomputable def rY (a0:History) (a1:Int) (a3:Int):Int→Option (Int ⊕ (Int ⊕ Int))
 | a2=>bif decide (a2 < (((idx a0.Txns a3).Ops).length:Int)) then must (0≤a2∧a2 < (((idx a0.Txns a3).Ops).length:Int)) (bif ((idx ((idx a0.Txns a3).Ops) a2).Key == a1) then (mP ((idx ((idx a0.Txns a3).Ops) a2).Kind)).bind fun a4=>out (out (some a4)) else (some (.inl (w64 (a2 + 1))))) else (out (some (.inl (w64 (a3 + 1)))))
noncomputable def rZ (a0:History) (a1:Int):Int→Option (Int ⊕ Int)
 | a2=>bif decide (a2 < (a0.Txns.length:Int)) then must (0≤a2∧a2 < (a0.Txns.length:Int)) (iter (rY a0 a1 a2) 0) else (out (some 0))
noncomputable def fq (a0:History) (a1:Int):Option Int :=
 (aO a0).bind fun y8=>bif (y8 != 0) then some 0 else (iter (rZ a0 a1) 0)
noncomputable def oF (a0:Int) (a1:List Int):Option ((List Int×Int) ⊕ (List Int)) :=
 some (.inl (a1,w64 (a0 + 1)))
noncomputable def oG (a0:Txn) (a1:List Int) (a2:Int) (a3:Bool):Option ((List Int×Int) ⊕ (List Int)) :=
 bif a3 then must (((a1.length + 1) + (a1.length + 1) / 4 + 192) * 8≤281474976710656∧a1.length + 1≤9223372036854775807) (oF a2 (a1++([(idx a0.Ops a2).Arg]:List Int))) else (oF a2 a1)
noncomputable def qU (a0:Txn) (a1:Int):(List Int×Int)→Option ((List Int×Int) ⊕ (List Int))
 | (a3,a2)=>bif decide (a2 < (a0.Ops.length:Int)) then must (0≤a2∧a2 < (a0.Ops.length:Int)) (bif ((idx a0.Ops a2).Key == a1) then oG a0 a3 a2 (decide ((idx a0.Ops a2).Kind≤4)) else (oG a0 a3 a2 false)) else (out (some a3))
noncomputable def dD (a0:Txn) (a1:Int):Option (List Int) :=
 iter (qU a0 a1) ([],0)
noncomputable def mq (a0:History) (a1:Int) (a2:Int) (a4:Bool):Option (List Int×Bool) :=
 bif a4 then some (([]:List Int),false) else (must (0≤a1∧a1 < (a0.Txns.length:Int)) ((dD (idx a0.Txns a1) a2).bind fun a3=>some (a3,decide ((a3.length:Int) > 0))))
noncomputable def iC (a0:History) (a1:Int) (a2:Int):Option (List Int×Bool) :=
 bif decide (a1 < 0) then mq a0 a1 a2 true else (bif decide (a1 ≥ (a0.Txns.length:Int)) then mq a0 a1 a2 true else ((aO a0).bind fun a3=>mq a0 a1 a2 (a3 != 0)))
noncomputable def mR (a0:Int) (a1:List Int):Option ((List Int×Int) ⊕ (List Int)) :=
 some (.inl (a1,w64 (a0 + 1)))
noncomputable def mU (a0:List Int) (a1:Int) (a2:Bool):Option ((List Int×Int) ⊕ (List Int)) :=
 bif a2 then must (((a0.length + 1) + (a0.length + 1) / 4 + 192) * 8≤281474976710656∧a0.length + 1≤9223372036854775807) (mR a1 (a0++([a1]:List Int))) else (mR a1 a0)
noncomputable def pO (a0:History) (a1:Int):(List Int×Int)→Option ((List Int×Int) ⊕ (List Int))
 | (a3,a2)=>bif decide (a2 < (a0.Txns.length:Int)) then must (0≤a2∧a2 < (a0.Txns.length:Int)) (bif ((idx a0.Txns a2).Status != 2) then (dD (idx a0.Txns a2) a1).bind fun a4=>mU a3 a2 (decide ((a4.length:Int) > 0)) else (mU a3 a2 false)) else (out (some a3))
noncomputable def cK (a0:History) (a1:Int):Option (List Int) :=
 (aO a0).bind fun y8=>bif (y8 != 0) then some ([]:List Int) else (iter (pO a0 a1) ([],0))
noncomputable def mV (a0:Int) (a1:List aL):Option ((List aL×Int) ⊕ (List aL)) :=
 some (.inl (a1,w64 (a0 + 1)))
noncomputable def mW (a3:List Int) (a0:List aL) (a1:Int) (a2:List Int×Bool) (a4:Bool):Option ((List aL×Int) ⊕ (List aL)) :=
 bif a4 then must (((a0.length + 1) + (a0.length + 1) / 4 + 192) * 32≤281474976710656∧a0.length + 1≤9223372036854775807) (mV a1 (a0++([(⟨idx a3 a1,a2.1⟩:aL)]:List aL))) else (mV a1 a0)
noncomputable def pQ (a0:History) (a1:Ask) (a3:List Int):(List aL×Int)→Option ((List aL×Int) ⊕ (List aL))
 | (a4,a2)=>bif decide (a2 < (a3.length:Int)) then must (0≤a2∧a2 < (a3.length:Int)) ((iC a0 (idx a3 a2) a1.Key).bind fun a5=>bif a5.2 then mW a3 a4 a2 a5 (idx a3 a2 != a1.Txn) else (mW a3 a4 a2 a5 false)) else (out (some a4))
noncomputable def bM (a0:History) (a1:Ask):Option (List aL) :=
 (cK a0 a1.Key).bind fun a2=>iter (pQ a0 a1 a2) ([],0)
noncomputable def qg (a0:aL) (a1:List Int):Option Bool :=
 must (0≤(0:Int)∧(0:Int) < (a0.args.length:Int)) (must (0≤(0:Int)∧(0:Int) < (a1.length:Int)) (some (idx a0.args (0:Int) == idx a1 (0:Int))))
noncomputable def ng (a0:List Int) (a1:Int):Int→Option (Int ⊕ Int)
 | a2=>bif decide (a2 < (a0.length:Int)) then must (0≤a2∧a2 < (a0.length:Int)) (bif (a1 == idx a0 a2) then out (some a2) else (some (.inl (w64 (a2 + 1))))) else (out (some (-1)))
noncomputable def slices_Index_int (a0:List Int) (a1:Int):Option Int :=
 iter (ng a0 a1) 0
noncomputable def slices_Contains_int (a0:List Int) (a1:Int):Option Bool :=
 (slices_Index_int a0 a1).bind fun y3=>some (decide (y3 ≥ 0))
noncomputable def eu (a0:List aL) (a1c0:List Int):Int→Option (Int ⊕ Int)
 | a1=>bif decide (a1 < (a0.length:Int)) then must (0≤a1∧a1 < (a0.length:Int)) ((qg (idx a0 a1) a1c0).bind fun a2=>bif a2 then out (some a1) else (some (.inl (w64 (a1 + 1))))) else (out (some (-1)))
noncomputable def bA (a0:List aL) (a1c0:List Int):Option Int :=
 iter (eu a0 a1c0) 0
noncomputable def kE (a1:List aL) (a2:List Int) (a3:List Int) (a0:Int) (a4:Bool):Option ((List Int×List Int) ⊕ (List Int×Bool)) :=
 bif a4 then out (some (([]:List Int),false)) else (must (0≤a0∧a0 < (a1.length:Int)) (must (((a3.length + 1) + (a3.length + 1) / 4 + 192) * 8≤281474976710656∧a3.length + 1≤9223372036854775807) (must (0≤(((idx a1 a0).args).length:Int)∧(((idx a1 a0).args).length:Int)≤(a2.length:Int)∧(a2.length:Int)≤(a2.length:Int)) (some (.inl (gH a2 (((idx a1 a0).args).length:Int) (a2.length:Int),a3++([(idx a1 a0).txn]:List Int)))))))
noncomputable def oH (a1:List aL):(List Int×List Int)→Option ((List Int×List Int) ⊕ (List Int×Bool))
 | (a2,a3)=>bif decide ((a2.length:Int) > 0) then (bA a1 a2).bind fun a0=>bif decide (a0 < 0) then kE a1 a2 a3 a0 true else (must (0≤a0∧a0 < (a1.length:Int)) (bif decide ((((idx a1 a0).args).length:Int) > (a2.length:Int)) then kE a1 a2 a3 a0 true else (must (0≤(0:Int)∧(0:Int)≤(((idx a1 a0).args).length:Int)∧(((idx a1 a0).args).length:Int)≤(a2.length:Int)) ((dQ ((idx a1 a0).args) (gH a2 (0:Int) (((idx a1 a0).args).length:Int))).bind fun a5=>bif !a5 then kE a1 a2 a3 a0 true else ((slices_Contains_int a3 ((idx a1 a0).txn)).bind fun a4=>kE a1 a2 a3 a0 a4))))) else (out (some (a3,true)))
noncomputable def dK (a0:List Int) (a1:List aL):Option (List Int×Bool) :=
 iter (oH a1) (a0,[])
noncomputable def qh (a2:Int) (a1:List Int) (a0:List (Int×Unit)):Option ((List Int×(List (Int×Unit))×Int) ⊕ (((List (Int×Unit))×Int) ⊕ (List Int×Bool))) :=
 some (.inl (a1,a0,w64 (a2 + 1)))
noncomputable def qi (a2:Int) (a0:List (Int×Unit)) (a1:Int):Option (((List (Int×Unit))×Int×Int) ⊕ ((List Int×(List (Int×Unit))×Int) ⊕ (((List (Int×Unit))×Int) ⊕ (List Int×Bool)))) :=
 some (.inl (a0,a1,w64 (a2 + 1)))
noncomputable def qj (a1:List aL) (a0:List Int) (a2:Int) (a3:List (Int×Unit)) (a4:Int) (a5:Bool):Option (((List (Int×Unit))×Int×Int) ⊕ ((List Int×(List (Int×Unit))×Int) ⊕ (((List (Int×Unit))×Int) ⊕ (List Int×Bool)))) :=
 bif a5 then out (out (out (some (([]:List Int),false)))) else (bif decide (a4 > 0) then must (((a0.length + 1) + (a0.length + 1) / 4 + 192) * 8≤281474976710656∧a0.length + 1≤9223372036854775807) (out (qh a2 (a0++([(idx a1 a2).txn]:List Int)) a3)) else (out (qh a2 a0 a3)))
noncomputable def si (a1:List aL) (a5:List Int) (a2:Int):((List (Int×Unit))×Int×Int)→Option (((List (Int×Unit))×Int×Int) ⊕ ((List Int×(List (Int×Unit))×Int) ⊕ (((List (Int×Unit))×Int) ⊕ (List Int×Bool))))
 | (a4,a3,a0)=>bif decide (a0 < (((idx a1 a2).args).length:Int)) then must (0≤a0∧a0 < (((idx a1 a2).args).length:Int)) (bif pY a4 (idx ((idx a1 a2).args) a0) then qi a0 (zt a4 (idx ((idx a1 a2).args) a0)) (w64 (a3 + 1)) else (qi a0 a4 a3)) else (bif decide (a3 > 0) then qj a1 a5 a2 a4 a3 (decide (a3 < (((idx a1 a2).args).length:Int))) else (qj a1 a5 a2 a4 a3 false))
noncomputable def sj (a1:List aL):(List Int×(List (Int×Unit))×Int)→Option ((List Int×(List (Int×Unit))×Int) ⊕ (((List (Int×Unit))×Int) ⊕ (List Int×Bool)))
 | (a2,a3,a0)=>bif decide (a0 < (a1.length:Int)) then must (0≤a0∧a0 < (a1.length:Int)) (iter (si a1 a2 a0) (a3,0,0)) else (bif decide ((a3.length:Int) > 0) then out (out (some (([]:List Int),false))) else (out (out (some (a2,true)))))
noncomputable def su (a0:List Int) (a1:List aL):((List (Int×Unit))×Int)→Option (((List (Int×Unit))×Int) ⊕ (List Int×Bool))
 | (a3,a2)=>bif decide (a2 < (a0.length:Int)) then must (0≤a2∧a2 < (a0.length:Int)) (some (.inl (iT a3 (idx a0 a2) (),w64 (a2 + 1)))) else (iter (sj a1) ([],a3,0))
noncomputable def bN (a0:List Int) (a1:List aL):Option (List Int×Bool) :=
 iter (su a0 a1) ([],0)
noncomputable def ik (a0:History) (a1:Ask):Option (List Int×Bool) :=
 (fq a0 a1.Key).bind fun a2=>bif (a2 == 2) then (bM a0 a1).bind fun a5=>(dK a1.Base a5).bind fun a3=>some (a3.1,a3.2) else (bif (a2 == 3) then (bM a0 a1).bind fun a6=>(bN a1.Base a6).bind fun a4=>some (a4.1,a4.2) else (some (([]:List Int),false)))
noncomputable def ni (a0:Int) (a2:Int) (a3:List aL) (a4:Int) (rec:Int→Int→Int→(List aL)→Int→Int→Option Int) (a7:Int):(Int×Int)→Option ((Int×Int) ⊕ Int)
 | (a5,a1)=>bif decide (a1 < (((idx a3 a0).args).length:Int)) then must (0≤a1∧a1 < (((idx a3 a0).args).length:Int)) (some (.inl (w64 (a5 + (idx ((idx a3 a0).args) a1)),w64 (a1 + 1)))) else (must (0≤a0∧a0 < (far:Int)) ((rec (w64 (a0 + 1)) a5 (bOr .u64 a2 (zq .u64 1 a0)) a3 a4 a7).bind fun a6=>out (some a6)))
noncomputable def ji (rec:Int→Int→Int→(List aL)→Int→Int→Option Int) (a0:Int) (a1:Int) (a2:Int) (a3:List aL) (a4:Int) (a5:Int):Option Int :=
 bif (a0 == (a3.length:Int)) then bif (a1 == a4) then some (bOr .u64 a5 a2) else (some a5) else ((rec (w64 (a0 + 1)) a1 a2 a3 a4 a5).bind fun a6=>must (0≤a0∧a0 < (a3.length:Int)) (iter (ni a0 a2 a3 a4 rec a6) (a1,0)))
noncomputable def fC:Nat→Int→Int→Int→(List aL)→Int→Int→Option Int
 | 0=>fun _ _ _ _ _ _=>none
 | k + 1=>ji (fC k)
noncomputable def bu (a0:Int) (a1:Int) (a2:Int) (a3:List aL) (a4:Int) (a5:Int):Option Int:=fC 64 a0 a1 a2 a3 a4 a5
noncomputable def lJ (a1:Int) (a0:List Int):Option ((List Int×Int) ⊕ (List Int)) :=
 some (.inl (a0,w64 (a1 + 1)))
noncomputable def oI (a1:List aL) (a3:Int):(List Int×Int)→Option ((List Int×Int) ⊕ (List Int))
 | (a2,a0)=>bif decide (a0 < (a1.length:Int)) then must (0≤a0∧a0 < (a1.length:Int)) (must (0≤a0∧a0 < (far:Int)) (bif (wL .u64 (rJ .u64 a3 a0) 1 == 1) then must (((a2.length + 1) + (a2.length + 1) / 4 + 192) * 8≤281474976710656∧a2.length + 1≤9223372036854775807) (lJ a0 (a2++([(idx a1 a0).txn]:List Int))) else (lJ a0 a2))) else (out (some a2))
noncomputable def dF (a0:Int) (a1:List aL):Option (List Int) :=
 (bu 0 0 0 a1 a0 0).bind fun a2=>iter (oI a1 a2) ([],0)
noncomputable def dX (a0:List Int):Option (List Int) :=
 some a0
noncomputable def lK (a0:History) (a1:Ask) (a3:List Int):Option (List Int) :=
 must (0≤(0:Int)∧(0:Int) < (a1.Base.length:Int)) ((bM a0 a1).bind fun a4=>(dF (idx a1.Base (0:Int)) a4).bind fun a2=>must (((a3.length + a2.length) + (a3.length + a2.length) / 4 + 192) * 8≤281474976710656∧a3.length + a2.length≤9223372036854775807) (dX (a3++a2)))
noncomputable def lL (a1:Int) (a0:List Int):Option ((List Int×Int) ⊕ (List Int)) :=
 some (.inl (a0,w64 (a1 + 1)))
noncomputable def lM (a1:Ask) (a2:List aL):(List Int×Int)→Option ((List Int×Int) ⊕ (List Int))
 | (a3,a0)=>bif decide (a0 < (a2.length:Int)) then must (0≤a0∧a0 < (a2.length:Int)) (must (0≤w64 ((((idx a2 a0).args).length:Int) - 1)∧w64 ((((idx a2 a0).args).length:Int) - 1) < (((idx a2 a0).args).length:Int)) (must (0≤(0:Int)∧(0:Int) < (a1.Base.length:Int)) (bif (idx ((idx a2 a0).args) (w64 ((((idx a2 a0).args).length:Int) - 1)) == idx a1.Base (0:Int)) then must (((a3.length + 1) + (a3.length + 1) / 4 + 192) * 8≤281474976710656∧a3.length + 1≤9223372036854775807) (lL a0 (a3++([(idx a2 a0).txn]:List Int))) else (lL a0 a3)))) else (out (dX a3))
noncomputable def aT (a0:History) (a1:Ask):Option (List Int) :=
 (fq a0 a1.Key).bind fun a3=>bif (a3 == 4) then must (0≤(0:Int)∧(0:Int) < (a1.Base.length:Int)) (bif (idx a1.Base (0:Int) == 0) then must (((0 + 1) + (0 + 1) / 4 + 192) * 8≤281474976710656∧0 + 1≤9223372036854775807) (lK a0 a1 (([]:List Int)++([(-1)]:List Int))) else (lK a0 a1 [])) else (bif ((a1.Base.length:Int) == 0) then dX ([(-1)]:List Int) else (bif (a3 == 1) then (bM a0 a1).bind fun a5=>iter (lM a1 a5) ([],0) else (bif (a3 == 2) then (ik a0 a1).bind fun a2=>bif a2.2 then must (0≤(w64 ((a2.1.length:Int) - 1))∧(w64 ((a2.1.length:Int) - 1))≤(a2.1.length:Int)∧(a2.1.length:Int)≤(a2.1.length:Int)) (dX (gH a2.1 (w64 ((a2.1.length:Int) - 1)) (a2.1.length:Int))) else (dX []) else ((ik a0 a1).bind fun a4=>dX a4.1))))
noncomputable def gm (a0:History) (a1:Ask):Option (List Int×Int) :=
 (jK a0 a1).bind fun a2=>bif (a2 != 0) then some (([]:List Int),a2) else ((aT a0 a1).bind fun a3=>some (a3,0))
noncomputable def oJ (a0:Ask) (a1:History):Option Bool :=
 (aT a1 a0).bind fun y7=>some (decide ((y7.length:Int) > 0))
noncomputable def iD (a0:List Ask) (a1c0:History):Int→Option (Int ⊕ Int)
 | a1=>bif decide (a1 < (a0.length:Int)) then must (0≤a1∧a1 < (a0.length:Int)) ((oJ (idx a0 a1) a1c0).bind fun a2=>bif a2 then out (some a1) else (some (.inl (w64 (a1 + 1))))) else (out (some (-1)))
noncomputable def cu (a0:List Ask) (a1c0:History):Option Int :=
 iter (iD a0 a1c0) 0
noncomputable def ib (a0:List Ask) (a1c0:History):List Ask×Int→Option ((List Ask×Int) ⊕ List Ask)
 | (l,x)=>bif decide (x < (a0.length:Int)) then must (0≤x∧x < (a0.length:Int)) ((oJ (idx a0 x) a1c0).bind fun y=>bif !y then (some (.inl (l++[idx a0 x],w64 (x + 1)))) else (some (.inl (l,w64 (x + 1))))) else (out (some l))
noncomputable def bX (a0:List Ask) (a1c0:History):Option (List Ask) :=
 (cu a0 a1c0).bind fun i=>bif i == -1 then some a0 else must (0≤i∧i < (a0.length:Int)) (iter (ib a0 a1c0) (a0.take i.toNat,w64 (i + 1)))
noncomputable def tV (a0:History):Option (List Ask×Int) :=
 (iN a0).bind fun y7=>bif (y7.2 != 0) then some (([]:List Ask),y7.2) else ((bX y7.1 a0).bind fun a1=>some (a1,0))
noncomputable def lN:Option Bool :=
 (gm (⟨([(⟨#[120]⟩:ByteArray)]:List ByteArray),([(⟨0,1,0,1,([(⟨1,0,5,false,([]:List Int)⟩:Op)]:List Op)⟩:Txn),(⟨0,1,2,3,([(⟨5,0,0,true,([5]:List Int)⟩:Op)]:List Op)⟩:Txn)]:List Txn)⟩:History) (⟨1,0,0,([5]:List Int)⟩:Ask)).bind fun a0=>(tV (⟨([(⟨#[120]⟩:ByteArray)]:List ByteArray),([(⟨0,1,0,1,([(⟨1,0,5,false,([]:List Int)⟩:Op)]:List Op)⟩:Txn),(⟨0,1,2,3,([(⟨5,0,0,true,([5]:List Int)⟩:Op)]:List Op)⟩:Txn)]:List Txn)⟩:History)).bind fun a1=>bif (a0.2 == 0) then bif ((a0.1.length:Int) == 1) then must (0≤(0:Int)∧(0:Int) < (a0.1.length:Int)) (bif (idx a0.1 (0:Int) == 0) then bif (a1.2 == 0) then some ((a1.1.length:Int) == 0) else (some false) else (some false)) else (some false) else (some false)
noncomputable def iZ (a1:Int) (a0:List Ask×Int) (a2:Bool):Option (Ask×Bool) :=
 bif a2 then some ((⟨0,0,0,([]:List Int)⟩:Ask),false) else (must ((IntKind.wrap .u64 ((a0.1.length:Int)))≠0) (must (0≤w64 ((IntKind.wrap .u64 (a1)).tmod (IntKind.wrap .u64 ((a0.1.length:Int))))∧w64 ((IntKind.wrap .u64 (a1)).tmod (IntKind.wrap .u64 ((a0.1.length:Int)))) < (a0.1.length:Int)) (some ((idx a0.1 (w64 ((IntKind.wrap .u64 (a1)).tmod (IntKind.wrap .u64 ((a0.1.length:Int)))))),true))))
noncomputable def dS (a0:History) (a1:Int):Option (Ask×Bool) :=
 (iN a0).bind fun a2=>bif (a2.2 != 0) then iZ a1 a2 true else (iZ a1 a2 ((a2.1.length:Int) == 0))
noncomputable def nk (a0:History) (a4:List Txn) (a1:Int):(List Op×Int)→Option ((List Op×Int) ⊕ ((List Txn×Int) ⊕ History))
 | (a3,a2)=>bif decide (a2 < (((idx a0.Txns a1).Ops).length:Int)) then must (0≤a2∧a2 < (((idx a0.Txns a1).Ops).length:Int)) (must (((0 + (((idx ((idx a0.Txns a1).Ops) a2).Vals).length)) + (0 + (((idx ((idx a0.Txns a1).Ops) a2).Vals).length)) / 4 + 192) * 8≤281474976710656∧0 + (((idx ((idx a0.Txns a1).Ops) a2).Vals).length)≤9223372036854775807) (must (((a3.length + 1) + (a3.length + 1) / 4 + 192) * 56≤281474976710656∧a3.length + 1≤9223372036854775807) (some (.inl (a3++([(⟨(idx ((idx a0.Txns a1).Ops) a2).Kind,(idx ((idx a0.Txns a1).Ops) a2).Key,(idx ((idx a0.Txns a1).Ops) a2).Arg,(idx ((idx a0.Txns a1).Ops) a2).Got,([]:List Int)++((idx ((idx a0.Txns a1).Ops) a2).Vals)⟩:Op)]:List Op),w64 (a2 + 1)))))) else (must (((a4.length + 1) + (a4.length + 1) / 4 + 192) * 56≤281474976710656∧a4.length + 1≤9223372036854775807) (out (some (.inl (a4++([(⟨(idx a0.Txns a1).Proc,(idx a0.Txns a1).Status,(idx a0.Txns a1).From,(idx a0.Txns a1).To,a3⟩:Txn)]:List Txn),w64 (a1 + 1))))))
noncomputable def nu (a0:History):(List Txn×Int)→Option ((List Txn×Int) ⊕ History)
 | (a2,a1)=>bif decide (a1 < (a0.Txns.length:Int)) then must (0≤a1∧a1 < (a0.Txns.length:Int)) (iter (nk a0 a2 a1) ([],0)) else (out (some (⟨([]:List ByteArray)++a0.Keys,a2⟩:History)))
noncomputable def dz (a0:History):Option History :=
 must (((0 + a0.Keys.length) + (0 + a0.Keys.length) / 4 + 192) * 16≤281474976710656∧0 + a0.Keys.length≤9223372036854775807) (iter (nu a0) ([],0))
noncomputable def iK (a0:List Int) (a1:List Int):Int→Option (Int ⊕ Bool)
 | a2=>bif decide (a2 < (a0.length:Int)) then must (0≤a2∧a2 < (a0.length:Int)) (must (0≤a2∧a2 < (a1.length:Int)) (bif (idx a0 a2 != idx a1 a2) then out (some false) else (some (.inl (w64 (a2 + 1)))))) else (out (some true))
noncomputable def bK (a0:List Int) (a1:List Int):Option Bool :=
 bif ((a0.length:Int) != (a1.length:Int)) then some false else (iter (iK a0 a1) 0)
noncomputable def ny (a0:List ByteArray) (a1:ByteArray):Int→Option (Int ⊕ Int)
 | a2=>bif decide (a2 < (a0.length:Int)) then must (0≤a2∧a2 < (a0.length:Int)) (bif sEq (idx a0 a2) a1 then out (some a2) else (some (.inl (w64 (a2 + 1))))) else (out (some (-1)))
noncomputable def dM (a0:List ByteArray) (a1:ByteArray):Option Int :=
 iter (ny a0 a1) 0
noncomputable def iE (a1:Int) (a0:Bool):Option (Int ⊕ Bool) :=
 bif a0 then out (some false) else (some (.inl (w64 (a1 + 1))))
noncomputable def mr (a0:List ByteArray):Int→Option (Int ⊕ Bool)
 | a1=>bif decide (a1 < (a0.length:Int)) then must (0≤a1∧a1 < (a0.length:Int)) (bif decide (((idx a0 a1).size:Int) < 1) then iE a1 true else (bif decide (((idx a0 a1).size:Int) > 32) then iE a1 true else (must (0≤(0:Int)∧(0:Int)≤a1∧a1≤(a0.length:Int)) ((dM (gH a0 (0:Int) a1) (idx a0 a1)).bind fun a2=>iE a1 (decide (a2 ≥ 0)))))) else (out (some (decide ((a0.length:Int)≤32))))
noncomputable def bW (a0:List ByteArray):Option Bool :=
 iter (mr a0) 0
noncomputable def gU (a1:Int) (a0:Bool):Option (Int ⊕ Bool) :=
 bif a0 then out (some false) else (some (.inl (w64 (a1 + 1))))
noncomputable def jk (a0:List Txn) (a1:Int):Int→Option (Int ⊕ Bool)
 | a2=>bif decide (a2 < a1) then must (0≤a2∧a2 < (a0.length:Int)) (bif ((idx a0 a2).Proc == (idx a0 a1).Proc) then bif ((idx a0 a2).To == (-1)) then gU a2 true else (gU a2 (decide ((idx a0 a2).To ≥ (idx a0 a1).From))) else (gU a2 false)) else (out (some true))
noncomputable def jl (a0:List Txn) (a1:Int) (a2:Bool):Option Bool :=
 bif a2 then some false else (iter (jk a0 a1) 0)
noncomputable def dm (a0:List Txn) (a1:Int) (a2:Bool):Option Bool :=
 bif a2 then some false else (bif decide (a1 > 0) then must (0≤w64 (a1 - 1)∧w64 (a1 - 1) < (a0.length:Int)) (jl a0 a1 (decide ((idx a0 a1).From≤(idx a0 (w64 (a1 - 1))).From))) else (jl a0 a1 false))
noncomputable def aK (a0:List Txn) (a1:Int):Option Bool :=
 must (0≤a1∧a1 < (a0.length:Int)) (bif decide ((idx a0 a1).Status < 1) then dm a0 a1 true else (bif decide ((idx a0 a1).Status > 3) then dm a0 a1 true else (bif decide ((idx a0 a1).From < 0) then dm a0 a1 true else (bif ((idx a0 a1).To != (-1)) then bif decide ((idx a0 a1).To≤(idx a0 a1).From) then dm a0 a1 true else (bif ((idx a0 a1).To == (-1)) then dm a0 a1 ((idx a0 a1).Status != 3) else (dm a0 a1 false)) else (bif ((idx a0 a1).To == (-1)) then dm a0 a1 ((idx a0 a1).Status != 3) else (dm a0 a1 false))))))
noncomputable def iQ (a0:Call):Option Bool :=
 some (decide ((a0.Vals.length:Int)≤64))
noncomputable def ku (a0:Call):Int→Option (Int ⊕ Bool)
 | a1=>bif decide (a1 < (a0.Vals.length:Int)) then must (0≤a1∧a1 < (a0.Vals.length:Int)) (must (0≤w64 (a1 - 1)∧w64 (a1 - 1) < (a0.Vals.length:Int)) (bif decide (idx a0.Vals a1≤idx a0.Vals (w64 (a1 - 1))) then out (some false) else (some (.inl (w64 (a1 + 1)))))) else (out (iQ a0))
noncomputable def gF (a0:Call) (a1:Bool):Option Bool :=
 bif a1 then some false else (bif (a0.Kind == 5) then some (decide ((a0.Vals.length:Int)≤1)) else (bif (a0.Kind == 8) then bif !a0.Got then some true else (some ((a0.Vals.length:Int) == 1)) else (bif (a0.Kind == 7) then iter (ku a0) 1 else (iQ a0))))
noncomputable def gG (a0:Call) (a1:Int) (a2:Bool):Option Bool :=
 bif a2 then some false else (bif decide (a0.Kind≤4) then bif !a0.Got then bif ((a0.Vals.length:Int) == 0) then bif (a0.Kind != 4) then some true else (bif decide (a0.Arg ≥ (-1048576)) then some (decide (a0.Arg≤1048576)) else (some false)) else (some false) else (some false) else (bif (a0.Arg != 0) then gF a0 true else (bif (a0.Got != (a1 == 1)) then gF a0 true else (bif !a0.Got then gF a0 (decide ((a0.Vals.length:Int) > 0)) else (gF a0 false)))))
noncomputable def aR (a0:Call) (a1:Int):Option Bool :=
 bif decide (a0.Kind < 1) then gG a0 a1 true else (bif decide (a0.Kind > 8) then gG a0 a1 true else (bif decide ((a0.Key.size:Int) < 1) then gG a0 a1 true else (gG a0 a1 (decide ((a0.Key.size:Int) > 32)))))
noncomputable def jL (a0:Event):Int→Option (Int ⊕ Bool)
 | a1=>bif decide (a1 < (a0.Calls.length:Int)) then must (0≤a1∧a1 < (a0.Calls.length:Int)) ((aR (idx a0.Calls a1) a0.Kind).bind fun a2=>bif !a2 then out (some false) else (some (.inl (w64 (a1 + 1))))) else (out (some true))
noncomputable def iF (a0:Event) (b9:Bool):Option Bool :=
 bif b9 then some false else (iter (jL a0) 0)
noncomputable def bQ (a0:Event):Option Bool :=
 bif decide (a0.Kind < 0) then iF a0 true else (bif decide (a0.Kind > 3) then iF a0 true else (iF a0 (decide ((a0.Calls.length:Int) > 16))))
noncomputable def mD (a0:List Event):Int→Option (Int ⊕ Int)
 | a1=>bif decide (a1 < (a0.length:Int)) then must (0≤a1∧a1 < (a0.length:Int)) ((bQ (idx a0 a1)).bind fun a2=>bif !a2 then out (some 1) else (some (.inl (w64 (a1 + 1))))) else (out (some 0))
noncomputable def dY (a0:List Event):Option Int :=
 bif decide ((a0.length:Int) > 256) then some 1 else (iter (mD a0) 0)
noncomputable def iG (a0:Int):Option Int :=
 some (w64 (((w64 (a0 - 1)).tmod (4:Int)) + 1))
noncomputable def eZ (a1:List ByteArray) (a3:List Int) (a2:List (List Int)) (a4:List Int) (a0:List Int):Option (Int×aH) :=
 some (0,(⟨a1,a3,a2,a4,a0⟩:aH))
noncomputable def fe (a2:Int) (a4:List ByteArray) (a6:List Int) (a1:List Int) (a3:List Int) (a0:Int) (a5:List (List Int)) (a7:Bool):Option (Int×aH) :=
 bif a7 then must (0≤a0∧a0 < (a3.length:Int)) (must (0≤a0∧a0 < (a1.length:Int)) (bif decide (idx (a1.set a0.toNat (w64 ((idx a1 a0) + 1))) a0 > 8) then some (51,(⟨a4,a6,a5,a1.set a0.toNat (w64 ((idx a1 a0) + 1)),a3.set a0.toNat a2⟩:aH)) else (eZ a4 a6 a5 (a1.set a0.toNat (w64 ((idx a1 a0) + 1))) (a3.set a0.toNat a2)))) else (eZ a4 a6 a5 a1 a3)
noncomputable def dP (a1:Call) (a2:Int) (a4:List ByteArray) (a7:List Int) (a6:List Int) (a3:List Int) (a0:Int) (a5:List (List Int)):Option (Int×aH) :=
 bif (a1.Kind == 4) then must (0≤a0∧a0 < (a3.length:Int)) (fe a2 a4 a7 a6 a3 a0 a5 (idx a3 a0 != a2)) else (fe a2 a4 a7 a6 a3 a0 a5 false)
noncomputable def gI (a1:Call) (a2:Int) (a5:List ByteArray) (a7:List Int) (a3:List (List Int)) (a6:List Int) (a8:List Int) (a0:Int):Int→Option (Int ⊕ (Int×aH))
 | a4=>must (0≤a0∧a0 < (a3.length:Int)) (bif decide (a4 < ((idx a3 a0).length:Int)) then must (0≤a4∧a4 < ((idx a3 a0).length:Int)) (bif (idx (idx a3 a0) a4 == a1.Arg) then out (some (3,(⟨a5,a7,a3,a6,a8⟩:aH))) else (some (.inl (w64 (a4 + 1))))) else (must (((((idx a3 a0).length) + 1) + (((idx a3 a0).length) + 1) / 4 + 192) * 8≤281474976710656∧((idx a3 a0).length) + 1≤9223372036854775807) (out (dP a1 a2 a5 a7 a6 a8 a0 (a3.set a0.toNat ((idx a3 a0)++([a1.Arg]:List Int)))))))
noncomputable def gJ (a1:Call) (a2:Int) (a3:List ByteArray) (a6:List Int) (a5:List (List Int)) (a4:List Int) (a7:List Int) (a0:Int) (a8:Bool):Option (Int×aH) :=
 bif a8 then iter (gI a1 a2 a3 a6 a5 a4 a7 a0) 0 else (dP a1 a2 a3 a6 a4 a7 a0 a5)
noncomputable def dE (a1:Call) (a2:Int) (a4:List ByteArray) (a3:List Int) (a6:List (List Int)) (a5:List Int) (a7:List Int) (a0:Int):Option (Int×aH) :=
 must (0≤a0∧a0 < (a3.length:Int)) ((iG a1.Kind).bind fun a8=>bif (idx a3 a0 != a8) then some (50,(⟨a4,a3,a6,a5,a7⟩:aH)) else (bif (a1.Kind == 2) then gJ a1 a2 a4 a3 a6 a5 a7 a0 true else (gJ a1 a2 a4 a3 a6 a5 a7 a0 (a1.Kind == 3))))
noncomputable def gL (a0:aH) (a1:Call) (a2:Int) (a3:List Int):Option (Int×aH) :=
 must (((a0.wrote.length + 1) + (a0.wrote.length + 1) / 4 + 192) * 24≤281474976710656∧a0.wrote.length + 1≤9223372036854775807) (must (((a0.incs.length + 1) + (a0.incs.length + 1) / 4 + 192) * 8≤281474976710656∧a0.incs.length + 1≤9223372036854775807) (must (((a0.last_.length + 1) + (a0.last_.length + 1) / 4 + 192) * 8≤281474976710656∧a0.last_.length + 1≤9223372036854775807) (dE a1 a2 (a0.keys++([a1.Key]:List ByteArray)) a3 (a0.wrote++([([]:List Int)]:List (List Int))) (a0.incs++([0]:List Int)) (a0.last_++([(-1)]:List Int)) (a0.keys.length:Int))))
noncomputable def gM (a0:aH) (a1:Call) (a2:Int):Option (Int×aH) :=
 (iG a1.Kind).bind fun a3=>must (((a0.types.length + 1) + (a0.types.length + 1) / 4 + 192) * 8≤281474976710656∧a0.types.length + 1≤9223372036854775807) (gL a0 a1 a2 (a0.types++([a3]:List Int)))
noncomputable def ah (a0:aH) (a1:Call) (a2:Int):Option (Int×aH) :=
 (dM a0.keys a1.Key).bind fun y5=>bif decide (y5 < 0) then bif decide ((a0.keys.length:Int) ≥ 32) then some (2,a0) else (must (((a0.keys.length + 1) + (a0.keys.length + 1) / 4 + 192) * 16≤281474976710656∧a0.keys.length + 1≤9223372036854775807) (gM a0 a1 a2)) else (dE a1 a2 a0.keys a0.types a0.wrote a0.incs a0.last_ y5)
noncomputable def mE (a0:History) (a2:Int) (a3:List Call) (a1:Int):Option ((List Call×Int) ⊕ ((List ByteArray×List Int×(List (List Int))×List Int×List Int×Int) ⊕ Int)) :=
 some (.inl (a3++([(⟨(idx ((idx a0.Txns a2).Ops) a1).Kind,idx a0.Keys ((idx ((idx a0.Txns a2).Ops) a1).Key),(idx ((idx a0.Txns a2).Ops) a1).Arg,(idx ((idx a0.Txns a2).Ops) a1).Got,(idx ((idx a0.Txns a2).Ops) a1).Vals⟩:Call)]:List Call),w64 (a1 + 1)))
noncomputable def jM (a0:History) (a3:Int) (a1:List Call) (a2:Int) (a4:Bool):Option ((List Call×Int) ⊕ ((List ByteArray×List Int×(List (List Int))×List Int×List Int×Int) ⊕ Int)) :=
 bif a4 then out (out (some 1)) else (must (0≤(idx ((idx a0.Txns a3).Ops) a2).Key∧(idx ((idx a0.Txns a3).Ops) a2).Key < (a0.Keys.length:Int)) (must (((a1.length + 1) + (a1.length + 1) / 4 + 192) * 64≤281474976710656∧a1.length + 1≤9223372036854775807) (mE a0 a3 a1 a2)))
noncomputable def eO (a7:Int) (a2:List Call):(List ByteArray×List Int×(List (List Int))×List Int×List Int×Int)→Option ((List ByteArray×List Int×(List (List Int))×List Int×List Int×Int) ⊕ ((List Call×Int) ⊕ ((List ByteArray×List Int×(List (List Int))×List Int×List Int×Int) ⊕ Int)))
 | (a6,a8,a3,a4,a5,a1)=>bif decide (a1 < (a2.length:Int)) then must (0≤a1∧a1 < (a2.length:Int)) ((ah (⟨a6,a8,a3,a4,a5⟩:aH) (idx a2 a1) a7).bind fun a0=>bif (a0.1 != 0) then out (out (out (some 1))) else (some (.inl (a0.2.keys,a0.2.types,a0.2.wrote,a0.2.incs,a0.2.last_,w64 (a1 + 1))))) else (out (out (some (.inl (a6,a8,a3,a4,a5,w64 (a7 + 1))))))
noncomputable def eP (a0:History) (a6:List ByteArray) (a4:List Int) (a5:List (List Int)) (a7:List Int) (a8:List Int) (a1:Int):(List Call×Int)→Option ((List Call×Int) ⊕ ((List ByteArray×List Int×(List (List Int))×List Int×List Int×Int) ⊕ Int))
 | (a3,a2)=>bif decide (a2 < (((idx a0.Txns a1).Ops).length:Int)) then must (0≤a2∧a2 < (((idx a0.Txns a1).Ops).length:Int)) (bif decide ((idx ((idx a0.Txns a1).Ops) a2).Key < 0) then jM a0 a1 a3 a2 true else (jM a0 a1 a3 a2 (decide ((idx ((idx a0.Txns a1).Ops) a2).Key ≥ (a0.Keys.length:Int))))) else ((dY ([(⟨0,(idx a0.Txns a1).Status,a3⟩:Event)]:List Event)).bind fun a9=>bif (a9 != 0) then out (out (some 1)) else (iter (eO a1 a3) (a6,a4,a5,a7,a8,0)))
noncomputable def iH (a0:History) (a4:List ByteArray) (a1:List Int) (a3:List (List Int)) (a5:List Int) (a6:List Int) (a7:Int) (a2:Bool):Option ((List ByteArray×List Int×(List (List Int))×List Int×List Int×Int) ⊕ Int) :=
 bif a2 then out (some 1) else (iter (eP a0 a4 a1 a3 a5 a6 a7) ([],0))
noncomputable def iI (a0:History):(List ByteArray×List Int×(List (List Int))×List Int×List Int×Int)→Option ((List ByteArray×List Int×(List (List Int))×List Int×List Int×Int) ⊕ Int)
 | (a4,a2,a3,a5,a6,a1)=>bif decide (a1 < (a0.Txns.length:Int)) then must (0≤a1∧a1 < (a0.Txns.length:Int)) ((aK a0.Txns a1).bind fun a7=>bif !a7 then iH a0 a4 a2 a3 a5 a6 a1 true else (iH a0 a4 a2 a3 a5 a6 a1 (decide ((((idx a0.Txns a1).Ops).length:Int) > 16)))) else (out (some 0))
noncomputable def fQ (a0:History) (a1:Bool):Option Int :=
 bif a1 then some 1 else (iter (iI a0) ([],[],[],[],[],0))
noncomputable def av (a0:History):Option Int :=
 (bW a0.Keys).bind fun a1=>bif !a1 then fQ a0 true else (fQ a0 (decide ((a0.Txns.length:Int) > 32)))
noncomputable def eQ (a0:Int):Option Bool :=
 some (decide (a0≤4))
noncomputable def dG (a0:Bool):Option Int :=
 bif !a0 then some 80 else (some 0)
noncomputable def mF (a1:Int) (a0:Bool):Option ((Bool×Int) ⊕ Int) :=
 some (.inl (a0,w64 (a1 + 1)))
noncomputable def jN (a1:List Int):(Bool×Int)→Option ((Bool×Int) ⊕ Int)
 | (a2,a0)=>bif decide (a0 < (a1.length:Int)) then bif a2 then must (0≤w64 (a0 - 1)∧w64 (a0 - 1) < (a1.length:Int)) (must (0≤a0∧a0 < (a1.length:Int)) (mF a0 (decide (idx a1 (w64 (a0 - 1)) < idx a1 a0)))) else (mF a0 false) else (out (dG a2))
noncomputable def dH (a0:Int) (a1:List Int) (b5:Bool):Option Int :=
 bif b5 then some 1 else (bif (a0 == 1) then dG (decide ((a1.length:Int)≤1)) else (bif (a0 == 4) then dG ((a1.length:Int) == 1) else (bif (a0 == 3) then iter (jN a1) (decide ((a1.length:Int)≤64),1) else (dG (decide ((a1.length:Int)≤64))))))
noncomputable def aI (a0:Int) (a1:List Int):Option Int :=
 bif decide (a0 < 1) then dH a0 a1 true else (dH a0 a1 (decide (a0 > 4)))
noncomputable def oK (a0:List Int) (a1:Int):Int→Option (Int ⊕ Bool)
 | a2=>bif decide (a2 < (a0.length:Int)) then must (0≤a2∧a2 < (a0.length:Int)) (bif (idx a0 a2 == a1) then out (some true) else (some (.inl (w64 (a2 + 1))))) else (out (some false))
noncomputable def eT (a0:List Int) (a1:Int):Option Bool :=
 iter (oK a0 a1) 0
noncomputable def pG (a2:List Int):(Int×Int)→Option ((Int×Int) ⊕ (List Int×Bool))
 | (a1,a0)=>bif decide (a0 < (a2.length:Int)) then must (0≤a0∧a0 < (a2.length:Int)) (some (.inl (w64 (a1 - (idx a2 a0)),w64 (a0 + 1)))) else (out (some (([a1]:List Int),true)))
noncomputable def jm (a1:List Int) (a2:List Int):Int→Option (Int ⊕ (List Int×Bool))
 | a0=>bif decide (a0 < (a2.length:Int)) then must (0≤w64 ((w64 ((a1.length:Int) - (a2.length:Int))) + a0)∧w64 ((w64 ((a1.length:Int) - (a2.length:Int))) + a0) < (a1.length:Int)) (must (0≤a0∧a0 < (a2.length:Int)) (bif (idx a1 (w64 ((w64 ((a1.length:Int) - (a2.length:Int))) + a0)) != idx a2 a0) then out (some (([]:List Int),false)) else (some (.inl (w64 (a0 + 1)))))) else (must (0≤(0:Int)∧(0:Int)≤(w64 ((a1.length:Int) - (a2.length:Int)))∧(w64 ((a1.length:Int) - (a2.length:Int)))≤(a1.length:Int)) (must (((0 + ((gH a1 (0:Int) (w64 ((a1.length:Int) - (a2.length:Int)))).length)) + (0 + ((gH a1 (0:Int) (w64 ((a1.length:Int) - (a2.length:Int)))).length)) / 4 + 192) * 8≤281474976710656∧0 + ((gH a1 (0:Int) (w64 ((a1.length:Int) - (a2.length:Int)))).length)≤9223372036854775807) (out (some (([]:List Int)++(gH a1 (0:Int) (w64 ((a1.length:Int) - (a2.length:Int)))),true)))))
noncomputable def gV (a1:Int) (a0:Bool):Option (Int ⊕ (List Int×Bool)) :=
 bif a0 then out (some (([]:List Int),false)) else (some (.inl (w64 (a1 + 1))))
noncomputable def lv (a1:Int) (a0:List Int):Option ((List Int×Int) ⊕ (Int ⊕ (List Int×Bool))) :=
 some (.inl (a0,w64 (a1 + 1)))
noncomputable def jo (a1:List Int) (a2:List Int):(List Int×Int)→Option ((List Int×Int) ⊕ (Int ⊕ (List Int×Bool)))
 | (a3,a0)=>bif decide (a0 < (a1.length:Int)) then must (0≤a0∧a0 < (a1.length:Int)) ((eT a2 (idx a1 a0)).bind fun a4=>bif !a4 then must (((a3.length + 1) + (a3.length + 1) / 4 + 192) * 8≤281474976710656∧a3.length + 1≤9223372036854775807) (lv a0 (a3++([idx a1 a0]:List Int))) else (lv a0 a3)) else (out (out (some (a3,true))))
noncomputable def jq (a1:List Int) (a2:List Int):Int→Option (Int ⊕ (List Int×Bool))
 | a0=>bif decide (a0 < (a2.length:Int)) then must (0≤a0∧a0 < (a2.length:Int)) ((eT a1 (idx a2 a0)).bind fun a4=>bif !a4 then gV a0 true else (must (0≤(0:Int)∧(0:Int)≤a0∧a0≤(a2.length:Int)) ((eT (gH a2 (0:Int) a0) (idx a2 a0)).bind fun a3=>gV a0 a3))) else (iter (jo a1 a2) ([],0))
noncomputable def fD (a0:Int) (a1:List Int) (a2:List Int) (b9:Bool):Option (List Int×Bool) :=
 bif b9 then some (([]:List Int),false) else (bif (a0 == 1) then bif ((a1.length:Int) == 1) then must (0≤(0:Int)∧(0:Int) < (a1.length:Int)) (must (0≤w64 ((a2.length:Int) - 1)∧w64 ((a2.length:Int) - 1) < (a2.length:Int)) (some (([]:List Int),(idx a1 (0:Int) == idx a2 (w64 ((a2.length:Int) - 1)))))) else (some (([]:List Int),false)) else (bif (a0 == 4) then must (0≤(0:Int)∧(0:Int) < (a1.length:Int)) (iter (pG a2) (idx a1 (0:Int),0)) else (bif (a0 == 2) then bif decide ((a2.length:Int) > (a1.length:Int)) then some (([]:List Int),false) else (iter (jm a1 a2) 0) else (iter (jq a1 a2) 0))))
noncomputable def aF (a0:Int) (a1:List Int) (a2:List Int):Option (List Int×Bool) :=
 (aI a0 a1).bind fun a3=>bif (a3 != 0) then fD a0 a1 a2 true else (fD a0 a1 a2 ((a2.length:Int) == 0))
noncomputable def gp (a1:Int) (a0:List Ask) (a2:List fP):Option ((List Ask×List fP×Int) ⊕ (List Ask×List fP)) :=
 some (.inl (a0,a2,w64 (a1 + 1)))
noncomputable def lQ (a0:Int) (a1:List Int):Option ((List Int×Int) ⊕ ((List Ask×List fP×Int) ⊕ (List Ask×List fP))) :=
 some (.inl (a1,w64 (a0 + 1)))
noncomputable def lS (a0:History) (a1:Int) (a3:List Int) (a2:Int) (a4:Bool):Option ((List Int×Int) ⊕ ((List Ask×List fP×Int) ⊕ (List Ask×List fP))) :=
 bif a4 then must (0≤a2∧a2 < (((idx a0.Txns a1).Ops).length:Int)) (must (((a3.length + 1) + (a3.length + 1) / 4 + 192) * 8≤281474976710656∧a3.length + 1≤9223372036854775807) (lQ a2 (a3++([(idx ((idx a0.Txns a1).Ops) a2).Arg]:List Int)))) else (lQ a2 a3)
noncomputable def lT (a0:History) (a1:Int) (a2:List Ask) (a4:List fP) (a3:Int) (a5:List Int):Option ((List Int×Int) ⊕ ((List Ask×List fP×Int) ⊕ (List Ask×List fP))) :=
 must (((a2.length + 1) + (a2.length + 1) / 4 + 192) * 48≤281474976710656∧a2.length + 1≤9223372036854775807) (out (gp a3 (a2++([(⟨a1,a3,(idx ((idx a0.Txns a1).Ops) a3).Key,a5⟩:Ask)]:List Ask)) a4))
noncomputable def oL (a0:History) (a1:Int) (a6:List Ask) (a3:List fP) (a2:Int):(List Int×Int)→Option ((List Int×Int) ⊕ ((List Ask×List fP×Int) ⊕ (List Ask×List fP)))
 | (a5,a4)=>bif decide (a4 < a2) then must (0≤a4∧a4 < (((idx a0.Txns a1).Ops).length:Int)) (bif ((idx ((idx a0.Txns a1).Ops) a4).Key == (idx ((idx a0.Txns a1).Ops) a2).Key) then (eQ ((idx ((idx a0.Txns a1).Ops) a4).Kind)).bind fun a8=>lS a0 a1 a5 a4 a8 else (lS a0 a1 a5 a4 false)) else (must (((0 + (((idx ((idx a0.Txns a1).Ops) a2).Vals).length)) + (0 + (((idx ((idx a0.Txns a1).Ops) a2).Vals).length)) / 4 + 192) * 8≤281474976710656∧0 + (((idx ((idx a0.Txns a1).Ops) a2).Vals).length)≤9223372036854775807) (bif decide ((a5.length:Int) > 0) then (iG ((idx ((idx a0.Txns a1).Ops) a2).Kind)).bind fun a9=>(aF a9 ((idx ((idx a0.Txns a1).Ops) a2).Vals) a5).bind fun a7=>bif !a7.2 then must (((a3.length + 1) + (a3.length + 1) / 4 + 192) * 16≤281474976710656∧a3.length + 1≤9223372036854775807) (out (gp a2 a6 (a3++([(⟨a1,a2⟩:fP)]:List fP)))) else (bif ((idx ((idx a0.Txns a1).Ops) a2).Kind == 5) then out (gp a2 a6 a3) else (lT a0 a1 a6 a3 a2 a7.1)) else (lT a0 a1 a6 a3 a2 (([]:List Int)++((idx ((idx a0.Txns a1).Ops) a2).Vals)))))
noncomputable def oM (a0:History) (a1:Int):(List Ask×List fP×Int)→Option ((List Ask×List fP×Int) ⊕ (List Ask×List fP))
 | (a3,a4,a2)=>bif decide (a2 < (((idx a0.Txns a1).Ops).length:Int)) then must (0≤a2∧a2 < (((idx a0.Txns a1).Ops).length:Int)) ((eQ ((idx ((idx a0.Txns a1).Ops) a2).Kind)).bind fun a5=>bif a5 then gp a2 a3 a4 else (iter (oL a0 a1 a3 a4 a2) ([],0))) else (out (some (a3,a4)))
noncomputable def aQ (a0:History) (a1:Int):Option (List Ask×List fP) :=
 must (0≤a1∧a1 < (a0.Txns.length:Int)) (bif ((idx a0.Txns a1).Status != 1) then some (([]:List Ask),([]:List fP)) else (iter (oM a0 a1) ([],[],0)))
noncomputable def nU (a0:History):(List Ask×List fP×Int)→Option ((List Ask×List fP×Int) ⊕ (List Ask×List fP))
 | (a3,a2,a4)=>bif decide (a4 < (a0.Txns.length:Int)) then (aQ a0 a4).bind fun a1=>must (((a3.length + a1.1.length) + (a3.length + a1.1.length) / 4 + 192) * 48≤281474976710656∧a3.length + a1.1.length≤9223372036854775807) (must (((a2.length + a1.2.length) + (a2.length + a1.2.length) / 4 + 192) * 16≤281474976710656∧a2.length + a1.2.length≤9223372036854775807) (some (.inl (a3++a1.1,a2++a1.2,w64 (a4 + 1))))) else (out (some (a3,a2)))
noncomputable def fJ (a0:History):Option (List Ask×List fP) :=
 iter (nU a0) ([],[],0)
noncomputable def fT (a1:Int) (a0:Bool):Option (Int ⊕ Bool) :=
 bif a0 then out (some true) else (some (.inl (w64 (a1 + 1))))
noncomputable def mG (a1:Ask) (a2:List Ask×List fP):Int→Option (Int ⊕ Bool)
 | a0=>bif decide (a0 < (a2.1.length:Int)) then must (0≤a0∧a0 < (a2.1.length:Int)) (bif ((idx a2.1 a0).Txn == a1.Txn) then bif ((idx a2.1 a0).Place == a1.Place) then bif ((idx a2.1 a0).Key == a1.Key) then (bK ((idx a2.1 a0).Base) a1.Base).bind fun a3=>fT a0 a3 else (fT a0 false) else (fT a0 false) else (fT a0 false)) else (out (some false))
noncomputable def bJ (a0:History) (a1:Ask):Option Bool :=
 (av a0).bind fun a3=>bif (a3 != 0) then some false else ((fJ a0).bind fun a2=>iter (mG a1 a2) 0)
noncomputable def iW (a0:History) (a1:Ask):Option Int :=
 must (0≤a1.Txn∧a1.Txn < (a0.Txns.length:Int)) (must (0≤a1.Place∧a1.Place < (((idx a0.Txns a1.Txn).Ops).length:Int)) ((iG ((idx ((idx a0.Txns a1.Txn).Ops) a1.Place).Kind)).bind fun a2=>some a2))
noncomputable def jO (a1:Int) (a0:List Int):Option ((List Int×Int) ⊕ (List Int)) :=
 some (.inl (a0,w64 (a1 + 1)))
noncomputable def jP (a0:History) (a1:Int) (a2:List Int) (a3:Int) (a4:Bool):Option ((List Int×Int) ⊕ (List Int)) :=
 bif a4 then must (((a2.length + 1) + (a2.length + 1) / 4 + 192) * 8≤281474976710656∧a2.length + 1≤9223372036854775807) (jO a3 (a2++([(idx ((idx a0.Txns a1).Ops) a3).Arg]:List Int))) else (jO a3 a2)
noncomputable def mH (a0:History) (a1:Int) (a2:Int):(List Int×Int)→Option ((List Int×Int) ⊕ (List Int))
 | (a4,a3)=>must (0≤a1∧a1 < (a0.Txns.length:Int)) (bif decide (a3 < (((idx a0.Txns a1).Ops).length:Int)) then must (0≤a3∧a3 < (((idx a0.Txns a1).Ops).length:Int)) (bif ((idx ((idx a0.Txns a1).Ops) a3).Key == a2) then (eQ ((idx ((idx a0.Txns a1).Ops) a3).Kind)).bind fun a5=>jP a0 a1 a4 a3 a5 else (jP a0 a1 a4 a3 false)) else (out (some a4)))
noncomputable def aM (a0:History) (a1:Int) (a2:Int):Option (List Int) :=
 iter (mH a0 a1 a2) ([],0)
noncomputable def jr (a0:Int) (a1:List Int):Option ((List Int×Int) ⊕ (List Int)) :=
 some (.inl (a1,w64 (a0 + 1)))
noncomputable def gW (a0:List Int) (a1:Int) (a2:Bool):Option ((List Int×Int) ⊕ (List Int)) :=
 bif a2 then must (((a0.length + 1) + (a0.length + 1) / 4 + 192) * 8≤281474976710656∧a0.length + 1≤9223372036854775807) (jr a1 (a0++([a1]:List Int))) else (jr a1 a0)
noncomputable def lw (a0:History) (a1:Ask):(List Int×Int)→Option ((List Int×Int) ⊕ (List Int))
 | (a3,a2)=>bif decide (a2 < (a0.Txns.length:Int)) then bif (a2 != a1.Txn) then must (0≤a2∧a2 < (a0.Txns.length:Int)) (bif ((idx a0.Txns a2).Status != 2) then (aM a0 a2 a1.Key).bind fun a4=>gW a3 a2 (decide ((a4.length:Int) > 0)) else (gW a3 a2 false)) else (gW a3 a2 false) else (out (some a3))
noncomputable def aN (a0:History) (a1:Ask):Option (List Int) :=
 iter (lw a0 a1) ([],0)
noncomputable def nV (y7:List Int):(Int×Int)→Option ((Int×Int) ⊕ Int)
 | (a1,a0)=>bif decide (a0 < (y7.length:Int)) then must (0≤a0∧a0 < (y7.length:Int)) (some (.inl (w64 (a1 + (idx y7 a0)),w64 (a0 + 1)))) else (out (some a1))
noncomputable def fK (a0:History) (a1:Int) (a2:Int):Option Int :=
 (aM a0 a1 a2).bind fun y7=>iter (nV y7) (0,0)
noncomputable def jv (a1:Int) (a0:Int):Option ((Int×Int) ⊕ ((List Bool×Int) ⊕ (List Int))) :=
 some (.inl (a0,w64 (a1 + 1)))
noncomputable def jw (a1:Int) (a0:List Bool):Option ((List Bool×Int) ⊕ ((Int×Int) ⊕ ((List Bool×Int) ⊕ (List Int)))) :=
 some (.inl (a0,w64 (a1 + 1)))
noncomputable def jy (a2:Int) (a1:List Bool) (a0:Int) (a3:Bool):Option ((List Bool×Int) ⊕ ((Int×Int) ⊕ ((List Bool×Int) ⊕ (List Int)))) :=
 bif a3 then must (0≤a0∧a0 < (a1.length:Int)) (bif idx a1 a0 then jw a0 (a1.set a0.toNat true) else (must (0≤a0∧a0 < (far:Int)) (jw a0 (a1.set a0.toNat (wL .i64 (rJ .i64 a2 a0) 1 == 1))))) else (out (out (some (.inl (a1,w64 (a2 + 1))))))
noncomputable def lC (a1:Ask) (y9:List Int) (a3:Int) (a4:Int):(List Bool×Int)→Option ((List Bool×Int) ⊕ ((Int×Int) ⊕ ((List Bool×Int) ⊕ (List Int))))
 | (a2,a0)=>bif decide (a0 < (y9.length:Int)) then must (0≤(0:Int)∧(0:Int) < (a1.Base.length:Int)) (jy a3 a2 a0 (a4 == idx a1.Base (0:Int))) else (jy a3 a2 a0 false)
noncomputable def lD (a0:History) (a1:Ask) (y9:List Int) (a6:List Bool) (a4:Int):(Int×Int)→Option ((Int×Int) ⊕ ((List Bool×Int) ⊕ (List Int)))
 | (a3,a2)=>bif decide (a2 < (y9.length:Int)) then must (0≤a2∧a2 < (far:Int)) (bif (wL .i64 (rJ .i64 a4 a2) 1 == 1) then must (0≤a2∧a2 < (y9.length:Int)) ((fK a0 (idx y9 a2) a1.Key).bind fun a5=>jv a2 (w64 (a3 + a5))) else (jv a2 a3)) else (iter (lC a1 y9 a4 a3) (a6,0))
noncomputable def jA (a1:Int) (a0:List Int):Option ((List Int×Int) ⊕ ((List Bool×Int) ⊕ (List Int))) :=
 some (.inl (a0,w64 (a1 + 1)))
noncomputable def lF (y9:List Int) (a2:List Bool):(List Int×Int)→Option ((List Int×Int) ⊕ ((List Bool×Int) ⊕ (List Int)))
 | (a1,a0)=>bif decide (a0 < (y9.length:Int)) then must (0≤a0∧a0 < (a2.length:Int)) (bif idx a2 a0 then must (0≤a0∧a0 < (y9.length:Int)) (must (((a1.length + 1) + (a1.length + 1) / 4 + 192) * 8≤281474976710656∧a1.length + 1≤9223372036854775807) (jA a0 (a1++([idx y9 a0]:List Int)))) else (jA a0 a1)) else (out (out (some a1)))
noncomputable def lG (a0:History) (a1:Ask) (y9:List Int):(List Bool×Int)→Option ((List Bool×Int) ⊕ (List Int))
 | (a2,a3)=>must (0≤(y9.length:Int)∧(y9.length:Int) < (far:Int)) (bif decide (a3 < zq .i64 1 (y9.length:Int)) then iter (lD a0 a1 y9 a2 a3) (0,0) else (iter (lF y9 a2) ([],0)))
noncomputable def aC (a0:History) (a1:Ask):Option (List Int) :=
 (aN a0 a1).bind fun y9=>must (0≤(y9.length:Int)∧(y9.length:Int)≤9223372036854775807∧(1:Int) * (y9.length:Int)≤281474976710656) (iter (lG a0 a1 y9) (List.replicate (y9.length:Int).toNat (default:Bool),1))
noncomputable def ja (a0:List Int) (a1:List Int):Option Bool :=
 bif decide ((a1.length:Int) > (a0.length:Int)) then some false else (must (0≤(0:Int)∧(0:Int)≤(a1.length:Int)∧(a1.length:Int)≤(a0.length:Int)) ((bK (gH a0 (0:Int) (a1.length:Int)) a1).bind fun a2=>some a2))
noncomputable def kw (a0:Int) (a1:Int):Option ((Int×Int) ⊕ ((List Int×List Int) ⊕ (List Int×Bool))) :=
 some (.inl (a1,w64 (a0 + 1)))
noncomputable def nz (a0:History) (a1:Ask) (a2:List Int) (a3:List Int) (a5:Int):Int→Option (Int ⊕ ((Int×Int) ⊕ ((List Int×List Int) ⊕ (List Int×Bool))))
 | a4=>bif decide (a4 < (a2.length:Int)) then must (0≤a4∧a4 < (a2.length:Int)) (bif (idx a2 a4 == a5) then out (out (out (some (([]:List Int),false)))) else (some (.inl (w64 (a4 + 1))))) else (must (((a2.length + 1) + (a2.length + 1) / 4 + 192) * 8≤281474976710656∧a2.length + 1≤9223372036854775807) ((aM a0 a5 a1.Key).bind fun a6=>must (0≤(a6.length:Int)∧(a6.length:Int)≤(a3.length:Int)∧(a3.length:Int)≤(a3.length:Int)) (out (out (some (.inl (a2++([a5]:List Int),gH a3 (a6.length:Int) (a3.length:Int))))))))
noncomputable def nA (a0:History) (a1:Ask) (y9:List Int) (a7:List Int) (a4:List Int):(Int×Int)→Option ((Int×Int) ⊕ ((List Int×List Int) ⊕ (List Int×Bool)))
 | (a3,a2)=>bif decide (a2 < (y9.length:Int)) then must (0≤a2∧a2 < (y9.length:Int)) ((aM a0 (idx y9 a2) a1.Key).bind fun a5=>(ja a4 a5).bind fun a6=>bif a6 then kw a2 (idx y9 a2) else (kw a2 a3)) else (bif decide (a3 < 0) then out (out (some (([]:List Int),false))) else (iter (nz a0 a1 a7 a4 a3) 0))
noncomputable def iR (a0:History) (a1:Ask) (y9:List Int):(List Int×List Int)→Option ((List Int×List Int) ⊕ (List Int×Bool))
 | (a2,a3)=>bif decide ((a3.length:Int) > 0) then iter (nA a0 a1 y9 a2 a3) ((-1),0) else (out (some (a2,true)))
noncomputable def aZ (a0:History) (a1:Ask):Option (List Int×Bool) :=
 (aN a0 a1).bind fun y9=>iter (iR a0 a1 y9) ([],a1.Base)
noncomputable def mI (a0:List Int) (a1:Int):Int→Option (Int ⊕ Bool)
 | a2=>bif decide (a2 < (a0.length:Int)) then must (0≤a2∧a2 < (a0.length:Int)) (bif (idx a0 a2 == a1) then out (some true) else (some (.inl (w64 (a2 + 1))))) else (out (some false))
noncomputable def dZ (a0:List Int) (a1:Int):Option Bool :=
 iter (mI a0 a1) 0
noncomputable def kM (a1:Int) (a2:List Int) (a0:Int):Option ((List Int×Int×Int) ⊕ (List Int×Bool)) :=
 some (.inl (a2,a0,w64 (a1 + 1)))
noncomputable def kN (a1:Int) (a0:Int):Option ((Int×Int) ⊕ ((List Int×Int×Int) ⊕ (List Int×Bool))) :=
 some (.inl (a0,w64 (a1 + 1)))
noncomputable def kP (y9:List Int) (a0:List Int) (a2:Int) (a1:Int) (a3:Int) (a4:Bool):Option ((Int×Int) ⊕ ((List Int×Int×Int) ⊕ (List Int×Bool))) :=
 bif a4 then out (out (some (([]:List Int),false))) else (bif decide (a3 > 0) then must (((a0.length + 1) + (a0.length + 1) / 4 + 192) * 8≤281474976710656∧a0.length + 1≤9223372036854775807) (out (kM a1 (a0++([idx y9 a1]:List Int)) (w64 (a2 + a3)))) else (out (kM a1 a0 a2)))
noncomputable def nW (a1:Ask) (y9:List Int) (a4:List Int) (a6:Int) (a5:Int) (a3:List Int):(Int×Int)→Option ((Int×Int) ⊕ ((List Int×Int×Int) ⊕ (List Int×Bool)))
 | (a0,a2)=>bif decide (a2 < (a3.length:Int)) then must (0≤a2∧a2 < (a3.length:Int)) ((dZ a1.Base (idx a3 a2)).bind fun a7=>bif a7 then kN a2 (w64 (a0 + 1)) else (kN a2 a0)) else (bif decide (a0 > 0) then kP y9 a4 a6 a5 a0 (decide (a0 < (a3.length:Int))) else (kP y9 a4 a6 a5 a0 false))
noncomputable def nX (a0:History) (a1:Ask) (y9:List Int):(List Int×Int×Int)→Option ((List Int×Int×Int) ⊕ (List Int×Bool))
 | (a4,a3,a2)=>bif decide (a2 < (y9.length:Int)) then must (0≤a2∧a2 < (y9.length:Int)) ((aM a0 (idx y9 a2) a1.Key).bind fun a5=>iter (nW a1 y9 a4 a3 a2 a5) (0,0)) else (bif (a3 != (a1.Base.length:Int)) then out (some (([]:List Int),false)) else (out (some (a4,true))))
noncomputable def aU (a0:History) (a1:Ask):Option (List Int×Bool) :=
 (aN a0 a1).bind fun y9=>iter (nX a0 a1 y9) ([],0,0)
noncomputable def lU (a0:List Int):Option (List Int) :=
 some a0
noncomputable def gq (a0:List Int):Option (List Int) :=
 some a0
noncomputable def lV (a1:Int) (a0:List Int):Option ((List Int×Int) ⊕ (List Int)) :=
 some (.inl (a0,w64 (a1 + 1)))
noncomputable def lW (a0:History) (a1:Ask) (a5:List Int):(List Int×Int)→Option ((List Int×Int) ⊕ (List Int))
 | (a3,a2)=>bif decide (a2 < (a5.length:Int)) then must (0≤a2∧a2 < (a5.length:Int)) ((aM a0 (idx a5 a2) a1.Key).bind fun a4=>must (0≤w64 ((a4.length:Int) - 1)∧w64 ((a4.length:Int) - 1) < (a4.length:Int)) (must (0≤(0:Int)∧(0:Int) < (a1.Base.length:Int)) (bif (idx a4 (w64 ((a4.length:Int) - 1)) == idx a1.Base (0:Int)) then must (((a3.length + 1) + (a3.length + 1) / 4 + 192) * 8≤281474976710656∧a3.length + 1≤9223372036854775807) (lV a2 (a3++([idx a5 a2]:List Int))) else (lV a2 a3)))) else (out (gq a3))
noncomputable def bf (a0:History) (a1:Ask):Option (List Int) :=
 (iW a0 a1).bind fun y7=>bif (y7 == 4) then (aC a0 a1).bind fun a3=>must (0≤(0:Int)∧(0:Int) < (a1.Base.length:Int)) (bif (idx a1.Base (0:Int) == 0) then must (((1 + a3.length) + (1 + a3.length) / 4 + 192) * 8≤281474976710656∧1 + a3.length≤9223372036854775807) (lU (([(-1)]:List Int)++a3)) else (lU a3)) else (bif ((a1.Base.length:Int) == 0) then some ([(-1)]:List Int) else (bif (y7 == 1) then (aN a0 a1).bind fun a5=>iter (lW a0 a1 a5) ([],0) else (bif (y7 == 2) then (aZ a0 a1).bind fun a2=>bif a2.2 then must (0≤w64 ((a2.1.length:Int) - 1)∧w64 ((a2.1.length:Int) - 1) < (a2.1.length:Int)) (must (((0 + 1) + (0 + 1) / 4 + 192) * 8≤281474976710656∧0 + 1≤9223372036854775807) (gq (([]:List Int)++([idx a2.1 (w64 ((a2.1.length:Int) - 1))]:List Int)))) else (gq []) else ((aU a0 a1).bind fun a4=>bif a4.2 then gq a4.1 else (gq [])))))
noncomputable def dV (a0:History) (a1:Ask):Option (List Int×Int) :=
 (bJ a0 a1).bind fun a3=>bif !a3 then some (([]:List Int),1) else ((bf a0 a1).bind fun a2=>some (a2,0))
noncomputable def jQ (a0:History) (a1:Ask):Option (List Int×Bool×Int) :=
 (jK a0 a1).bind fun a3=>bif (a3 != 0) then some (([]:List Int),false,a3) else ((ik a0 a1).bind fun a2=>some (a2.1,a2.2,0))
noncomputable def iX (a0:History) (a1:Ask):Option (List Int×Bool) :=
 (iW a0 a1).bind fun a4=>bif (a4 == 2) then (aZ a0 a1).bind fun a2=>some (a2.1,a2.2) else (bif (a4 == 3) then (aU a0 a1).bind fun a3=>some (a3.1,a3.2) else (some (([]:List Int),false)))
noncomputable def fA (a0:History) (a1:Ask):Option (List Int×Bool×Int) :=
 (bJ a0 a1).bind fun a3=>bif !a3 then some (([]:List Int),false,1) else ((iX a0 a1).bind fun a2=>some (a2.1,a2.2,0))
noncomputable def kF (a0:List Int) (a1:List Int):Int→Option (Int ⊕ Bool)
 | a2=>bif decide (a2 < (a0.length:Int)) then must (0≤a2∧a2 < (a0.length:Int)) (must (0≤a2∧a2 < (a1.length:Int)) (bif (idx a0 a2 != idx a1 a2) then out (some false) else (some (.inl (w64 (a2 + 1)))))) else (out (some true))
noncomputable def dw (a0:List Int) (a1:List Int):Option Bool :=
 bif ((a0.length:Int) != (a1.length:Int)) then some false else (iter (kF a0 a1) 0)
noncomputable def fu (a0:Int) (a1:Bool):Option (Int ⊕ (Int ⊕ (Int ⊕ Bool))) :=
 bif a1 then out (out (out (some false))) else (some (.inl (w64 (a0 + 1))))
noncomputable def nC (a0:History) (a1:History) (a3:Int) (a2:Int):Option (Int ⊕ (Int ⊕ (Int ⊕ Bool))) :=
 bif ((idx ((idx a0.Txns a3).Ops) a2).Kind != (idx ((idx a1.Txns a3).Ops) a2).Kind) then fu a2 true else (bif ((idx ((idx a0.Txns a3).Ops) a2).Key != (idx ((idx a1.Txns a3).Ops) a2).Key) then fu a2 true else (bif ((idx ((idx a0.Txns a3).Ops) a2).Arg != (idx ((idx a1.Txns a3).Ops) a2).Arg) then fu a2 true else (bif ((idx ((idx a0.Txns a3).Ops) a2).Got != (idx ((idx a1.Txns a3).Ops) a2).Got) then fu a2 true else ((bK ((idx ((idx a0.Txns a3).Ops) a2).Vals) ((idx ((idx a1.Txns a3).Ops) a2).Vals)).bind fun a4=>fu a2 (!a4)))))
noncomputable def nD (a0:History) (a1:History) (a3:Int):Int→Option (Int ⊕ (Int ⊕ (Int ⊕ Bool)))
 | a2=>bif decide (a2 < (((idx a0.Txns a3).Ops).length:Int)) then must (0≤a2∧a2 < (((idx a0.Txns a3).Ops).length:Int)) (must (0≤a2∧a2 < (((idx a1.Txns a3).Ops).length:Int)) (nC a0 a1 a3 a2)) else (out (some (.inl (w64 (a3 + 1)))))
noncomputable def fw (a0:History) (a1:History) (a3:Int) (a2:Bool):Option (Int ⊕ (Int ⊕ Bool)) :=
 bif a2 then out (out (some false)) else (iter (nD a0 a1 a3) 0)
noncomputable def nE (a0:History) (a1:History) (a2:Int):Option (Int ⊕ (Int ⊕ Bool)) :=
 bif ((idx a0.Txns a2).Proc != (idx a1.Txns a2).Proc) then fw a0 a1 a2 true else (bif ((idx a0.Txns a2).Status != (idx a1.Txns a2).Status) then fw a0 a1 a2 true else (bif ((idx a0.Txns a2).From != (idx a1.Txns a2).From) then fw a0 a1 a2 true else (bif ((idx a0.Txns a2).To != (idx a1.Txns a2).To) then fw a0 a1 a2 true else (fw a0 a1 a2 ((((idx a0.Txns a2).Ops).length:Int) != (((idx a1.Txns a2).Ops).length:Int))))))
noncomputable def nG (a0:History) (a1:History):Int→Option (Int ⊕ (Int ⊕ Bool))
 | a2=>bif decide (a2 < (a0.Txns.length:Int)) then must (0≤a2∧a2 < (a0.Txns.length:Int)) (must (0≤a2∧a2 < (a1.Txns.length:Int)) (nE a0 a1 a2)) else (out (out (some true)))
noncomputable def nH (a0:History) (a1:History):Int→Option (Int ⊕ Bool)
 | a2=>bif decide (a2 < (a0.Keys.length:Int)) then must (0≤a2∧a2 < (a0.Keys.length:Int)) (must (0≤a2∧a2 < (a1.Keys.length:Int)) (bif !(sEq (idx a0.Keys a2) (idx a1.Keys a2)) then out (some false) else (some (.inl (w64 (a2 + 1)))))) else (iter (nG a0 a1) 0)
noncomputable def ky (a0:History) (a1:History) (b9:Bool):Option Bool :=
 bif b9 then some false else (iter (nH a0 a1) 0)
noncomputable def aD (a0:History) (a1:History):Option Bool :=
 bif ((a0.Keys.length:Int) != (a1.Keys.length:Int)) then ky a0 a1 true else (ky a0 a1 ((a0.Txns.length:Int) != (a1.Txns.length:Int)))
noncomputable def eU (a0:History) (a2:Int) (a4:Int) (a3:Int) (a1:List Int):Option Bool :=
 (dz a0).bind fun a6=>(gm a6 (⟨a2,a4,a3,a1⟩:Ask)).bind fun a8=>(dV a0 (⟨a2,a4,a3,a1⟩:Ask)).bind fun a9=>(jQ a6 (⟨a2,a4,a3,a1⟩:Ask)).bind fun a5=>(fA a0 (⟨a2,a4,a3,a1⟩:Ask)).bind fun a7=>bif (a8.2 == a9.2) then (dw a8.1 a9.1).bind fun b2=>bif b2 then bif (a5.2.2 == a7.2.2) then bif (a5.2.1 == a7.2.1) then (dw a5.1 a7.1).bind fun b0=>bif b0 then (aD a6 a0).bind fun b1=>some b1 else (some false) else (some false) else (some false) else (some false) else (some false)
noncomputable def cz (a0:History) (a1:Int) (a2:Ask):Option Bool :=
 (lN).bind fun a4=>bif !a4 then some false else ((dS a0 a1).bind fun a3=>bif !a3.2 then eU a0 a2.Txn a2.Place a2.Key a2.Base else (eU a0 a3.1.Txn a3.1.Place a3.1.Key a3.1.Base))
end Go.Proofs.YtnlkggppokcmfaaGreatT
