import Derived.Test.YtnlkggppokcmfaaY
namespace Go.Proofs.YtnlkggppokcmfaaT
open Go Go.Proofs Go.Proofs.YtnlkggppokcmfaaE
set_option linter.unusedVariables false
set_option linter.unusedSimpArgs false
set_option maxHeartbeats 0
set_option maxRecDepth 4096
structure bO where
 key:ByteArray
 arg:Int
 deriving Inhabited,DecidableEq
def bO.enc (x:bO):List Value:=[.string x.key,.int .i64 x.arg]
abbrev Bd:Ty bO:=Ty.flat 2 bO.enc (fun _=>rfl) (fun _=>BD rfl)
instance : Flat Bd bO.enc:=⟨Iff.rfl,Iff.rfl⟩
structure aS where
 keys:List ByteArray
 at_:List (ByteArray×Int)
 types:List Int
 facts:List (bO×Unit)
 incs:List (ByteArray×(List Int))
 deriving Inhabited
structure Call where
 Kind:Int
 Key:ByteArray
 Arg:Int
 Got:Bool
 Vals:List Int
 deriving Inhabited
abbrev uJ:Ty Call:=Ty.iso (bJ (aH .i64) (bJ gy (bJ (aH .i64) (bJ nP (aY 2 (aH .i64)))))) (fun g:Call=>(g.Kind,g.Key,g.Arg,g.Got,g.Vals))
abbrev lL (N:BM):Ty Call:=Ty.iso (bJ (aH .i64) (bJ gy (bJ (aH .i64) (bJ nP (DW N (aH .i64)))))) (fun g:Call=>(g.Kind,g.Key,g.Arg,g.Got,g.Vals))
theorem zh (N:BM):su N (lL N) uJ:=CF (rQ rP (rQ rP (rQ rP (rQ rP Bt))))
structure Event where
 Proc:Int
 Kind:Int
 Calls:List Call
 deriving Inhabited
abbrev yg:Ty Event:=Ty.iso (bJ (aH .i64) (bJ (aH .i64) (aY 89 uJ))) (fun g:Event=>(g.Proc,g.Kind,g.Calls))
structure Op where
 Kind:Int
 Key:Int
 Arg:Int
 Got:Bool
 Vals:List Int
 deriving Inhabited
abbrev kOp:Ty Op:=Ty.iso (bJ (aH .i64) (bJ (aH .i64) (bJ (aH .i64) (bJ nP (aY 2 (aH .i64)))))) (fun g:Op=>(g.Kind,g.Key,g.Arg,g.Got,g.Vals))
structure Txn where
 Proc:Int
 Status:Int
 From:Int
 To:Int
 Ops:List Op
 deriving Inhabited
abbrev jY:Ty Txn:=Ty.iso (bJ (aH .i64) (bJ (aH .i64) (bJ (aH .i64) (bJ (aH .i64) (aY 64 kOp))))) (fun g:Txn=>(g.Proc,g.Status,g.From,g.To,g.Ops))
structure History where
 Keys:List ByteArray
 Txns:List Txn
 deriving Inhabited
structure Ask where
 Txn:Int
 Place:Int
 Key:Int
 Base:List Int
 deriving Inhabited
abbrev CR:Ty Ask:=Ty.iso (bJ (aH .i64) (bJ (aH .i64) (bJ (aH .i64) (aY 2 (aH .i64))))) (fun g:Ask=>(g.Txn,g.Place,g.Key,g.Base))
structure fu where
 Txn:Int
 Place:Int
 deriving Inhabited,DecidableEq
def fu.enc (x:fu):List Value:=[.int .i64 x.Txn,.int .i64 x.Place]
abbrev Ac:Ty fu:=Ty.flat 2 fu.enc (fun _=>rfl) (fun _=>BD rfl)
instance : Flat Ac fu.enc:=⟨Iff.rfl,Iff.rfl⟩
structure dH where
 asks:List Ask
 bad:List fu
 deriving Inhabited
structure bE where
 h:History
 order:List Int
 at_:List (Int×Int)
 deriving Inhabited
structure Exec where
 Order:List Int
 Picks:List Int
 deriving Inhabited
structure ax where
 keys:List ByteArray
 types:List Int
 wrote:List (List Int)
 incs:List Int
 last_:List Int
 deriving Inhabited
structure dB where
 Key:Int
 Txn:Int
 deriving Inhabited,DecidableEq
def dB.enc (x:dB):List Value:=[.int .i64 x.Key,.int .i64 x.Txn]
abbrev qH:Ty dB:=Ty.flat 2 dB.enc (fun _=>rfl) (fun _=>BD rfl)
instance : Flat qH dB.enc:=⟨Iff.rfl,Iff.rfl⟩
structure bf where
 txn:Int
 args:List Int
 deriving Inhabited
abbrev Rw2 (A:Option Addr) (c:Nat) (l:List Int):bI := .row (aH .i64) 2 A l.length c l
abbrev Rn2 (A:Option Addr) (n c:Nat) (l:List Int):bI := .row (aH .i64) 2 A n c l
abbrev Rw3 (A:Option Addr) (c:Nat) (l:List Int):bI := .row (aH .i64) 3 A l.length c l
abbrev Rn3 (A:Option Addr) (n c:Nat) (l:List Int):bI := .row (aH .i64) 3 A n c l
abbrev Rw9 (A:Option Addr) (c:Nat) (l:List ByteArray):bI := .row gy 9 A l.length c l
abbrev Rn9 (A:Option Addr) (n c:Nat) (l:List ByteArray):bI := .row gy 9 A n c l
abbrev Ad (A:Option Addr) (c:Nat) (l:List (List Int)):bI := .row (aY 2 (aH .i64)) 35 A l.length c l
abbrev Eb (A:Option Addr) (c:Nat) (l:List Ask):bI := .row CR 37 A l.length c l
abbrev Ec (A:Option Addr) (c:Nat) (l:List Txn):bI := .row jY 41 A l.length c l
abbrev Gn (A:Option Addr) (n c:Nat) (l:List Txn):bI := .row jY 41 A n c l
abbrev Ed (A:Option Addr) (n c:Nat) (l:List Op):bI := .row kOp 64 A n c l
abbrev Ae (A:Option Addr) (c:Nat) (l:List fu):bI := .row Ac 160 A l.length c l
abbrev Or2 (A:Option Addr) (c:Nat) (l:List Int):bI:=orA noM (aH .i64) 2 A l.length c l
abbrev yh (b:Nat) (m:List (Int×Int)):bI:=AJ (fun x:Int => .int .i64 x) (fun x:Int => .int .i64 x) b m
abbrev vF (b:Nat) (m:List (ByteArray×Int)):bI:=AJ (fun x:ByteArray => .string x) (fun x:Int => .int .i64 x) b m
abbrev vG (b:Nat) (m:List (bO×Unit)):bI:=AJ (fun x:bO => .agg #[.string x.key,.int .i64 x.arg]) (fun _:Unit => .agg #[]) b m
abbrev zi (b:Nat) (m:List (ByteArray×(List Int))):bI:=pQ (fun x:ByteArray => .string x) (aY 3 (aH .i64)) b m
abbrev CS (b:Nat) (m:List (Int×Int)):bI:=AJ (fun x:Int => .int .i64 x) (fun x:Int => .int .i64 x) b m
abbrev zk (b:Nat) (m:List (Int×(List Int))):bI:=pQ (fun x:Int => .int .i64 x) (aY 2 (aH .i64)) b m
abbrev oo (x:History) (A0:Option Addr) (c0:Nat) (A1:Option Addr) (c1:Nat):List Value:=[vS A0 x.Keys.length c0,vS A1 x.Txns.length c1]
abbrev qp (x:History) (A0:Option Addr) (c0:Nat) (A1:Option Addr) (c1:Nat):Value := .agg (oo x A0 c0 A1 c1).toArray
abbrev gM (b:Nat) (x:History) (A0:Option Addr) (c0:Nat) (A1:Option Addr) (c1:Nat):bI := .blk b 25 (oo x A0 c0 A1 c1)
abbrev CU (x:Ask) (A3:Option Addr) (c3:Nat):List Value:=[vI x.Txn,vI x.Place,vI x.Key,vS A3 x.Base.length c3]
abbrev GQ (x:Ask) (A3:Option Addr) (c3:Nat):Value := .agg (CU x A3 c3).toArray
abbrev Gp (b:Nat) (x:Ask) (A3:Option Addr) (c3:Nat):bI := .blk b 37 (CU x A3 c3)
abbrev wP (x:Txn) (A4:Option Addr) (c4:Nat):List Value:=[vI x.Proc,vI x.Status,vI x.From,vI x.To,vS A4 x.Ops.length c4]
abbrev Cr (x:Txn) (A4:Option Addr) (c4:Nat):Value := .agg (wP x A4 c4).toArray
abbrev uQ (b:Nat) (x:Txn) (A4:Option Addr) (c4:Nat):bI := .blk b 41 (wP x A4 c4)
abbrev FV (x:Exec) (A0:Option Addr) (c0:Nat) (A1:Option Addr) (c1:Nat):List Value:=[vS A0 x.Order.length c0,vS A1 x.Picks.length c1]
abbrev GR (x:Exec) (A0:Option Addr) (c0:Nat) (A1:Option Addr) (c1:Nat):Value := .agg (FV x A0 c0 A1 c1).toArray
abbrev FW (b:Nat) (x:Exec) (A0:Option Addr) (c0:Nat) (A1:Option Addr) (c1:Nat):bI := .blk b 59 (FV x A0 c0 A1 c1)
abbrev zC (x:Op) (A4:Option Addr) (c4:Nat):List Value:=[vI x.Kind,vI x.Key,vI x.Arg,vB x.Got,vS A4 x.Vals.length c4]
abbrev qw (b:Nat) (x:Op) (A4:Option Addr) (c4:Nat):bI := .blk b 64 (zC x A4 c4)
abbrev Gq (x:dB):List Value:=[vI x.Key,vI x.Txn]
abbrev GU (x:dB):Value := .agg (Gq x).toArray
abbrev Cs (x:Event) (A2:Option Addr) (c2:Nat):List Value:=[vI x.Proc,vI x.Kind,vS A2 x.Calls.length c2]
abbrev Gr (x:Event) (A2:Option Addr) (c2:Nat):Value := .agg (Cs x A2 c2).toArray
abbrev Ee (b:Nat) (x:Event) (A2:Option Addr) (c2:Nat):bI := .blk b 84 (Cs x A2 c2)
abbrev zD (x:Call) (A4:Option Addr) (c4:Nat):List Value:=[vI x.Kind,.string x.Key,vI x.Arg,vB x.Got,vS A4 x.Vals.length c4]
abbrev Be (x:Call) (A4:Option Addr) (c4:Nat):Value := .agg (zD x A4 c4).toArray
abbrev jh (b:Nat) (x:Call) (A4:Option Addr) (c4:Nat):bI := .blk b 89 (zD x A4 c4)
abbrev xz (x:bE) (A0:Option Addr) (c0:Nat) (A1:Option Addr) (c1:Nat) (A2:Option Addr) (c2:Nat) (b3:Nat):List Value:=[vS A0 x.h.Keys.length c0,vS A1 x.h.Txns.length c1,vS A2 x.order.length c2,.map (some b3)]
abbrev BK (x:bE) (A0:Option Addr) (c0:Nat) (A1:Option Addr) (c1:Nat) (A2:Option Addr) (c2:Nat) (b3:Nat):Value := .agg (xz x A0 c0 A1 c1 A2 c2 b3).toArray
abbrev nI (b:Nat) (x:bE) (A0:Option Addr) (c0:Nat) (A1:Option Addr) (c1:Nat) (A2:Option Addr) (c2:Nat) (b3:Nat):bI := .blk b 101 (xz x A0 c0 A1 c1 A2 c2 b3)
abbrev CV (x:dH) (A0:Option Addr) (c0:Nat) (A1:Option Addr) (c1:Nat):List Value:=[vS A0 x.asks.length c0,vS A1 x.bad.length c1]
abbrev Gs (x:dH) (A0:Option Addr) (c0:Nat) (A1:Option Addr) (c1:Nat):Value := .agg (CV x A0 c0 A1 c1).toArray
abbrev Gt (x:ax) (A0:Option Addr) (c0:Nat) (A1:Option Addr) (c1:Nat) (A2:Option Addr) (c2:Nat) (A3:Option Addr) (c3:Nat) (A4:Option Addr) (c4:Nat):List Value:=[vS A0 x.keys.length c0,vS A1 x.types.length c1,vS A2 x.wrote.length c2,vS A3 x.incs.length c3,vS A4 x.last_.length c4]
abbrev FN (b:Nat) (x:ax) (A0:Option Addr) (c0:Nat) (A1:Option Addr) (c1:Nat) (A2:Option Addr) (c2:Nat) (A3:Option Addr) (c3:Nat) (A4:Option Addr) (c4:Nat):bI := .blk b 123 (Gt x A0 c0 A1 c1 A2 c2 A3 c3 A4 c4)
abbrev sU (b:Nat) (A0:Option Addr) (c0:Nat) (x0:List Ask) (A1:Option Addr) (c1:Nat) (x1:List fu):List bI:=[.blk b 110 [vS A0 x0.length c0,vS A1 x1.length c1],Eb A0 c0 x0,Ae A1 c1 x1]
abbrev FO (b:Nat) (x:dH) (A0:Option Addr) (c0:Nat) (A1:Option Addr) (c1:Nat):List bI:=sU b A0 c0 x.asks A1 c1 x.bad
abbrev mI (b:Nat) (A0:Option Addr) (c0:Nat) (x0:List ByteArray) (A1:Option Addr) (c1:Nat) (x1:List Int) (A2:Option Addr) (c2:Nat) (x2:List (List Int)) (A3:Option Addr) (c3:Nat) (x3:List Int) (A4:Option Addr) (c4:Nat) (x4:List Int):List bI:=[.blk b 123 [vS A0 x0.length c0,vS A1 x1.length c1,vS A2 x2.length c2,vS A3 x3.length c3,vS A4 x4.length c4],Rw9 A0 c0 x0,Rw3 A1 c1 x1,Ad A2 c2 x2,Rw3 A3 c3 x3,Rw3 A4 c4 x4]
abbrev FP (b:Nat) (x:ax) (A0:Option Addr) (c0:Nat) (A1:Option Addr) (c1:Nat) (A2:Option Addr) (c2:Nat) (A3:Option Addr) (c3:Nat) (A4:Option Addr) (c4:Nat):List bI:=mI b A0 c0 x.keys A1 c1 x.types A2 c2 x.wrote A3 c3 x.incs A4 c4 x.last_
abbrev sV (b:Nat) (A0:Option Addr) (c0:Nat) (x0:List ByteArray) (b1:Nat) (x1:List (ByteArray×Int)) (A2:Option Addr) (c2:Nat) (x2:List Int) (b3:Nat) (x3:List (bO×Unit)) (b4:Nat) (x4:List (ByteArray×(List Int))):List bI:=[.blk b 136 [vS A0 x0.length c0,.map (some b1),vS A2 x2.length c2,.map (some b3),.map (some b4)],Rw9 A0 c0 x0,vF b1 x1,Rw3 A2 c2 x2,vG b3 x3,zi b4 x4]
abbrev CW (b:Nat) (x:aS) (A0:Option Addr) (c0:Nat) (b1:Nat) (A2:Option Addr) (c2:Nat) (b3:Nat) (b4:Nat):List bI:=sV b A0 c0 x.keys b1 x.at_ A2 c2 x.types b3 x.facts b4 x.incs
theorem Gu {H:BM} {x:Ask} {cs:List Value} (h:CR.rd H x cs):∃ A3 c3,cs=CU x A3 c3∧x.Base.length≤c3∧rdS (aH .i64) H A3 x.Base:=by
 obtain ⟨_,_,rfl,rfl,⟨_,_,rfl,rfl,⟨_,_,rfl,rfl,⟨A0,c0,rfl,l0,r0⟩⟩⟩⟩:=h;exact ⟨A0,c0,rfl,l0,r0⟩
theorem iI {H:BM} {x:Txn} {cs:List Value} (h:jY.rd H x cs):∃ A4 c4,cs=wP x A4 c4∧x.Ops.length≤c4∧rdS kOp H A4 x.Ops:=by
 obtain ⟨_,_,rfl,rfl,⟨_,_,rfl,rfl,⟨_,_,rfl,rfl,⟨_,_,rfl,rfl,⟨A0,c0,rfl,l0,r0⟩⟩⟩⟩⟩:=h;exact ⟨A0,c0,rfl,l0,r0⟩
theorem zF {H:BM} {x:Op} {cs:List Value} (h:kOp.rd H x cs):∃ A4 c4,cs=zC x A4 c4∧x.Vals.length≤c4∧rdS (aH .i64) H A4 x.Vals:=by
 obtain ⟨_,_,rfl,rfl,⟨_,_,rfl,rfl,⟨_,_,rfl,rfl,⟨_,_,rfl,rfl,⟨A0,c0,rfl,l0,r0⟩⟩⟩⟩⟩:=h;exact ⟨A0,c0,rfl,l0,r0⟩
theorem BL {H:BM} {x:Event} {cs:List Value} (h:yg.rd H x cs):∃ A2 c2,cs=Cs x A2 c2∧x.Calls.length≤c2∧rdS uJ H A2 x.Calls:=by
 obtain ⟨_,_,rfl,rfl,⟨_,_,rfl,rfl,⟨A0,c0,rfl,l0,r0⟩⟩⟩:=h;exact ⟨A0,c0,rfl,l0,r0⟩
theorem CX {H:BM} {x:Call} {cs:List Value} (h:uJ.rd H x cs):∃ A4 c4,cs=zD x A4 c4∧x.Vals.length≤c4∧rdS (aH .i64) H A4 x.Vals:=by
 obtain ⟨_,_,rfl,rfl,⟨_,_,rfl,rfl,⟨_,_,rfl,rfl,⟨_,_,rfl,rfl,⟨A0,c0,rfl,l0,r0⟩⟩⟩⟩⟩:=h;exact ⟨A0,c0,rfl,l0,r0⟩
theorem FQ (x:Ask) {R3:List bI} {c3:List Value} (h3:Mk (aY 2 (aH .i64)) R3 x.Base c3):Mk CR ([]++([]++([]++R3))) x ([vI x.Txn]++([vI x.Place]++([vI x.Key]++c3))):=vD (g:=fun g:Ask=>(g.Txn,g.Place,g.Key,g.Base)) (x:=x) (dZ (lK _ _ rfl) (dZ (lK _ _ rfl) (dZ (lK _ _ rfl) h3)))
theorem FR (x:Txn) {R4:List bI} {c4:List Value} (h4:Mk (aY 64 kOp) R4 x.Ops c4):Mk jY ([]++([]++([]++([]++R4)))) x ([vI x.Proc]++([vI x.Status]++([vI x.From]++([vI x.To]++c4)))):=vD (g:=fun g:Txn=>(g.Proc,g.Status,g.From,g.To,g.Ops)) (x:=x) (dZ (lK _ _ rfl) (dZ (lK _ _ rfl) (dZ (lK _ _ rfl) (dZ (lK _ _ rfl) h4))))
theorem Gv (x:Op) {R4:List bI} {c4:List Value} (h4:Mk (aY 2 (aH .i64)) R4 x.Vals c4):Mk kOp ([]++([]++([]++([]++R4)))) x ([vI x.Kind]++([vI x.Key]++([vI x.Arg]++([vB x.Got]++c4)))):=vD (g:=fun g:Op=>(g.Kind,g.Key,g.Arg,g.Got,g.Vals)) (x:=x) (dZ (lK _ _ rfl) (dZ (lK _ _ rfl) (dZ (lK _ _ rfl) (dZ (lK _ _ rfl) h4))))
noncomputable def jm (a0:List ByteArray) (a1:ByteArray):Int→Option (Int ⊕ Int)
 | a2=>bif decide (a2 < (a0.length:Int)) then must (0≤a2∧a2 < (a0.length:Int)) (bif sEq a1 (idx a0 a2) then out (some a2) else (some (.inl (w64 (a2 + 1))))) else (out (some (-1)))
noncomputable def slices_Index_string (a0:List ByteArray) (a1:ByteArray):Option Int :=
 iter (jm a0 a1) 0
noncomputable def slices_Contains_string (a0:List ByteArray) (a1:ByteArray):Option Bool :=
 (slices_Index_string a0 a1).bind fun y3=>some (decide (y3 ≥ 0))
noncomputable def lD:Option aS :=
 some (⟨([]:List ByteArray),([]:List (ByteArray×Int)),([]:List Int),([]:List (bO×Unit)),([]:List (ByteArray×(List Int)))⟩:aS)
noncomputable def rq (a0:Int):Option (Int×Int) :=
 bif (a0 == 5) then some (0,1) else (bif (a0 == 8) then some (1,1) else (some (0,64)))
noncomputable def ny (a0:Call) (a1:Int) (a2:Bool):Option (Int ⊕ Bool) :=
 bif a2 then must (0≤w64 (a1 - 1)∧w64 (a1 - 1) < (a0.Vals.length:Int)) (must (0≤a1∧a1 < (a0.Vals.length:Int)) (bif decide (idx a0.Vals (w64 (a1 - 1)) ≥ idx a0.Vals a1) then out (some false) else (some (.inl (w64 (a1 + 1)))))) else (out (some true))
noncomputable def nz (a0:Call):Int→Option (Int ⊕ Bool)
 | a1=>bif (a0.Kind == 7) then ny a0 a1 (decide (a1 < (a0.Vals.length:Int))) else (ny a0 a1 false)
noncomputable def nA (a0:Call) (a1:Bool):Option Bool :=
 bif a1 then some false else (iter (nz a0) 1)
noncomputable def nC (a0:Call) (a2:Bool):Option Bool :=
 bif a2 then some false else (bif !a0.Got then some ((a0.Vals.length:Int) == 0) else ((rq a0.Kind).bind fun a1=>bif decide ((a0.Vals.length:Int) < a1.1) then nA a0 true else (nA a0 (decide ((a0.Vals.length:Int) > a1.2)))))
noncomputable def jG (a0:Call) (a1:Int) (a2:Bool):Option Bool :=
 bif a2 then some false else (bif decide (a0.Kind≤4) then bif !a0.Got then bif ((a0.Vals.length:Int) == 0) then bif (a0.Kind != 4) then some true else (bif decide ((-1048576)≤a0.Arg) then some (decide (a0.Arg≤1048576)) else (some false)) else (some false) else (some false) else (bif (a0.Arg != 0) then nC a0 true else (nC a0 (a0.Got != (a1 == 1)))))
noncomputable def bB (a0:Call) (a1:Int):Option Bool :=
 bif decide (a0.Kind < 1) then jG a0 a1 true else (bif decide (a0.Kind > 8) then jG a0 a1 true else (bif sEq a0.Key (⟨#[]⟩:ByteArray) then jG a0 a1 true else (jG a0 a1 (decide ((a0.Key.size:Int) > 32)))))
noncomputable def nZ (a0:Call) (a1:Event):Option Bool :=
 (bB a0 a1.Kind).bind fun y5=>some (!y5)
noncomputable def dY (a0:List Call) (a1c0:Event):Int→Option (Int ⊕ Int)
 | a1=>bif decide (a1 < (a0.length:Int)) then must (0≤a1∧a1 < (a0.length:Int)) ((nZ (idx a0 a1) a1c0).bind fun a2=>bif a2 then out (some a1) else (some (.inl (w64 (a1 + 1))))) else (out (some (-1)))
noncomputable def aW (a0:List Call) (a1c0:Event):Option Int :=
 iter (dY a0 a1c0) 0
noncomputable def bV (a0:List Call) (a1c0:Event):Option Bool :=
 (aW a0 a1c0).bind fun y3=>some (decide (y3 ≥ 0))
noncomputable def lg (a0:List Event) (a1:Int) (a3:Bool):Option (Int ⊕ Int) :=
 bif a3 then out (some 1) else ((bV ((idx a0 a1).Calls) (idx a0 a1)).bind fun a2=>bif a2 then out (some 1) else (some (.inl (w64 (a1 + 1)))))
noncomputable def qx (a0:List Event):Int→Option (Int ⊕ Int)
 | a1=>bif decide (a1 < (a0.length:Int)) then must (0≤a1∧a1 < (a0.length:Int)) (bif decide ((idx a0 a1).Kind < 0) then lg a0 a1 true else (bif decide ((idx a0 a1).Kind > 3) then lg a0 a1 true else (lg a0 a1 (decide ((((idx a0 a1).Calls).length:Int) > 16))))) else (out (some 0))
noncomputable def eQ (a0:List Event):Option Int :=
 bif decide ((a0.length:Int) > 256) then some 1 else (iter (qx a0) 0)
noncomputable def oq (a0:History) (a1:Txn) (a3:List Call) (a2:Int):Option ((List Call×Int) ⊕ (Event×Bool)) :=
 some (.inl (a3++([(⟨(idx a1.Ops a2).Kind,idx a0.Keys ((idx a1.Ops a2).Key),(idx a1.Ops a2).Arg,(idx a1.Ops a2).Got,(idx a1.Ops a2).Vals⟩:Call)]:List Call),w64 (a2 + 1)))
noncomputable def lU (a0:History) (a1:Txn) (a2:List Call) (a3:Int) (a4:Bool):Option ((List Call×Int) ⊕ (Event×Bool)) :=
 bif a4 then out (some ((⟨0,a1.Status,a2⟩:Event),false)) else (must (0≤(idx a1.Ops a3).Key∧(idx a1.Ops a3).Key < (a0.Keys.length:Int)) (must (((a2.length + 1) + (a2.length + 1) / 4 + 192) * 64≤281474976710656∧a2.length + 1≤9223372036854775807) (oq a0 a1 a2 a3)))
noncomputable def ou (a0:History) (a1:Txn):(List Call×Int)→Option ((List Call×Int) ⊕ (Event×Bool))
 | (a3,a2)=>bif decide (a2 < (a1.Ops.length:Int)) then must (0≤a2∧a2 < (a1.Ops.length:Int)) (bif decide ((idx a1.Ops a2).Key < 0) then lU a0 a1 a3 a2 true else (lU a0 a1 a3 a2 (decide ((idx a1.Ops a2).Key ≥ (a0.Keys.length:Int))))) else ((eQ ([(⟨0,a1.Status,a3⟩:Event)]:List Event)).bind fun a4=>out (some ((⟨0,a1.Status,a3⟩:Event),(a4 == 0))))
noncomputable def dz (a0:History) (a1:Txn):Option (Event×Bool) :=
 iter (ou a0 a1) ([],0)
noncomputable def lV (a0:Txn) (a1:Txn):Option Bool :=
 bif (a0.Proc == a1.Proc) then bif (a0.To == (-1)) then some true else (some (decide (a0.To ≥ a1.From))) else (some false)
noncomputable def dP (a0:List Txn) (a1c0:Txn):Int→Option (Int ⊕ Int)
 | a1=>bif decide (a1 < (a0.length:Int)) then must (0≤a1∧a1 < (a0.length:Int)) ((lV (idx a0 a1) a1c0).bind fun a2=>bif a2 then out (some a1) else (some (.inl (w64 (a1 + 1))))) else (out (some (-1)))
noncomputable def aT (a0:List Txn) (a1c0:Txn):Option Int :=
 iter (dP a0 a1c0) 0
noncomputable def bT (a0:List Txn) (a1c0:Txn):Option Bool :=
 (aT a0 a1c0).bind fun y3=>some (decide (y3 ≥ 0))
noncomputable def jD (a0:List Txn) (a1:Txn) (a3:Bool):Option Bool :=
 bif a3 then some false else ((bT a0 a1).bind fun a2=>some (!a2))
noncomputable def lF (a0:List Txn) (a1:Txn):Option Bool :=
 bif decide (a1.From < 0) then jD a0 a1 true else (bif decide ((a0.length:Int) > 0) then must (0≤w64 ((a0.length:Int) - 1)∧w64 ((a0.length:Int) - 1) < (a0.length:Int)) (jD a0 a1 (decide ((idx a0 (w64 ((a0.length:Int) - 1))).From ≥ a1.From))) else (jD a0 a1 false))
noncomputable def lG (a0:List Txn) (a1:Txn) (a2:Bool):Option Bool :=
 bif a2 then some false else (lF a0 a1)
noncomputable def lH (a0:List Txn) (a1:Txn) (a2:Bool):Option Bool :=
 bif a2 then bif decide (a1.To≤a1.From) then some false else (lF a0 a1) else (bif (a1.Status == 3) then bif (a1.To != (-1)) then lG a0 a1 (decide (a1.To≤a1.From)) else (lG a0 a1 false) else (some false))
noncomputable def bz (a0:List Txn) (a1:Txn):Option Bool :=
 bif (a1.Status == 1) then lH a0 a1 (a1.Status == 1) else (lH a0 a1 (a1.Status == 2))
noncomputable def kP (a0:Int):Option Int :=
 some (w64 ((zf .i64 (w64 (a0 - 1)) 3) + 1))
noncomputable def fE (a3:List ByteArray) (a1:List (ByteArray×Int)) (a0:List Int) (a4:List (bO×Unit)) (a2:List (ByteArray×(List Int))):Option (Int×aS) :=
 some (0,(⟨a3,a1,a0,a4,a2⟩:aS))
noncomputable def jH (a0:aS) (a1:Call) (a4:List ByteArray) (a3:List (ByteArray×Int)) (a2:List Int):Option (Int×aS) :=
 bif jX a0.facts (⟨a1.Key,a1.Arg⟩:bO) then some (3,(⟨a4,a3,a2,a0.facts,a0.incs⟩:aS)) else (fE a4 a3 a2 (fO a0.facts (⟨a1.Key,a1.Arg⟩:bO) ()) a0.incs)
noncomputable def ib (a0:aS) (a1:Call) (a5:List ByteArray) (a4:List (ByteArray×Int)) (a3:List Int) (a2:List (ByteArray×(List Int))):Option (Int×aS) :=
 bif decide (((mat a2 a1.Key).length:Int) > 8) then some (51,(⟨a5,a4,a3,a0.facts,a2⟩:aS)) else (fE a5 a4 a3 a0.facts a2)
noncomputable def ig (a0:aS) (a1:Call) (a2:Int) (a5:List ByteArray) (a4:List (ByteArray×Int)) (a3:List Int) (a6:Bool):Option (Int×aS) :=
 bif a6 then must (((((mat a0.incs a1.Key).length) + 1) + (((mat a0.incs a1.Key).length) + 1) / 4 + 192) * 8≤281474976710656∧((mat a0.incs a1.Key).length) + 1≤9223372036854775807) (ib a0 a1 a5 a4 a3 (fO a0.incs a1.Key ((mat a0.incs a1.Key)++([a2]:List Int)))) else (ib a0 a1 a5 a4 a3 a0.incs)
noncomputable def ik (a0:aS) (a1:Call) (a2:Int) (a5:List ByteArray) (a4:List (ByteArray×Int)) (a3:List Int) (a6:Bool):Option (Int×aS) :=
 bif a6 then jH a0 a1 a5 a4 a3 else (bif (a1.Kind == 4) then bif (((mat a0.incs a1.Key).length:Int) == 0) then ig a0 a1 a2 a5 a4 a3 true else (must (0≤w64 (((mat a0.incs a1.Key).length:Int) - 1)∧w64 (((mat a0.incs a1.Key).length:Int) - 1) < ((mat a0.incs a1.Key).length:Int)) (ig a0 a1 a2 a5 a4 a3 (idx (mat a0.incs a1.Key) (w64 (((mat a0.incs a1.Key).length:Int) - 1)) != a2))) else (fE a5 a4 a3 a0.facts a0.incs))
noncomputable def fF (a0:aS) (a1:Call) (a2:Int) (a5:List ByteArray) (a4:List (ByteArray×Int)) (a3:List Int) (a6:Int):Option (Int×aS) :=
 must (0≤a6∧a6 < (a3.length:Int)) ((kP a1.Kind).bind fun a7=>bif (idx a3 a6 != a7) then some (50,(⟨a5,a4,a3,a0.facts,a0.incs⟩:aS)) else (bif (a1.Kind == 2) then ik a0 a1 a2 a5 a4 a3 (a1.Kind == 2) else (ik a0 a1 a2 a5 a4 a3 (a1.Kind == 3))))
noncomputable def jI (a0:aS) (a1:Call) (a2:Int):Option (Int×aS) :=
 (kP a1.Kind).bind fun a3=>must (((a0.types.length + 1) + (a0.types.length + 1) / 4 + 192) * 8≤281474976710656∧a0.types.length + 1≤9223372036854775807) (fF a0 a1 a2 (a0.keys++([a1.Key]:List ByteArray)) (fO a0.at_ a1.Key (a0.keys.length:Int)) (a0.types++([a3]:List Int)) (a0.keys.length:Int))
noncomputable def ak (a0:aS) (a1:Call) (a2:Int):Option (Int×aS) :=
 bif !(jX a0.at_ a1.Key) then bif ((a0.keys.length:Int) == 32) then some (2,a0) else (must (((a0.keys.length + 1) + (a0.keys.length + 1) / 4 + 192) * 16≤281474976710656∧a0.keys.length + 1≤9223372036854775807) (jI a0 a1 a2)) else (fF a0 a1 a2 a0.keys a0.at_ a0.types (mat a0.at_ a1.Key))
noncomputable def jZ (a1:Int) (a0:Bool):Option (Int ⊕ Int) :=
 bif a0 then out (some 1) else (some (.inl (w64 (a1 + 1))))
noncomputable def lW (a6:Int) (a2:Event×Bool):(List ByteArray×(List (ByteArray×Int))×List Int×(List (bO×Unit))×(List (ByteArray×(List Int)))×Int)→Option ((List ByteArray×(List (ByteArray×Int))×List Int×(List (bO×Unit))×(List (ByteArray×(List Int)))×Int) ⊕ ((List ByteArray×(List (ByteArray×Int))×List Int×(List (bO×Unit))×(List (ByteArray×(List Int)))×Int) ⊕ (Int ⊕ Int)))
 | (a3,a4,a7,a5,a8,a1)=>bif decide (a1 < (a2.1.Calls.length:Int)) then must (0≤a1∧a1 < (a2.1.Calls.length:Int)) ((ak (⟨a3,a4,a7,a5,a8⟩:aS) (idx a2.1.Calls a1) a6).bind fun a0=>bif (a0.1 != 0) then out (out (out (some 1))) else (some (.inl (a0.2.keys,a0.2.at_,a0.2.types,a0.2.facts,a0.2.incs,w64 (a1 + 1))))) else (out (some (.inl (a3,a4,a7,a5,a8,w64 (a6 + 1)))))
noncomputable def lX (a7:List ByteArray) (a4:List (ByteArray×Int)) (a6:List Int) (a3:List (bO×Unit)) (a2:List (ByteArray×(List Int))) (a5:Int) (a0:Event×Bool) (a1:Bool):Option ((List ByteArray×(List (ByteArray×Int))×List Int×(List (bO×Unit))×(List (ByteArray×(List Int)))×Int) ⊕ (Int ⊕ Int)) :=
 bif a1 then out (out (some 1)) else (iter (lW a5 a0) (a7,a4,a6,a3,a2,0))
noncomputable def kg (a0:History):(List ByteArray×(List (ByteArray×Int))×List Int×(List (bO×Unit))×(List (ByteArray×(List Int)))×Int)→Option ((List ByteArray×(List (ByteArray×Int))×List Int×(List (bO×Unit))×(List (ByteArray×(List Int)))×Int) ⊕ (Int ⊕ Int))
 | (a7,a5,a6,a4,a3,a1)=>bif decide (a1 < (a0.Txns.length:Int)) then must (0≤a1∧a1 < (a0.Txns.length:Int)) ((dz a0 (idx a0.Txns a1)).bind fun a2=>bif !a2.2 then lX a7 a5 a6 a4 a3 a1 a2 true else (must (0≤(0:Int)∧(0:Int)≤a1∧a1≤(a0.Txns.length:Int)) ((bz (di a0.Txns (0:Int) a1) (idx a0.Txns a1)).bind fun a8=>lX a7 a5 a6 a4 a3 a1 a2 (!a8)))) else (out (out (some 0)))
noncomputable def ow (a0:History):Int→Option (Int ⊕ Int)
 | a1=>bif decide (a1 < (a0.Keys.length:Int)) then must (0≤a1∧a1 < (a0.Keys.length:Int)) (bif sEq (idx a0.Keys a1) (⟨#[]⟩:ByteArray) then jZ a1 true else (bif decide (((idx a0.Keys a1).size:Int) > 32) then jZ a1 true else (must (0≤(0:Int)∧(0:Int)≤a1∧a1≤(a0.Keys.length:Int)) ((slices_Contains_string (di a0.Keys (0:Int) a1) (idx a0.Keys a1)).bind fun a3=>jZ a1 a3)))) else ((lD).bind fun a2=>iter (kg a0) (a2.keys,a2.at_,a2.types,a2.facts,a2.incs,0))
noncomputable def lY (a0:History) (b7:Bool):Option Int :=
 bif b7 then some 1 else (iter (ow a0) 0)
noncomputable def aN (a0:History):Option Int :=
 bif decide ((a0.Keys.length:Int) > 32) then lY a0 true else (lY a0 (decide ((a0.Txns.length:Int) > 32)))
noncomputable def gW (a0:List Int):Option (List Int) :=
 must (a0.length * 8≤140737488355328) (some a0)
noncomputable def vH (a0:Int):Option Int :=
 bif (a0 == 1) then some 171 else (bif (a0 == 2) then some 172 else (bif (a0 == 3) then some 173 else (bif (a0 == 4) then some 174 else (some (-1)))))
noncomputable def ko (a0:Unit) (a1:List Int):Option Bool :=
 some (decide ((a1.length:Int)≤1))
noncomputable def mY (a0:Unit) (a1:List Int):Option Bool :=
 some (decide ((a1.length:Int)≤64))
noncomputable def oz (a1:List Int):Int→Option (Int ⊕ Bool)
 | a0=>bif decide (a0 < (a1.length:Int)) then must (0≤w64 (a0 - 1)∧w64 (a0 - 1) < (a1.length:Int)) (must (0≤a0∧a0 < (a1.length:Int)) (bif decide (idx a1 (w64 (a0 - 1)) ≥ idx a1 a0) then out (some false) else (some (.inl (w64 (a0 + 1)))))) else (out (some (decide ((a1.length:Int)≤64))))
noncomputable def iL (a0:Unit) (a1:List Int):Option Bool :=
 iter (oz a1) 1
noncomputable def kR (a0:Unit) (a1:List Int):Option Bool :=
 some ((a1.length:Int) == 1)
noncomputable def sW (a0:Int) (a1:List Int):Option Int :=
 (vH a0).bind fun y8=>bif (y8 == (171:Int)) then (ko () a1).bind fun a4=>bif !a4 then some 80 else (some 0) else (bif (y8 == (172:Int)) then (mY () a1).bind fun a5=>bif !a5 then some 80 else (some 0) else (bif (y8 == (173:Int)) then (iL () a1).bind fun a2=>bif !a2 then some 80 else (some 0) else (bif (y8 == (174:Int)) then (kR () a1).bind fun a3=>bif !a3 then some 80 else (some 0) else (bif (y8 == ((-1):Int)) then some 1 else none))))
noncomputable def jo (a0:Unit) (a1:List Int) (a2:List Int):Option (List Int×Bool) :=
 bif ((a1.length:Int) == 1) then must (0≤(0:Int)∧(0:Int) < (a1.length:Int)) (must (0≤w64 ((a2.length:Int) - 1)∧w64 ((a2.length:Int) - 1) < (a2.length:Int)) (some (([]:List Int),(idx a1 (0:Int) == idx a2 (w64 ((a2.length:Int) - 1)))))) else (some (([]:List Int),false))
noncomputable def mJ (a0:List Int) (a1:List Int):Int→Option (Int ⊕ Bool)
 | a2=>bif decide (a2 < (a0.length:Int)) then must (0≤a2∧a2 < (a0.length:Int)) (must (0≤a2∧a2 < (a1.length:Int)) (bif (idx a0 a2 != idx a1 a2) then out (some false) else (some (.inl (w64 (a2 + 1)))))) else (out (some true))
noncomputable def dI (a0:List Int) (a1:List Int):Option Bool :=
 bif ((a0.length:Int) != (a1.length:Int)) then some false else (iter (mJ a0 a1) 0)
noncomputable def jJ (a1:List Int) (a2:List Int) (a3:Bool):Option (List Int×Bool) :=
 bif a3 then some (([]:List Int),false) else (must (0≤(0:Int)∧(0:Int)≤(w64 ((a1.length:Int) - (a2.length:Int)))∧(w64 ((a1.length:Int) - (a2.length:Int)))≤(a1.length:Int)) ((gW (di a1 (0:Int) (w64 ((a1.length:Int) - (a2.length:Int))))).bind fun a0=>some (a0,true)))
noncomputable def eT (a0:Unit) (a1:List Int) (a2:List Int):Option (List Int×Bool) :=
 bif decide (w64 ((a1.length:Int) - (a2.length:Int)) < 0) then jJ a1 a2 true else (must (0≤(w64 ((a1.length:Int) - (a2.length:Int)))∧(w64 ((a1.length:Int) - (a2.length:Int)))≤(a1.length:Int)∧(a1.length:Int)≤(a1.length:Int)) ((dI (di a1 (w64 ((a1.length:Int) - (a2.length:Int))) (a1.length:Int)) a2).bind fun a3=>jJ a1 a2 (!a3)))
noncomputable def lI (a0:Int):Option Bool :=
 some (a0 != a0)
noncomputable def oC (a0:Int) (a1:Int):Option Bool :=
 (lI a0).bind fun y7=>bif y7 then (lI a1).bind fun a2=>bif !a2 then some true else (some (decide (a0 < a1))) else (some (decide (a0 < a1)))
noncomputable def jq (a0:Int):Option Bool :=
 some (a0 != a0)
noncomputable def gJ (a0:Int) (a1:Int):Option ((Int×Int) ⊕ (Int×Bool)) :=
 some (.inl (a0,a1))
noncomputable def jE (a0:List Int) (a1:Int):(Int×Int)→Option ((Int×Int) ⊕ (Int×Bool))
 | (a2,a3)=>bif decide (a2 < a3) then must (0≤(1:Int)∧(1:Int) < (far:Int)) (must (0≤w64 (vC .u64 (IntKind.wrap .u64 (w64 (a2 + a3))) (1:Int))∧w64 (vC .u64 (IntKind.wrap .u64 (w64 (a2 + a3))) (1:Int)) < (a0.length:Int)) ((oC (idx a0 (w64 (vC .u64 (IntKind.wrap .u64 (w64 (a2 + a3))) (1:Int)))) a1).bind fun a4=>bif a4 then gJ (w64 ((w64 (vC .u64 (IntKind.wrap .u64 (w64 (a2 + a3))) (1:Int))) + 1)) a3 else (gJ a2 (w64 (vC .u64 (IntKind.wrap .u64 (w64 (a2 + a3))) (1:Int)))))) else (bif decide (a2 < (a0.length:Int)) then must (0≤a2∧a2 < (a0.length:Int)) (bif (idx a0 a2 == a1) then out (some (a2,true)) else ((jq (idx a0 a2)).bind fun a6=>bif a6 then (jq a1).bind fun a5=>out (some (a2,a5)) else (out (some (a2,false))))) else (out (some (a2,false))))
noncomputable def bH (a0:List Int) (a1:Int):Option (Int×Bool) :=
 iter (jE a0 a1) (0,(a0.length:Int))
noncomputable def kS (a0:List Int) (a1 a2:Int):Option (List Int) :=
 must (0≤a1∧a1≤a2∧a2≤(a0.length:Int)) (some (a0.take a1.toNat++a0.drop a2.toNat))
noncomputable def nJ (a2:List Int):(List Int×Int)→Option ((List Int×Int) ⊕ (List Int×Bool))
 | (a3,a0)=>bif decide (a0 < (a2.length:Int)) then must (0≤a0∧a0 < (a2.length:Int)) ((bH a3 (idx a2 a0)).bind fun a1=>bif !a1.2 then out (some (([]:List Int),false)) else ((kS a3 a1.1 (w64 (a1.1 + 1))).bind fun a4=>some (.inl (a4,w64 (a0 + 1))))) else (out (some (a3,true)))
noncomputable def gz (a0:Unit) (a1:List Int) (a2:List Int):Option (List Int×Bool) :=
 (gW a1).bind fun y7=>iter (nJ a2) (y7,0)
noncomputable def lh (a2:List Int):(Int×Int)→Option ((Int×Int) ⊕ (List Int×Bool))
 | (a1,a0)=>bif decide (a0 < (a2.length:Int)) then must (0≤a0∧a0 < (a2.length:Int)) (some (.inl (w64 (a1 - (idx a2 a0)),w64 (a0 + 1)))) else (out (some (([a1]:List Int),true)))
noncomputable def eG (a0:Unit) (a1:List Int) (a2:List Int):Option (List Int×Bool) :=
 must (0≤(0:Int)∧(0:Int) < (a1.length:Int)) (iter (lh a2) (idx a1 (0:Int),0))
noncomputable def nQ (a0:Int) (a1:List Int) (a2:List Int) (b9:Bool):Option (List Int×Bool) :=
 bif b9 then some (([]:List Int),false) else ((vH a0).bind fun a3=>bif (a3 == (171:Int)) then (jo () a1 a2).bind fun a4=>some (a4.1,a4.2) else (bif (a3 == (172:Int)) then (eT () a1 a2).bind fun a5=>some (a5.1,a5.2) else (bif (a3 == (173:Int)) then (gz () a1 a2).bind fun a6=>some (a6.1,a6.2) else (bif (a3 == (174:Int)) then (eG () a1 a2).bind fun a7=>some (a7.1,a7.2) else (bif (a3 == ((-1):Int)) then none else none)))))
noncomputable def jr (a0:Int) (a1:List Int) (a2:List Int):Option (List Int×Bool) :=
 (sW a0 a1).bind fun a3=>bif (a3 != 0) then nQ a0 a1 a2 true else (nQ a0 a1 a2 ((a2.length:Int) == 0))
noncomputable def gN (a3:Int) (a0:List Ask) (a2:List fu) (a1:List (Int×(List Int))):Option ((List Ask×List fu×(List (Int×(List Int)))×Int) ⊕ dH) :=
 some (.inl (a0,a2,a1,w64 (a3 + 1)))
noncomputable def kT (a1:History) (a2:Int) (a0:List Ask) (a3:List fu) (a5:List (Int×(List Int))) (a4:Int) (a6:List Int) (a7:Bool):Option ((List Ask×List fu×(List (Int×(List Int)))×Int) ⊕ dH) :=
 bif !a7 then must (((a3.length + 1) + (a3.length + 1) / 4 + 192) * 16≤281474976710656∧a3.length + 1≤9223372036854775807) (gN a4 a0 (a3++([(⟨a2,a4⟩:fu)]:List fu)) a5) else (must (((a0.length + 1) + (a0.length + 1) / 4 + 192) * 48≤281474976710656∧a0.length + 1≤9223372036854775807) (gN a4 (a0++([(⟨a2,a4,(idx ((idx a1.Txns a2).Ops) a4).Key,a6⟩:Ask)]:List Ask)) a3 a5))
noncomputable def kU (a1:History) (a2:Int) (a0:List Ask) (a3:List fu) (a4:List (Int×(List Int))) (a5:Int) (a6:List Int×Bool) (a7:Bool):Option ((List Ask×List fu×(List (Int×(List Int)))×Int) ⊕ dH) :=
 bif a7 then gN a5 a0 a3 a4 else (kT a1 a2 a0 a3 a4 a5 a6.1 a6.2)
noncomputable def nX (a1:History) (a2:Int):(List Ask×List fu×(List (Int×(List Int)))×Int)→Option ((List Ask×List fu×(List (Int×(List Int)))×Int) ⊕ dH)
 | (a4,a5,a3,a0)=>bif decide (a0 < (((idx a1.Txns a2).Ops).length:Int)) then must (0≤a0∧a0 < (((idx a1.Txns a2).Ops).length:Int)) (bif decide ((idx ((idx a1.Txns a2).Ops) a0).Kind≤4) then must (((((mat a3 ((idx ((idx a1.Txns a2).Ops) a0).Key)).length) + 1) + (((mat a3 ((idx ((idx a1.Txns a2).Ops) a0).Key)).length) + 1) / 4 + 192) * 8≤281474976710656∧((mat a3 ((idx ((idx a1.Txns a2).Ops) a0).Key)).length) + 1≤9223372036854775807) (gN a0 a4 a5 (fO a3 ((idx ((idx a1.Txns a2).Ops) a0).Key) ((mat a3 ((idx ((idx a1.Txns a2).Ops) a0).Key))++([(idx ((idx a1.Txns a2).Ops) a0).Arg]:List Int)))) else ((gW ((idx ((idx a1.Txns a2).Ops) a0).Vals)).bind fun a7=>bif decide (((mat a3 ((idx ((idx a1.Txns a2).Ops) a0).Key)).length:Int) > 0) then (jr (w64 (((idx ((idx a1.Txns a2).Ops) a0).Kind) - 4)) ((idx ((idx a1.Txns a2).Ops) a0).Vals) (mat a3 ((idx ((idx a1.Txns a2).Ops) a0).Key))).bind fun a6=>bif a6.2 then kU a1 a2 a4 a5 a3 a0 a6 ((idx ((idx a1.Txns a2).Ops) a0).Kind == 5) else (kU a1 a2 a4 a5 a3 a0 a6 false) else (kT a1 a2 a4 a5 a3 a0 a7 true))) else (out (some (⟨a4,a5⟩:dH)))
noncomputable def bq (a0:dH) (a1:History) (a2:Int):Option dH :=
 must (0≤a2∧a2 < (a1.Txns.length:Int)) (bif ((idx a1.Txns a2).Status != 1) then some a0 else (iter (nX a1 a2) (a0.asks,a0.bad,[],0)))
noncomputable def vJ (a0:History):(List Ask×List fu×Int)→Option ((List Ask×List fu×Int) ⊕ (dH×Int))
 | (a4,a2,a1)=>bif decide (a1 < (a0.Txns.length:Int)) then (bq (⟨a4,a2⟩:dH) a0 a1).bind fun a3=>some (.inl (a3.asks,a3.bad,w64 (a1 + 1))) else (out (some ((⟨a4,a2⟩:dH),0)))
noncomputable def mZ (a0:History):Option (dH×Int) :=
 (aN a0).bind fun a1=>bif (a1 != 0) then some ((⟨([]:List Ask),([]:List fu)⟩:dH),a1) else (iter (vJ a0) ([],[],0))
noncomputable def oD (a0:History):Option (List Ask×Int) :=
 (mZ a0).bind fun a1=>some (a1.1.asks,a1.2)
noncomputable def wQ (a0:History):Option (List fu×Int) :=
 (mZ a0).bind fun a1=>some (a1.1.bad,a1.2)
noncomputable def nK (a0:History) (a1:List Int) (a3:List (Int×Int)) (a2:Int) (a4:Bool):Option (((List (Int×Int))×Int) ⊕ (bE×Bool)) :=
 bif a4 then out (some ((⟨a0,a1,a3⟩:bE),false)) else (some (.inl (fO a3 (idx a1 a2) a2,w64 (a2 + 1))))
noncomputable def pR (a0:History) (a1:List Int) (a3:List (Int×Int)) (a2:Int) (a4:Bool):Option (Int ⊕ (((List (Int×Int))×Int) ⊕ (bE×Bool))) :=
 bif a4 then out (out (some ((⟨a0,a1,a3⟩:bE),false))) else (some (.inl (w64 (a2 + 1))))
noncomputable def pU (a0:History) (a1:List Int) (a3:List (Int×Int)):Int→Option (Int ⊕ (((List (Int×Int))×Int) ⊕ (bE×Bool)))
 | a2=>bif decide (a2 < (a0.Txns.length:Int)) then must (0≤a2∧a2 < (a0.Txns.length:Int)) (bif !(jX a3 a2) then pR a0 a1 a3 a2 ((idx a0.Txns a2).Status == 1) else (pR a0 a1 a3 a2 false)) else (out (out (some ((⟨a0,a1,a3⟩:bE),true))))
noncomputable def sZ (a0:History) (a1:List Int):((List (Int×Int))×Int)→Option (((List (Int×Int))×Int) ⊕ (bE×Bool))
 | (a3,a2)=>bif decide (a2 < (a1.length:Int)) then must (0≤a2∧a2 < (a1.length:Int)) (bif decide (idx a1 a2 < 0) then nK a0 a1 a3 a2 true else (bif decide (idx a1 a2 ≥ (a0.Txns.length:Int)) then nK a0 a1 a3 a2 true else (must (0≤idx a1 a2∧idx a1 a2 < (a0.Txns.length:Int)) (nK a0 a1 a3 a2 ((idx a0.Txns (idx a1 a2)).Status == 2))))) else (bif ((a3.length:Int) != (a1.length:Int)) then out (some ((⟨a0,a1,a3⟩:bE),false)) else (iter (pU a0 a1 a3) 0))
noncomputable def dC (a0:History) (a1:List Int):Option (bE×Bool) :=
 iter (sZ a0 a1) ([],0)
noncomputable def jv (a0:Int) (a1:List (Int×Int)):Option (((List (Int×Int))×Int) ⊕ Bool) :=
 some (.inl (a1,w64 (a0 + 1)))
noncomputable def jw (a0:bE) (a2:List (Int×Int)) (a1:Int) (a3:Bool):Option (((List (Int×Int))×Int) ⊕ Bool) :=
 bif a3 then out (some false) else (jv a1 (fO a2 ((idx a0.h.Txns a1).Proc) (zP (mat a0.at_ a1) (mat a2 ((idx a0.h.Txns a1).Proc)))))
noncomputable def lZ (a0:bE):((List (Int×Int))×Int)→Option (((List (Int×Int))×Int) ⊕ Bool)
 | (a2,a1)=>bif decide (a1 < (a0.h.Txns.length:Int)) then must (0≤a1∧a1 < (a0.h.Txns.length:Int)) (bif !(jX a0.at_ a1) then jv a1 a2 else (bif jX a2 ((idx a0.h.Txns a1).Proc) then jw a0 a2 a1 (decide (mat a2 ((idx a0.h.Txns a1).Proc) > mat a0.at_ a1)) else (jw a0 a2 a1 false))) else (out (some true))
noncomputable def bF (a0:bE):Option Bool :=
 iter (lZ a0) ([],0)
noncomputable def oF (a0:Int) (a1:List Int):Option ((List Int×Int) ⊕ (List Int)) :=
 some (.inl (a1,w64 (a0 + 1)))
noncomputable def oG (a0:Txn) (a1:List Int) (a2:Int) (a3:Bool):Option ((List Int×Int) ⊕ (List Int)) :=
 bif a3 then must (((a1.length + 1) + (a1.length + 1) / 4 + 192) * 8≤281474976710656∧a1.length + 1≤9223372036854775807) (oF a2 (a1++([(idx a0.Ops a2).Arg]:List Int))) else (oF a2 a1)
noncomputable def tq (a0:Txn) (a1:Int):(List Int×Int)→Option ((List Int×Int) ⊕ (List Int))
 | (a3,a2)=>bif decide (a2 < (a0.Ops.length:Int)) then must (0≤a2∧a2 < (a0.Ops.length:Int)) (bif ((idx a0.Ops a2).Key == a1) then oG a0 a3 a2 (decide ((idx a0.Ops a2).Kind≤4)) else (oG a0 a3 a2 false)) else (out (some a3))
noncomputable def dQ (a0:Txn) (a1:Int):Option (List Int) :=
 iter (tq a0 a1) ([],0)
noncomputable def ma (a0:History) (a1:Int) (a2:Int) (a4:Bool):Option (List Int×Bool) :=
 bif a4 then some (([]:List Int),false) else (must (0≤a1∧a1 < (a0.Txns.length:Int)) ((dQ (idx a0.Txns a1) a2).bind fun a3=>some (a3,decide ((a3.length:Int) > 0))))
noncomputable def iM (a0:History) (a1:Int) (a2:Int):Option (List Int×Bool) :=
 bif decide (a1 < 0) then ma a0 a1 a2 true else (bif decide (a1 ≥ (a0.Txns.length:Int)) then ma a0 a1 a2 true else ((aN a0).bind fun a3=>ma a0 a1 a2 (a3 != 0)))
noncomputable def kV (a0:bE) (a1:Ask) (a2:Int) (b9:Bool):Option Bool :=
 bif b9 then some false else ((iM a0.h a2 a1.Key).bind fun a3=>some a3.2)
noncomputable def fJ (a0:bE) (a1:Ask) (a2:Int):Option Bool :=
 bif !(jX a0.at_ a2) then kV a0 a1 a2 true else (kV a0 a1 a2 (decide (mat a0.at_ a2 ≥ mat a0.at_ a1.Txn)))
noncomputable def qy (a0:History) (a1:Int) (a3:Int):Int→Option (Int ⊕ (Int ⊕ Int))
 | a2=>bif decide (a2 < (((idx a0.Txns a3).Ops).length:Int)) then must (0≤a2∧a2 < (((idx a0.Txns a3).Ops).length:Int)) (bif ((idx ((idx a0.Txns a3).Ops) a2).Key == a1) then (kP ((idx ((idx a0.Txns a3).Ops) a2).Kind)).bind fun a4=>out (out (some a4)) else (some (.inl (w64 (a2 + 1))))) else (out (some (.inl (w64 (a3 + 1)))))
noncomputable def nD (a0:History) (a1:Int):Int→Option (Int ⊕ Int)
 | a2=>bif decide (a2 < (a0.Txns.length:Int)) then must (0≤a2∧a2 < (a0.Txns.length:Int)) (iter (qy a0 a1 a2) 0) else (out (some 0))
noncomputable def dJ (a0:History) (a1:Int):Option Int :=
 (aN a0).bind fun y8=>bif (y8 != 0) then some 0 else (iter (nD a0 a1) 0)
noncomputable def mf (a0:List Int):Option (List Int):=must (a0.length < 4611686018427387904) (some (a0.mergeSort fun x y=>decide (x≤y)))
noncomputable def iq (a0:List Int):Option (List Int) :=
 some a0
noncomputable def jK (a1:List Int):(Int×Int)→Option ((Int×Int) ⊕ (List Int))
 | (a2,a0)=>bif decide (a0 < (a1.length:Int)) then must (0≤a0∧a0 < (a1.length:Int)) (some (.inl (w64 (a2 + (idx a1 a0)),w64 (a0 + 1)))) else (out (some ([a2]:List Int)))
noncomputable def fG (a0:bE) (a1:Int) (a2:List Int):Option (List Int) :=
 (dJ a0.h a1).bind fun a3=>bif (a3 == 1) then must (0≤(zP 0 (w64 ((a2.length:Int) - 1)))∧(zP 0 (w64 ((a2.length:Int) - 1)))≤(a2.length:Int)∧(a2.length:Int)≤(a2.length:Int)) (some (di a2 (zP 0 (w64 ((a2.length:Int) - 1))) (a2.length:Int))) else (bif (a3 == 3) then (mf a2).bind fun a4=>iq a4 else (bif (a3 == 4) then iter (jK a2) (0,0) else (iq a2)))
noncomputable def iw (a0:Int) (a1:List Int):Option ((List Int×Int) ⊕ ((List Int×Int) ⊕ (List Int))) :=
 some (.inl (a1,w64 (a0 + 1)))
noncomputable def iy (a0:bE) (a2:Int) (a5:Int) (a1:List Int) (a3:Int) (a4:Bool):Option ((List Int×Int) ⊕ ((List Int×Int) ⊕ (List Int))) :=
 bif a4 then must (((a1.length + 1) + (a1.length + 1) / 4 + 192) * 8≤281474976710656∧a1.length + 1≤9223372036854775807) (iw a3 (a1++([(idx ((idx a0.h.Txns (idx (di a0.order (0:Int) (w64 ((mat a0.at_ a2) + 1))) a5)).Ops) a3).Arg]:List Int))) else (iw a3 a1)
noncomputable def jL (a0:bE) (a1:Int) (a2:Int) (a4:Int):(List Int×Int)→Option ((List Int×Int) ⊕ ((List Int×Int) ⊕ (List Int)))
 | (a5,a3)=>bif decide (a3 < (((idx a0.h.Txns (idx (di a0.order (0:Int) (w64 ((mat a0.at_ a2) + 1))) a4)).Ops).length:Int)) then must (0≤a3∧a3 < (((idx a0.h.Txns (idx (di a0.order (0:Int) (w64 ((mat a0.at_ a2) + 1))) a4)).Ops).length:Int)) (bif ((idx ((idx a0.h.Txns (idx (di a0.order (0:Int) (w64 ((mat a0.at_ a2) + 1))) a4)).Ops) a3).Key == a1) then iy a0 a2 a4 a5 a3 (decide ((idx ((idx a0.h.Txns (idx (di a0.order (0:Int) (w64 ((mat a0.at_ a2) + 1))) a4)).Ops) a3).Kind≤4)) else (iy a0 a2 a4 a5 a3 false)) else (out (some (.inl (a5,w64 (a4 + 1)))))
noncomputable def jM (a0:bE) (a1:Int) (a2:Int):(List Int×Int)→Option ((List Int×Int) ⊕ (List Int))
 | (a4,a3)=>bif decide (a3 < ((di a0.order (0:Int) (w64 ((mat a0.at_ a2) + 1))).length:Int)) then must (0≤a3∧a3 < ((di a0.order (0:Int) (w64 ((mat a0.at_ a2) + 1))).length:Int)) (must (0≤idx (di a0.order (0:Int) (w64 ((mat a0.at_ a2) + 1))) a3∧idx (di a0.order (0:Int) (w64 ((mat a0.at_ a2) + 1))) a3 < (a0.h.Txns.length:Int)) (iter (jL a0 a1 a2 a3) (a4,0))) else (out (fG a0 a1 a4))
noncomputable def au (a0:bE) (a1:Int) (a2:Int):Option (List Int) :=
 bif decide (a2 ≥ 0) then must (0≤(0:Int)∧(0:Int)≤(w64 ((mat a0.at_ a2) + 1))∧(w64 ((mat a0.at_ a2) + 1))≤(a0.order.length:Int)) (iter (jM a0 a1 a2) ([],0)) else (fG a0 a1 [])
noncomputable def tu (a1:Exec) (a2:List Ask×Int) (a5:bE×Bool) (a0:Int) (a3:Bool):Option (Int ⊕ (Int×Int)) :=
 bif a3 then out (some (5,0)) else (must (0≤a0∧a0 < (a1.Picks.length:Int)) ((au a5.1 ((idx a2.1 a0).Key) (idx a1.Picks a0)).bind fun a6=>(dI a6 ((idx a2.1 a0).Base)).bind fun a4=>bif !a4 then out (some (6,0)) else (some (.inl (w64 (a0 + 1))))))
noncomputable def xA (a1:Exec) (a2:List Ask×Int) (a3:bE×Bool):Int→Option (Int ⊕ (Int×Int))
 | a0=>bif decide (a0 < (a2.1.length:Int)) then must (0≤a0∧a0 < (a2.1.length:Int)) (must (0≤a0∧a0 < (a1.Picks.length:Int)) (bif (idx a1.Picks a0 != (-1)) then (fJ a3.1 (idx a2.1 a0) (idx a1.Picks a0)).bind fun a4=>tu a1 a2 a3 a0 (!a4) else (tu a1 a2 a3 a0 false))) else (out (some (0,0)))
noncomputable def gP (a0:History) (a1:Exec):Option (Int×Int) :=
 (oD a0).bind fun a2=>bif (a2.2 != 0) then some (0,a2.2) else ((wQ a0).bind fun a4=>bif decide ((a4.1.length:Int) > 0) then some (1,0) else ((dC a0 a1.Order).bind fun a3=>bif !a3.2 then some (2,0) else (bif ((a1.Picks.length:Int) != (a2.1.length:Int)) then some (3,0) else ((bF a3.1).bind fun a5=>bif !a5 then some (4,0) else (iter (xA a1 a2 a3) 0)))))
noncomputable def og (a1:Int) (a0:Bool):Option (Int ⊕ (Int ⊕ Bool)) :=
 bif a0 then out (out (some false)) else (some (.inl (w64 (a1 + 1))))
noncomputable def ru (a0:History) (a1:List Int) (a2:Int):Int→Option (Int ⊕ (Int ⊕ Bool))
 | a3=>bif decide (a3 < ((di a1 (w64 (a2 + 1)) (a1.length:Int)).length:Int)) then must (0≤a3∧a3 < ((di a1 (w64 (a2 + 1)) (a1.length:Int)).length:Int)) (must (0≤idx (di a1 (w64 (a2 + 1)) (a1.length:Int)) a3∧idx (di a1 (w64 (a2 + 1)) (a1.length:Int)) a3 < (a0.Txns.length:Int)) (bif ((idx a0.Txns (idx (di a1 (w64 (a2 + 1)) (a1.length:Int)) a3)).Status == 1) then must (0≤idx a1 a2∧idx a1 a2 < (a0.Txns.length:Int)) (og a3 (decide ((idx a0.Txns (idx (di a1 (w64 (a2 + 1)) (a1.length:Int)) a3)).To < (idx a0.Txns (idx a1 a2)).From))) else (og a3 false))) else (out (some (.inl (w64 (a2 + 1)))))
noncomputable def ry (a0:History) (a1:List Int) (a3:bE×Bool):Int→Option (Int ⊕ Bool)
 | a2=>bif decide (a2 < (a1.length:Int)) then must (0≤a2∧a2 < (a1.length:Int)) (must (0≤(w64 (a2 + 1))∧(w64 (a2 + 1))≤(a1.length:Int)∧(a1.length:Int)≤(a1.length:Int)) (iter (ru a0 a1 a2) 0)) else (out (some ((a3.1.order.length:Int) == (a1.length:Int))))
noncomputable def dF (a0:History) (a1:List Int):Option Bool :=
 (aN a0).bind fun y8=>bif (y8 != 0) then some false else ((dC a0 a1).bind fun a2=>bif !a2.2 then some false else (iter (ry a0 a1 a2) 0))
noncomputable def eY:Option Bool :=
 (gP (⟨([(⟨#[120]⟩:ByteArray)]:List ByteArray),([(⟨0,1,0,1,([(⟨1,0,5,false,([]:List Int)⟩:Op)]:List Op)⟩:Txn),(⟨1,1,2,3,([(⟨5,0,0,true,([5]:List Int)⟩:Op)]:List Op)⟩:Txn)]:List Txn)⟩:History) (⟨([0,1]:List Int),([0]:List Int)⟩:Exec)).bind fun a1=>(gP (⟨([(⟨#[120]⟩:ByteArray)]:List ByteArray),([(⟨0,1,0,1,([(⟨1,0,5,false,([]:List Int)⟩:Op)]:List Op)⟩:Txn),(⟨1,1,2,3,([(⟨5,0,0,true,([5]:List Int)⟩:Op)]:List Op)⟩:Txn)]:List Txn)⟩:History) (⟨([1,0]:List Int),([0]:List Int)⟩:Exec)).bind fun a0=>bif (a1.1 == 0) then bif (a1.2 == 0) then bif (a0.1 == 5) then bif (a0.2 == 0) then (dF (⟨([(⟨#[120]⟩:ByteArray)]:List ByteArray),([(⟨0,1,0,1,([(⟨1,0,5,false,([]:List Int)⟩:Op)]:List Op)⟩:Txn),(⟨1,1,2,3,([(⟨5,0,0,true,([5]:List Int)⟩:Op)]:List Op)⟩:Txn)]:List Txn)⟩:History) ([0,1]:List Int)).bind fun a2=>bif a2 then (dF (⟨([(⟨#[120]⟩:ByteArray)]:List ByteArray),([(⟨0,1,0,1,([(⟨1,0,5,false,([]:List Int)⟩:Op)]:List Op)⟩:Txn),(⟨1,1,2,3,([(⟨5,0,0,true,([5]:List Int)⟩:Op)]:List Op)⟩:Txn)]:List Txn)⟩:History) ([1,0]:List Int)).bind fun a3=>some (!a3) else (some false) else (some false) else (some false) else (some false) else (some false)
noncomputable def vK (a0:List Int) (a1:Int):Int→Option (Int ⊕ Bool)
 | a2=>bif decide (a2 < (a0.length:Int)) then must (0≤a2∧a2 < (a0.length:Int)) (bif (idx a0 a2 == a1) then out (some true) else (some (.inl (w64 (a2 + 1))))) else (out (some false))
noncomputable def fU (a0:List Int) (a1:Int):Option Bool :=
 iter (vK a0 a1) 0
noncomputable def gX (a0:Int) (a1:Bool):Option (Int ⊕ Bool) :=
 bif a1 then out (some true) else (some (.inl (w64 (a0 + 1))))
noncomputable def kr (a1:Int) (a0:List Int):Option ((List Int×Int) ⊕ (Int ⊕ Bool)) :=
 some (.inl (a0,w64 (a1 + 1)))
noncomputable def oH (a0:History) (a1:Exec) (a2:Int):(List Int×Int)→Option ((List Int×Int) ⊕ (Int ⊕ Bool))
 | (a4,a3)=>bif decide (a3 < (a1.Order.length:Int)) then must (0≤a3∧a3 < (a1.Order.length:Int)) (bif (idx a1.Order a3 != w64 ((IntKind.wrap .u64 (a2)).tmod (IntKind.wrap .u64 ((a0.Txns.length:Int))))) then must (((a4.length + 1) + (a4.length + 1) / 4 + 192) * 8≤281474976710656∧a4.length + 1≤9223372036854775807) (kr a3 (a4++([idx a1.Order a3]:List Int))) else (kr a3 a4)) else ((gP a0 (⟨a4,a1.Picks⟩:Exec)).bind fun a5=>bif (a5.1 == 0) then out (out (some (a5.2 == 0))) else (out (out (some false))))
noncomputable def oI (a0:History) (a1:Exec) (a2:Int):Int→Option (Int ⊕ Bool)
 | a3=>must (0≤w64 ((IntKind.wrap .u64 (a2)).tmod (IntKind.wrap .u64 ((a0.Txns.length:Int))))∧w64 ((IntKind.wrap .u64 (a2)).tmod (IntKind.wrap .u64 ((a0.Txns.length:Int)))) < (a0.Txns.length:Int)) (bif decide (a3 < (((idx a0.Txns (w64 ((IntKind.wrap .u64 (a2)).tmod (IntKind.wrap .u64 ((a0.Txns.length:Int)))))).Ops).length:Int)) then must (0≤a3∧a3 < (((idx a0.Txns (w64 ((IntKind.wrap .u64 (a2)).tmod (IntKind.wrap .u64 ((a0.Txns.length:Int)))))).Ops).length:Int)) (bif ((idx ((idx a0.Txns (w64 ((IntKind.wrap .u64 (a2)).tmod (IntKind.wrap .u64 ((a0.Txns.length:Int)))))).Ops) a3).Kind == 2) then gX a3 true else (bif ((idx ((idx a0.Txns (w64 ((IntKind.wrap .u64 (a2)).tmod (IntKind.wrap .u64 ((a0.Txns.length:Int)))))).Ops) a3).Kind == 3) then gX a3 true else (gX a3 ((idx ((idx a0.Txns (w64 ((IntKind.wrap .u64 (a2)).tmod (IntKind.wrap .u64 ((a0.Txns.length:Int)))))).Ops) a3).Kind == 4)))) else (iter (oH a0 a1 a2) ([],0)))
noncomputable def ku (a0:History) (a1:Exec) (a2:Int) (a3:Bool):Option Bool :=
 bif a3 then some true else (iter (oI a0 a1 a2) 0)
noncomputable def gY (a0:History) (a1:Exec) (a2:Int) (a4:Bool):Option Bool :=
 bif a4 then some true else (must ((IntKind.wrap .u64 ((a0.Txns.length:Int)))≠0) (must (0≤w64 ((IntKind.wrap .u64 (a2)).tmod (IntKind.wrap .u64 ((a0.Txns.length:Int))))∧w64 ((IntKind.wrap .u64 (a2)).tmod (IntKind.wrap .u64 ((a0.Txns.length:Int)))) < (a0.Txns.length:Int)) (bif ((idx a0.Txns (w64 ((IntKind.wrap .u64 (a2)).tmod (IntKind.wrap .u64 ((a0.Txns.length:Int)))))).Status != 3) then ku a0 a1 a2 true else ((fU a1.Picks (w64 ((IntKind.wrap .u64 (a2)).tmod (IntKind.wrap .u64 ((a0.Txns.length:Int)))))).bind fun a3=>ku a0 a1 a2 a3))))
noncomputable def aP (a0:History) (a1:Exec) (a2:Int):Option Bool :=
 (eY).bind fun a4=>bif !a4 then some false else ((gP a0 a1).bind fun a3=>bif (a3.2 != 0) then gY a0 a1 a2 true else (bif (a3.1 != 0) then gY a0 a1 a2 true else (gY a0 a1 a2 ((a0.Txns.length:Int) == 0))))
noncomputable def pF (a0:History) (a1:Exec) (a2:Int):Option Bool :=
 (gP a0 (⟨(([]:List Int)++a1.Order)++([a2]:List Int),a1.Picks⟩:Exec)).bind fun a3=>must (0≤a2∧a2 < (a0.Txns.length:Int)) (bif ((idx a0.Txns a2).Status == 2) then bif (a3.2 == 0) then some (a3.1 == 2) else (some false) else (bif (a3.2 == 0) then bif (a3.1 == 0) then some true else (some (a3.1 == 4)) else (some false)))
noncomputable def ed (a0:History) (a1:Exec) (a2:Int) (a3:Bool):Option Bool :=
 bif a3 then some true else (must (((0 + a1.Order.length) + (0 + a1.Order.length) / 4 + 192) * 8≤281474976710656∧0 + a1.Order.length≤9223372036854775807) (must (((((([]:List Int)++a1.Order).length) + 1) + (((([]:List Int)++a1.Order).length) + 1) / 4 + 192) * 8≤281474976710656∧((([]:List Int)++a1.Order).length) + 1≤9223372036854775807) (pF a0 a1 a2)))
noncomputable def cO (a0:History) (a1:Exec) (a2:Int):Option Bool :=
 (eY).bind fun a4=>bif !a4 then some false else ((gP a0 a1).bind fun a3=>bif (a3.2 != 0) then ed a0 a1 a2 true else (bif (a3.1 != 0) then ed a0 a1 a2 true else (bif decide (a2 < 0) then ed a0 a1 a2 true else (bif decide (a2 ≥ (a0.Txns.length:Int)) then ed a0 a1 a2 true else ((fU a1.Order a2).bind fun a5=>ed a0 a1 a2 a5)))))
noncomputable def jb (a0:List Int) (a1:List Int):Int→Option (Int ⊕ Bool)
 | a2=>bif decide (a2 < (a0.length:Int)) then must (0≤a2∧a2 < (a0.length:Int)) (must (0≤a2∧a2 < (a1.length:Int)) (bif (idx a0 a2 != idx a1 a2) then out (some false) else (some (.inl (w64 (a2 + 1)))))) else (out (some true))
noncomputable def bU (a0:List Int) (a1:List Int):Option Bool :=
 bif ((a0.length:Int) != (a1.length:Int)) then some false else (iter (jb a0 a1) 0)
noncomputable def gL (a2:Int) (a3:Int) (a4:bE×Bool) (a1:Bool):Option (List Int×Bool) :=
 bif a1 then some (([]:List Int),false) else ((au a4.1 a2 a3).bind fun a0=>some (a0,true))
noncomputable def dK (a0:History) (a1:List Int) (a2:Int) (a3:Int) (a5:Bool):Option (List Int×Bool) :=
 bif a5 then some (([]:List Int),false) else ((dC a0 a1).bind fun a4=>bif !a4.2 then gL a2 a3 a4 true else (bif decide (a3 ≥ 0) then gL a2 a3 a4 (!(jX a4.1.at_ a3)) else (gL a2 a3 a4 false)))
noncomputable def aZ (a0:History) (a1:List Int) (a2:Int) (a3:Int):Option (List Int×Bool) :=
 (aN a0).bind fun a4=>bif (a4 != 0) then dK a0 a1 a2 a3 true else (bif decide (a2 < 0) then dK a0 a1 a2 a3 true else (bif decide (a2 ≥ (a0.Keys.length:Int)) then dK a0 a1 a2 a3 true else (dK a0 a1 a2 a3 (decide (a3 < (-1))))))
noncomputable def kW (a0:List ByteArray) (a1:ByteArray):Int→Option (Int ⊕ Int)
 | a2=>bif decide (a2 < (a0.length:Int)) then must (0≤a2∧a2 < (a0.length:Int)) (bif sEq (idx a0 a2) a1 then out (some a2) else (some (.inl (w64 (a2 + 1))))) else (out (some (-1)))
noncomputable def dD (a0:List ByteArray) (a1:ByteArray):Option Int :=
 iter (kW a0 a1) 0
noncomputable def fV (a1:Int) (a0:Bool):Option (Int ⊕ Bool) :=
 bif a0 then out (some false) else (some (.inl (w64 (a1 + 1))))
noncomputable def kw (a0:List ByteArray):Int→Option (Int ⊕ Bool)
 | a1=>bif decide (a1 < (a0.length:Int)) then must (0≤a1∧a1 < (a0.length:Int)) (bif decide (((idx a0 a1).size:Int) < 1) then fV a1 true else (bif decide (((idx a0 a1).size:Int) > 32) then fV a1 true else (must (0≤(0:Int)∧(0:Int)≤a1∧a1≤(a0.length:Int)) ((dD (di a0 (0:Int) a1) (idx a0 a1)).bind fun a2=>fV a1 (decide (a2 ≥ 0)))))) else (out (some (decide ((a0.length:Int)≤32))))
noncomputable def bK (a0:List ByteArray):Option Bool :=
 iter (kw a0) 0
noncomputable def fH (a0:Int) (a1:Bool):Option (Int ⊕ Bool) :=
 bif a1 then out (some false) else (some (.inl (w64 (a0 + 1))))
noncomputable def iA (a0:List Txn) (a1:Int):Int→Option (Int ⊕ Bool)
 | a2=>bif decide (a2 < a1) then must (0≤a2∧a2 < (a0.length:Int)) (bif ((idx a0 a2).Proc == (idx a0 a1).Proc) then bif ((idx a0 a2).To == (-1)) then fH a2 true else (fH a2 (decide ((idx a0 a2).To ≥ (idx a0 a1).From))) else (fH a2 false)) else (out (some true))
noncomputable def iB (a0:List Txn) (a1:Int) (a2:Bool):Option Bool :=
 bif a2 then some false else (iter (iA a0 a1) 0)
noncomputable def bW (a0:List Txn) (a1:Int) (a2:Bool):Option Bool :=
 bif a2 then some false else (bif decide (a1 > 0) then must (0≤w64 (a1 - 1)∧w64 (a1 - 1) < (a0.length:Int)) (iB a0 a1 (decide ((idx a0 a1).From≤(idx a0 (w64 (a1 - 1))).From))) else (iB a0 a1 false))
noncomputable def aD (a0:List Txn) (a1:Int):Option Bool :=
 must (0≤a1∧a1 < (a0.length:Int)) (bif decide ((idx a0 a1).Status < 1) then bW a0 a1 true else (bif decide ((idx a0 a1).Status > 3) then bW a0 a1 true else (bif decide ((idx a0 a1).From < 0) then bW a0 a1 true else (bif ((idx a0 a1).To != (-1)) then bif decide ((idx a0 a1).To≤(idx a0 a1).From) then bW a0 a1 true else (bif ((idx a0 a1).To == (-1)) then bW a0 a1 ((idx a0 a1).Status != 3) else (bW a0 a1 false)) else (bif ((idx a0 a1).To == (-1)) then bW a0 a1 ((idx a0 a1).Status != 3) else (bW a0 a1 false))))))
noncomputable def gQ (a0:Call):Option Bool :=
 some (decide ((a0.Vals.length:Int)≤64))
noncomputable def iZ (a0:Call):Int→Option (Int ⊕ Bool)
 | a1=>bif decide (a1 < (a0.Vals.length:Int)) then must (0≤a1∧a1 < (a0.Vals.length:Int)) (must (0≤w64 (a1 - 1)∧w64 (a1 - 1) < (a0.Vals.length:Int)) (bif decide (idx a0.Vals a1≤idx a0.Vals (w64 (a1 - 1))) then out (some false) else (some (.inl (w64 (a1 + 1)))))) else (out (gQ a0))
noncomputable def fe (a0:Call) (a1:Bool):Option Bool :=
 bif a1 then some false else (bif (a0.Kind == 5) then some (decide ((a0.Vals.length:Int)≤1)) else (bif (a0.Kind == 8) then bif !a0.Got then some true else (some ((a0.Vals.length:Int) == 1)) else (bif (a0.Kind == 7) then iter (iZ a0) 1 else (gQ a0))))
noncomputable def fq (a0:Call) (a1:Int) (a2:Bool):Option Bool :=
 bif a2 then some false else (bif decide (a0.Kind≤4) then bif !a0.Got then bif ((a0.Vals.length:Int) == 0) then bif (a0.Kind != 4) then some true else (bif decide (a0.Arg ≥ (-1048576)) then some (decide (a0.Arg≤1048576)) else (some false)) else (some false) else (some false) else (bif (a0.Arg != 0) then fe a0 true else (bif (a0.Got != (a1 == 1)) then fe a0 true else (bif !a0.Got then fe a0 (decide ((a0.Vals.length:Int) > 0)) else (fe a0 false)))))
noncomputable def aM (a0:Call) (a1:Int):Option Bool :=
 bif decide (a0.Kind < 1) then fq a0 a1 true else (bif decide (a0.Kind > 8) then fq a0 a1 true else (bif decide ((a0.Key.size:Int) < 1) then fq a0 a1 true else (fq a0 a1 (decide ((a0.Key.size:Int) > 32)))))
noncomputable def iN (a0:Event):Int→Option (Int ⊕ Bool)
 | a1=>bif decide (a1 < (a0.Calls.length:Int)) then must (0≤a1∧a1 < (a0.Calls.length:Int)) ((aM (idx a0.Calls a1) a0.Kind).bind fun a2=>bif !a2 then out (some false) else (some (.inl (w64 (a1 + 1))))) else (out (some true))
noncomputable def fZ (a0:Event) (b9:Bool):Option Bool :=
 bif b9 then some false else (iter (iN a0) 0)
noncomputable def bA (a0:Event):Option Bool :=
 bif decide (a0.Kind < 0) then fZ a0 true else (bif decide (a0.Kind > 3) then fZ a0 true else (fZ a0 (decide ((a0.Calls.length:Int) > 16))))
noncomputable def ky (a0:List Event):Int→Option (Int ⊕ Int)
 | a1=>bif decide (a1 < (a0.length:Int)) then must (0≤a1∧a1 < (a0.length:Int)) ((bA (idx a0 a1)).bind fun a2=>bif !a2 then out (some 1) else (some (.inl (w64 (a1 + 1))))) else (out (some 0))
noncomputable def dN (a0:List Event):Option Int :=
 bif decide ((a0.length:Int) > 256) then some 1 else (iter (ky a0) 0)
noncomputable def gm (a0:Int):Option Int :=
 some (w64 (((w64 (a0 - 1)).tmod (4:Int)) + 1))
noncomputable def eu (a1:List ByteArray) (a2:List Int) (a4:List (List Int)) (a0:List Int) (a3:List Int):Option (Int×ax) :=
 some (0,(⟨a1,a2,a4,a0,a3⟩:ax))
noncomputable def eB (a2:Int) (a4:List ByteArray) (a5:List Int) (a1:List Int) (a3:List Int) (a0:Int) (a6:List (List Int)) (a7:Bool):Option (Int×ax) :=
 bif a7 then must (0≤a0∧a0 < (a3.length:Int)) (must (0≤a0∧a0 < (a1.length:Int)) (bif decide (idx (a1.set a0.toNat (w64 ((idx a1 a0) + 1))) a0 > 8) then some (51,(⟨a4,a5,a6,a1.set a0.toNat (w64 ((idx a1 a0) + 1)),a3.set a0.toNat a2⟩:ax)) else (eu a4 a5 a6 (a1.set a0.toNat (w64 ((idx a1 a0) + 1))) (a3.set a0.toNat a2)))) else (eu a4 a5 a6 a1 a3)
noncomputable def dG (a1:Call) (a2:Int) (a5:List ByteArray) (a6:List Int) (a4:List Int) (a3:List Int) (a0:Int) (a7:List (List Int)):Option (Int×ax) :=
 bif (a1.Kind == 4) then must (0≤a0∧a0 < (a3.length:Int)) (eB a2 a5 a6 a4 a3 a0 a7 (idx a3 a0 != a2)) else (eB a2 a5 a6 a4 a3 a0 a7 false)
noncomputable def fA (a1:Call) (a2:Int) (a6:List ByteArray) (a7:List Int) (a3:List (List Int)) (a5:List Int) (a8:List Int) (a0:Int):Int→Option (Int ⊕ (Int×ax))
 | a4=>must (0≤a0∧a0 < (a3.length:Int)) (bif decide (a4 < ((idx a3 a0).length:Int)) then must (0≤a4∧a4 < ((idx a3 a0).length:Int)) (bif (idx (idx a3 a0) a4 == a1.Arg) then out (some (3,(⟨a6,a7,a3,a5,a8⟩:ax))) else (some (.inl (w64 (a4 + 1))))) else (must (((((idx a3 a0).length) + 1) + (((idx a3 a0).length) + 1) / 4 + 192) * 8≤281474976710656∧((idx a3 a0).length) + 1≤9223372036854775807) (out (dG a1 a2 a6 a7 a5 a8 a0 (a3.set a0.toNat ((idx a3 a0)++([a1.Arg]:List Int)))))))
noncomputable def fB (a1:Call) (a2:Int) (a4:List ByteArray) (a5:List Int) (a7:List (List Int)) (a3:List Int) (a6:List Int) (a0:Int) (a8:Bool):Option (Int×ax) :=
 bif a8 then iter (fA a1 a2 a4 a5 a7 a3 a6 a0) 0 else (dG a1 a2 a4 a5 a3 a6 a0 a7)
noncomputable def cK (a1:Call) (a2:Int) (a5:List ByteArray) (a3:List Int) (a7:List (List Int)) (a4:List Int) (a6:List Int) (a0:Int):Option (Int×ax) :=
 must (0≤a0∧a0 < (a3.length:Int)) ((gm a1.Kind).bind fun a8=>bif (idx a3 a0 != a8) then some (50,(⟨a5,a3,a7,a4,a6⟩:ax)) else (bif (a1.Kind == 2) then fB a1 a2 a5 a3 a7 a4 a6 a0 true else (fB a1 a2 a5 a3 a7 a4 a6 a0 (a1.Kind == 3))))
noncomputable def fC (a0:ax) (a1:Call) (a2:Int) (a3:List Int):Option (Int×ax) :=
 must (((a0.wrote.length + 1) + (a0.wrote.length + 1) / 4 + 192) * 24≤281474976710656∧a0.wrote.length + 1≤9223372036854775807) (must (((a0.incs.length + 1) + (a0.incs.length + 1) / 4 + 192) * 8≤281474976710656∧a0.incs.length + 1≤9223372036854775807) (must (((a0.last_.length + 1) + (a0.last_.length + 1) / 4 + 192) * 8≤281474976710656∧a0.last_.length + 1≤9223372036854775807) (cK a1 a2 (a0.keys++([a1.Key]:List ByteArray)) a3 (a0.wrote++([([]:List Int)]:List (List Int))) (a0.incs++([0]:List Int)) (a0.last_++([(-1)]:List Int)) (a0.keys.length:Int))))
noncomputable def fD (a0:ax) (a1:Call) (a2:Int):Option (Int×ax) :=
 (gm a1.Kind).bind fun a3=>must (((a0.types.length + 1) + (a0.types.length + 1) / 4 + 192) * 8≤281474976710656∧a0.types.length + 1≤9223372036854775807) (fC a0 a1 a2 (a0.types++([a3]:List Int)))
noncomputable def af (a0:ax) (a1:Call) (a2:Int):Option (Int×ax) :=
 (dD a0.keys a1.Key).bind fun y5=>bif decide (y5 < 0) then bif decide ((a0.keys.length:Int) ≥ 32) then some (2,a0) else (must (((a0.keys.length + 1) + (a0.keys.length + 1) / 4 + 192) * 16≤281474976710656∧a0.keys.length + 1≤9223372036854775807) (fD a0 a1 a2)) else (cK a1 a2 a0.keys a0.types a0.wrote a0.incs a0.last_ y5)
noncomputable def kz (a0:History) (a2:Int) (a3:List Call) (a1:Int):Option ((List Call×Int) ⊕ ((List ByteArray×List Int×(List (List Int))×List Int×List Int×Int) ⊕ Int)) :=
 some (.inl (a3++([(⟨(idx ((idx a0.Txns a2).Ops) a1).Kind,idx a0.Keys ((idx ((idx a0.Txns a2).Ops) a1).Key),(idx ((idx a0.Txns a2).Ops) a1).Arg,(idx ((idx a0.Txns a2).Ops) a1).Got,(idx ((idx a0.Txns a2).Ops) a1).Vals⟩:Call)]:List Call),w64 (a1 + 1)))
noncomputable def iO (a0:History) (a3:Int) (a1:List Call) (a2:Int) (a4:Bool):Option ((List Call×Int) ⊕ ((List ByteArray×List Int×(List (List Int))×List Int×List Int×Int) ⊕ Int)) :=
 bif a4 then out (out (some 1)) else (must (0≤(idx ((idx a0.Txns a3).Ops) a2).Key∧(idx ((idx a0.Txns a3).Ops) a2).Key < (a0.Keys.length:Int)) (must (((a1.length + 1) + (a1.length + 1) / 4 + 192) * 64≤281474976710656∧a1.length + 1≤9223372036854775807) (kz a0 a3 a1 a2)))
noncomputable def dR (a8:Int) (a2:List Call):(List ByteArray×List Int×(List (List Int))×List Int×List Int×Int)→Option ((List ByteArray×List Int×(List (List Int))×List Int×List Int×Int) ⊕ ((List Call×Int) ⊕ ((List ByteArray×List Int×(List (List Int))×List Int×List Int×Int) ⊕ Int)))
 | (a6,a5,a3,a7,a4,a1)=>bif decide (a1 < (a2.length:Int)) then must (0≤a1∧a1 < (a2.length:Int)) ((af (⟨a6,a5,a3,a7,a4⟩:ax) (idx a2 a1) a8).bind fun a0=>bif (a0.1 != 0) then out (out (out (some 1))) else (some (.inl (a0.2.keys,a0.2.types,a0.2.wrote,a0.2.incs,a0.2.last_,w64 (a1 + 1))))) else (out (out (some (.inl (a6,a5,a3,a7,a4,w64 (a8 + 1))))))
noncomputable def dS (a0:History) (a4:List ByteArray) (a9:List Int) (a5:List (List Int)) (a7:List Int) (a6:List Int) (a1:Int):(List Call×Int)→Option ((List Call×Int) ⊕ ((List ByteArray×List Int×(List (List Int))×List Int×List Int×Int) ⊕ Int))
 | (a3,a2)=>bif decide (a2 < (((idx a0.Txns a1).Ops).length:Int)) then must (0≤a2∧a2 < (((idx a0.Txns a1).Ops).length:Int)) (bif decide ((idx ((idx a0.Txns a1).Ops) a2).Key < 0) then iO a0 a1 a3 a2 true else (iO a0 a1 a3 a2 (decide ((idx ((idx a0.Txns a1).Ops) a2).Key ≥ (a0.Keys.length:Int))))) else ((dN ([(⟨0,(idx a0.Txns a1).Status,a3⟩:Event)]:List Event)).bind fun a8=>bif (a8 != 0) then out (out (some 1)) else (iter (dR a1 a3) (a4,a9,a5,a7,a6,0)))
noncomputable def gp (a0:History) (a2:List ByteArray) (a7:List Int) (a3:List (List Int)) (a5:List Int) (a4:List Int) (a6:Int) (a1:Bool):Option ((List ByteArray×List Int×(List (List Int))×List Int×List Int×Int) ⊕ Int) :=
 bif a1 then out (some 1) else (iter (dS a0 a2 a7 a3 a5 a4 a6) ([],0))
noncomputable def gq (a0:History):(List ByteArray×List Int×(List (List Int))×List Int×List Int×Int)→Option ((List ByteArray×List Int×(List (List Int))×List Int×List Int×Int) ⊕ Int)
 | (a2,a6,a3,a5,a4,a1)=>bif decide (a1 < (a0.Txns.length:Int)) then must (0≤a1∧a1 < (a0.Txns.length:Int)) ((aD a0.Txns a1).bind fun a7=>bif !a7 then gp a0 a2 a6 a3 a5 a4 a1 true else (gp a0 a2 a6 a3 a5 a4 a1 (decide ((((idx a0.Txns a1).Ops).length:Int) > 16)))) else (out (some 0))
noncomputable def eU (a0:History) (a1:Bool):Option Int :=
 bif a1 then some 1 else (iter (gq a0) ([],[],[],[],[],0))
noncomputable def ag (a0:History):Option Int :=
 (bK a0.Keys).bind fun a1=>bif !a1 then eU a0 true else (eU a0 (decide ((a0.Txns.length:Int) > 32)))
noncomputable def eH (a1:List Int) (a2:List Int) (a0:Int) (a3:Bool):Option ((List Int×Int) ⊕ (List Int×Bool)) :=
 bif a3 then out (some (([]:List Int),false)) else (must (0≤idx a1 a0∧idx a1 a0 < (a2.length:Int)) (some (.inl (a2.set (idx a1 a0).toNat (w64 (a0 + 1)),w64 (a0 + 1)))))
noncomputable def iC (a0:Int) (a1:Bool):Option (Int ⊕ ((List Int×Int) ⊕ (List Int×Bool))) :=
 bif a1 then out (out (some (([]:List Int),false))) else (some (.inl (w64 (a0 + 1))))
noncomputable def iD (a0:History) (a2:List Int):Int→Option (Int ⊕ ((List Int×Int) ⊕ (List Int×Bool)))
 | a1=>bif decide (a1 < (a0.Txns.length:Int)) then must (0≤a1∧a1 < (a0.Txns.length:Int)) (bif ((idx a0.Txns a1).Status == 1) then must (0≤a1∧a1 < (a2.length:Int)) (iC a1 (idx a2 a1 == 0)) else (iC a1 false)) else (out (out (some (a2,true))))
noncomputable def jN (a0:History) (a1:List Int):(List Int×Int)→Option ((List Int×Int) ⊕ (List Int×Bool))
 | (a3,a2)=>bif decide (a2 < (a1.length:Int)) then must (0≤a2∧a2 < (a1.length:Int)) (bif decide (idx a1 a2 < 0) then eH a1 a3 a2 true else (bif decide (idx a1 a2 ≥ (a0.Txns.length:Int)) then eH a1 a3 a2 true else (must (0≤idx a1 a2∧idx a1 a2 < (a3.length:Int)) (bif (idx a3 (idx a1 a2) != 0) then eH a1 a3 a2 true else (must (0≤idx a1 a2∧idx a1 a2 < (a0.Txns.length:Int)) (eH a1 a3 a2 ((idx a0.Txns (idx a1 a2)).Status == 2))))))) else (iter (iD a0 a3) 0)
noncomputable def aL (a0:History) (a1:List Int):Option (List Int×Bool) :=
 must (0≤(a0.Txns.length:Int)∧(a0.Txns.length:Int)≤9223372036854775807∧(8:Int) * (a0.Txns.length:Int)≤281474976710656) (iter (jN a0 a1) (List.replicate (a0.Txns.length:Int).toNat (default:Int),0))
noncomputable def fK (a0:Int):Option Bool :=
 some (decide (a0≤4))
noncomputable def iP (a1:Int) (a0:List Int):Option ((List Int×Int) ⊕ (List Int)) :=
 some (.inl (a0,w64 (a1 + 1)))
noncomputable def iQ (a0:History) (a1:Int) (a2:List Int) (a3:Int) (a4:Bool):Option ((List Int×Int) ⊕ (List Int)) :=
 bif a4 then must (((a2.length + 1) + (a2.length + 1) / 4 + 192) * 8≤281474976710656∧a2.length + 1≤9223372036854775807) (iP a3 (a2++([(idx ((idx a0.Txns a1).Ops) a3).Arg]:List Int))) else (iP a3 a2)
noncomputable def kC (a0:History) (a1:Int) (a2:Int):(List Int×Int)→Option ((List Int×Int) ⊕ (List Int))
 | (a4,a3)=>must (0≤a1∧a1 < (a0.Txns.length:Int)) (bif decide (a3 < (((idx a0.Txns a1).Ops).length:Int)) then must (0≤a3∧a3 < (((idx a0.Txns a1).Ops).length:Int)) (bif ((idx ((idx a0.Txns a1).Ops) a3).Key == a2) then (fK ((idx ((idx a0.Txns a1).Ops) a3).Kind)).bind fun a5=>iQ a0 a1 a4 a3 a5 else (iQ a0 a1 a4 a3 false)) else (out (some a4)))
noncomputable def aO (a0:History) (a1:Int) (a2:Int):Option (List Int) :=
 iter (kC a0 a1 a2) ([],0)
noncomputable def jO (a1:List Int) (a0:Int):Option ((List Int×Int) ⊕ ((List Int×Int) ⊕ (List Int))) :=
 some (.inl ((a1.set a0.toNat (idx a1 (w64 (a0 - 1)))).set (w64 (a0 - 1)).toNat (idx a1 a0),w64 (a0 - 1)))
noncomputable def iE (a3:Int) (a1:List Int) (a0:Int) (a2:Bool):Option ((List Int×Int) ⊕ ((List Int×Int) ⊕ (List Int))) :=
 bif a2 then must (0≤w64 (a0 - 1)∧w64 (a0 - 1) < (a1.length:Int)) (must (0≤a0∧a0 < (a1.length:Int)) (jO a1 a0)) else (out (some (.inl (a1,w64 (a3 + 1)))))
noncomputable def jP (a2:Int):(List Int×Int)→Option ((List Int×Int) ⊕ ((List Int×Int) ⊕ (List Int)))
 | (a1,a0)=>bif decide (a0 > 0) then must (0≤a0∧a0 < (a1.length:Int)) (must (0≤w64 (a0 - 1)∧w64 (a0 - 1) < (a1.length:Int)) (iE a2 a1 a0 (decide (idx a1 a0 < idx a1 (w64 (a0 - 1)))))) else (iE a2 a1 a0 false)
noncomputable def jQ (a0:List Int):(List Int×Int)→Option ((List Int×Int) ⊕ (List Int))
 | (a1,a2)=>bif decide (a2 < (a0.length:Int)) then must (0≤a2∧a2 < (a0.length:Int)) (must (((a1.length + 1) + (a1.length + 1) / 4 + 192) * 8≤281474976710656∧a1.length + 1≤9223372036854775807) (iter (jP a2) (a1++([idx a0 a2]:List Int),w64 (((a1++([idx a0 a2]:List Int)).length:Int) - 1)))) else (out (some a1))
noncomputable def aQ (a0:List Int):Option (List Int) :=
 iter (jQ a0) ([],0)
noncomputable def dA (a0:List Int):Option (List Int) :=
 some a0
noncomputable def jR (a1:List Int):(Int×Int)→Option ((Int×Int) ⊕ (List Int))
 | (a2,a0)=>bif decide (a0 < (a1.length:Int)) then must (0≤a0∧a0 < (a1.length:Int)) (some (.inl (w64 (a2 + (idx a1 a0)),w64 (a0 + 1)))) else (out (dA ([a2]:List Int)))
noncomputable def eO (a2:Int) (a0:List Int):Option (List Int) :=
 bif (a2 == 1) then bif decide ((a0.length:Int) > 0) then must (0≤(w64 ((a0.length:Int) - 1))∧(w64 ((a0.length:Int) - 1))≤(a0.length:Int)∧(a0.length:Int)≤(a0.length:Int)) (dA (di a0 (w64 ((a0.length:Int) - 1)) (a0.length:Int))) else (dA a0) else (bif (a2 == 3) then (aQ a0).bind fun a1=>dA a1 else (bif (a2 == 4) then iter (jR a0) (0,0) else (dA a0)))
noncomputable def iF (a0:History) (a1:List Int) (a2:Int) (a3:Int) (a4:Int) (a5:List Int) (a7:Int) (a8:Bool):Option ((List Int×Int) ⊕ (List Int)) :=
 bif a8 then must (0≤a7∧a7 < (a1.length:Int)) ((aO a0 (idx a1 a7) a3).bind fun a6=>must (((a5.length + a6.length) + (a5.length + a6.length) / 4 + 192) * 8≤281474976710656∧a5.length + a6.length≤9223372036854775807) (bif (idx a1 a7 == a4) then out (eO a2 (a5++a6)) else (some (.inl (a5++a6,w64 (a7 + 1)))))) else (out (eO a2 a5))
noncomputable def jS (a0:History) (a1:List Int) (a2:Int) (a3:Int) (a4:Int):(List Int×Int)→Option ((List Int×Int) ⊕ (List Int))
 | (a6,a5)=>bif decide (a5 < (a1.length:Int)) then iF a0 a1 a2 a3 a4 a6 a5 (decide (a4 ≥ 0)) else (iF a0 a1 a2 a3 a4 a6 a5 false)
noncomputable def aC (a0:History) (a1:List Int) (a2:Int) (a3:Int) (a4:Int):Option (List Int) :=
 iter (jS a0 a1 a2 a3 a4) ([],0)
noncomputable def kX (a0:History) (a1:Int) (a2:Int):Int→Option (Int ⊕ (Int ⊕ Int))
 | a3=>must (0≤a2∧a2 < (a0.Txns.length:Int)) (bif decide (a3 < (((idx a0.Txns a2).Ops).length:Int)) then must (0≤a3∧a3 < (((idx a0.Txns a2).Ops).length:Int)) (bif ((idx ((idx a0.Txns a2).Ops) a3).Key == a1) then (gm ((idx ((idx a0.Txns a2).Ops) a3).Kind)).bind fun a4=>out (out (some a4)) else (some (.inl (w64 (a3 + 1))))) else (out (some (.inl (w64 (a2 + 1))))))
noncomputable def ja (a0:History) (a1:Int):Int→Option (Int ⊕ Int)
 | a2=>bif decide (a2 < (a0.Txns.length:Int)) then iter (kX a0 a1 a2) 0 else (out (some 0))
noncomputable def bM (a0:History) (a1:Int):Option Int :=
 (ag a0).bind fun y8=>bif (y8 != 0) then some 0 else (iter (ja a0 a1) 0)
noncomputable def bY (a0:History) (a1:List Int) (a2:Int) (a3:Int) (a6:Bool):Option (List Int×Bool) :=
 bif a6 then some (([]:List Int),false) else ((bM a0 a2).bind fun a5=>(aC a0 a1 a5 a2 a3).bind fun a4=>some (a4,true))
noncomputable def bR (a0:History) (a1:List Int) (a2:Int) (a3:Int) (a5:Bool):Option (List Int×Bool) :=
 bif a5 then some (([]:List Int),false) else ((aL a0 a1).bind fun a4=>bif !a4.2 then bY a0 a1 a2 a3 true else (bif decide (a3 < (-1)) then bY a0 a1 a2 a3 true else (bif decide (a3 ≥ (a4.1.length:Int)) then bY a0 a1 a2 a3 true else (bif decide (a3 ≥ 0) then must (0≤a3∧a3 < (a4.1.length:Int)) (bY a0 a1 a2 a3 (idx a4.1 a3 == 0)) else (bY a0 a1 a2 a3 false)))))
noncomputable def aG (a0:History) (a1:List Int) (a2:Int) (a3:Int):Option (List Int×Bool) :=
 (ag a0).bind fun a4=>bif (a4 != 0) then bR a0 a1 a2 a3 true else (bif decide (a2 < 0) then bR a0 a1 a2 a3 true else (bR a0 a1 a2 a3 (decide (a2 ≥ (a0.Keys.length:Int)))))
noncomputable def dU (a1:Int) (a0:Bool):Option (Int ⊕ (Int ⊕ Bool)) :=
 bif a0 then out (out (some false)) else (some (.inl (w64 (a1 + 1))))
noncomputable def kD (a0:History) (a1:List Int) (a3:Int):Int→Option (Int ⊕ (Int ⊕ Bool))
 | a2=>bif decide (a2 < (a1.length:Int)) then must (0≤a3∧a3 < (a1.length:Int)) (bif (idx a1 a3 != 0) then must (0≤a2∧a2 < (a1.length:Int)) (bif (idx a1 a2 != 0) then must (0≤a3∧a3 < (a0.Txns.length:Int)) (bif ((idx a0.Txns a3).Status == 1) then must (0≤a2∧a2 < (a0.Txns.length:Int)) (bif decide ((idx a0.Txns a3).To < (idx a0.Txns a2).From) then dU a2 (decide (idx a1 a3 ≥ idx a1 a2)) else (dU a2 false)) else (dU a2 false)) else (dU a2 false)) else (dU a2 false)) else (out (some (.inl (w64 (a3 + 1)))))
noncomputable def kE (a0:History) (a1:List Int):Int→Option (Int ⊕ Bool)
 | a2=>bif decide (a2 < (a1.length:Int)) then iter (kD a0 a1 a2) 0 else (out (some true))
noncomputable def aU (a0:History) (a1:List Int):Option Bool :=
 iter (kE a0 a1) 0
noncomputable def fM (a0:History) (a1:List Int):Option Bool :=
 (ag a0).bind fun y8=>bif (y8 != 0) then some false else ((aL a0 a1).bind fun a2=>bif a2.2 then (aU a0 a2.1).bind fun a3=>some a3 else (some false))
noncomputable def fP (a0:History) (a1:List Int) (a2:dB):Option Bool :=
 (eY).bind fun a6=>bif !a6 then some false else ((aZ a0 a1 a2.Key a2.Txn).bind fun a4=>(aG a0 a1 a2.Key a2.Txn).bind fun a3=>bif (a4.2 == a3.2) then (bU a4.1 a3.1).bind fun a5=>bif a5 then (dF a0 a1).bind fun a8=>(fM a0 a1).bind fun a7=>some (a8 == a7) else (some false) else (some false))
noncomputable def qI (a0:Int) (a1:List Int):Option ((List Int×Int) ⊕ (List Int)) :=
 some (.inl (a1,w64 (a0 + 1)))
noncomputable def qJ (a0:List Int) (a1:Int) (a2:Bool):Option ((List Int×Int) ⊕ (List Int)) :=
 bif a2 then must (((a0.length + 1) + (a0.length + 1) / 4 + 192) * 8≤281474976710656∧a0.length + 1≤9223372036854775807) (qI a1 (a0++([a1]:List Int))) else (qI a1 a0)
noncomputable def wR (a0:History) (a1:Int):(List Int×Int)→Option ((List Int×Int) ⊕ (List Int))
 | (a3,a2)=>bif decide (a2 < (a0.Txns.length:Int)) then must (0≤a2∧a2 < (a0.Txns.length:Int)) (bif ((idx a0.Txns a2).Status != 2) then (dQ (idx a0.Txns a2) a1).bind fun a4=>qJ a3 a2 (decide ((a4.length:Int) > 0)) else (qJ a3 a2 false)) else (out (some a3))
noncomputable def fQ (a0:History) (a1:Int):Option (List Int) :=
 (aN a0).bind fun y8=>bif (y8 != 0) then some ([]:List Int) else (iter (wR a0 a1) ([],0))
noncomputable def qK (a1:Int) (a0:List bf):Option ((List bf×Int) ⊕ (List bf)) :=
 some (.inl (a0,w64 (a1 + 1)))
noncomputable def qL (a3:List Int) (a0:List bf) (a1:Int) (a4:List Int×Bool) (a2:Bool):Option ((List bf×Int) ⊕ (List bf)) :=
 bif a2 then must (((a0.length + 1) + (a0.length + 1) / 4 + 192) * 32≤281474976710656∧a0.length + 1≤9223372036854775807) (qK a1 (a0++([(⟨idx a3 a1,a4.1⟩:bf)]:List bf))) else (qK a1 a0)
noncomputable def wS (a0:History) (a1:Ask) (a3:List Int):(List bf×Int)→Option ((List bf×Int) ⊕ (List bf))
 | (a4,a2)=>bif decide (a2 < (a3.length:Int)) then must (0≤a2∧a2 < (a3.length:Int)) ((iM a0 (idx a3 a2) a1.Key).bind fun a5=>bif a5.2 then qL a3 a4 a2 a5 (idx a3 a2 != a1.Txn) else (qL a3 a4 a2 a5 false)) else (out (some a4))
noncomputable def dX (a0:History) (a1:Ask):Option (List bf) :=
 (fQ a0 a1.Key).bind fun a2=>iter (wS a0 a1 a2) ([],0)
noncomputable def yV (a0:bf) (a1:List Int):Option Bool :=
 must (0≤(0:Int)∧(0:Int) < (a0.args.length:Int)) (must (0≤(0:Int)∧(0:Int) < (a1.length:Int)) (some (idx a0.args (0:Int) == idx a1 (0:Int))))
noncomputable def uD (a0:List Int) (a1:Int):Int→Option (Int ⊕ Int)
 | a2=>bif decide (a2 < (a0.length:Int)) then must (0≤a2∧a2 < (a0.length:Int)) (bif (a1 == idx a0 a2) then out (some a2) else (some (.inl (w64 (a2 + 1))))) else (out (some (-1)))
noncomputable def slices_Index_int (a0:List Int) (a1:Int):Option Int :=
 iter (uD a0 a1) 0
noncomputable def slices_Contains_int (a0:List Int) (a1:Int):Option Bool :=
 (slices_Index_int a0 a1).bind fun y3=>some (decide (y3 ≥ 0))
noncomputable def jW (a0:List bf) (a1c0:List Int):Int→Option (Int ⊕ Int)
 | a1=>bif decide (a1 < (a0.length:Int)) then must (0≤a1∧a1 < (a0.length:Int)) ((yV (idx a0 a1) a1c0).bind fun a2=>bif a2 then out (some a1) else (some (.inl (w64 (a1 + 1))))) else (out (some (-1)))
noncomputable def eD (a0:List bf) (a1c0:List Int):Option Int :=
 iter (jW a0 a1c0) 0
noncomputable def mg (a1:List bf) (a2:List Int) (a3:List Int) (a0:Int) (a4:Bool):Option ((List Int×List Int) ⊕ (List Int×Bool)) :=
 bif a4 then out (some (([]:List Int),false)) else (must (0≤a0∧a0 < (a1.length:Int)) (must (((a3.length + 1) + (a3.length + 1) / 4 + 192) * 8≤281474976710656∧a3.length + 1≤9223372036854775807) (must (0≤(((idx a1 a0).args).length:Int)∧(((idx a1 a0).args).length:Int)≤(a2.length:Int)∧(a2.length:Int)≤(a2.length:Int)) (some (.inl (di a2 (((idx a1 a0).args).length:Int) (a2.length:Int),a3++([(idx a1 a0).txn]:List Int)))))))
noncomputable def yj (a1:List bf):(List Int×List Int)→Option ((List Int×List Int) ⊕ (List Int×Bool))
 | (a2,a3)=>bif decide ((a2.length:Int) > 0) then (eD a1 a2).bind fun a0=>bif decide (a0 < 0) then mg a1 a2 a3 a0 true else (must (0≤a0∧a0 < (a1.length:Int)) (bif decide ((((idx a1 a0).args).length:Int) > (a2.length:Int)) then mg a1 a2 a3 a0 true else (must (0≤(0:Int)∧(0:Int)≤(((idx a1 a0).args).length:Int)∧(((idx a1 a0).args).length:Int)≤(a2.length:Int)) ((dI ((idx a1 a0).args) (di a2 (0:Int) (((idx a1 a0).args).length:Int))).bind fun a4=>bif !a4 then mg a1 a2 a3 a0 true else ((slices_Contains_int a3 ((idx a1 a0).txn)).bind fun a5=>mg a1 a2 a3 a0 a5))))) else (out (some (a3,true)))
noncomputable def jk (a0:List Int) (a1:List bf):Option (List Int×Bool) :=
 iter (yj a1) (a0,[])
noncomputable def uK (a1:Int) (a0:List Int) (a2:List (Int×Unit)):Option ((List Int×(List (Int×Unit))×Int) ⊕ (((List (Int×Unit))×Int) ⊕ (List Int×Bool))) :=
 some (.inl (a0,a2,w64 (a1 + 1)))
noncomputable def uL (a0:Int) (a2:List (Int×Unit)) (a1:Int):Option (((List (Int×Unit))×Int×Int) ⊕ ((List Int×(List (Int×Unit))×Int) ⊕ (((List (Int×Unit))×Int) ⊕ (List Int×Bool)))) :=
 some (.inl (a2,a1,w64 (a0 + 1)))
noncomputable def uM (a1:List bf) (a0:List Int) (a2:Int) (a3:List (Int×Unit)) (a4:Int) (a5:Bool):Option (((List (Int×Unit))×Int×Int) ⊕ ((List Int×(List (Int×Unit))×Int) ⊕ (((List (Int×Unit))×Int) ⊕ (List Int×Bool)))) :=
 bif a5 then out (out (out (some (([]:List Int),false)))) else (bif decide (a4 > 0) then must (((a0.length + 1) + (a0.length + 1) / 4 + 192) * 8≤281474976710656∧a0.length + 1≤9223372036854775807) (out (uK a2 (a0++([(idx a1 a2).txn]:List Int)) a3)) else (out (uK a2 a0 a3)))
noncomputable def yX (a1:List bf) (a5:List Int) (a2:Int):((List (Int×Unit))×Int×Int)→Option (((List (Int×Unit))×Int×Int) ⊕ ((List Int×(List (Int×Unit))×Int) ⊕ (((List (Int×Unit))×Int) ⊕ (List Int×Bool))))
 | (a4,a3,a0)=>bif decide (a0 < (((idx a1 a2).args).length:Int)) then must (0≤a0∧a0 < (((idx a1 a2).args).length:Int)) (bif jX a4 (idx ((idx a1 a2).args) a0) then uL a0 (GI a4 (idx ((idx a1 a2).args) a0)) (w64 (a3 + 1)) else (uL a0 a4 a3)) else (bif decide (a3 > 0) then uM a1 a5 a2 a4 a3 (decide (a3 < (((idx a1 a2).args).length:Int))) else (uM a1 a5 a2 a4 a3 false))
noncomputable def yY (a1:List bf):(List Int×(List (Int×Unit))×Int)→Option ((List Int×(List (Int×Unit))×Int) ⊕ (((List (Int×Unit))×Int) ⊕ (List Int×Bool)))
 | (a3,a2,a0)=>bif decide (a0 < (a1.length:Int)) then must (0≤a0∧a0 < (a1.length:Int)) (iter (yX a1 a3 a0) (a2,0,0)) else (bif decide ((a2.length:Int) > 0) then out (out (some (([]:List Int),false))) else (out (out (some (a3,true)))))
noncomputable def yZ (a0:List Int) (a1:List bf):((List (Int×Unit))×Int)→Option (((List (Int×Unit))×Int) ⊕ (List Int×Bool))
 | (a3,a2)=>bif decide (a2 < (a0.length:Int)) then must (0≤a2∧a2 < (a0.length:Int)) (some (.inl (fO a3 (idx a0 a2) (),w64 (a2 + 1)))) else (iter (yY a1) ([],a3,0))
noncomputable def eF (a0:List Int) (a1:List bf):Option (List Int×Bool) :=
 iter (yZ a0 a1) ([],0)
noncomputable def vL (a0:History) (a1:Ask):Option (List Int×Bool) :=
 (dJ a0 a1.Key).bind fun a4=>bif (a4 == 2) then (dX a0 a1).bind fun a6=>(jk a1.Base a6).bind fun a3=>some (a3.1,a3.2) else (bif (a4 == 3) then (dX a0 a1).bind fun a5=>(eF a1.Base a5).bind fun a2=>some (a2.1,a2.2) else (some (([]:List Int),false)))
noncomputable def uE (a0:Int) (a2:Int) (a3:List bf) (a4:Int) (rec:Int→Int→Int→(List bf)→Int→Int→Option Int) (a7:Int):(Int×Int)→Option ((Int×Int) ⊕ Int)
 | (a5,a1)=>bif decide (a1 < (((idx a3 a0).args).length:Int)) then must (0≤a1∧a1 < (((idx a3 a0).args).length:Int)) (some (.inl (w64 (a5 + (idx ((idx a3 a0).args) a1)),w64 (a1 + 1)))) else (must (0≤a0∧a0 < (far:Int)) ((rec (w64 (a0 + 1)) a5 (bOr .u64 a2 (GH .u64 1 a0)) a3 a4 a7).bind fun a6=>out (some a6)))
noncomputable def sF (rec:Int→Int→Int→(List bf)→Int→Int→Option Int) (a0:Int) (a1:Int) (a2:Int) (a3:List bf) (a4:Int) (a5:Int):Option Int :=
 bif (a0 == (a3.length:Int)) then bif (a1 == a4) then some (bOr .u64 a5 a2) else (some a5) else ((rec (w64 (a0 + 1)) a1 a2 a3 a4 a5).bind fun a6=>must (0≤a0∧a0 < (a3.length:Int)) (iter (uE a0 a2 a3 a4 rec a6) (a1,0)))
noncomputable def mK:Nat→Int→Int→Int→(List bf)→Int→Int→Option Int
 | 0=>fun _ _ _ _ _ _=>none
 | k + 1=>sF (mK k)
noncomputable def eX (a0:Int) (a1:Int) (a2:Int) (a3:List bf) (a4:Int) (a5:Int):Option Int:=mK 64 a0 a1 a2 a3 a4 a5
noncomputable def pV (a0:Int) (a1:List Int):Option ((List Int×Int) ⊕ (List Int)) :=
 some (.inl (a1,w64 (a0 + 1)))
noncomputable def vM (a1:List bf) (a3:Int):(List Int×Int)→Option ((List Int×Int) ⊕ (List Int))
 | (a2,a0)=>bif decide (a0 < (a1.length:Int)) then must (0≤a0∧a0 < (a1.length:Int)) (must (0≤a0∧a0 < (far:Int)) (bif (zf .u64 (vC .u64 a3 a0) 1 == 1) then must (((a2.length + 1) + (a2.length + 1) / 4 + 192) * 8≤281474976710656∧a2.length + 1≤9223372036854775807) (pV a0 (a2++([(idx a1 a0).txn]:List Int))) else (pV a0 a2))) else (out (some a2))
noncomputable def jc (a0:Int) (a1:List bf):Option (List Int) :=
 (eX 0 0 0 a1 a0 0).bind fun a2=>iter (vM a1 a2) ([],0)
noncomputable def gF (a0:List Int):Option (List Int) :=
 some a0
noncomputable def pW (a0:History) (a1:Ask) (a2:List Int):Option (List Int) :=
 must (0≤(0:Int)∧(0:Int) < (a1.Base.length:Int)) ((dX a0 a1).bind fun a4=>(jc (idx a1.Base (0:Int)) a4).bind fun a3=>must (((a2.length + a3.length) + (a2.length + a3.length) / 4 + 192) * 8≤281474976710656∧a2.length + a3.length≤9223372036854775807) (gF (a2++a3)))
noncomputable def pX (a1:Int) (a0:List Int):Option ((List Int×Int) ⊕ (List Int)) :=
 some (.inl (a0,w64 (a1 + 1)))
noncomputable def vN (a1:Ask) (a2:List bf):(List Int×Int)→Option ((List Int×Int) ⊕ (List Int))
 | (a3,a0)=>bif decide (a0 < (a2.length:Int)) then must (0≤a0∧a0 < (a2.length:Int)) (must (0≤w64 ((((idx a2 a0).args).length:Int) - 1)∧w64 ((((idx a2 a0).args).length:Int) - 1) < (((idx a2 a0).args).length:Int)) (must (0≤(0:Int)∧(0:Int) < (a1.Base.length:Int)) (bif (idx ((idx a2 a0).args) (w64 ((((idx a2 a0).args).length:Int) - 1)) == idx a1.Base (0:Int)) then must (((a3.length + 1) + (a3.length + 1) / 4 + 192) * 8≤281474976710656∧a3.length + 1≤9223372036854775807) (pX a0 (a3++([(idx a2 a0).txn]:List Int))) else (pX a0 a3)))) else (out (gF a3))
noncomputable def bX (a0:History) (a1:Ask):Option (List Int) :=
 (dJ a0 a1.Key).bind fun a3=>bif (a3 == 4) then must (0≤(0:Int)∧(0:Int) < (a1.Base.length:Int)) (bif (idx a1.Base (0:Int) == 0) then must (((0 + 1) + (0 + 1) / 4 + 192) * 8≤281474976710656∧0 + 1≤9223372036854775807) (pW a0 a1 (([]:List Int)++([(-1)]:List Int))) else (pW a0 a1 [])) else (bif ((a1.Base.length:Int) == 0) then gF ([(-1)]:List Int) else (bif (a3 == 1) then (dX a0 a1).bind fun a4=>iter (vN a1 a4) ([],0) else (bif (a3 == 2) then (vL a0 a1).bind fun a2=>bif a2.2 then must (0≤(w64 ((a2.1.length:Int) - 1))∧(w64 ((a2.1.length:Int) - 1))≤(a2.1.length:Int)∧(a2.1.length:Int)≤(a2.1.length:Int)) (gF (di a2.1 (w64 ((a2.1.length:Int) - 1)) (a2.1.length:Int))) else (gF []) else ((vL a0 a1).bind fun a5=>gF a5.1))))
noncomputable def yl (a0:Ask) (a1:Ask):Option Bool :=
 bif (a1.Txn == a0.Txn) then bif (a1.Place == a0.Place) then bif (a1.Key == a0.Key) then (dI a1.Base a0.Base).bind fun a2=>some a2 else (some false) else (some false) else (some false)
noncomputable def kF (a0:List Ask) (a1c0:Ask):Int→Option (Int ⊕ Int)
 | a1=>bif decide (a1 < (a0.length:Int)) then must (0≤a1∧a1 < (a0.length:Int)) ((yl (idx a0 a1) a1c0).bind fun a2=>bif a2 then out (some a1) else (some (.inl (w64 (a1 + 1))))) else (out (some (-1)))
noncomputable def eP (a0:List Ask) (a1c0:Ask):Option Int :=
 iter (kF a0 a1c0) 0
noncomputable def kG (a0:List Ask) (a1c0:Ask):Option Bool :=
 (eP a0 a1c0).bind fun y3=>some (decide (y3 ≥ 0))
noncomputable def zG (a0:History) (a1:Ask):Option Int :=
 (oD a0).bind fun y9=>bif (y9.2 != 0) then some y9.2 else ((kG y9.1 a1).bind fun a2=>bif a2 then some 0 else (some 1))
noncomputable def ym (a0:History) (a1:Ask):Option (List Int×Int) :=
 (zG a0 a1).bind fun a2=>bif (a2 != 0) then some (([]:List Int),a2) else ((bX a0 a1).bind fun a3=>some (a3,0))
noncomputable def eZ (a1:Int) (a0:Bool):Option (Int ⊕ Bool) :=
 bif a0 then out (some false) else (some (.inl (w64 (a1 + 1))))
noncomputable def dV (a1:Int) (a0:Bool):Option (Int ⊕ (Int ⊕ Bool)) :=
 bif a0 then out (out (some false)) else (some (.inl (w64 (a1 + 1))))
noncomputable def oJ (a0:History) (a1:Exec):Int→Option (Int ⊕ (Int ⊕ Bool))
 | a2=>bif decide (a2 < (a0.Txns.length:Int)) then must (0≤a2∧a2 < (a0.Txns.length:Int)) (bif ((idx a0.Txns a2).Status == 1) then (fU a1.Order a2).bind fun a5=>bif !a5 then dV a2 true else (bif ((idx a0.Txns a2).Status == 2) then (fU a1.Order a2).bind fun a4=>dV a2 a4 else (dV a2 false)) else (bif ((idx a0.Txns a2).Status == 2) then (fU a1.Order a2).bind fun a3=>dV a2 a3 else (dV a2 false))) else (out (out (some true)))
noncomputable def oK (a0:History) (a1:Exec) (a3:List Ask×Int):Int→Option (Int ⊕ Bool)
 | a2=>bif decide (a2 < (a3.1.length:Int)) then must (0≤a2∧a2 < (a3.1.length:Int)) ((ym a0 (idx a3.1 a2)).bind fun a5=>must (0≤a2∧a2 < (a1.Picks.length:Int)) ((aZ a0 a1.Order ((idx a3.1 a2).Key) (idx a1.Picks a2)).bind fun a4=>bif (a5.2 != 0) then eZ a2 true else ((fU a5.1 (idx a1.Picks a2)).bind fun a7=>bif !a7 then eZ a2 true else (bif !a4.2 then eZ a2 true else ((bU a4.1 ((idx a3.1 a2).Base)).bind fun a6=>eZ a2 (!a6)))))) else (iter (oJ a0 a1) 0)
noncomputable def kH (a0:History) (a1:Exec) (a3:List Ask×Int) (a2:Bool):Option Bool :=
 bif a2 then some false else (iter (oK a0 a1 a3) 0)
noncomputable def kI (a0:History) (a1:Exec) (a3:Int×Int) (a4:Bool):Option Bool :=
 bif a4 then bif decide (a3.1 ≥ 0) then some (decide (a3.1≤6)) else (some false) else ((oD a0).bind fun a2=>bif (a2.2 != 0) then kH a0 a1 a2 true else (kH a0 a1 a2 ((a2.1.length:Int) != (a1.Picks.length:Int))))
noncomputable def aK (a0:History) (a1:Exec):Option Bool :=
 (eY).bind fun a3=>bif !a3 then some false else ((gP a0 a1).bind fun a2=>bif (a2.2 != 0) then kI a0 a1 a2 true else (kI a0 a1 a2 (a2.1 != 0)))
noncomputable def iR (a0:Bool):Option Int :=
 bif !a0 then some 80 else (some 0)
noncomputable def nL (a1:Int) (a0:Bool):Option ((Bool×Int) ⊕ Int) :=
 some (.inl (a0,w64 (a1 + 1)))
noncomputable def tC (a1:List Int):(Bool×Int)→Option ((Bool×Int) ⊕ Int)
 | (a2,a0)=>bif decide (a0 < (a1.length:Int)) then bif a2 then must (0≤w64 (a0 - 1)∧w64 (a0 - 1) < (a1.length:Int)) (must (0≤a0∧a0 < (a1.length:Int)) (nL a0 (decide (idx a1 (w64 (a0 - 1)) < idx a1 a0)))) else (nL a0 false) else (out (iR a2))
noncomputable def nM (a0:Int) (a1:List Int) (b5:Bool):Option Int :=
 bif b5 then some 1 else (bif (a0 == 1) then iR (decide ((a1.length:Int)≤1)) else (bif (a0 == 4) then iR ((a1.length:Int) == 1) else (bif (a0 == 3) then iter (tC a1) (decide ((a1.length:Int)≤64),1) else (iR (decide ((a1.length:Int)≤64))))))
noncomputable def bP (a0:Int) (a1:List Int):Option Int :=
 bif decide (a0 < 1) then nM a0 a1 true else (nM a0 a1 (decide (a0 > 4)))
noncomputable def vO (a0:List Int) (a1:Int):Int→Option (Int ⊕ Bool)
 | a2=>bif decide (a2 < (a0.length:Int)) then must (0≤a2∧a2 < (a0.length:Int)) (bif (idx a0 a2 == a1) then out (some true) else (some (.inl (w64 (a2 + 1))))) else (out (some false))
noncomputable def kJ (a0:List Int) (a1:Int):Option Bool :=
 iter (vO a0 a1) 0
noncomputable def sG (a2:List Int):(Int×Int)→Option ((Int×Int) ⊕ (List Int×Bool))
 | (a1,a0)=>bif decide (a0 < (a2.length:Int)) then must (0≤a0∧a0 < (a2.length:Int)) (some (.inl (w64 (a1 - (idx a2 a0)),w64 (a0 + 1)))) else (out (some (([a1]:List Int),true)))
noncomputable def sH (a1:List Int) (a2:List Int):Int→Option (Int ⊕ (List Int×Bool))
 | a0=>bif decide (a0 < (a2.length:Int)) then must (0≤w64 ((w64 ((a1.length:Int) - (a2.length:Int))) + a0)∧w64 ((w64 ((a1.length:Int) - (a2.length:Int))) + a0) < (a1.length:Int)) (must (0≤a0∧a0 < (a2.length:Int)) (bif (idx a1 (w64 ((w64 ((a1.length:Int) - (a2.length:Int))) + a0)) != idx a2 a0) then out (some (([]:List Int),false)) else (some (.inl (w64 (a0 + 1)))))) else (must (0≤(0:Int)∧(0:Int)≤(w64 ((a1.length:Int) - (a2.length:Int)))∧(w64 ((a1.length:Int) - (a2.length:Int)))≤(a1.length:Int)) (must (((0 + ((di a1 (0:Int) (w64 ((a1.length:Int) - (a2.length:Int)))).length)) + (0 + ((di a1 (0:Int) (w64 ((a1.length:Int) - (a2.length:Int)))).length)) / 4 + 192) * 8≤281474976710656∧0 + ((di a1 (0:Int) (w64 ((a1.length:Int) - (a2.length:Int)))).length)≤9223372036854775807) (out (some (([]:List Int)++(di a1 (0:Int) (w64 ((a1.length:Int) - (a2.length:Int)))),true)))))
noncomputable def mM (a1:Int) (a0:Bool):Option (Int ⊕ (List Int×Bool)) :=
 bif a0 then out (some (([]:List Int),false)) else (some (.inl (w64 (a1 + 1))))
noncomputable def mO (a1:Int) (a0:List Int):Option ((List Int×Int) ⊕ (Int ⊕ (List Int×Bool))) :=
 some (.inl (a0,w64 (a1 + 1)))
noncomputable def sI (a1:List Int) (a2:List Int):(List Int×Int)→Option ((List Int×Int) ⊕ (Int ⊕ (List Int×Bool)))
 | (a3,a0)=>bif decide (a0 < (a1.length:Int)) then must (0≤a0∧a0 < (a1.length:Int)) ((kJ a2 (idx a1 a0)).bind fun a4=>bif !a4 then must (((a3.length + 1) + (a3.length + 1) / 4 + 192) * 8≤281474976710656∧a3.length + 1≤9223372036854775807) (mO a0 (a3++([idx a1 a0]:List Int))) else (mO a0 a3)) else (out (out (some (a3,true))))
noncomputable def sJ (a1:List Int) (a2:List Int):Int→Option (Int ⊕ (List Int×Bool))
 | a0=>bif decide (a0 < (a2.length:Int)) then must (0≤a0∧a0 < (a2.length:Int)) ((kJ a1 (idx a2 a0)).bind fun a4=>bif !a4 then mM a0 true else (must (0≤(0:Int)∧(0:Int)≤a0∧a0≤(a2.length:Int)) ((kJ (di a2 (0:Int) a0) (idx a2 a0)).bind fun a3=>mM a0 a3))) else (iter (sI a1 a2) ([],0))
noncomputable def mP (a0:Int) (a1:List Int) (a2:List Int) (b9:Bool):Option (List Int×Bool) :=
 bif b9 then some (([]:List Int),false) else (bif (a0 == 1) then bif ((a1.length:Int) == 1) then must (0≤(0:Int)∧(0:Int) < (a1.length:Int)) (must (0≤w64 ((a2.length:Int) - 1)∧w64 ((a2.length:Int) - 1) < (a2.length:Int)) (some (([]:List Int),(idx a1 (0:Int) == idx a2 (w64 ((a2.length:Int) - 1)))))) else (some (([]:List Int),false)) else (bif (a0 == 4) then must (0≤(0:Int)∧(0:Int) < (a1.length:Int)) (iter (sG a2) (idx a1 (0:Int),0)) else (bif (a0 == 2) then bif decide ((a2.length:Int) > (a1.length:Int)) then some (([]:List Int),false) else (iter (sH a1 a2) 0) else (iter (sJ a1 a2) 0))))
noncomputable def aX (a0:Int) (a1:List Int) (a2:List Int):Option (List Int×Bool) :=
 (bP a0 a1).bind fun a3=>bif (a3 != 0) then mP a0 a1 a2 true else (mP a0 a1 a2 ((a2.length:Int) == 0))
noncomputable def jV (a0:Int) (a1:List Ask) (a2:List fu):Option ((List Ask×List fu×Int) ⊕ (List Ask×List fu)) :=
 some (.inl (a1,a2,w64 (a0 + 1)))
noncomputable def pY (a0:Int) (a1:List Int):Option ((List Int×Int) ⊕ ((List Ask×List fu×Int) ⊕ (List Ask×List fu))) :=
 some (.inl (a1,w64 (a0 + 1)))
noncomputable def qa (a0:History) (a1:Int) (a3:List Int) (a2:Int) (a4:Bool):Option ((List Int×Int) ⊕ ((List Ask×List fu×Int) ⊕ (List Ask×List fu))) :=
 bif a4 then must (0≤a2∧a2 < (((idx a0.Txns a1).Ops).length:Int)) (must (((a3.length + 1) + (a3.length + 1) / 4 + 192) * 8≤281474976710656∧a3.length + 1≤9223372036854775807) (pY a2 (a3++([(idx ((idx a0.Txns a1).Ops) a2).Arg]:List Int)))) else (pY a2 a3)
noncomputable def qb (a0:History) (a1:Int) (a2:List Ask) (a4:List fu) (a3:Int) (a5:List Int):Option ((List Int×Int) ⊕ ((List Ask×List fu×Int) ⊕ (List Ask×List fu))) :=
 must (((a2.length + 1) + (a2.length + 1) / 4 + 192) * 48≤281474976710656∧a2.length + 1≤9223372036854775807) (out (jV a3 (a2++([(⟨a1,a3,(idx ((idx a0.Txns a1).Ops) a3).Key,a5⟩:Ask)]:List Ask)) a4))
noncomputable def vQ (a0:History) (a1:Int) (a6:List Ask) (a4:List fu) (a2:Int):(List Int×Int)→Option ((List Int×Int) ⊕ ((List Ask×List fu×Int) ⊕ (List Ask×List fu)))
 | (a5,a3)=>bif decide (a3 < a2) then must (0≤a3∧a3 < (((idx a0.Txns a1).Ops).length:Int)) (bif ((idx ((idx a0.Txns a1).Ops) a3).Key == (idx ((idx a0.Txns a1).Ops) a2).Key) then (fK ((idx ((idx a0.Txns a1).Ops) a3).Kind)).bind fun a9=>qa a0 a1 a5 a3 a9 else (qa a0 a1 a5 a3 false)) else (must (((0 + (((idx ((idx a0.Txns a1).Ops) a2).Vals).length)) + (0 + (((idx ((idx a0.Txns a1).Ops) a2).Vals).length)) / 4 + 192) * 8≤281474976710656∧0 + (((idx ((idx a0.Txns a1).Ops) a2).Vals).length)≤9223372036854775807) (bif decide ((a5.length:Int) > 0) then (gm ((idx ((idx a0.Txns a1).Ops) a2).Kind)).bind fun a8=>(aX a8 ((idx ((idx a0.Txns a1).Ops) a2).Vals) a5).bind fun a7=>bif !a7.2 then must (((a4.length + 1) + (a4.length + 1) / 4 + 192) * 16≤281474976710656∧a4.length + 1≤9223372036854775807) (out (jV a2 a6 (a4++([(⟨a1,a2⟩:fu)]:List fu)))) else (bif ((idx ((idx a0.Txns a1).Ops) a2).Kind == 5) then out (jV a2 a6 a4) else (qb a0 a1 a6 a4 a2 a7.1)) else (qb a0 a1 a6 a4 a2 (([]:List Int)++((idx ((idx a0.Txns a1).Ops) a2).Vals)))))
noncomputable def vR (a0:History) (a1:Int):(List Ask×List fu×Int)→Option ((List Ask×List fu×Int) ⊕ (List Ask×List fu))
 | (a4,a3,a2)=>bif decide (a2 < (((idx a0.Txns a1).Ops).length:Int)) then must (0≤a2∧a2 < (((idx a0.Txns a1).Ops).length:Int)) ((fK ((idx ((idx a0.Txns a1).Ops) a2).Kind)).bind fun a5=>bif a5 then jV a2 a4 a3 else (iter (vQ a0 a1 a4 a3 a2) ([],0))) else (out (some (a4,a3)))
noncomputable def bL (a0:History) (a1:Int):Option (List Ask×List fu) :=
 must (0≤a1∧a1 < (a0.Txns.length:Int)) (bif ((idx a0.Txns a1).Status != 1) then some (([]:List Ask),([]:List fu)) else (iter (vR a0 a1) ([],[],0)))
noncomputable def uR (a0:History):(List Ask×List fu×Int)→Option ((List Ask×List fu×Int) ⊕ (List Ask×List fu))
 | (a2,a3,a4)=>bif decide (a4 < (a0.Txns.length:Int)) then (bL a0 a4).bind fun a1=>must (((a2.length + a1.1.length) + (a2.length + a1.1.length) / 4 + 192) * 48≤281474976710656∧a2.length + a1.1.length≤9223372036854775807) (must (((a3.length + a1.2.length) + (a3.length + a1.2.length) / 4 + 192) * 16≤281474976710656∧a3.length + a1.2.length≤9223372036854775807) (some (.inl (a2++a1.1,a3++a1.2,w64 (a4 + 1))))) else (out (some (a2,a3)))
noncomputable def nR (a0:History):Option (List Ask×List fu) :=
 iter (uR a0) ([],[],0)
noncomputable def wT (a0:History) (a1:Ask):Option Int :=
 must (0≤a1.Txn∧a1.Txn < (a0.Txns.length:Int)) (must (0≤a1.Place∧a1.Place < (((idx a0.Txns a1.Txn).Ops).length:Int)) ((gm ((idx ((idx a0.Txns a1.Txn).Ops) a1.Place).Kind)).bind fun a2=>some a2))
noncomputable def mQ (a1:Int) (a0:List Int):Option ((List Int×Int) ⊕ (List Int)) :=
 some (.inl (a0,w64 (a1 + 1)))
noncomputable def jT (a0:List Int) (a1:Int) (a2:Bool):Option ((List Int×Int) ⊕ (List Int)) :=
 bif a2 then must (((a0.length + 1) + (a0.length + 1) / 4 + 192) * 8≤281474976710656∧a0.length + 1≤9223372036854775807) (mQ a1 (a0++([a1]:List Int))) else (mQ a1 a0)
noncomputable def sK (a0:History) (a1:Ask):(List Int×Int)→Option ((List Int×Int) ⊕ (List Int))
 | (a3,a2)=>bif decide (a2 < (a0.Txns.length:Int)) then bif (a2 != a1.Txn) then must (0≤a2∧a2 < (a0.Txns.length:Int)) (bif ((idx a0.Txns a2).Status != 2) then (aO a0 a2 a1.Key).bind fun a4=>jT a3 a2 (decide ((a4.length:Int) > 0)) else (jT a3 a2 false)) else (jT a3 a2 false) else (out (some a3))
noncomputable def bQ (a0:History) (a1:Ask):Option (List Int) :=
 iter (sK a0 a1) ([],0)
noncomputable def uS (y7:List Int):(Int×Int)→Option ((Int×Int) ⊕ Int)
 | (a1,a0)=>bif decide (a0 < (y7.length:Int)) then must (0≤a0∧a0 < (y7.length:Int)) (some (.inl (w64 (a1 + (idx y7 a0)),w64 (a0 + 1)))) else (out (some a1))
noncomputable def nS (a0:History) (a1:Int) (a2:Int):Option Int :=
 (aO a0 a1 a2).bind fun y7=>iter (uS y7) (0,0)
noncomputable def mR (a0:Int) (a1:Int):Option ((Int×Int) ⊕ ((List Bool×Int) ⊕ (List Int))) :=
 some (.inl (a1,w64 (a0 + 1)))
noncomputable def mU (a0:Int) (a1:List Bool):Option ((List Bool×Int) ⊕ ((Int×Int) ⊕ ((List Bool×Int) ⊕ (List Int)))) :=
 some (.inl (a1,w64 (a0 + 1)))
noncomputable def mV (a2:Int) (a1:List Bool) (a0:Int) (a3:Bool):Option ((List Bool×Int) ⊕ ((Int×Int) ⊕ ((List Bool×Int) ⊕ (List Int)))) :=
 bif a3 then must (0≤a0∧a0 < (a1.length:Int)) (bif idx a1 a0 then mU a0 (a1.set a0.toNat true) else (must (0≤a0∧a0 < (far:Int)) (mU a0 (a1.set a0.toNat (zf .i64 (vC .i64 a2 a0) 1 == 1))))) else (out (out (some (.inl (a1,w64 (a2 + 1))))))
noncomputable def sM (a1:Ask) (y9:List Int) (a3:Int) (a4:Int):(List Bool×Int)→Option ((List Bool×Int) ⊕ ((Int×Int) ⊕ ((List Bool×Int) ⊕ (List Int))))
 | (a2,a0)=>bif decide (a0 < (y9.length:Int)) then must (0≤(0:Int)∧(0:Int) < (a1.Base.length:Int)) (mV a3 a2 a0 (a4 == idx a1.Base (0:Int))) else (mV a3 a2 a0 false)
noncomputable def sN (a0:History) (a1:Ask) (y9:List Int) (a5:List Bool) (a4:Int):(Int×Int)→Option ((Int×Int) ⊕ ((List Bool×Int) ⊕ (List Int)))
 | (a3,a2)=>bif decide (a2 < (y9.length:Int)) then must (0≤a2∧a2 < (far:Int)) (bif (zf .i64 (vC .i64 a4 a2) 1 == 1) then must (0≤a2∧a2 < (y9.length:Int)) ((nS a0 (idx y9 a2) a1.Key).bind fun a6=>mR a2 (w64 (a3 + a6))) else (mR a2 a3)) else (iter (sM a1 y9 a4 a3) (a5,0))
noncomputable def mW (a1:Int) (a0:List Int):Option ((List Int×Int) ⊕ ((List Bool×Int) ⊕ (List Int))) :=
 some (.inl (a0,w64 (a1 + 1)))
noncomputable def sO (y9:List Int) (a2:List Bool):(List Int×Int)→Option ((List Int×Int) ⊕ ((List Bool×Int) ⊕ (List Int)))
 | (a1,a0)=>bif decide (a0 < (y9.length:Int)) then must (0≤a0∧a0 < (a2.length:Int)) (bif idx a2 a0 then must (0≤a0∧a0 < (y9.length:Int)) (must (((a1.length + 1) + (a1.length + 1) / 4 + 192) * 8≤281474976710656∧a1.length + 1≤9223372036854775807) (mW a0 (a1++([idx y9 a0]:List Int)))) else (mW a0 a1)) else (out (out (some a1)))
noncomputable def sP (a0:History) (a1:Ask) (y9:List Int):(List Bool×Int)→Option ((List Bool×Int) ⊕ (List Int))
 | (a3,a2)=>must (0≤(y9.length:Int)∧(y9.length:Int) < (far:Int)) (bif decide (a2 < GH .i64 1 (y9.length:Int)) then iter (sN a0 a1 y9 a3 a2) (0,0) else (iter (sO y9 a3) ([],0)))
noncomputable def aR (a0:History) (a1:Ask):Option (List Int) :=
 (bQ a0 a1).bind fun y9=>must (0≤(y9.length:Int)∧(y9.length:Int)≤9223372036854775807∧(1:Int) * (y9.length:Int)≤281474976710656) (iter (sP a0 a1 y9) (List.replicate (y9.length:Int).toNat (default:Bool),1))
noncomputable def uT (a0:List Int) (a1:List Int):Option Bool :=
 bif decide ((a1.length:Int) > (a0.length:Int)) then some false else (must (0≤(0:Int)∧(0:Int)≤(a1.length:Int)∧(a1.length:Int)≤(a0.length:Int)) ((bU (di a0 (0:Int) (a1.length:Int)) a1).bind fun a2=>some a2))
noncomputable def nY (a0:Int) (a1:Int):Option ((Int×Int) ⊕ ((List Int×List Int) ⊕ (List Int×Bool))) :=
 some (.inl (a1,w64 (a0 + 1)))
noncomputable def uF (a0:History) (a1:Ask) (a2:List Int) (a3:List Int) (a5:Int):Int→Option (Int ⊕ ((Int×Int) ⊕ ((List Int×List Int) ⊕ (List Int×Bool))))
 | a4=>bif decide (a4 < (a2.length:Int)) then must (0≤a4∧a4 < (a2.length:Int)) (bif (idx a2 a4 == a5) then out (out (out (some (([]:List Int),false)))) else (some (.inl (w64 (a4 + 1))))) else (must (((a2.length + 1) + (a2.length + 1) / 4 + 192) * 8≤281474976710656∧a2.length + 1≤9223372036854775807) ((aO a0 a5 a1.Key).bind fun a6=>must (0≤(a6.length:Int)∧(a6.length:Int)≤(a3.length:Int)∧(a3.length:Int)≤(a3.length:Int)) (out (out (some (.inl (a2++([a5]:List Int),di a3 (a6.length:Int) (a3.length:Int))))))))
noncomputable def uG (a0:History) (a1:Ask) (y9:List Int) (a6:List Int) (a4:List Int):(Int×Int)→Option ((Int×Int) ⊕ ((List Int×List Int) ⊕ (List Int×Bool)))
 | (a3,a2)=>bif decide (a2 < (y9.length:Int)) then must (0≤a2∧a2 < (y9.length:Int)) ((aO a0 (idx y9 a2) a1.Key).bind fun a5=>(uT a4 a5).bind fun a7=>bif a7 then nY a2 (idx y9 a2) else (nY a2 a3)) else (bif decide (a3 < 0) then out (out (some (([]:List Int),false))) else (iter (uF a0 a1 a6 a4 a3) 0))
noncomputable def uH (a0:History) (a1:Ask) (y9:List Int):(List Int×List Int)→Option ((List Int×List Int) ⊕ (List Int×Bool))
 | (a3,a2)=>bif decide ((a2.length:Int) > 0) then iter (uG a0 a1 y9 a3 a2) ((-1),0) else (out (some (a3,true)))
noncomputable def dM (a0:History) (a1:Ask):Option (List Int×Bool) :=
 (bQ a0 a1).bind fun y9=>iter (uH a0 a1 y9) ([],a1.Base)
noncomputable def tF (a0:List Int) (a1:Int):Int→Option (Int ⊕ Bool)
 | a2=>bif decide (a2 < (a0.length:Int)) then must (0≤a2∧a2 < (a0.length:Int)) (bif (idx a0 a2 == a1) then out (some true) else (some (.inl (w64 (a2 + 1))))) else (out (some false))
noncomputable def mh (a0:List Int) (a1:Int):Option Bool :=
 iter (tF a0 a1) 0
noncomputable def oL (a2:Int) (a0:List Int) (a1:Int):Option ((List Int×Int×Int) ⊕ (List Int×Bool)) :=
 some (.inl (a0,a1,w64 (a2 + 1)))
noncomputable def oM (a1:Int) (a0:Int):Option ((Int×Int) ⊕ ((List Int×Int×Int) ⊕ (List Int×Bool))) :=
 some (.inl (a0,w64 (a1 + 1)))
noncomputable def oN (y9:List Int) (a0:List Int) (a2:Int) (a1:Int) (a3:Int) (a4:Bool):Option ((Int×Int) ⊕ ((List Int×Int×Int) ⊕ (List Int×Bool))) :=
 bif a4 then out (out (some (([]:List Int),false))) else (bif decide (a3 > 0) then must (((a0.length + 1) + (a0.length + 1) / 4 + 192) * 8≤281474976710656∧a0.length + 1≤9223372036854775807) (out (oL a1 (a0++([idx y9 a1]:List Int)) (w64 (a2 + a3)))) else (out (oL a1 a0 a2)))
noncomputable def uU (a1:Ask) (y9:List Int) (a5:List Int) (a4:Int) (a6:Int) (a3:List Int):(Int×Int)→Option ((Int×Int) ⊕ ((List Int×Int×Int) ⊕ (List Int×Bool)))
 | (a0,a2)=>bif decide (a2 < (a3.length:Int)) then must (0≤a2∧a2 < (a3.length:Int)) ((mh a1.Base (idx a3 a2)).bind fun a7=>bif a7 then oM a2 (w64 (a0 + 1)) else (oM a2 a0)) else (bif decide (a0 > 0) then oN y9 a5 a4 a6 a0 (decide (a0 < (a3.length:Int))) else (oN y9 a5 a4 a6 a0 false))
noncomputable def uV (a0:History) (a1:Ask) (y9:List Int):(List Int×Int×Int)→Option ((List Int×Int×Int) ⊕ (List Int×Bool))
 | (a4,a3,a2)=>bif decide (a2 < (y9.length:Int)) then must (0≤a2∧a2 < (y9.length:Int)) ((aO a0 (idx y9 a2) a1.Key).bind fun a5=>iter (uU a1 y9 a4 a3 a2 a5) (0,0)) else (bif (a3 != (a1.Base.length:Int)) then out (some (([]:List Int),false)) else (out (some (a4,true))))
noncomputable def cu (a0:History) (a1:Ask):Option (List Int×Bool) :=
 (bQ a0 a1).bind fun y9=>iter (uV a0 a1 y9) ([],0,0)
noncomputable def qc (a0:List Int):Option (List Int) :=
 some a0
noncomputable def iT (a0:List Int):Option (List Int) :=
 some a0
noncomputable def qd (a1:Int) (a0:List Int):Option ((List Int×Int) ⊕ (List Int)) :=
 some (.inl (a0,w64 (a1 + 1)))
noncomputable def vT (a0:History) (a1:Ask) (a5:List Int):(List Int×Int)→Option ((List Int×Int) ⊕ (List Int))
 | (a3,a2)=>bif decide (a2 < (a5.length:Int)) then must (0≤a2∧a2 < (a5.length:Int)) ((aO a0 (idx a5 a2) a1.Key).bind fun a4=>must (0≤w64 ((a4.length:Int) - 1)∧w64 ((a4.length:Int) - 1) < (a4.length:Int)) (must (0≤(0:Int)∧(0:Int) < (a1.Base.length:Int)) (bif (idx a4 (w64 ((a4.length:Int) - 1)) == idx a1.Base (0:Int)) then must (((a3.length + 1) + (a3.length + 1) / 4 + 192) * 8≤281474976710656∧a3.length + 1≤9223372036854775807) (qd a2 (a3++([idx a5 a2]:List Int))) else (qd a2 a3)))) else (out (iT a3))
noncomputable def cB (a0:History) (a1:Ask):Option (List Int) :=
 (wT a0 a1).bind fun y7=>bif (y7 == 4) then (aR a0 a1).bind fun a3=>must (0≤(0:Int)∧(0:Int) < (a1.Base.length:Int)) (bif (idx a1.Base (0:Int) == 0) then must (((1 + a3.length) + (1 + a3.length) / 4 + 192) * 8≤281474976710656∧1 + a3.length≤9223372036854775807) (qc (([(-1)]:List Int)++a3)) else (qc a3)) else (bif ((a1.Base.length:Int) == 0) then some ([(-1)]:List Int) else (bif (y7 == 1) then (bQ a0 a1).bind fun a5=>iter (vT a0 a1 a5) ([],0) else (bif (y7 == 2) then (dM a0 a1).bind fun a2=>bif a2.2 then must (0≤w64 ((a2.1.length:Int) - 1)∧w64 ((a2.1.length:Int) - 1) < (a2.1.length:Int)) (must (((0 + 1) + (0 + 1) / 4 + 192) * 8≤281474976710656∧0 + 1≤9223372036854775807) (iT (([]:List Int)++([idx a2.1 (w64 ((a2.1.length:Int) - 1))]:List Int)))) else (iT []) else ((cu a0 a1).bind fun a4=>bif a4.2 then iT a4.1 else (iT [])))))
noncomputable def nN (a1:Int) (a0:List Ask):Option ((List Ask×Int) ⊕ (List Ask×Int)) :=
 some (.inl (a0,w64 (a1 + 1)))
noncomputable def tH (a0:History) (a3:List Ask×List fu):(List Ask×Int)→Option ((List Ask×Int) ⊕ (List Ask×Int))
 | (a2,a1)=>bif decide (a1 < (a3.1.length:Int)) then must (0≤a1∧a1 < (a3.1.length:Int)) ((cB a0 (idx a3.1 a1)).bind fun a4=>bif ((a4.length:Int) == 0) then must (((a2.length + 1) + (a2.length + 1) / 4 + 192) * 48≤281474976710656∧a2.length + 1≤9223372036854775807) (nN a1 (a2++([(idx a3.1 a1)]:List Ask))) else (nN a1 a2)) else (out (some (a2,0)))
noncomputable def iU (a0:History):Option (List Ask×Int) :=
 (ag a0).bind fun y8=>bif (y8 != 0) then some (([]:List Ask),1) else ((nR a0).bind fun a1=>iter (tH a0 a1) ([],0))
end Go.Proofs.YtnlkggppokcmfaaT
