import Derived.Test.YtfpeabnehpclnaaGreatY
namespace Go.Proofs.YtfpeabnehpclnaaGreatT
open Go Go.Proofs Go.Proofs.YtfpeabnehpclnaaGreatE
set_option linter.unusedVariables false
set_option linter.unusedSimpArgs false
set_option maxHeartbeats 0
set_option maxRecDepth 4096
structure dL where
 key:ByteArray
 arg:Int
 deriving Inhabited,DecidableEq
def dL.enc (x:dL):List Value:=[.string x.key,.int .i64 x.arg]
abbrev JY:Ty dL:=Ty.flat 2 dL.enc (fun _=>rfl) (fun _=>KJ rfl)
instance : Flat JY dL.enc:=⟨Iff.rfl,Iff.rfl⟩
structure bN where
 keys:List ByteArray
 at_:List (ByteArray×Int)
 types:List Int
 facts:List (dL×Unit)
 incs:List (ByteArray×(List Int))
 deriving Inhabited
structure Call where
 Kind:Int
 Key:ByteArray
 Arg:Int
 Got:Bool
 Vals:List Int
 deriving Inhabited
abbrev BI:Ty Call:=Ty.iso (dm (aD .i64) (dm fH (dm (aD .i64) (dm qN (cu 2 (aD .i64)))))) (fun g:Call=>(g.Kind,g.Key,g.Arg,g.Got,g.Vals))
abbrev sG (N:BM):Ty Call:=Ty.iso (dm (aD .i64) (dm fH (dm (aD .i64) (dm qN (LJ N (aD .i64)))))) (fun g:Call=>(g.Kind,g.Key,g.Arg,g.Got,g.Vals))
theorem Gq (N:BM):wR N (sG N) BI:=DT (lc oG (lc oG (lc oG (lc oG FE))))
structure Event where
 Proc:Int
 Kind:Int
 Calls:List Call
 deriving Inhabited
abbrev EH:Ty Event:=Ty.iso (dm (aD .i64) (dm (aD .i64) (cu 129 BI))) (fun g:Event=>(g.Proc,g.Kind,g.Calls))
structure Op where
 Kind:Int
 Key:Int
 Arg:Int
 Got:Bool
 Vals:List Int
 deriving Inhabited
abbrev kOp:Ty Op:=Ty.iso (dm (aD .i64) (dm (aD .i64) (dm (aD .i64) (dm qN (cu 2 (aD .i64)))))) (fun g:Op=>(g.Kind,g.Key,g.Arg,g.Got,g.Vals))
structure Txn where
 Proc:Int
 Status:Int
 From:Int
 To:Int
 Ops:List Op
 deriving Inhabited
abbrev iD:Ty Txn:=Ty.iso (dm (aD .i64) (dm (aD .i64) (dm (aD .i64) (dm (aD .i64) (cu 70 kOp))))) (fun g:Txn=>(g.Proc,g.Status,g.From,g.To,g.Ops))
structure History where
 Keys:List ByteArray
 Txns:List Txn
 deriving Inhabited
structure Ask where
 Txn:Int
 Place:Int
 Key:Int
 Base:List Int
 deriving Inhabited
abbrev Ci:Ty Ask:=Ty.iso (dm (aD .i64) (dm (aD .i64) (dm (aD .i64) (cu 2 (aD .i64))))) (fun g:Ask=>(g.Txn,g.Place,g.Key,g.Base))
structure iy where
 Txn:Int
 Place:Int
 deriving Inhabited,DecidableEq
def iy.enc (x:iy):List Value:=[.int .i64 x.Txn,.int .i64 x.Place]
abbrev Cj:Ty iy:=Ty.flat 2 iy.enc (fun _=>rfl) (fun _=>KJ rfl)
instance : Flat Cj iy.enc:=⟨Iff.rfl,Iff.rfl⟩
structure fB where
 asks:List Ask
 bad:List iy
 deriving Inhabited
structure aZ where
 txn:Int
 args:List Int
 deriving Inhabited
abbrev iJ:Ty aZ:=Ty.iso (dm (aD .i64) (cu 2 (aD .i64))) (fun g:aZ=>(g.txn,g.args))
structure aQ where
 Ask:Ask
 sources:List Int
 parts:List Int
 made:Bool
 kind:Int
 deriving Inhabited
abbrev jJ:Ty aQ:=Ty.iso (dm Ci (dm (cu 3 (aD .i64)) (dm (cu 3 (aD .i64)) (dm qN (aD .i64))))) (fun g:aQ=>(g.Ask,g.sources,g.parts,g.made,g.kind))
structure Edge where
 From:Int
 To:Int
 Kind:Int
 Key:Int
 deriving Inhabited,DecidableEq
def Edge.enc (x:Edge):List Value:=[.int .i64 x.From,.int .i64 x.To,.int .i64 x.Kind,.int .i64 x.Key]
abbrev qZ:Ty Edge:=Ty.flat 4 Edge.enc (fun _=>rfl) (fun _=>KJ rfl)
instance : Flat qZ Edge.enc:=⟨Iff.rfl,Iff.rfl⟩
structure aH where
 h:History
 asks:List aQ
 edges:List Edge
 deriving Inhabited
structure jw where
 N:Int
 Edges:List Edge
 deriving Inhabited
structure dY where
 h:History
 order:List Int
 at_:List (Int×Int)
 deriving Inhabited
structure Exec where
 Order:List Int
 Picks:List Int
 deriving Inhabited
structure aO where
 keys:List ByteArray
 types:List Int
 wrote:List (List Int)
 incs:List Int
 last_:List Int
 deriving Inhabited
abbrev lV (N:BM):Ty aQ:=(Ty.iso (dm (Ty.iso (dm (aD .i64) (dm (aD .i64) (dm (aD .i64) (LJ N (aD .i64))))) (fun g:Ask=>(g.Txn,g.Place,g.Key,g.Base))) (dm (Jt (aD .i64)) (dm (Jt (aD .i64)) (dm qN (aD .i64))))) (fun g:aQ=>(g.Ask,g.sources,g.parts,g.made,g.kind)))
theorem Bw (N:BM):wR N (lV N) jJ:=(DT (lc (DT (lc oG (lc oG (lc oG FE)))) (lc FD (lc FD (lc oG oG)))))
abbrev Rw2 (A:Option Addr) (c:Nat) (l:List Int):dh := .row (aD .i64) 2 A l.length c l
abbrev Rw3 (A:Option Addr) (c:Nat) (l:List Int):dh := .row (aD .i64) 3 A l.length c l
abbrev Rn3 (A:Option Addr) (n c:Nat) (l:List Int):dh := .row (aD .i64) 3 A n c l
abbrev Rw4 (A:Option Addr) (c:Nat) (l:List Bool):dh := .row qN 4 A l.length c l
abbrev Rw9 (A:Option Addr) (c:Nat) (l:List ByteArray):dh := .row fH 9 A l.length c l
abbrev Rn9 (A:Option Addr) (n c:Nat) (l:List ByteArray):dh := .row fH 9 A n c l
abbrev xG (A:Option Addr) (c:Nat) (l:List iy):dh := .row Cj 27 A l.length c l
abbrev gz (A:Option Addr) (c:Nat) (l:List Edge):dh := .row qZ 43 A l.length c l
abbrev LV (A:Option Addr) (c:Nat) (l:List Txn):dh := .row iD 65 A l.length c l
abbrev IK (A:Option Addr) (c:Nat) (l:List (List Int)):dh := .row (cu 2 (aD .i64)) 66 A l.length c l
abbrev JZ (A:Option Addr) (c:Nat) (l:List Op):dh := .row kOp 70 A l.length c l
abbrev Rm (A:Option Addr) (n c:Nat) (l:List Op):dh := .row kOp 70 A n c l
abbrev zX (A:Option Addr) (c:Nat) (l:List Ask):dh := .row Ci 81 A l.length c l
abbrev IL (A:Option Addr) (c:Nat) (l:List aZ):dh := .row iJ 209 A l.length c l
abbrev Or2 (A:Option Addr) (c:Nat) (l:List Int):dh:=orA noM (aD .i64) 2 A l.length c l
abbrev Or3 (A:Option Addr) (c:Nat) (l:List Int):dh:=orA noM (aD .i64) 3 A l.length c l
abbrev Gr (b:Nat) (m:List (Int×Int)):dh:=FX (fun x:Int => .int .i64 x) (fun x:Int => .int .i64 x) b m
abbrev EI (b:Nat) (m:List (Int×Int)):dh:=FX (fun x:Int => .int .i64 x) (fun x:Int => .int .i64 x) b m
abbrev Ck (b:Nat) (m:List (ByteArray×Int)):dh:=FX (fun x:ByteArray => .string x) (fun x:Int => .int .i64 x) b m
abbrev Cm (b:Nat) (m:List (dL×Unit)):dh:=FX (fun x:dL => .agg #[.string x.key,.int .i64 x.arg]) (fun _:Unit => .agg #[]) b m
abbrev Gs (b:Nat) (m:List (ByteArray×(List Int))):dh:=xn (fun x:ByteArray => .string x) (cu 3 (aD .i64)) b m
abbrev Gt (b:Nat) (m:List (Int×(List Int))):dh:=xn (fun x:Int => .int .i64 x) (cu 2 (aD .i64)) b m
abbrev EJ (b:Nat) (m:List (Int×Unit)):dh:=FX (fun x:Int => .int .i64 x) (fun _:Unit => .agg #[]) b m
abbrev lT (x:History) (A0:Option Addr) (c0:Nat) (A1:Option Addr) (c1:Nat):List Value:=[vS A0 x.Keys.length c0,vS A1 x.Txns.length c1]
abbrev kE (x:History) (A0:Option Addr) (c0:Nat) (A1:Option Addr) (c1:Nat):Value := .agg (lT x A0 c0 A1 c1).toArray
abbrev cz (b:Nat) (x:History) (A0:Option Addr) (c0:Nat) (A1:Option Addr) (c1:Nat):dh := .blk b 25 (lT x A0 c0 A1 c1)
abbrev LW (x:jw) (A1:Option Addr) (c1:Nat):List Value:=[vI x.N,vS A1 x.Edges.length c1]
abbrev MM (x:jw) (A1:Option Addr) (c1:Nat):Value := .agg (LW x A1 c1).toArray
abbrev OX (b:Nat) (x:jw) (A1:Option Addr) (c1:Nat):dh := .blk b 38 (LW x A1 c1)
abbrev QE (x:Edge):List Value:=[vI x.From,vI x.To,vI x.Kind,vI x.Key]
abbrev MN (x:Edge):Value := .agg (QE x).toArray
abbrev Rn (b:Nat) (x:Edge):dh := .blk b 43 (QE x)
abbrev OY (x:Exec) (A0:Option Addr) (c0:Nat) (A1:Option Addr) (c1:Nat):List Value:=[vS A0 x.Order.length c0,vS A1 x.Picks.length c1]
abbrev QT (x:Exec) (A0:Option Addr) (c0:Nat) (A1:Option Addr) (c1:Nat):Value := .agg (OY x A0 c0 A1 c1).toArray
abbrev OZ (b:Nat) (x:Exec) (A0:Option Addr) (c0:Nat) (A1:Option Addr) (c1:Nat):dh := .blk b 60 (OY x A0 c0 A1 c1)
abbrev wW (x:Txn) (A4:Option Addr) (c4:Nat):List Value:=[vI x.Proc,vI x.Status,vI x.From,vI x.To,vS A4 x.Ops.length c4]
abbrev LX (x:Txn) (A4:Option Addr) (c4:Nat):Value := .agg (wW x A4 c4).toArray
abbrev nT (b:Nat) (x:Txn) (A4:Option Addr) (c4:Nat):dh := .blk b 65 (wW x A4 c4)
abbrev Bz (x:Op) (A4:Option Addr) (c4:Nat):List Value:=[vI x.Kind,vI x.Key,vI x.Arg,vB x.Got,vS A4 x.Vals.length c4]
abbrev Ro (x:Op) (A4:Option Addr) (c4:Nat):Value := .agg (Bz x A4 c4).toArray
abbrev rR (b:Nat) (x:Op) (A4:Option Addr) (c4:Nat):dh := .blk b 70 (Bz x A4 c4)
abbrev wX (x:Ask) (A3:Option Addr) (c3:Nat):List Value:=[vI x.Txn,vI x.Place,vI x.Key,vS A3 x.Base.length c3]
abbrev xH (x:Ask) (A3:Option Addr) (c3:Nat):Value := .agg (wX x A3 c3).toArray
abbrev iW (b:Nat) (x:Ask) (A3:Option Addr) (c3:Nat):dh := .blk b 81 (wX x A3 c3)
abbrev Rp (x:aH) (A0:Option Addr) (c0:Nat) (A1:Option Addr) (c1:Nat) (A2:Option Addr) (c2:Nat) (A3:Option Addr) (c3:Nat):List Value:=[vS A0 x.h.Keys.length c0,vS A1 x.h.Txns.length c1,vS A2 x.asks.length c2,vS A3 x.edges.length c3]
abbrev Gb (b:Nat) (x:aH) (A0:Option Addr) (c0:Nat) (A1:Option Addr) (c1:Nat) (A2:Option Addr) (c2:Nat) (A3:Option Addr) (c3:Nat):dh := .blk b 93 (Rp x A0 c0 A1 c1 A2 c2 A3 c3)
abbrev Ka (x:aQ) (A3:Option Addr) (c3:Nat) (A4:Option Addr) (c4:Nat) (A5:Option Addr) (c5:Nat):List Value:=[vI x.Ask.Txn,vI x.Ask.Place,vI x.Ask.Key,vS A3 x.Ask.Base.length c3,vS A4 x.sources.length c4,vS A5 x.parts.length c5,vB x.made,vI x.kind]
abbrev Pb (x:aQ) (A3:Option Addr) (c3:Nat) (A4:Option Addr) (c4:Nat) (A5:Option Addr) (c5:Nat):Value := .agg (Ka x A3 c3 A4 c4 A5 c5).toArray
abbrev BA (b:Nat) (x:aQ) (A3:Option Addr) (c3:Nat) (A4:Option Addr) (c4:Nat) (A5:Option Addr) (c5:Nat):dh := .blk b 96 (Ka x A3 c3 A4 c4 A5 c5)
abbrev Gu (x:Event) (A2:Option Addr) (c2:Nat):List Value:=[vI x.Proc,vI x.Kind,vS A2 x.Calls.length c2]
abbrev Qy (x:Event) (A2:Option Addr) (c2:Nat):Value := .agg (Gu x A2 c2).toArray
abbrev KP (b:Nat) (x:Event) (A2:Option Addr) (c2:Nat):dh := .blk b 124 (Gu x A2 c2)
abbrev Cn (x:Call) (A4:Option Addr) (c4:Nat):List Value:=[vI x.Kind,.string x.Key,vI x.Arg,vB x.Got,vS A4 x.Vals.length c4]
abbrev EK (x:Call) (A4:Option Addr) (c4:Nat):Value := .agg (Cn x A4 c4).toArray
abbrev iY (b:Nat) (x:Call) (A4:Option Addr) (c4:Nat):dh := .blk b 129 (Cn x A4 c4)
abbrev MO (x:fB) (A0:Option Addr) (c0:Nat) (A1:Option Addr) (c1:Nat):List Value:=[vS A0 x.asks.length c0,vS A1 x.bad.length c1]
abbrev QU (x:fB) (A0:Option Addr) (c0:Nat) (A1:Option Addr) (c1:Nat):Value := .agg (MO x A0 c0 A1 c1).toArray
abbrev QV (x:aO) (A0:Option Addr) (c0:Nat) (A1:Option Addr) (c1:Nat) (A2:Option Addr) (c2:Nat) (A3:Option Addr) (c3:Nat) (A4:Option Addr) (c4:Nat):List Value:=[vS A0 x.keys.length c0,vS A1 x.types.length c1,vS A2 x.wrote.length c2,vS A3 x.incs.length c3,vS A4 x.last_.length c4]
abbrev Qz (b:Nat) (x:aO) (A0:Option Addr) (c0:Nat) (A1:Option Addr) (c1:Nat) (A2:Option Addr) (c2:Nat) (A3:Option Addr) (c3:Nat) (A4:Option Addr) (c4:Nat):dh := .blk b 149 (QV x A0 c0 A1 c1 A2 c2 A3 c3 A4 c4)
abbrev Gv (x:dY) (A0:Option Addr) (c0:Nat) (A1:Option Addr) (c1:Nat) (A2:Option Addr) (c2:Nat) (b3:Nat):List Value:=[vS A0 x.h.Keys.length c0,vS A1 x.h.Txns.length c1,vS A2 x.order.length c2,.map (some b3)]
abbrev KQ (x:dY) (A0:Option Addr) (c0:Nat) (A1:Option Addr) (c1:Nat) (A2:Option Addr) (c2:Nat) (b3:Nat):Value := .agg (Gv x A0 c0 A1 c1 A2 c2 b3).toArray
abbrev ym (b:Nat) (x:dY) (A0:Option Addr) (c0:Nat) (A1:Option Addr) (c1:Nat) (A2:Option Addr) (c2:Nat) (b3:Nat):dh := .blk b 184 (Gv x A0 c0 A1 c1 A2 c2 b3)
abbrev EL (x:aZ) (A1:Option Addr) (c1:Nat):List Value:=[vI x.txn,vS A1 x.args.length c1]
abbrev MP (x:aZ) (A1:Option Addr) (c1:Nat):Value := .agg (EL x A1 c1).toArray
abbrev Gw (b:Nat) (x:aZ) (A1:Option Addr) (c1:Nat):dh := .blk b 209 (EL x A1 c1)
abbrev Pd (b:Nat) (A0:Option Addr) (c0:Nat) (x0:List ByteArray) (A1:Option Addr) (c1:Nat) (x1:List Txn):List dh:=[.blk b 25 [vS A0 x0.length c0,vS A1 x1.length c1],Rw9 A0 c0 x0,LV A1 c1 x1]
abbrev Pe (b:Nat) (x0:Int) (A1:Option Addr) (c1:Nat) (x1:List Edge):List dh:=[.blk b 38 [vI x0,vS A1 x1.length c1],gz A1 c1 x1]
abbrev QW (b:Nat) (x0:Int) (x1:Int) (x2:Int) (x3:Int) (A4:Option Addr) (c4:Nat) (x4:List Op):List dh:=[.blk b 65 [vI x0,vI x1,vI x2,vI x3,vS A4 x4.length c4],JZ A4 c4 x4]
abbrev zY (b:Nat) (A0:Option Addr) (c0:Nat) (x0:List Ask) (A1:Option Addr) (c1:Nat) (x1:List iy):List dh:=[.blk b 132 [vS A0 x0.length c0,vS A1 x1.length c1],zX A0 c0 x0,xG A1 c1 x1]
abbrev QA (b:Nat) (x:fB) (A0:Option Addr) (c0:Nat) (A1:Option Addr) (c1:Nat):List dh:=zY b A0 c0 x.asks A1 c1 x.bad
abbrev uB (b:Nat) (A0:Option Addr) (c0:Nat) (x0:List ByteArray) (A1:Option Addr) (c1:Nat) (x1:List Int) (A2:Option Addr) (c2:Nat) (x2:List (List Int)) (A3:Option Addr) (c3:Nat) (x3:List Int) (A4:Option Addr) (c4:Nat) (x4:List Int):List dh:=[.blk b 149 [vS A0 x0.length c0,vS A1 x1.length c1,vS A2 x2.length c2,vS A3 x3.length c3,vS A4 x4.length c4],Rw9 A0 c0 x0,Rw3 A1 c1 x1,IK A2 c2 x2,Rw3 A3 c3 x3,Rw3 A4 c4 x4]
abbrev QB (b:Nat) (x:aO) (A0:Option Addr) (c0:Nat) (A1:Option Addr) (c1:Nat) (A2:Option Addr) (c2:Nat) (A3:Option Addr) (c3:Nat) (A4:Option Addr) (c4:Nat):List dh:=uB b A0 c0 x.keys A1 c1 x.types A2 c2 x.wrote A3 c3 x.incs A4 c4 x.last_
abbrev zZ (b:Nat) (A0:Option Addr) (c0:Nat) (x0:List ByteArray) (b1:Nat) (x1:List (ByteArray×Int)) (A2:Option Addr) (c2:Nat) (x2:List Int) (b3:Nat) (x3:List (dL×Unit)) (b4:Nat) (x4:List (ByteArray×(List Int))):List dh:=[.blk b 199 [vS A0 x0.length c0,.map (some b1),vS A2 x2.length c2,.map (some b3),.map (some b4)],Rw9 A0 c0 x0,Ck b1 x1,Rw3 A2 c2 x2,Cm b3 x3,Gs b4 x4]
abbrev MQ (b:Nat) (x:bN) (A0:Option Addr) (c0:Nat) (b1:Nat) (A2:Option Addr) (c2:Nat) (b3:Nat) (b4:Nat):List dh:=zZ b A0 c0 x.keys b1 x.at_ A2 c2 x.types b3 x.facts b4 x.incs
theorem iE {H:BM} {x:Txn} {cs:List Value} (h:iD.rd H x cs):∃ A4 c4,cs=wW x A4 c4∧x.Ops.length≤c4∧rdS kOp H A4 x.Ops:=by
 obtain ⟨_,_,rfl,rfl,⟨_,_,rfl,rfl,⟨_,_,rfl,rfl,⟨_,_,rfl,rfl,⟨A0,c0,rfl,l0,r0⟩⟩⟩⟩⟩:=h;exact ⟨A0,c0,rfl,l0,r0⟩
theorem BB {H:BM} {x:Op} {cs:List Value} (h:kOp.rd H x cs):∃ A4 c4,cs=Bz x A4 c4∧x.Vals.length≤c4∧rdS (aD .i64) H A4 x.Vals:=by
 obtain ⟨_,_,rfl,rfl,⟨_,_,rfl,rfl,⟨_,_,rfl,rfl,⟨_,_,rfl,rfl,⟨A0,c0,rfl,l0,r0⟩⟩⟩⟩⟩:=h;exact ⟨A0,c0,rfl,l0,r0⟩
theorem EM {H:BM} {x:Ask} {cs:List Value} (h:Ci.rd H x cs):∃ A3 c3,cs=wX x A3 c3∧x.Base.length≤c3∧rdS (aD .i64) H A3 x.Base:=by
 obtain ⟨_,_,rfl,rfl,⟨_,_,rfl,rfl,⟨_,_,rfl,rfl,⟨A0,c0,rfl,l0,r0⟩⟩⟩⟩:=h;exact ⟨A0,c0,rfl,l0,r0⟩
theorem DX {H:BM} {x:aQ} {cs:List Value} (h:jJ.rd H x cs):∃ A3 c3 A4 c4 A5 c5,cs=Ka x A3 c3 A4 c4 A5 c5∧x.Ask.Base.length≤c3∧rdS (aD .i64) H A3 x.Ask.Base∧x.sources.length≤c4∧rdS (aD .i64) H A4 x.sources∧x.parts.length≤c5∧rdS (aD .i64) H A5 x.parts:=by
 obtain ⟨_,_,rfl,⟨_,_,rfl,rfl,⟨_,_,rfl,rfl,⟨_,_,rfl,rfl,⟨A0,c0,rfl,l0,r0⟩⟩⟩⟩,⟨_,_,rfl,⟨A1,c1,rfl,l1,r1⟩,⟨_,_,rfl,⟨A2,c2,rfl,l2,r2⟩,⟨_,_,rfl,rfl,rfl⟩⟩⟩⟩:=h;exact ⟨A0,c0,A1,c1,A2,c2,rfl,l0,r0,l1,r1,l2,r2⟩
theorem KR {H:BM} {x:Event} {cs:List Value} (h:EH.rd H x cs):∃ A2 c2,cs=Gu x A2 c2∧x.Calls.length≤c2∧rdS BI H A2 x.Calls:=by
 obtain ⟨_,_,rfl,rfl,⟨_,_,rfl,rfl,⟨A0,c0,rfl,l0,r0⟩⟩⟩:=h;exact ⟨A0,c0,rfl,l0,r0⟩
theorem MR {H:BM} {x:Call} {cs:List Value} (h:BI.rd H x cs):∃ A4 c4,cs=Cn x A4 c4∧x.Vals.length≤c4∧rdS (aD .i64) H A4 x.Vals:=by
 obtain ⟨_,_,rfl,rfl,⟨_,_,rfl,rfl,⟨_,_,rfl,rfl,⟨_,_,rfl,rfl,⟨A0,c0,rfl,l0,r0⟩⟩⟩⟩⟩:=h;exact ⟨A0,c0,rfl,l0,r0⟩
theorem iF {H:BM} {x:aZ} {cs:List Value} (h:iJ.rd H x cs):∃ A1 c1,cs=EL x A1 c1∧x.args.length≤c1∧rdS (aD .i64) H A1 x.args:=by
 obtain ⟨_,_,rfl,rfl,⟨A0,c0,rfl,l0,r0⟩⟩:=h;exact ⟨A0,c0,rfl,l0,r0⟩
theorem KS (x:Txn) {R4:List dh} {c4:List Value} (h4:Mk (cu 70 kOp) R4 x.Ops c4):Mk iD ([]++([]++([]++([]++R4)))) x ([vI x.Proc]++([vI x.Status]++([vI x.From]++([vI x.To]++c4)))):=vR (g:=fun g:Txn=>(g.Proc,g.Status,g.From,g.To,g.Ops)) (x:=x) (dU (qY _ _ rfl) (dU (qY _ _ rfl) (dU (qY _ _ rfl) (dU (qY _ _ rfl) h4))))
theorem LY (x:Op) {R4:List dh} {c4:List Value} (h4:Mk (cu 2 (aD .i64)) R4 x.Vals c4):Mk kOp ([]++([]++([]++([]++R4)))) x ([vI x.Kind]++([vI x.Key]++([vI x.Arg]++([vB x.Got]++c4)))):=vR (g:=fun g:Op=>(g.Kind,g.Key,g.Arg,g.Got,g.Vals)) (x:=x) (dU (qY _ _ rfl) (dU (qY _ _ rfl) (dU (qY _ _ rfl) (dU (qY _ _ rfl) h4))))
theorem MS (x:Ask) {R3:List dh} {c3:List Value} (h3:Mk (cu 2 (aD .i64)) R3 x.Base c3):Mk Ci ([]++([]++([]++R3))) x ([vI x.Txn]++([vI x.Place]++([vI x.Key]++c3))):=vR (g:=fun g:Ask=>(g.Txn,g.Place,g.Key,g.Base)) (x:=x) (dU (qY _ _ rfl) (dU (qY _ _ rfl) (dU (qY _ _ rfl) h3)))
theorem Gc (x:aZ) {R1:List dh} {c1:List Value} (h1:Mk (cu 2 (aD .i64)) R1 x.args c1):Mk iJ ([]++R1) x ([vI x.txn]++c1):=vR (g:=fun g:aZ=>(g.txn,g.args)) (x:=x) (dU (qY _ _ rfl) h1)
noncomputable def nU (a0:List ByteArray) (a1:ByteArray):Int→Option (Int ⊕ Int)
 | a2=>bif decide (a2 < (a0.length:Int)) then must (0≤a2∧a2 < (a0.length:Int)) (bif sEq a1 (idx a0 a2) then out (some a2) else (some (.inl (w64 (a2 + 1))))) else (out (some (-1)))
noncomputable def slices_Index_string (a0:List ByteArray) (a1:ByteArray):Option Int :=
 iter (nU a0 a1) 0
noncomputable def slices_Contains_string (a0:List ByteArray) (a1:ByteArray):Option Bool :=
 (slices_Index_string a0 a1).bind fun y3=>some (decide (y3 ≥ 0))
noncomputable def sj:Option bN :=
 some (⟨([]:List ByteArray),([]:List (ByteArray×Int)),([]:List Int),([]:List (dL×Unit)),([]:List (ByteArray×(List Int)))⟩:bN)
noncomputable def yO (a0:Int):Option (Int×Int) :=
 bif (a0 == 5) then some (0,1) else (bif (a0 == 8) then some (1,1) else (some (0,64)))
noncomputable def uY (a0:Call) (a1:Int) (a2:Bool):Option (Int ⊕ Bool) :=
 bif a2 then must (0≤w64 (a1 - 1)∧w64 (a1 - 1) < (a0.Vals.length:Int)) (must (0≤a1∧a1 < (a0.Vals.length:Int)) (bif decide (idx a0.Vals (w64 (a1 - 1)) ≥ idx a0.Vals a1) then out (some false) else (some (.inl (w64 (a1 + 1)))))) else (out (some true))
noncomputable def uZ (a0:Call):Int→Option (Int ⊕ Bool)
 | a1=>bif (a0.Kind == 7) then uY a0 a1 (decide (a1 < (a0.Vals.length:Int))) else (uY a0 a1 false)
noncomputable def ve (a0:Call) (a1:Bool):Option Bool :=
 bif a1 then some false else (iter (uZ a0) 1)
noncomputable def vg (a0:Call) (a2:Bool):Option Bool :=
 bif a2 then some false else (bif !a0.Got then some ((a0.Vals.length:Int) == 0) else ((yO a0.Kind).bind fun a1=>bif decide ((a0.Vals.length:Int) < a1.1) then ve a0 true else (ve a0 (decide ((a0.Vals.length:Int) > a1.2)))))
noncomputable def oP (a0:Call) (a1:Int) (a2:Bool):Option Bool :=
 bif a2 then some false else (bif decide (a0.Kind≤4) then bif !a0.Got then bif ((a0.Vals.length:Int) == 0) then bif (a0.Kind != 4) then some true else (bif decide ((-1048576)≤a0.Arg) then some (decide (a0.Arg≤1048576)) else (some false)) else (some false) else (some false) else (bif (a0.Arg != 0) then vg a0 true else (vg a0 (a0.Got != (a1 == 1)))))
noncomputable def dB (a0:Call) (a1:Int):Option Bool :=
 bif decide (a0.Kind < 1) then oP a0 a1 true else (bif decide (a0.Kind > 8) then oP a0 a1 true else (bif sEq a0.Key (⟨#[]⟩:ByteArray) then oP a0 a1 true else (oP a0 a1 (decide ((a0.Key.size:Int) > 32)))))
noncomputable def vV (a0:Call) (a1:Event):Option Bool :=
 (dB a0 a1.Kind).bind fun y5=>some (!y5)
noncomputable def gV (a0:List Call) (a1c0:Event):Int→Option (Int ⊕ Int)
 | a1=>bif decide (a1 < (a0.length:Int)) then must (0≤a1∧a1 < (a0.length:Int)) ((vV (idx a0 a1) a1c0).bind fun a2=>bif a2 then out (some a1) else (some (.inl (w64 (a1 + 1))))) else (out (some (-1)))
noncomputable def bW (a0:List Call) (a1c0:Event):Option Int :=
 iter (gV a0 a1c0) 0
noncomputable def dV (a0:List Call) (a1c0:Event):Option Bool :=
 (bW a0 a1c0).bind fun y3=>some (decide (y3 ≥ 0))
noncomputable def rT (a0:List Event) (a1:Int) (a3:Bool):Option (Int ⊕ Int) :=
 bif a3 then out (some 1) else ((dV ((idx a0 a1).Calls) (idx a0 a1)).bind fun a2=>bif a2 then out (some 1) else (some (.inl (w64 (a1 + 1)))))
noncomputable def xI (a0:List Event):Int→Option (Int ⊕ Int)
 | a1=>bif decide (a1 < (a0.length:Int)) then must (0≤a1∧a1 < (a0.length:Int)) (bif decide ((idx a0 a1).Kind < 0) then rT a0 a1 true else (bif decide ((idx a0 a1).Kind > 3) then rT a0 a1 true else (rT a0 a1 (decide ((((idx a0 a1).Calls).length:Int) > 16))))) else (out (some 0))
noncomputable def iO (a0:List Event):Option Int :=
 bif decide ((a0.length:Int) > 256) then some 1 else (iter (xI a0) 0)
noncomputable def wC (a0:History) (a1:Txn) (a3:List Call) (a2:Int):Option ((List Call×Int) ⊕ (Event×Bool)) :=
 some (.inl (a3++([(⟨(idx a1.Ops a2).Kind,idx a0.Keys ((idx a1.Ops a2).Key),(idx a1.Ops a2).Arg,(idx a1.Ops a2).Got,(idx a1.Ops a2).Vals⟩:Call)]:List Call),w64 (a2 + 1)))
noncomputable def tu (a0:History) (a1:Txn) (a2:List Call) (a3:Int) (a4:Bool):Option ((List Call×Int) ⊕ (Event×Bool)) :=
 bif a4 then out (some ((⟨0,a1.Status,a2⟩:Event),false)) else (must (0≤(idx a1.Ops a3).Key∧(idx a1.Ops a3).Key < (a0.Keys.length:Int)) (must (((a2.length + 1) + (a2.length + 1) / 4 + 192) * 64≤281474976710656∧a2.length + 1≤9223372036854775807) (wC a0 a1 a2 a3)))
noncomputable def wD (a0:History) (a1:Txn):(List Call×Int)→Option ((List Call×Int) ⊕ (Event×Bool))
 | (a3,a2)=>bif decide (a2 < (a1.Ops.length:Int)) then must (0≤a2∧a2 < (a1.Ops.length:Int)) (bif decide ((idx a1.Ops a2).Key < 0) then tu a0 a1 a3 a2 true else (tu a0 a1 a3 a2 (decide ((idx a1.Ops a2).Key ≥ (a0.Keys.length:Int))))) else ((iO ([(⟨0,a1.Status,a3⟩:Event)]:List Event)).bind fun a4=>out (some ((⟨0,a1.Status,a3⟩:Event),(a4 == 0))))
noncomputable def fu (a0:History) (a1:Txn):Option (Event×Bool) :=
 iter (wD a0 a1) ([],0)
noncomputable def tC (a0:Txn) (a1:Txn):Option Bool :=
 bif (a0.Proc == a1.Proc) then bif (a0.To == (-1)) then some true else (some (decide (a0.To ≥ a1.From))) else (some false)
noncomputable def gG (a0:List Txn) (a1c0:Txn):Int→Option (Int ⊕ Int)
 | a1=>bif decide (a1 < (a0.length:Int)) then must (0≤a1∧a1 < (a0.length:Int)) ((tC (idx a0 a1) a1c0).bind fun a2=>bif a2 then out (some a1) else (some (.inl (w64 (a1 + 1))))) else (out (some (-1)))
noncomputable def bS (a0:List Txn) (a1c0:Txn):Option Int :=
 iter (gG a0 a1c0) 0
noncomputable def dQ (a0:List Txn) (a1c0:Txn):Option Bool :=
 (bS a0 a1c0).bind fun y3=>some (decide (y3 ≥ 0))
noncomputable def oJ (a0:List Txn) (a1:Txn) (a3:Bool):Option Bool :=
 bif a3 then some false else ((dQ a0 a1).bind fun a2=>some (!a2))
noncomputable def su (a0:List Txn) (a1:Txn):Option Bool :=
 bif decide (a1.From < 0) then oJ a0 a1 true else (bif decide ((a0.length:Int) > 0) then must (0≤w64 ((a0.length:Int) - 1)∧w64 ((a0.length:Int) - 1) < (a0.length:Int)) (oJ a0 a1 (decide ((idx a0 (w64 ((a0.length:Int) - 1))).From ≥ a1.From))) else (oJ a0 a1 false))
noncomputable def sw (a0:List Txn) (a1:Txn) (a2:Bool):Option Bool :=
 bif a2 then some false else (su a0 a1)
noncomputable def sD (a0:List Txn) (a1:Txn) (a2:Bool):Option Bool :=
 bif a2 then bif decide (a1.To≤a1.From) then some false else (su a0 a1) else (bif (a1.Status == 3) then bif (a1.To != (-1)) then sw a0 a1 (decide (a1.To≤a1.From)) else (sw a0 a1 false) else (some false))
noncomputable def dz (a0:List Txn) (a1:Txn):Option Bool :=
 bif (a1.Status == 1) then sD a0 a1 (a1.Status == 1) else (sD a0 a1 (a1.Status == 2))
noncomputable def qO (a0:Int):Option Int :=
 some (w64 ((dI .i64 (w64 (a0 - 1)) 3) + 1))
noncomputable def jy (a2:List ByteArray) (a3:List (ByteArray×Int)) (a1:List Int) (a4:List (dL×Unit)) (a0:List (ByteArray×(List Int))):Option (Int×bN) :=
 some (0,(⟨a2,a3,a1,a4,a0⟩:bN))
noncomputable def oU (a0:bN) (a1:Call) (a4:List ByteArray) (a2:List (ByteArray×Int)) (a3:List Int):Option (Int×bN) :=
 bif qM a0.facts (⟨a1.Key,a1.Arg⟩:dL) then some (3,(⟨a4,a2,a3,a0.facts,a0.incs⟩:bN)) else (jy a4 a2 a3 (iX a0.facts (⟨a1.Key,a1.Arg⟩:dL) ()) a0.incs)
noncomputable def lh (a0:bN) (a1:Call) (a5:List ByteArray) (a3:List (ByteArray×Int)) (a4:List Int) (a2:List (ByteArray×(List Int))):Option (Int×bN) :=
 bif decide (((mat a2 a1.Key).length:Int) > 8) then some (51,(⟨a5,a3,a4,a0.facts,a2⟩:bN)) else (jy a5 a3 a4 a0.facts a2)
noncomputable def lm (a0:bN) (a1:Call) (a2:Int) (a5:List ByteArray) (a3:List (ByteArray×Int)) (a4:List Int) (a6:Bool):Option (Int×bN) :=
 bif a6 then must (((((mat a0.incs a1.Key).length) + 1) + (((mat a0.incs a1.Key).length) + 1) / 4 + 192) * 8≤281474976710656∧((mat a0.incs a1.Key).length) + 1≤9223372036854775807) (lh a0 a1 a5 a3 a4 (iX a0.incs a1.Key ((mat a0.incs a1.Key)++([a2]:List Int)))) else (lh a0 a1 a5 a3 a4 a0.incs)
noncomputable def lq (a0:bN) (a1:Call) (a2:Int) (a5:List ByteArray) (a3:List (ByteArray×Int)) (a4:List Int) (a6:Bool):Option (Int×bN) :=
 bif a6 then oU a0 a1 a5 a3 a4 else (bif (a1.Kind == 4) then bif (((mat a0.incs a1.Key).length:Int) == 0) then lm a0 a1 a2 a5 a3 a4 true else (must (0≤w64 (((mat a0.incs a1.Key).length:Int) - 1)∧w64 (((mat a0.incs a1.Key).length:Int) - 1) < ((mat a0.incs a1.Key).length:Int)) (lm a0 a1 a2 a5 a3 a4 (idx (mat a0.incs a1.Key) (w64 (((mat a0.incs a1.Key).length:Int) - 1)) != a2))) else (jy a5 a3 a4 a0.facts a0.incs))
noncomputable def jA (a0:bN) (a1:Call) (a2:Int) (a6:List ByteArray) (a5:List (ByteArray×Int)) (a3:List Int) (a4:Int):Option (Int×bN) :=
 must (0≤a4∧a4 < (a3.length:Int)) ((qO a1.Kind).bind fun a7=>bif (idx a3 a4 != a7) then some (50,(⟨a6,a5,a3,a0.facts,a0.incs⟩:bN)) else (bif (a1.Kind == 2) then lq a0 a1 a2 a6 a5 a3 (a1.Kind == 2) else (lq a0 a1 a2 a6 a5 a3 (a1.Kind == 3))))
noncomputable def oV (a0:bN) (a1:Call) (a2:Int):Option (Int×bN) :=
 (qO a1.Kind).bind fun a3=>must (((a0.types.length + 1) + (a0.types.length + 1) / 4 + 192) * 8≤281474976710656∧a0.types.length + 1≤9223372036854775807) (jA a0 a1 a2 (a0.keys++([a1.Key]:List ByteArray)) (iX a0.at_ a1.Key (a0.keys.length:Int)) (a0.types++([a3]:List Int)) (a0.keys.length:Int))
noncomputable def aI (a0:bN) (a1:Call) (a2:Int):Option (Int×bN) :=
 bif !(qM a0.at_ a1.Key) then bif ((a0.keys.length:Int) == 32) then some (2,a0) else (must (((a0.keys.length + 1) + (a0.keys.length + 1) / 4 + 192) * 16≤281474976710656∧a0.keys.length + 1≤9223372036854775807) (oV a0 a1 a2)) else (jA a0 a1 a2 a0.keys a0.at_ a0.types (mat a0.at_ a1.Key))
noncomputable def ql (a0:Int) (a1:Bool):Option (Int ⊕ Int) :=
 bif a1 then out (some 1) else (some (.inl (w64 (a0 + 1))))
noncomputable def tF (a7:Int) (a2:Event×Bool):(List ByteArray×(List (ByteArray×Int))×List Int×(List (dL×Unit))×(List (ByteArray×(List Int)))×Int)→Option ((List ByteArray×(List (ByteArray×Int))×List Int×(List (dL×Unit))×(List (ByteArray×(List Int)))×Int) ⊕ ((List ByteArray×(List (ByteArray×Int))×List Int×(List (dL×Unit))×(List (ByteArray×(List Int)))×Int) ⊕ (Int ⊕ Int)))
 | (a8,a4,a5,a6,a3,a1)=>bif decide (a1 < (a2.1.Calls.length:Int)) then must (0≤a1∧a1 < (a2.1.Calls.length:Int)) ((aI (⟨a8,a4,a5,a6,a3⟩:bN) (idx a2.1.Calls a1) a7).bind fun a0=>bif (a0.1 != 0) then out (out (out (some 1))) else (some (.inl (a0.2.keys,a0.2.at_,a0.2.types,a0.2.facts,a0.2.incs,w64 (a1 + 1))))) else (out (some (.inl (a8,a4,a5,a6,a3,w64 (a7 + 1)))))
noncomputable def tH (a6:List ByteArray) (a2:List (ByteArray×Int)) (a7:List Int) (a4:List (dL×Unit)) (a0:List (ByteArray×(List Int))) (a5:Int) (a3:Event×Bool) (a1:Bool):Option ((List ByteArray×(List (ByteArray×Int))×List Int×(List (dL×Unit))×(List (ByteArray×(List Int)))×Int) ⊕ (Int ⊕ Int)) :=
 bif a1 then out (out (some 1)) else (iter (tF a5 a3) (a6,a2,a7,a4,a0,0))
noncomputable def qm (a0:History):(List ByteArray×(List (ByteArray×Int))×List Int×(List (dL×Unit))×(List (ByteArray×(List Int)))×Int)→Option ((List ByteArray×(List (ByteArray×Int))×List Int×(List (dL×Unit))×(List (ByteArray×(List Int)))×Int) ⊕ (Int ⊕ Int))
 | (a6,a4,a7,a5,a3,a1)=>bif decide (a1 < (a0.Txns.length:Int)) then must (0≤a1∧a1 < (a0.Txns.length:Int)) ((fu a0 (idx a0.Txns a1)).bind fun a2=>bif !a2.2 then tH a6 a4 a7 a5 a3 a1 a2 true else (must (0≤(0:Int)∧(0:Int)≤a1∧a1≤(a0.Txns.length:Int)) ((dz (eQ a0.Txns (0:Int) a1) (idx a0.Txns a1)).bind fun a8=>tH a6 a4 a7 a5 a3 a1 a2 (!a8)))) else (out (out (some 0)))
noncomputable def wE (a0:History):Int→Option (Int ⊕ Int)
 | a1=>bif decide (a1 < (a0.Keys.length:Int)) then must (0≤a1∧a1 < (a0.Keys.length:Int)) (bif sEq (idx a0.Keys a1) (⟨#[]⟩:ByteArray) then ql a1 true else (bif decide (((idx a0.Keys a1).size:Int) > 32) then ql a1 true else (must (0≤(0:Int)∧(0:Int)≤a1∧a1≤(a0.Keys.length:Int)) ((slices_Contains_string (eQ a0.Keys (0:Int) a1) (idx a0.Keys a1)).bind fun a3=>ql a1 a3)))) else ((sj).bind fun a2=>iter (qm a0) (a2.keys,a2.at_,a2.types,a2.facts,a2.incs,0))
noncomputable def tJ (a0:History) (b7:Bool):Option Int :=
 bif b7 then some 1 else (iter (wE a0) 0)
noncomputable def aL (a0:History):Option Int :=
 bif decide ((a0.Keys.length:Int) > 32) then tJ a0 true else (tJ a0 (decide ((a0.Txns.length:Int) > 32)))
noncomputable def gH (a0:List Int):Option (List Int) :=
 must (a0.length * 8≤140737488355328) (some a0)
noncomputable def lZ (a0:Int):Option Int :=
 bif (a0 == 1) then some 280 else (bif (a0 == 2) then some 281 else (bif (a0 == 3) then some 282 else (bif (a0 == 4) then some 283 else (some (-1)))))
noncomputable def ma (a0:Unit) (a1:List Int):Option Bool :=
 some (decide ((a1.length:Int)≤1))
noncomputable def qP (a0:Unit) (a1:List Int):Option Bool :=
 some (decide ((a1.length:Int)≤64))
noncomputable def sH (a1:List Int):Int→Option (Int ⊕ Bool)
 | a0=>bif decide (a0 < (a1.length:Int)) then must (0≤w64 (a0 - 1)∧w64 (a0 - 1) < (a1.length:Int)) (must (0≤a0∧a0 < (a1.length:Int)) (bif decide (idx a1 (w64 (a0 - 1)) ≥ idx a1 a0) then out (some false) else (some (.inl (w64 (a0 + 1)))))) else (out (some (decide ((a1.length:Int)≤64))))
noncomputable def iK (a0:Unit) (a1:List Int):Option Bool :=
 iter (sH a1) 1
noncomputable def ng (a0:Unit) (a1:List Int):Option Bool :=
 some ((a1.length:Int) == 1)
noncomputable def mf (a0:Int) (a1:List Int):Option Int :=
 (lZ a0).bind fun y8=>bif (y8 == (280:Int)) then (ma () a1).bind fun a5=>bif !a5 then some 80 else (some 0) else (bif (y8 == (281:Int)) then (qP () a1).bind fun a2=>bif !a2 then some 80 else (some 0) else (bif (y8 == (282:Int)) then (iK () a1).bind fun a3=>bif !a3 then some 80 else (some 0) else (bif (y8 == (283:Int)) then (ng () a1).bind fun a4=>bif !a4 then some 80 else (some 0) else (bif (y8 == ((-1):Int)) then some 1 else none))))
noncomputable def iZ (a0:Unit) (a1:List Int) (a2:List Int):Option (List Int×Bool) :=
 bif ((a1.length:Int) == 1) then must (0≤(0:Int)∧(0:Int) < (a1.length:Int)) (must (0≤w64 ((a2.length:Int) - 1)∧w64 ((a2.length:Int) - 1) < (a2.length:Int)) (some (([]:List Int),(idx a1 (0:Int) == idx a2 (w64 ((a2.length:Int) - 1)))))) else (some (([]:List Int),false))
noncomputable def uC (a0:List Int) (a1:List Int):Int→Option (Int ⊕ Bool)
 | a2=>bif decide (a2 < (a0.length:Int)) then must (0≤a2∧a2 < (a0.length:Int)) (must (0≤a2∧a2 < (a1.length:Int)) (bif (idx a0 a2 != idx a1 a2) then out (some false) else (some (.inl (w64 (a2 + 1)))))) else (out (some true))
noncomputable def eY (a0:List Int) (a1:List Int):Option Bool :=
 bif ((a0.length:Int) != (a1.length:Int)) then some false else (iter (uC a0 a1) 0)
noncomputable def jB (a1:List Int) (a2:List Int) (a3:Bool):Option (List Int×Bool) :=
 bif a3 then some (([]:List Int),false) else (must (0≤(0:Int)∧(0:Int)≤(w64 ((a1.length:Int) - (a2.length:Int)))∧(w64 ((a1.length:Int) - (a2.length:Int)))≤(a1.length:Int)) ((gH (eQ a1 (0:Int) (w64 ((a1.length:Int) - (a2.length:Int))))).bind fun a0=>some (a0,true)))
noncomputable def eu (a0:Unit) (a1:List Int) (a2:List Int):Option (List Int×Bool) :=
 bif decide (w64 ((a1.length:Int) - (a2.length:Int)) < 0) then jB a1 a2 true else (must (0≤(w64 ((a1.length:Int) - (a2.length:Int)))∧(w64 ((a1.length:Int) - (a2.length:Int)))≤(a1.length:Int)∧(a1.length:Int)≤(a1.length:Int)) ((eY (eQ a1 (w64 ((a1.length:Int) - (a2.length:Int))) (a1.length:Int)) a2).bind fun a3=>jB a1 a2 (!a3)))
noncomputable def oK (a0:Int):Option Bool :=
 some (a0 != a0)
noncomputable def qo (a0:Int) (a1:Int):Option Bool :=
 (oK a0).bind fun y7=>bif y7 then (oK a1).bind fun a2=>bif !a2 then some true else (some (decide (a0 < a1))) else (some (decide (a0 < a1)))
noncomputable def kU (a0:Int):Option Bool :=
 some (a0 != a0)
noncomputable def kr (a0:Int) (a1:Int):Option ((Int×Int) ⊕ (Int×Bool)) :=
 some (.inl (a0,a1))
noncomputable def ku (a0:List Int) (a1:Int):(Int×Int)→Option ((Int×Int) ⊕ (Int×Bool))
 | (a2,a3)=>bif decide (a2 < a3) then must (0≤(1:Int)∧(1:Int) < (far:Int)) (must (0≤w64 (fq .u64 (IntKind.wrap .u64 (w64 (a2 + a3))) (1:Int))∧w64 (fq .u64 (IntKind.wrap .u64 (w64 (a2 + a3))) (1:Int)) < (a0.length:Int)) ((qo (idx a0 (w64 (fq .u64 (IntKind.wrap .u64 (w64 (a2 + a3))) (1:Int)))) a1).bind fun a4=>bif a4 then kr (w64 ((w64 (fq .u64 (IntKind.wrap .u64 (w64 (a2 + a3))) (1:Int))) + 1)) a3 else (kr a2 (w64 (fq .u64 (IntKind.wrap .u64 (w64 (a2 + a3))) (1:Int)))))) else (bif decide (a2 < (a0.length:Int)) then must (0≤a2∧a2 < (a0.length:Int)) (bif (idx a0 a2 == a1) then out (some (a2,true)) else ((kU (idx a0 a2)).bind fun a6=>bif a6 then (kU a1).bind fun a5=>out (some (a2,a5)) else (out (some (a2,false))))) else (out (some (a2,false))))
noncomputable def bV (a0:List Int) (a1:Int):Option (Int×Bool) :=
 iter (ku a0 a1) (0,(a0.length:Int))
noncomputable def kw (a0:List Int) (a1 a2:Int):Option (List Int) :=
 must (0≤a1∧a1≤a2∧a2≤(a0.length:Int)) (some (a0.take a1.toNat++a0.drop a2.toNat))
noncomputable def mg (a2:List Int):(List Int×Int)→Option ((List Int×Int) ⊕ (List Int×Bool))
 | (a3,a0)=>bif decide (a0 < (a2.length:Int)) then must (0≤a0∧a0 < (a2.length:Int)) ((bV a3 (idx a2 a0)).bind fun a1=>bif !a1.2 then out (some (([]:List Int),false)) else ((kw a3 a1.1 (w64 (a1.1 + 1))).bind fun a4=>some (.inl (a4,w64 (a0 + 1))))) else (out (some (a3,true)))
noncomputable def fI (a0:Unit) (a1:List Int) (a2:List Int):Option (List Int×Bool) :=
 (gH a1).bind fun y7=>iter (mg a2) (y7,0)
noncomputable def jO (a2:List Int):(Int×Int)→Option ((Int×Int) ⊕ (List Int×Bool))
 | (a1,a0)=>bif decide (a0 < (a2.length:Int)) then must (0≤a0∧a0 < (a2.length:Int)) (some (.inl (w64 (a1 - (idx a2 a0)),w64 (a0 + 1)))) else (out (some (([a1]:List Int),true)))
noncomputable def eD (a0:Unit) (a1:List Int) (a2:List Int):Option (List Int×Bool) :=
 must (0≤(0:Int)∧(0:Int) < (a1.length:Int)) (iter (jO a2) (idx a1 (0:Int),0))
noncomputable def lW (a0:Int) (a1:List Int) (a2:List Int) (b9:Bool):Option (List Int×Bool) :=
 bif b9 then some (([]:List Int),false) else ((lZ a0).bind fun a3=>bif (a3 == (280:Int)) then (iZ () a1 a2).bind fun a5=>some (a5.1,a5.2) else (bif (a3 == (281:Int)) then (eu () a1 a2).bind fun a4=>some (a4.1,a4.2) else (bif (a3 == (282:Int)) then (fI () a1 a2).bind fun a7=>some (a7.1,a7.2) else (bif (a3 == (283:Int)) then (eD () a1 a2).bind fun a6=>some (a6.1,a6.2) else (bif (a3 == ((-1):Int)) then none else none)))))
noncomputable def iL (a0:Int) (a1:List Int) (a2:List Int):Option (List Int×Bool) :=
 (mf a0 a1).bind fun a3=>bif (a3 != 0) then lW a0 a1 a2 true else (lW a0 a1 a2 ((a2.length:Int) == 0))
noncomputable def je (a3:Int) (a2:List Ask) (a0:List iy) (a1:List (Int×(List Int))):Option ((List Ask×List iy×(List (Int×(List Int)))×Int) ⊕ fB) :=
 some (.inl (a2,a0,a1,w64 (a3 + 1)))
noncomputable def ni (a1:History) (a2:Int) (a0:List Ask) (a4:List iy) (a5:List (Int×(List Int))) (a3:Int) (a7:List Int) (a6:Bool):Option ((List Ask×List iy×(List (Int×(List Int)))×Int) ⊕ fB) :=
 bif !a6 then must (((a4.length + 1) + (a4.length + 1) / 4 + 192) * 16≤281474976710656∧a4.length + 1≤9223372036854775807) (je a3 a0 (a4++([(⟨a2,a3⟩:iy)]:List iy)) a5) else (must (((a0.length + 1) + (a0.length + 1) / 4 + 192) * 48≤281474976710656∧a0.length + 1≤9223372036854775807) (je a3 (a0++([(⟨a2,a3,(idx ((idx a1.Txns a2).Ops) a3).Key,a7⟩:Ask)]:List Ask)) a4 a5))
noncomputable def nk (a1:History) (a2:Int) (a3:List Ask) (a6:List iy) (a5:List (Int×(List Int))) (a4:Int) (a0:List Int×Bool) (a7:Bool):Option ((List Ask×List iy×(List (Int×(List Int)))×Int) ⊕ fB) :=
 bif a7 then je a4 a3 a6 a5 else (ni a1 a2 a3 a6 a5 a4 a0.1 a0.2)
noncomputable def rf (a1:History) (a2:Int):(List Ask×List iy×(List (Int×(List Int)))×Int)→Option ((List Ask×List iy×(List (Int×(List Int)))×Int) ⊕ fB)
 | (a4,a5,a3,a0)=>bif decide (a0 < (((idx a1.Txns a2).Ops).length:Int)) then must (0≤a0∧a0 < (((idx a1.Txns a2).Ops).length:Int)) (bif decide ((idx ((idx a1.Txns a2).Ops) a0).Kind≤4) then must (((((mat a3 ((idx ((idx a1.Txns a2).Ops) a0).Key)).length) + 1) + (((mat a3 ((idx ((idx a1.Txns a2).Ops) a0).Key)).length) + 1) / 4 + 192) * 8≤281474976710656∧((mat a3 ((idx ((idx a1.Txns a2).Ops) a0).Key)).length) + 1≤9223372036854775807) (je a0 a4 a5 (iX a3 ((idx ((idx a1.Txns a2).Ops) a0).Key) ((mat a3 ((idx ((idx a1.Txns a2).Ops) a0).Key))++([(idx ((idx a1.Txns a2).Ops) a0).Arg]:List Int)))) else ((gH ((idx ((idx a1.Txns a2).Ops) a0).Vals)).bind fun a7=>bif decide (((mat a3 ((idx ((idx a1.Txns a2).Ops) a0).Key)).length:Int) > 0) then (iL (w64 (((idx ((idx a1.Txns a2).Ops) a0).Kind) - 4)) ((idx ((idx a1.Txns a2).Ops) a0).Vals) (mat a3 ((idx ((idx a1.Txns a2).Ops) a0).Key))).bind fun a6=>bif a6.2 then nk a1 a2 a4 a5 a3 a0 a6 ((idx ((idx a1.Txns a2).Ops) a0).Kind == 5) else (nk a1 a2 a4 a5 a3 a0 a6 false) else (ni a1 a2 a4 a5 a3 a0 a7 true))) else (out (some (⟨a4,a5⟩:fB)))
noncomputable def bH (a0:fB) (a1:History) (a2:Int):Option fB :=
 must (0≤a2∧a2 < (a1.Txns.length:Int)) (bif ((idx a1.Txns a2).Status != 1) then some a0 else (iter (rf a1 a2) (a0.asks,a0.bad,[],0)))
noncomputable def yP (a0:History):(List Ask×List iy×Int)→Option ((List Ask×List iy×Int) ⊕ (fB×Int))
 | (a3,a2,a1)=>bif decide (a1 < (a0.Txns.length:Int)) then (bH (⟨a3,a2⟩:fB) a0 a1).bind fun a4=>some (.inl (a4.asks,a4.bad,w64 (a1 + 1))) else (out (some ((⟨a3,a2⟩:fB),0)))
noncomputable def nJ (a0:History):Option (fB×Int) :=
 (aL a0).bind fun a1=>bif (a1 != 0) then some ((⟨([]:List Ask),([]:List iy)⟩:fB),a1) else (iter (yP a0) ([],[],0))
noncomputable def mQ (a0:History):Option (List Ask×Int) :=
 (nJ a0).bind fun a1=>some (a1.1.asks,a1.2)
noncomputable def xJ (a0:History) (a1:Int) (a3:Int):Int→Option (Int ⊕ (Int ⊕ Int))
 | a2=>bif decide (a2 < (((idx a0.Txns a3).Ops).length:Int)) then must (0≤a2∧a2 < (((idx a0.Txns a3).Ops).length:Int)) (bif ((idx ((idx a0.Txns a3).Ops) a2).Key == a1) then (qO ((idx ((idx a0.Txns a3).Ops) a2).Kind)).bind fun a4=>out (out (some a4)) else (some (.inl (w64 (a2 + 1))))) else (out (some (.inl (w64 (a3 + 1)))))
noncomputable def xK (a0:History) (a1:Int):Int→Option (Int ⊕ Int)
 | a2=>bif decide (a2 < (a0.Txns.length:Int)) then must (0≤a2∧a2 < (a0.Txns.length:Int)) (iter (xJ a0 a1 a2) 0) else (out (some 0))
noncomputable def fC (a0:History) (a1:Int):Option Int :=
 (aL a0).bind fun y8=>bif (y8 != 0) then some 0 else (iter (xK a0 a1) 0)
noncomputable def tK (a0:Int) (a1:List Int):Option ((List Int×Int) ⊕ (List Int)) :=
 some (.inl (a1,w64 (a0 + 1)))
noncomputable def tL (a0:Txn) (a1:List Int) (a2:Int) (a3:Bool):Option ((List Int×Int) ⊕ (List Int)) :=
 bif a3 then must (((a1.length + 1) + (a1.length + 1) / 4 + 192) * 8≤281474976710656∧a1.length + 1≤9223372036854775807) (tK a2 (a1++([(idx a0.Ops a2).Arg]:List Int))) else (tK a2 a1)
noncomputable def wF (a0:Txn) (a1:Int):(List Int×Int)→Option ((List Int×Int) ⊕ (List Int))
 | (a3,a2)=>bif decide (a2 < (a0.Ops.length:Int)) then must (0≤a2∧a2 < (a0.Ops.length:Int)) (bif ((idx a0.Ops a2).Key == a1) then tL a0 a3 a2 (decide ((idx a0.Ops a2).Kind≤4)) else (tL a0 a3 a2 false)) else (out (some a3))
noncomputable def eF (a0:Txn) (a1:Int):Option (List Int) :=
 iter (wF a0 a1) ([],0)
noncomputable def qp (a0:History) (a1:Int) (a2:Int) (a4:Bool):Option (List Int×Bool) :=
 bif a4 then some (([]:List Int),false) else (must (0≤a1∧a1 < (a0.Txns.length:Int)) ((eF (idx a0.Txns a1) a2).bind fun a3=>some (a3,decide ((a3.length:Int) > 0))))
noncomputable def ik (a0:History) (a1:Int) (a2:Int):Option (List Int×Bool) :=
 bif decide (a1 < 0) then qp a0 a1 a2 true else (bif decide (a1 ≥ (a0.Txns.length:Int)) then qp a0 a1 a2 true else ((aL a0).bind fun a3=>qp a0 a1 a2 (a3 != 0)))
noncomputable def qQ (a1:Int) (a0:List Int):Option ((List Int×Int) ⊕ (List Int)) :=
 some (.inl (a0,w64 (a1 + 1)))
noncomputable def qR (a0:List Int) (a1:Int) (a2:Bool):Option ((List Int×Int) ⊕ (List Int)) :=
 bif a2 then must (((a0.length + 1) + (a0.length + 1) / 4 + 192) * 8≤281474976710656∧a0.length + 1≤9223372036854775807) (qQ a1 (a0++([a1]:List Int))) else (qQ a1 a0)
noncomputable def uP (a0:History) (a1:Int):(List Int×Int)→Option ((List Int×Int) ⊕ (List Int))
 | (a3,a2)=>bif decide (a2 < (a0.Txns.length:Int)) then must (0≤a2∧a2 < (a0.Txns.length:Int)) (bif ((idx a0.Txns a2).Status != 2) then (eF (idx a0.Txns a2) a1).bind fun a4=>qR a3 a2 (decide ((a4.length:Int) > 0)) else (qR a3 a2 false)) else (out (some a3))
noncomputable def dM (a0:History) (a1:Int):Option (List Int) :=
 (aL a0).bind fun y8=>bif (y8 != 0) then some ([]:List Int) else (iter (uP a0 a1) ([],0))
noncomputable def qU (a0:Int) (a1:List aZ):Option ((List aZ×Int) ⊕ (List aZ)) :=
 some (.inl (a1,w64 (a0 + 1)))
noncomputable def qV (a2:List Int) (a0:List aZ) (a1:Int) (a4:List Int×Bool) (a3:Bool):Option ((List aZ×Int) ⊕ (List aZ)) :=
 bif a3 then must (((a0.length + 1) + (a0.length + 1) / 4 + 192) * 32≤281474976710656∧a0.length + 1≤9223372036854775807) (qU a1 (a0++([(⟨idx a2 a1,a4.1⟩:aZ)]:List aZ))) else (qU a1 a0)
noncomputable def uQ (a0:History) (a1:Ask) (a3:List Int):(List aZ×Int)→Option ((List aZ×Int) ⊕ (List aZ))
 | (a5,a2)=>bif decide (a2 < (a3.length:Int)) then must (0≤a2∧a2 < (a3.length:Int)) ((ik a0 (idx a3 a2) a1.Key).bind fun a4=>bif a4.2 then qV a3 a5 a2 a4 (idx a3 a2 != a1.Txn) else (qV a3 a5 a2 a4 false)) else (out (some a5))
noncomputable def df (a0:History) (a1:Ask):Option (List aZ) :=
 (dM a0 a1.Key).bind fun a2=>iter (uQ a0 a1 a2) ([],0)
noncomputable def rq (a0:List Int) (a1:Int):Int→Option (Int ⊕ Int)
 | a2=>bif decide (a2 < (a0.length:Int)) then must (0≤a2∧a2 < (a0.length:Int)) (bif (a1 == idx a0 a2) then out (some a2) else (some (.inl (w64 (a2 + 1))))) else (out (some (-1)))
noncomputable def slices_Index_int (a0:List Int) (a1:Int):Option Int :=
 iter (rq a0 a1) 0
noncomputable def slices_Contains_int (a0:List Int) (a1:Int):Option Bool :=
 (slices_Index_int a0 a1).bind fun y3=>some (decide (y3 ≥ 0))
noncomputable def vk (a0:aZ) (a1:List Int):Option Bool :=
 must (0≤(0:Int)∧(0:Int) < (a0.args.length:Int)) (must (0≤(0:Int)∧(0:Int) < (a1.length:Int)) (some (idx a0.args (0:Int) == idx a1 (0:Int))))
noncomputable def gu (a0:List aZ) (a1c0:List Int):Int→Option (Int ⊕ Int)
 | a1=>bif decide (a1 < (a0.length:Int)) then must (0≤a1∧a1 < (a0.length:Int)) ((vk (idx a0 a1) a1c0).bind fun a2=>bif a2 then out (some a1) else (some (.inl (w64 (a1 + 1))))) else (out (some (-1)))
noncomputable def bR (a0:List aZ) (a1c0:List Int):Option Int :=
 iter (gu a0 a1c0) 0
noncomputable def nK (a1:List aZ) (a2:List Int) (a3:List Int) (a0:Int) (a4:Bool):Option ((List Int×List Int) ⊕ (List Int×Bool)) :=
 bif a4 then out (some (([]:List Int),false)) else (must (0≤a0∧a0 < (a1.length:Int)) (must (((a3.length + 1) + (a3.length + 1) / 4 + 192) * 8≤281474976710656∧a3.length + 1≤9223372036854775807) (must (0≤(((idx a1 a0).args).length:Int)∧(((idx a1 a0).args).length:Int)≤(a2.length:Int)∧(a2.length:Int)≤(a2.length:Int)) (some (.inl (eQ a2 (((idx a1 a0).args).length:Int) (a2.length:Int),a3++([(idx a1 a0).txn]:List Int)))))))
noncomputable def tN (a1:List aZ):(List Int×List Int)→Option ((List Int×List Int) ⊕ (List Int×Bool))
 | (a2,a3)=>bif decide ((a2.length:Int) > 0) then (bR a1 a2).bind fun a0=>bif decide (a0 < 0) then nK a1 a2 a3 a0 true else (must (0≤a0∧a0 < (a1.length:Int)) (bif decide ((((idx a1 a0).args).length:Int) > (a2.length:Int)) then nK a1 a2 a3 a0 true else (must (0≤(0:Int)∧(0:Int)≤(((idx a1 a0).args).length:Int)∧(((idx a1 a0).args).length:Int)≤(a2.length:Int)) ((eY ((idx a1 a0).args) (eQ a2 (0:Int) (((idx a1 a0).args).length:Int))).bind fun a4=>bif !a4 then nK a1 a2 a3 a0 true else ((slices_Contains_int a3 ((idx a1 a0).txn)).bind fun a5=>nK a1 a2 a3 a0 a5))))) else (out (some (a3,true)))
noncomputable def fw (a0:List Int) (a1:List aZ):Option (List Int×Bool) :=
 iter (tN a1) (a0,[])
noncomputable def vo (a1:Int) (a2:List Int) (a0:List (Int×Unit)):Option ((List Int×(List (Int×Unit))×Int) ⊕ (((List (Int×Unit))×Int) ⊕ (List Int×Bool))) :=
 some (.inl (a2,a0,w64 (a1 + 1)))
noncomputable def vv (a0:Int) (a1:List (Int×Unit)) (a2:Int):Option (((List (Int×Unit))×Int×Int) ⊕ ((List Int×(List (Int×Unit))×Int) ⊕ (((List (Int×Unit))×Int) ⊕ (List Int×Bool)))) :=
 some (.inl (a1,a2,w64 (a0 + 1)))
noncomputable def vw (a1:List aZ) (a0:List Int) (a2:Int) (a3:List (Int×Unit)) (a4:Int) (a5:Bool):Option (((List (Int×Unit))×Int×Int) ⊕ ((List Int×(List (Int×Unit))×Int) ⊕ (((List (Int×Unit))×Int) ⊕ (List Int×Bool)))) :=
 bif a5 then out (out (out (some (([]:List Int),false)))) else (bif decide (a4 > 0) then must (((a0.length + 1) + (a0.length + 1) / 4 + 192) * 8≤281474976710656∧a0.length + 1≤9223372036854775807) (out (vo a2 (a0++([(idx a1 a2).txn]:List Int)) a3)) else (out (vo a2 a0 a3)))
noncomputable def xL (a1:List aZ) (a5:List Int) (a0:Int):((List (Int×Unit))×Int×Int)→Option (((List (Int×Unit))×Int×Int) ⊕ ((List Int×(List (Int×Unit))×Int) ⊕ (((List (Int×Unit))×Int) ⊕ (List Int×Bool))))
 | (a4,a3,a2)=>bif decide (a2 < (((idx a1 a0).args).length:Int)) then must (0≤a2∧a2 < (((idx a1 a0).args).length:Int)) (bif qM a4 (idx ((idx a1 a0).args) a2) then vv a2 (Ew a4 (idx ((idx a1 a0).args) a2)) (w64 (a3 + 1)) else (vv a2 a4 a3)) else (bif decide (a3 > 0) then vw a1 a5 a0 a4 a3 (decide (a3 < (((idx a1 a0).args).length:Int))) else (vw a1 a5 a0 a4 a3 false))
noncomputable def xM (a1:List aZ):(List Int×(List (Int×Unit))×Int)→Option ((List Int×(List (Int×Unit))×Int) ⊕ (((List (Int×Unit))×Int) ⊕ (List Int×Bool)))
 | (a2,a3,a0)=>bif decide (a0 < (a1.length:Int)) then must (0≤a0∧a0 < (a1.length:Int)) (iter (xL a1 a2 a0) (a3,0,0)) else (bif decide ((a3.length:Int) > 0) then out (out (some (([]:List Int),false))) else (out (out (some (a2,true)))))
noncomputable def xN (a0:List Int) (a1:List aZ):((List (Int×Unit))×Int)→Option (((List (Int×Unit))×Int) ⊕ (List Int×Bool))
 | (a3,a2)=>bif decide (a2 < (a0.length:Int)) then must (0≤a2∧a2 < (a0.length:Int)) (some (.inl (iX a3 (idx a0 a2) (),w64 (a2 + 1)))) else (iter (xM a1) ([],a3,0))
noncomputable def dw (a0:List Int) (a1:List aZ):Option (List Int×Bool) :=
 iter (xN a0 a1) ([],0)
noncomputable def iM (a0:History) (a1:Ask):Option (List Int×Bool) :=
 (fC a0 a1.Key).bind fun a2=>bif (a2 == 2) then (df a0 a1).bind fun a5=>(fw a1.Base a5).bind fun a4=>some (a4.1,a4.2) else (bif (a2 == 3) then (df a0 a1).bind fun a6=>(dw a1.Base a6).bind fun a3=>some (a3.1,a3.2) else (some (([]:List Int),false)))
noncomputable def ru (a0:Int) (a2:Int) (a3:List aZ) (a4:Int) (rec:Int→Int→Int→(List aZ)→Int→Int→Option Int) (a6:Int):(Int×Int)→Option ((Int×Int) ⊕ Int)
 | (a5,a1)=>bif decide (a1 < (((idx a3 a0).args).length:Int)) then must (0≤a1∧a1 < (((idx a3 a0).args).length:Int)) (some (.inl (w64 (a5 + (idx ((idx a3 a0).args) a1)),w64 (a1 + 1)))) else (must (0≤a0∧a0 < (far:Int)) ((rec (w64 (a0 + 1)) a5 (bOr .u64 a2 (Eu .u64 1 a0)) a3 a4 a6).bind fun a7=>out (some a7)))
noncomputable def lu (rec:Int→Int→Int→(List aZ)→Int→Int→Option Int) (a0:Int) (a1:Int) (a2:Int) (a3:List aZ) (a4:Int) (a5:Int):Option Int :=
 bif (a0 == (a3.length:Int)) then bif (a1 == a4) then some (bOr .u64 a5 a2) else (some a5) else ((rec (w64 (a0 + 1)) a1 a2 a3 a4 a5).bind fun a6=>must (0≤a0∧a0 < (a3.length:Int)) (iter (ru a0 a2 a3 a4 rec a6) (a1,0)))
noncomputable def iA:Nat→Int→Int→Int→(List aZ)→Int→Int→Option Int
 | 0=>fun _ _ _ _ _ _=>none
 | k + 1=>lu (iA k)
noncomputable def bP (a0:Int) (a1:Int) (a2:Int) (a3:List aZ) (a4:Int) (a5:Int):Option Int:=iA 64 a0 a1 a2 a3 a4 a5
noncomputable def pM (a0:Int) (a1:List Int):Option ((List Int×Int) ⊕ (List Int)) :=
 some (.inl (a1,w64 (a0 + 1)))
noncomputable def tO (a1:List aZ) (a3:Int):(List Int×Int)→Option ((List Int×Int) ⊕ (List Int))
 | (a2,a0)=>bif decide (a0 < (a1.length:Int)) then must (0≤a0∧a0 < (a1.length:Int)) (must (0≤a0∧a0 < (far:Int)) (bif (dI .u64 (fq .u64 a3 a0) 1 == 1) then must (((a2.length + 1) + (a2.length + 1) / 4 + 192) * 8≤281474976710656∧a2.length + 1≤9223372036854775807) (pM a0 (a2++([(idx a1 a0).txn]:List Int))) else (pM a0 a2))) else (out (some a2))
noncomputable def eT (a0:Int) (a1:List aZ):Option (List Int) :=
 (bP 0 0 0 a1 a0 0).bind fun a2=>iter (tO a1 a2) ([],0)
noncomputable def gm (a0:List Int):Option (List Int) :=
 some a0
noncomputable def pO (a0:History) (a1:Ask) (a3:List Int):Option (List Int) :=
 must (0≤(0:Int)∧(0:Int) < (a1.Base.length:Int)) ((df a0 a1).bind fun a4=>(eT (idx a1.Base (0:Int)) a4).bind fun a2=>must (((a3.length + a2.length) + (a3.length + a2.length) / 4 + 192) * 8≤281474976710656∧a3.length + a2.length≤9223372036854775807) (gm (a3++a2)))
noncomputable def pQ (a0:Int) (a1:List Int):Option ((List Int×Int) ⊕ (List Int)) :=
 some (.inl (a1,w64 (a0 + 1)))
noncomputable def pR (a1:Ask) (a2:List aZ):(List Int×Int)→Option ((List Int×Int) ⊕ (List Int))
 | (a3,a0)=>bif decide (a0 < (a2.length:Int)) then must (0≤a0∧a0 < (a2.length:Int)) (must (0≤w64 ((((idx a2 a0).args).length:Int) - 1)∧w64 ((((idx a2 a0).args).length:Int) - 1) < (((idx a2 a0).args).length:Int)) (must (0≤(0:Int)∧(0:Int) < (a1.Base.length:Int)) (bif (idx ((idx a2 a0).args) (w64 ((((idx a2 a0).args).length:Int) - 1)) == idx a1.Base (0:Int)) then must (((a3.length + 1) + (a3.length + 1) / 4 + 192) * 8≤281474976710656∧a3.length + 1≤9223372036854775807) (pQ a0 (a3++([(idx a2 a0).txn]:List Int))) else (pQ a0 a3)))) else (out (gm a3))
noncomputable def bF (a0:History) (a1:Ask):Option (List Int) :=
 (fC a0 a1.Key).bind fun a3=>bif (a3 == 4) then must (0≤(0:Int)∧(0:Int) < (a1.Base.length:Int)) (bif (idx a1.Base (0:Int) == 0) then must (((0 + 1) + (0 + 1) / 4 + 192) * 8≤281474976710656∧0 + 1≤9223372036854775807) (pO a0 a1 (([]:List Int)++([(-1)]:List Int))) else (pO a0 a1 [])) else (bif ((a1.Base.length:Int) == 0) then gm ([(-1)]:List Int) else (bif (a3 == 1) then (df a0 a1).bind fun a4=>iter (pR a1 a4) ([],0) else (bif (a3 == 2) then (iM a0 a1).bind fun a2=>bif a2.2 then must (0≤(w64 ((a2.1.length:Int) - 1))∧(w64 ((a2.1.length:Int) - 1))≤(a2.1.length:Int)∧(a2.1.length:Int)≤(a2.1.length:Int)) (gm (eQ a2.1 (w64 ((a2.1.length:Int) - 1)) (a2.1.length:Int))) else (gm []) else ((iM a0 a1).bind fun a5=>gm a5.1))))
noncomputable def qw (a0:Ask) (a1:Ask):Option Bool :=
 bif (a1.Txn == a0.Txn) then bif (a1.Place == a0.Place) then bif (a1.Key == a0.Key) then (eY a1.Base a0.Base).bind fun a2=>some a2 else (some false) else (some false) else (some false)
noncomputable def gI (a0:List Ask) (a1c0:Ask):Int→Option (Int ⊕ Int)
 | a1=>bif decide (a1 < (a0.length:Int)) then must (0≤a1∧a1 < (a0.length:Int)) ((qw (idx a0 a1) a1c0).bind fun a2=>bif a2 then out (some a1) else (some (.inl (w64 (a1 + 1))))) else (out (some (-1)))
noncomputable def bT (a0:List Ask) (a1c0:Ask):Option Int :=
 iter (gI a0 a1c0) 0
noncomputable def dR (a0:List Ask) (a1c0:Ask):Option Bool :=
 (bT a0 a1c0).bind fun y3=>some (decide (y3 ≥ 0))
noncomputable def qW (a0:History) (a1:Ask):Option Int :=
 (mQ a0).bind fun y9=>bif (y9.2 != 0) then some y9.2 else ((dR y9.1 a1).bind fun a2=>bif a2 then some 0 else (some 1))
noncomputable def qx (a0:History) (a1:Ask):Option (List Int×Int) :=
 (qW a0 a1).bind fun a2=>bif (a2 != 0) then some (([]:List Int),a2) else ((bF a0 a1).bind fun a3=>some (a3,0))
noncomputable def tQ (a0:History) (a1:Ask):Option (List Int×Bool×Int) :=
 (qW a0 a1).bind fun a2=>bif (a2 != 0) then some (([]:List Int),false,a2) else ((iM a0 a1).bind fun a3=>some (a3.1,a3.2,0))
noncomputable def jk (a0:aH) (a1:Int):Option Bool :=
 must (0≤a1∧a1 < (a0.h.Txns.length:Int)) (some ((idx a0.h.Txns a1).Status == 1))
noncomputable def fO (a0:aH) (a1:Int) (a2:Int) (a3:Int) (a4:Int):Option aH :=
 must (((a0.edges.length + 1) + (a0.edges.length + 1) / 4 + 192) * 32≤281474976710656∧a0.edges.length + 1≤9223372036854775807) (some (⟨a0.h,a0.asks,a0.edges++([(⟨a1,a2,a3,a4⟩:Edge)]:List Edge)⟩:aH))
noncomputable def kF (a0:Int) (a1:List Int) (a2:List (Int×Int)):Option ((List Int×(List (Int×Int))×Int) ⊕ aH) :=
 some (.inl (a1,a2,w64 (a0 - 1)))
noncomputable def kG (a0:aH) (a2:List (Int×Int)) (a1:Int) (a3:List Int):Option ((List Int×(List (Int×Int))×Int) ⊕ aH) :=
 must (0≤a1∧a1 < (a0.h.Txns.length:Int)) (kF a1 a3 (iX a2 ((idx a0.h.Txns a1).Proc) a1))
noncomputable def kH (a1:Int) (a0:List Edge):Option ((List Edge×Int) ⊕ ((List Int×(List (Int×Int))×Int) ⊕ aH)) :=
 some (.inl (a0,w64 (a1 + 1)))
noncomputable def kI (a0:aH) (a2:List Int):(List Edge×Int)→Option ((List Edge×Int) ⊕ ((List Int×(List (Int×Int))×Int) ⊕ aH))
 | (a3,a1)=>bif decide (a1 < (a2.length:Int)) then must (0≤a1∧a1 < (a2.length:Int)) (bif decide (idx a2 a1 ≥ 0) then (fO (⟨a0.h,a0.asks,a3⟩:aH) a1 (idx a2 a1) 1 (-1)).bind fun a4=>kH a1 a4.edges else (kH a1 a3)) else (out (out (some (⟨a0.h,a0.asks,a3⟩:aH))))
noncomputable def kJ (a0:aH):(List Int×(List (Int×Int))×Int)→Option ((List Int×(List (Int×Int))×Int) ⊕ aH)
 | (a2,a3,a1)=>bif decide (a1 ≥ 0) then must (0≤a1∧a1 < (a2.length:Int)) ((jk a0 a1).bind fun a4=>bif !a4 then kF a1 (a2.set a1.toNat (-1)) a3 else (must (0≤a1∧a1 < (a0.h.Txns.length:Int)) (bif qM a3 ((idx a0.h.Txns a1).Proc) then must (0≤a1∧a1 < ((a2.set a1.toNat (-1)).length:Int)) (kG a0 a3 a1 ((a2.set a1.toNat (-1)).set a1.toNat (mat a3 ((idx a0.h.Txns a1).Proc)))) else (kG a0 a3 a1 (a2.set a1.toNat (-1)))))) else (iter (kI a0 a2) (a0.edges,0))
noncomputable def aX (a0:aH):Option aH :=
 must (0≤(a0.h.Txns.length:Int)∧(a0.h.Txns.length:Int)≤9223372036854775807∧(8:Int) * (a0.h.Txns.length:Int)≤281474976710656) (iter (kJ a0) (List.replicate (a0.h.Txns.length:Int).toNat (default:Int),[],w64 (((a0.h.Txns.length:Int).toNat:Int) - 1)))
noncomputable def nV (a1:Int) (a0:List Edge):Option ((List Edge×Int) ⊕ ((List Edge×Int) ⊕ aH)) :=
 some (.inl (a0,w64 (a1 + 1)))
noncomputable def kV (a0:aH) (a4:Int) (a2:List Edge) (a1:Int) (a3:Bool):Option ((List Edge×Int) ⊕ ((List Edge×Int) ⊕ aH)) :=
 bif a3 then (fO (⟨a0.h,a0.asks,a2⟩:aH) a4 a1 2 (-1)).bind fun a5=>nV a1 a5.edges else (nV a1 a2)
noncomputable def sI (a0:aH) (a3:Int):(List Edge×Int)→Option ((List Edge×Int) ⊕ ((List Edge×Int) ⊕ aH))
 | (a2,a1)=>bif decide (a1 < (a0.h.Txns.length:Int)) then must (0≤a1∧a1 < (a0.h.Txns.length:Int)) ((jk (⟨a0.h,a0.asks,a2⟩:aH) a3).bind fun a4=>bif a4 then (jk (⟨a0.h,a0.asks,a2⟩:aH) a1).bind fun a5=>bif a5 then kV a0 a3 a2 a1 (decide ((idx a0.h.Txns a3).To < (idx a0.h.Txns a1).From)) else (kV a0 a3 a2 a1 false) else (kV a0 a3 a2 a1 false)) else (out (some (.inl (a2,w64 (a3 + 1)))))
noncomputable def sJ (a0:aH):(List Edge×Int)→Option ((List Edge×Int) ⊕ aH)
 | (a2,a1)=>bif decide (a1 < (a0.h.Txns.length:Int)) then must (0≤a1∧a1 < (a0.h.Txns.length:Int)) (iter (sI a0 a1) (a2,0)) else (out (some (⟨a0.h,a0.asks,a2⟩:aH)))
noncomputable def bU (a0:aH):Option aH :=
 iter (sJ a0) (a0.edges,0)
noncomputable def kQ (a0:Int) (a1:aQ) (a2:aH):Option Bool :=
 bif (a0 == a1.Ask.Txn) then some true else ((jk a2 a0).bind fun y5=>some (!y5))
noncomputable def lX (a0:aQ) (a1:Int):Option Bool :=
 bif ((a0.sources.length:Int) == 1) then must (0≤(0:Int)∧(0:Int) < (a0.sources.length:Int)) (some (idx a0.sources (0:Int) == a1)) else (some false)
noncomputable def mh (a0:aQ) (a1:Int) (a2:aQ):Option Bool :=
 bif (a0.Ask.Txn == a1) then bif (a0.Ask.Key == a2.Ask.Key) then must (0≤(0:Int)∧(0:Int) < (a2.sources.length:Int)) ((lX a0 (idx a2.sources (0:Int))).bind fun a3=>some a3) else (some false) else (some false)
noncomputable def fJ (a0:List aQ) (a1c0:Int) (a1c1:aQ):Int→Option (Int ⊕ Int)
 | a1=>bif decide (a1 < (a0.length:Int)) then must (0≤a1∧a1 < (a0.length:Int)) ((mh (⟨((idx a0 a1).Ask),(idx a0 a1).sources,(idx a0 a1).parts,(idx a0 a1).made,(idx a0 a1).kind⟩:aQ) a1c0 a1c1).bind fun a2=>bif a2 then out (some a1) else (some (.inl (w64 (a1 + 1))))) else (out (some (-1)))
noncomputable def bG (a0:List aQ) (a1c0:Int) (a1c1:aQ):Option Int :=
 iter (fJ a0 a1c0 a1c1) 0
noncomputable def dH (a0:List aQ) (a1c0:Int) (a1c1:aQ):Option Bool :=
 (bG a0 a1c0 a1c1).bind fun y3=>some (decide (y3 ≥ 0))
noncomputable def iP (a0:aH) (a1:aQ) (a2:Int) (a4:Bool):Option Bool :=
 bif a4 then some false else ((dH a0.asks a2 a1).bind fun a3=>some a3)
noncomputable def eP (a0:aH) (a1:aQ) (a2:Int):Option Bool :=
 (lX a1 (-1)).bind fun a4=>bif a4 then some true else (bif a1.made then (slices_Contains_int a1.parts a2).bind fun a3=>some (!a3) else (bif (a1.kind != 1) then iP a0 a1 a2 true else (bif ((a1.sources.length:Int) != 1) then iP a0 a1 a2 true else (must (0≤(0:Int)∧(0:Int) < (a1.sources.length:Int)) (iP a0 a1 a2 (idx a1.sources (0:Int) == a2))))))
noncomputable def fV (a0:List Int) (a1c0:aQ) (a1c1:aH):Int→Option (Int ⊕ Int)
 | a1=>bif decide (a1 < (a0.length:Int)) then must (0≤a1∧a1 < (a0.length:Int)) ((kQ (idx a0 a1) a1c0 a1c1).bind fun a2=>bif a2 then out (some a1) else (some (.inl (w64 (a1 + 1))))) else (out (some (-1)))
noncomputable def bQ (a0:List Int) (a1c0:aQ) (a1c1:aH):Option Int :=
 iter (fV a0 a1c0 a1c1) 0
noncomputable def fP (a0:List Int) (a1c0:aQ) (a1c1:aH):List Int×Int→Option ((List Int×Int) ⊕ List Int)
 | (l,x)=>bif decide (x < (a0.length:Int)) then must (0≤x∧x < (a0.length:Int)) ((kQ (idx a0 x) a1c0 a1c1).bind fun y=>bif !y then (some (.inl (l++[idx a0 x],w64 (x + 1)))) else (some (.inl (l,w64 (x + 1))))) else (out (some l))
noncomputable def bK (a0:List Int) (a1c0:aQ) (a1c1:aH):Option (List Int) :=
 (bQ a0 a1c0 a1c1).bind fun i=>bif i == -1 then some a0 else must (0≤i∧i < (a0.length:Int)) (iter (fP a0 a1c0 a1c1) (a0.take i.toNat,w64 (i + 1)))
noncomputable def pU (a0:Int) (a1:List Edge):Option ((List Edge×Int) ⊕ aH) :=
 some (.inl (a1,w64 (a0 + 1)))
noncomputable def tT (a0:aH) (a1:aQ) (a3:List Int):(List Edge×Int)→Option ((List Edge×Int) ⊕ aH)
 | (a4,a2)=>bif decide (a2 < (a3.length:Int)) then must (0≤a2∧a2 < (a3.length:Int)) ((eP (⟨a0.h,a0.asks,a4⟩:aH) a1 (idx a3 a2)).bind fun a5=>bif a5 then (fO (⟨a0.h,a0.asks,a4⟩:aH) a1.Ask.Txn (idx a3 a2) 16 a1.Ask.Key).bind fun a6=>pU a2 a6.edges else (pU a2 a4)) else (out (some (⟨a0.h,a0.asks,a4⟩:aH)))
noncomputable def jY (a0:aH) (a1:aQ) (a2:List Int) (a3:List Edge):Option aH :=
 iter (tT a0 a1 a2) (a3,0)
noncomputable def mi (a0:Int) (a1:List Edge):Option ((List Edge×Int) ⊕ aH) :=
 some (.inl (a1,w64 (a0 + 1)))
noncomputable def pV (a0:Int) (a1:List Edge):Option ((List Edge×Int) ⊕ ((List Edge×Int) ⊕ aH)) :=
 some (.inl (a1,w64 (a0 + 1)))
noncomputable def pW (a0:aH) (a1:aQ) (a3:List Int) (a5:Int):(List Edge×Int)→Option ((List Edge×Int) ⊕ ((List Edge×Int) ⊕ aH))
 | (a4,a2)=>bif decide (a2 < (a3.length:Int)) then must (0≤a2∧a2 < (a3.length:Int)) ((slices_Contains_int a1.parts (idx a3 a2)).bind fun a7=>bif !a7 then (fO (⟨a0.h,a0.asks,a4⟩:aH) (idx a1.parts a5) (idx a3 a2) 8 a1.Ask.Key).bind fun a6=>pV a2 a6.edges else (pV a2 a4)) else (out (mi a5 a4))
noncomputable def pX (a0:aH) (a1:aQ) (a5:List Int) (a3:List Edge) (a2:Int) (a6:Bool):Option ((List Edge×Int) ⊕ aH) :=
 bif a6 then must (0≤w64 (a2 + 1)∧w64 (a2 + 1) < (a1.parts.length:Int)) ((fO (⟨a0.h,a0.asks,a3⟩:aH) (idx a1.parts a2) (idx a1.parts (w64 (a2 + 1))) 8 a1.Ask.Key).bind fun a4=>mi a2 a4.edges) else (iter (pW a0 a1 a5 a2) (a3,0))
noncomputable def pY (a0:aH) (a1:aQ) (a3:List Int):(List Edge×Int)→Option ((List Edge×Int) ⊕ aH)
 | (a4,a2)=>bif decide (a2 < (a1.parts.length:Int)) then must (0≤a2∧a2 < (a1.parts.length:Int)) (bif (a1.kind == 2) then pX a0 a1 a3 a4 a2 (decide (w64 (a2 + 1) < (a1.parts.length:Int))) else (pX a0 a1 a3 a4 a2 false)) else (out (jY a0 a1 a3 a4))
noncomputable def ja (a0:aH) (a1:aQ) (a2:List Edge):Option aH :=
 (dM a0.h a1.Ask.Key).bind fun a4=>(bK a4 a1 (⟨a0.h,a0.asks,a2⟩:aH)).bind fun a3=>bif a1.made then iter (pY a0 a1 a3) (a2,0) else (jY a0 a1 a3 a2)
noncomputable def gJ (a0:aH) (a1:aQ) (a3:Bool):Option aH :=
 bif a3 then must (0≤(0:Int)∧(0:Int) < (a1.sources.length:Int)) ((fO a0 (idx a1.sources (0:Int)) a1.Ask.Txn 4 a1.Ask.Key).bind fun a2=>ja a0 a1 a2.edges) else (ja a0 a1 a0.edges)
noncomputable def aF (a0:aH) (a1:aQ):Option aH :=
 bif ((a1.sources.length:Int) == 1) then must (0≤(0:Int)∧(0:Int) < (a1.sources.length:Int)) (gJ a0 a1 (decide (idx a1.sources (0:Int) ≥ 0))) else (gJ a0 a1 false)
noncomputable def xO (a0:Int) (a1:List aQ):Option ((List aQ×Int) ⊕ (jw×Int)) :=
 some (.inl (a1,w64 (a0 + 1)))
noncomputable def vz (a6:List Ask×Int) (a0:List aQ) (a1:Int) (a4:Int) (a5:List Int×Int) (a2:List Int×Bool×Int) (a3:Bool):Option ((List aQ×Int) ⊕ (jw×Int)) :=
 must (((a0.length + 1) + (a0.length + 1) / 4 + 192) * 112≤281474976710656∧a0.length + 1≤9223372036854775807) (xO a1 (a0++([(⟨(idx a6.1 a1),a5.1,a2.1,a3,a4⟩:aQ)]:List aQ)))
noncomputable def xP (a0:History) (a2:List Ask×Int) (a4:List aQ) (a1:Int) (a5:Int):Option ((List aQ×Int) ⊕ (jw×Int)) :=
 (qx a0 (idx a2.1 a1)).bind fun a6=>(tQ a0 (idx a2.1 a1)).bind fun a3=>bif a3.2.1 then vz a2 a4 a1 a5 a6 a3 (decide ((((idx a2.1 a1).Base).length:Int) > 0)) else (vz a2 a4 a1 a5 a6 a3 false)
noncomputable def vC (a0:History) (a2:List aQ):(List Edge×Int)→Option ((List Edge×Int) ⊕ ((List aQ×Int) ⊕ (jw×Int)))
 | (a3,a1)=>bif decide (a1 < (a2.length:Int)) then must (0≤a1∧a1 < (a2.length:Int)) ((aF (⟨a0,a2,a3⟩:aH) (⟨((idx a2 a1).Ask),(idx a2 a1).sources,(idx a2 a1).parts,(idx a2 a1).made,(idx a2 a1).kind⟩:aQ)).bind fun a4=>some (.inl (a4.edges,w64 (a1 + 1)))) else (out (out (some ((⟨(a0.Txns.length:Int),a3⟩:jw),0))))
noncomputable def xQ (a0:History) (a3:List Ask×Int):(List aQ×Int)→Option ((List aQ×Int) ⊕ (jw×Int))
 | (a2,a1)=>bif decide (a1 < (a3.1.length:Int)) then must (0≤a1∧a1 < (a3.1.length:Int)) ((fC a0 ((idx a3.1 a1).Key)).bind fun a5=>xP a0 a3 a2 a1 a5) else ((aX (⟨a0,a2,([]:List Edge)⟩:aH)).bind fun a4=>(bU (⟨a0,a2,a4.edges⟩:aH)).bind fun a6=>iter (vC a0 a2) (a6.edges,0))
noncomputable def di (a0:History):Option (jw×Int) :=
 (mQ a0).bind fun a1=>bif (a1.2 != 0) then some ((⟨0,([]:List Edge)⟩:jw),a1.2) else (iter (xQ a0 a1) ([],0))
noncomputable def ry (a0:History) (a4:List Txn) (a1:Int):(List Op×Int)→Option ((List Op×Int) ⊕ ((List Txn×Int) ⊕ History))
 | (a3,a2)=>bif decide (a2 < (((idx a0.Txns a1).Ops).length:Int)) then must (0≤a2∧a2 < (((idx a0.Txns a1).Ops).length:Int)) (must (((0 + (((idx ((idx a0.Txns a1).Ops) a2).Vals).length)) + (0 + (((idx ((idx a0.Txns a1).Ops) a2).Vals).length)) / 4 + 192) * 8≤281474976710656∧0 + (((idx ((idx a0.Txns a1).Ops) a2).Vals).length)≤9223372036854775807) (must (((a3.length + 1) + (a3.length + 1) / 4 + 192) * 56≤281474976710656∧a3.length + 1≤9223372036854775807) (some (.inl (a3++([(⟨(idx ((idx a0.Txns a1).Ops) a2).Kind,(idx ((idx a0.Txns a1).Ops) a2).Key,(idx ((idx a0.Txns a1).Ops) a2).Arg,(idx ((idx a0.Txns a1).Ops) a2).Got,([]:List Int)++((idx ((idx a0.Txns a1).Ops) a2).Vals)⟩:Op)]:List Op),w64 (a2 + 1)))))) else (must (((a4.length + 1) + (a4.length + 1) / 4 + 192) * 56≤281474976710656∧a4.length + 1≤9223372036854775807) (out (some (.inl (a4++([(⟨(idx a0.Txns a1).Proc,(idx a0.Txns a1).Status,(idx a0.Txns a1).From,(idx a0.Txns a1).To,a3⟩:Txn)]:List Txn),w64 (a1 + 1))))))
noncomputable def rz (a0:History):(List Txn×Int)→Option ((List Txn×Int) ⊕ History)
 | (a2,a1)=>bif decide (a1 < (a0.Txns.length:Int)) then must (0≤a1∧a1 < (a0.Txns.length:Int)) (iter (ry a0 a2 a1) ([],0)) else (out (some (⟨([]:List ByteArray)++a0.Keys,a2⟩:History)))
noncomputable def dZ (a0:History):Option History :=
 must (((0 + a0.Keys.length) + (0 + a0.Keys.length) / 4 + 192) * 16≤281474976710656∧0 + a0.Keys.length≤9223372036854775807) (iter (rz a0) ([],0))
noncomputable def jZ (a0:List Int) (a1:List Int):Int→Option (Int ⊕ Bool)
 | a2=>bif decide (a2 < (a0.length:Int)) then must (0≤a2∧a2 < (a0.length:Int)) (must (0≤a2∧a2 < (a1.length:Int)) (bif (idx a0 a2 != idx a1 a2) then out (some false) else (some (.inl (w64 (a2 + 1)))))) else (out (some true))
noncomputable def cO (a0:List Int) (a1:List Int):Option Bool :=
 bif ((a0.length:Int) != (a1.length:Int)) then some false else (iter (jZ a0 a1) 0)
noncomputable def gZ (a1:Int) (a0:Bool):Option (Int ⊕ (Int ⊕ (Int ⊕ Bool))) :=
 bif a0 then out (out (out (some false))) else (some (.inl (w64 (a1 + 1))))
noncomputable def rA (a0:History) (a1:History) (a3:Int) (a2:Int):Option (Int ⊕ (Int ⊕ (Int ⊕ Bool))) :=
 bif ((idx ((idx a0.Txns a3).Ops) a2).Kind != (idx ((idx a1.Txns a3).Ops) a2).Kind) then gZ a2 true else (bif ((idx ((idx a0.Txns a3).Ops) a2).Key != (idx ((idx a1.Txns a3).Ops) a2).Key) then gZ a2 true else (bif ((idx ((idx a0.Txns a3).Ops) a2).Arg != (idx ((idx a1.Txns a3).Ops) a2).Arg) then gZ a2 true else (bif ((idx ((idx a0.Txns a3).Ops) a2).Got != (idx ((idx a1.Txns a3).Ops) a2).Got) then gZ a2 true else ((cO ((idx ((idx a0.Txns a3).Ops) a2).Vals) ((idx ((idx a1.Txns a3).Ops) a2).Vals)).bind fun a4=>gZ a2 (!a4)))))
noncomputable def rC (a0:History) (a1:History) (a3:Int):Int→Option (Int ⊕ (Int ⊕ (Int ⊕ Bool)))
 | a2=>bif decide (a2 < (((idx a0.Txns a3).Ops).length:Int)) then must (0≤a2∧a2 < (((idx a0.Txns a3).Ops).length:Int)) (must (0≤a2∧a2 < (((idx a1.Txns a3).Ops).length:Int)) (rA a0 a1 a3 a2)) else (out (some (.inl (w64 (a3 + 1)))))
noncomputable def ib (a0:History) (a1:History) (a2:Int) (a3:Bool):Option (Int ⊕ (Int ⊕ Bool)) :=
 bif a3 then out (out (some false)) else (iter (rC a0 a1 a2) 0)
noncomputable def rD (a0:History) (a1:History) (a2:Int):Option (Int ⊕ (Int ⊕ Bool)) :=
 bif ((idx a0.Txns a2).Proc != (idx a1.Txns a2).Proc) then ib a0 a1 a2 true else (bif ((idx a0.Txns a2).Status != (idx a1.Txns a2).Status) then ib a0 a1 a2 true else (bif ((idx a0.Txns a2).From != (idx a1.Txns a2).From) then ib a0 a1 a2 true else (bif ((idx a0.Txns a2).To != (idx a1.Txns a2).To) then ib a0 a1 a2 true else (ib a0 a1 a2 ((((idx a0.Txns a2).Ops).length:Int) != (((idx a1.Txns a2).Ops).length:Int))))))
noncomputable def rE (a0:History) (a1:History):Int→Option (Int ⊕ (Int ⊕ Bool))
 | a2=>bif decide (a2 < (a0.Txns.length:Int)) then must (0≤a2∧a2 < (a0.Txns.length:Int)) (must (0≤a2∧a2 < (a1.Txns.length:Int)) (rD a0 a1 a2)) else (out (out (some true)))
noncomputable def rF (a0:History) (a1:History):Int→Option (Int ⊕ Bool)
 | a2=>bif decide (a2 < (a0.Keys.length:Int)) then must (0≤a2∧a2 < (a0.Keys.length:Int)) (must (0≤a2∧a2 < (a1.Keys.length:Int)) (bif !(sEq (idx a0.Keys a2) (idx a1.Keys a2)) then out (some false) else (some (.inl (w64 (a2 + 1)))))) else (iter (rE a0 a1) 0)
noncomputable def nu (a0:History) (a1:History) (b9:Bool):Option Bool :=
 bif b9 then some false else (iter (rF a0 a1) 0)
noncomputable def aK (a0:History) (a1:History):Option Bool :=
 bif ((a0.Keys.length:Int) != (a1.Keys.length:Int)) then nu a0 a1 true else (nu a0 a1 ((a0.Txns.length:Int) != (a1.Txns.length:Int)))
noncomputable def Dj (a0:History):Option (List iy×Int) :=
 (nJ a0).bind fun a1=>some (a1.1.bad,a1.2)
noncomputable def xq (a0:History) (a1:List Int) (a3:List (Int×Int)) (a2:Int) (a4:Bool):Option (((List (Int×Int))×Int) ⊕ (dY×Bool)) :=
 bif a4 then out (some ((⟨a0,a1,a3⟩:dY),false)) else (some (.inl (iX a3 (idx a1 a2) a2,w64 (a2 + 1))))
noncomputable def Aa (a0:History) (a1:List Int) (a2:List (Int×Int)) (a3:Int) (a4:Bool):Option (Int ⊕ (((List (Int×Int))×Int) ⊕ (dY×Bool))) :=
 bif a4 then out (out (some ((⟨a0,a1,a2⟩:dY),false))) else (some (.inl (w64 (a3 + 1))))
noncomputable def DY (a0:History) (a1:List Int) (a3:List (Int×Int)):Int→Option (Int ⊕ (((List (Int×Int))×Int) ⊕ (dY×Bool)))
 | a2=>bif decide (a2 < (a0.Txns.length:Int)) then must (0≤a2∧a2 < (a0.Txns.length:Int)) (bif !(qM a3 a2) then Aa a0 a1 a3 a2 ((idx a0.Txns a2).Status == 1) else (Aa a0 a1 a3 a2 false)) else (out (out (some ((⟨a0,a1,a3⟩:dY),true))))
noncomputable def DZ (a0:History) (a1:List Int):((List (Int×Int))×Int)→Option (((List (Int×Int))×Int) ⊕ (dY×Bool))
 | (a3,a2)=>bif decide (a2 < (a1.length:Int)) then must (0≤a2∧a2 < (a1.length:Int)) (bif decide (idx a1 a2 < 0) then xq a0 a1 a3 a2 true else (bif decide (idx a1 a2 ≥ (a0.Txns.length:Int)) then xq a0 a1 a3 a2 true else (must (0≤idx a1 a2∧idx a1 a2 < (a0.Txns.length:Int)) (xq a0 a1 a3 a2 ((idx a0.Txns (idx a1 a2)).Status == 2))))) else (bif ((a3.length:Int) != (a1.length:Int)) then out (some ((⟨a0,a1,a3⟩:dY),false)) else (iter (DY a0 a1 a3) 0))
noncomputable def jC (a0:History) (a1:List Int):Option (dY×Bool) :=
 iter (DZ a0 a1) ([],0)
noncomputable def nW (a0:Int) (a1:List (Int×Int)):Option (((List (Int×Int))×Int) ⊕ Bool) :=
 some (.inl (a1,w64 (a0 + 1)))
noncomputable def nX (a0:dY) (a2:List (Int×Int)) (a1:Int) (a3:Bool):Option (((List (Int×Int))×Int) ⊕ Bool) :=
 bif a3 then out (some false) else (nW a1 (iX a2 ((idx a0.h.Txns a1).Proc) (KI (mat a0.at_ a1) (mat a2 ((idx a0.h.Txns a1).Proc)))))
noncomputable def tV (a0:dY):((List (Int×Int))×Int)→Option (((List (Int×Int))×Int) ⊕ Bool)
 | (a2,a1)=>bif decide (a1 < (a0.h.Txns.length:Int)) then must (0≤a1∧a1 < (a0.h.Txns.length:Int)) (bif !(qM a0.at_ a1) then nW a1 a2 else (bif qM a2 ((idx a0.h.Txns a1).Proc) then nX a0 a2 a1 (decide (mat a2 ((idx a0.h.Txns a1).Proc) > mat a0.at_ a1)) else (nX a0 a2 a1 false))) else (out (some true))
noncomputable def dF (a0:dY):Option Bool :=
 iter (tV a0) ([],0)
noncomputable def rG (a0:dY) (a1:Ask) (a2:Int) (b9:Bool):Option Bool :=
 bif b9 then some false else ((ik a0.h a2 a1.Key).bind fun a3=>some a3.2)
noncomputable def jK (a0:dY) (a1:Ask) (a2:Int):Option Bool :=
 bif !(qM a0.at_ a2) then rG a0 a1 a2 true else (rG a0 a1 a2 (decide (mat a0.at_ a2 ≥ mat a0.at_ a1.Txn)))
noncomputable def xu (a0:List Int):Option (List Int):=must (a0.length < 4611686018427387904) (some (a0.mergeSort fun x y=>decide (x≤y)))
noncomputable def oW (a0:List Int):Option (List Int) :=
 some a0
noncomputable def uD (a1:List Int):(Int×Int)→Option ((Int×Int) ⊕ (List Int))
 | (a2,a0)=>bif decide (a0 < (a1.length:Int)) then must (0≤a0∧a0 < (a1.length:Int)) (some (.inl (w64 (a2 + (idx a1 a0)),w64 (a0 + 1)))) else (out (some ([a2]:List Int)))
noncomputable def oZ (a0:dY) (a1:Int) (a2:List Int):Option (List Int) :=
 (fC a0.h a1).bind fun a3=>bif (a3 == 1) then must (0≤(KI 0 (w64 ((a2.length:Int) - 1)))∧(KI 0 (w64 ((a2.length:Int) - 1)))≤(a2.length:Int)∧(a2.length:Int)≤(a2.length:Int)) (some (eQ a2 (KI 0 (w64 ((a2.length:Int) - 1))) (a2.length:Int))) else (bif (a3 == 3) then (xu a2).bind fun a4=>oW a4 else (bif (a3 == 4) then iter (uD a2) (0,0) else (oW a2)))
noncomputable def pg (a1:Int) (a0:List Int):Option ((List Int×Int) ⊕ ((List Int×Int) ⊕ (List Int))) :=
 some (.inl (a0,w64 (a1 + 1)))
noncomputable def pq (a0:dY) (a2:Int) (a4:Int) (a1:List Int) (a3:Int) (a5:Bool):Option ((List Int×Int) ⊕ ((List Int×Int) ⊕ (List Int))) :=
 bif a5 then must (((a1.length + 1) + (a1.length + 1) / 4 + 192) * 8≤281474976710656∧a1.length + 1≤9223372036854775807) (pg a3 (a1++([(idx ((idx a0.h.Txns (idx (eQ a0.order (0:Int) (w64 ((mat a0.at_ a2) + 1))) a4)).Ops) a3).Arg]:List Int))) else (pg a3 a1)
noncomputable def uE (a0:dY) (a1:Int) (a2:Int) (a3:Int):(List Int×Int)→Option ((List Int×Int) ⊕ ((List Int×Int) ⊕ (List Int)))
 | (a5,a4)=>bif decide (a4 < (((idx a0.h.Txns (idx (eQ a0.order (0:Int) (w64 ((mat a0.at_ a2) + 1))) a3)).Ops).length:Int)) then must (0≤a4∧a4 < (((idx a0.h.Txns (idx (eQ a0.order (0:Int) (w64 ((mat a0.at_ a2) + 1))) a3)).Ops).length:Int)) (bif ((idx ((idx a0.h.Txns (idx (eQ a0.order (0:Int) (w64 ((mat a0.at_ a2) + 1))) a3)).Ops) a4).Key == a1) then pq a0 a2 a3 a5 a4 (decide ((idx ((idx a0.h.Txns (idx (eQ a0.order (0:Int) (w64 ((mat a0.at_ a2) + 1))) a3)).Ops) a4).Kind≤4)) else (pq a0 a2 a3 a5 a4 false)) else (out (some (.inl (a5,w64 (a3 + 1)))))
noncomputable def uF (a0:dY) (a1:Int) (a2:Int):(List Int×Int)→Option ((List Int×Int) ⊕ (List Int))
 | (a4,a3)=>bif decide (a3 < ((eQ a0.order (0:Int) (w64 ((mat a0.at_ a2) + 1))).length:Int)) then must (0≤a3∧a3 < ((eQ a0.order (0:Int) (w64 ((mat a0.at_ a2) + 1))).length:Int)) (must (0≤idx (eQ a0.order (0:Int) (w64 ((mat a0.at_ a2) + 1))) a3∧idx (eQ a0.order (0:Int) (w64 ((mat a0.at_ a2) + 1))) a3 < (a0.h.Txns.length:Int)) (iter (uE a0 a1 a2 a3) (a4,0))) else (out (oZ a0 a1 a4))
noncomputable def bv (a0:dY) (a1:Int) (a2:Int):Option (List Int) :=
 bif decide (a2 ≥ 0) then must (0≤(0:Int)∧(0:Int)≤(w64 ((mat a0.at_ a2) + 1))∧(w64 ((mat a0.at_ a2) + 1))≤(a0.order.length:Int)) (iter (uF a0 a1 a2) ([],0)) else (oZ a0 a1 [])
noncomputable def Ab (a1:Exec) (a2:List Ask×Int) (a6:dY×Bool) (a0:Int) (a4:Bool):Option (Int ⊕ (Int×Int)) :=
 bif a4 then out (some (5,0)) else (must (0≤a0∧a0 < (a1.Picks.length:Int)) ((bv a6.1 ((idx a2.1 a0).Key) (idx a1.Picks a0)).bind fun a5=>(eY a5 ((idx a2.1 a0).Base)).bind fun a3=>bif !a3 then out (some (6,0)) else (some (.inl (w64 (a0 + 1))))))
noncomputable def Ea (a1:Exec) (a2:List Ask×Int) (a3:dY×Bool):Int→Option (Int ⊕ (Int×Int))
 | a0=>bif decide (a0 < (a2.1.length:Int)) then must (0≤a0∧a0 < (a2.1.length:Int)) (must (0≤a0∧a0 < (a1.Picks.length:Int)) (bif (idx a1.Picks a0 != (-1)) then (jK a3.1 (idx a2.1 a0) (idx a1.Picks a0)).bind fun a4=>Ab a1 a2 a3 a0 (!a4) else (Ab a1 a2 a3 a0 false))) else (out (some (0,0)))
noncomputable def rU (a0:History) (a1:Exec):Option (Int×Int) :=
 (mQ a0).bind fun a2=>bif (a2.2 != 0) then some (0,a2.2) else ((Dj a0).bind fun a5=>bif decide ((a5.1.length:Int) > 0) then some (1,0) else ((jC a0 a1.Order).bind fun a3=>bif !a3.2 then some (2,0) else (bif ((a1.Picks.length:Int) != (a2.1.length:Int)) then some (3,0) else ((dF a3.1).bind fun a4=>bif !a4 then some (4,0) else (iter (Ea a1 a2 a3) 0)))))
noncomputable def yQ (a1:Exec) (a2:Edge) (a3:Bool):Option Bool :=
 bif a3 then some false else ((slices_Index_int a1.Order a2.From).bind fun a0=>(slices_Index_int a1.Order a2.To).bind fun a4=>bif decide (a0 ≥ 0) then some (decide (a0 < a4)) else (some false))
noncomputable def uR (a0:History) (a1:Exec) (a2:Edge):Option Bool :=
 (rU a0 a1).bind fun a3=>bif (a3.2 != 0) then yQ a1 a2 true else (yQ a1 a2 (a3.1 != 0))
noncomputable def qX (a0:Int):Option Op :=
 some (⟨5,0,0,true,([a0]:List Int)⟩:Op)
noncomputable def kg:Option Bool :=
 (qX 1).bind fun a1=>(qX 1).bind fun a2=>(di (⟨([(⟨#[120]⟩:ByteArray)]:List ByteArray),([(⟨0,1,0,9,([(⟨1,0,1,false,([]:List Int)⟩:Op)]:List Op)⟩:Txn),(⟨1,1,2,5,([a1,(⟨1,0,2,false,([]:List Int)⟩:Op)]:List Op)⟩:Txn),(⟨2,1,3,4,([a2,(⟨1,0,3,false,([]:List Int)⟩:Op)]:List Op)⟩:Txn)]:List Txn)⟩:History)).bind fun a0=>bif (a0.2 == 0) then bif (a0.1.N == 3) then bif ((a0.1.Edges.length:Int) == 4) then must (0≤(1:Int)∧(1:Int) < (a0.1.Edges.length:Int)) (bif (((idx a0.1.Edges (1:Int)).From == 1) && (((idx a0.1.Edges (1:Int)).To == 2) && (((idx a0.1.Edges (1:Int)).Kind == 16) && (((idx a0.1.Edges (1:Int)).Key == 0) && true)))) then must (0≤(0:Int)∧(0:Int) < (a0.1.Edges.length:Int)) ((uR (⟨([(⟨#[120]⟩:ByteArray)]:List ByteArray),([(⟨0,1,0,9,([(⟨1,0,1,false,([]:List Int)⟩:Op)]:List Op)⟩:Txn),(⟨1,1,2,5,([a1,(⟨1,0,2,false,([]:List Int)⟩:Op)]:List Op)⟩:Txn),(⟨2,1,3,4,([a2,(⟨1,0,3,false,([]:List Int)⟩:Op)]:List Op)⟩:Txn)]:List Txn)⟩:History) (⟨([0,1,2]:List Int),([0,0]:List Int)⟩:Exec) (idx a0.1.Edges (0:Int))).bind fun a3=>some a3) else (some false)) else (some false) else (some false) else (some false)
noncomputable def rH (a0:List ByteArray) (a1:ByteArray):Int→Option (Int ⊕ Int)
 | a2=>bif decide (a2 < (a0.length:Int)) then must (0≤a2∧a2 < (a0.length:Int)) (bif sEq (idx a0 a2) a1 then out (some a2) else (some (.inl (w64 (a2 + 1))))) else (out (some (-1)))
noncomputable def fD (a0:List ByteArray) (a1:ByteArray):Option Int :=
 iter (rH a0 a1) 0
noncomputable def jS (a0:Int) (a1:Bool):Option (Int ⊕ Bool) :=
 bif a1 then out (some false) else (some (.inl (w64 (a0 + 1))))
noncomputable def qy (a0:List ByteArray):Int→Option (Int ⊕ Bool)
 | a1=>bif decide (a1 < (a0.length:Int)) then must (0≤a1∧a1 < (a0.length:Int)) (bif decide (((idx a0 a1).size:Int) < 1) then jS a1 true else (bif decide (((idx a0 a1).size:Int) > 32) then jS a1 true else (must (0≤(0:Int)∧(0:Int)≤a1∧a1≤(a0.length:Int)) ((fD (eQ a0 (0:Int) a1) (idx a0 a1)).bind fun a2=>jS a1 (decide (a2 ≥ 0)))))) else (out (some (decide ((a0.length:Int)≤32))))
noncomputable def dJ (a0:List ByteArray):Option Bool :=
 iter (qy a0) 0
noncomputable def jD (a1:Int) (a0:Bool):Option (Int ⊕ Bool) :=
 bif a0 then out (some false) else (some (.inl (w64 (a1 + 1))))
noncomputable def lv (a0:List Txn) (a1:Int):Int→Option (Int ⊕ Bool)
 | a2=>bif decide (a2 < a1) then must (0≤a2∧a2 < (a0.length:Int)) (bif ((idx a0 a2).Proc == (idx a0 a1).Proc) then bif ((idx a0 a2).To == (-1)) then jD a2 true else (jD a2 (decide ((idx a0 a2).To ≥ (idx a0 a1).From))) else (jD a2 false)) else (out (some true))
noncomputable def lw (a0:List Txn) (a1:Int) (a2:Bool):Option Bool :=
 bif a2 then some false else (iter (lv a0 a1) 0)
noncomputable def dW (a0:List Txn) (a1:Int) (a2:Bool):Option Bool :=
 bif a2 then some false else (bif decide (a1 > 0) then must (0≤w64 (a1 - 1)∧w64 (a1 - 1) < (a0.length:Int)) (lw a0 a1 (decide ((idx a0 a1).From≤(idx a0 (w64 (a1 - 1))).From))) else (lw a0 a1 false))
noncomputable def aU (a0:List Txn) (a1:Int):Option Bool :=
 must (0≤a1∧a1 < (a0.length:Int)) (bif decide ((idx a0 a1).Status < 1) then dW a0 a1 true else (bif decide ((idx a0 a1).Status > 3) then dW a0 a1 true else (bif decide ((idx a0 a1).From < 0) then dW a0 a1 true else (bif ((idx a0 a1).To != (-1)) then bif decide ((idx a0 a1).To≤(idx a0 a1).From) then dW a0 a1 true else (bif ((idx a0 a1).To == (-1)) then dW a0 a1 ((idx a0 a1).Status != 3) else (dW a0 a1 false)) else (bif ((idx a0 a1).To == (-1)) then dW a0 a1 ((idx a0 a1).Status != 3) else (dW a0 a1 false))))))
noncomputable def ky (a0:Call):Option Bool :=
 some (decide ((a0.Vals.length:Int)≤64))
noncomputable def ny (a0:Call):Int→Option (Int ⊕ Bool)
 | a1=>bif decide (a1 < (a0.Vals.length:Int)) then must (0≤a1∧a1 < (a0.Vals.length:Int)) (must (0≤w64 (a1 - 1)∧w64 (a1 - 1) < (a0.Vals.length:Int)) (bif decide (idx a0.Vals a1≤idx a0.Vals (w64 (a1 - 1))) then out (some false) else (some (.inl (w64 (a1 + 1)))))) else (out (ky a0))
noncomputable def jf (a0:Call) (a1:Bool):Option Bool :=
 bif a1 then some false else (bif (a0.Kind == 5) then some (decide ((a0.Vals.length:Int)≤1)) else (bif (a0.Kind == 8) then bif !a0.Got then some true else (some ((a0.Vals.length:Int) == 1)) else (bif (a0.Kind == 7) then iter (ny a0) 1 else (ky a0))))
noncomputable def jg (a0:Call) (a1:Int) (a2:Bool):Option Bool :=
 bif a2 then some false else (bif decide (a0.Kind≤4) then bif !a0.Got then bif ((a0.Vals.length:Int) == 0) then bif (a0.Kind != 4) then some true else (bif decide (a0.Arg ≥ (-1048576)) then some (decide (a0.Arg≤1048576)) else (some false)) else (some false) else (some false) else (bif (a0.Arg != 0) then jf a0 true else (bif (a0.Got != (a1 == 1)) then jf a0 true else (bif !a0.Got then jf a0 (decide ((a0.Vals.length:Int) > 0)) else (jf a0 false)))))
noncomputable def bB (a0:Call) (a1:Int):Option Bool :=
 bif decide (a0.Kind < 1) then jg a0 a1 true else (bif decide (a0.Kind > 8) then jg a0 a1 true else (bif decide ((a0.Key.size:Int) < 1) then jg a0 a1 true else (jg a0 a1 (decide ((a0.Key.size:Int) > 32)))))
noncomputable def mo (a0:Event):Int→Option (Int ⊕ Bool)
 | a1=>bif decide (a1 < (a0.Calls.length:Int)) then must (0≤a1∧a1 < (a0.Calls.length:Int)) ((bB (idx a0.Calls a1) a0.Kind).bind fun a2=>bif !a2 then out (some false) else (some (.inl (w64 (a1 + 1))))) else (out (some true))
noncomputable def jT (a0:Event) (b9:Bool):Option Bool :=
 bif b9 then some false else (iter (mo a0) 0)
noncomputable def dA (a0:Event):Option Bool :=
 bif decide (a0.Kind < 0) then jT a0 true else (bif decide (a0.Kind > 3) then jT a0 true else (jT a0 (decide ((a0.Calls.length:Int) > 16))))
noncomputable def qz (a0:List Event):Int→Option (Int ⊕ Int)
 | a1=>bif decide (a1 < (a0.length:Int)) then must (0≤a1∧a1 < (a0.length:Int)) ((dA (idx a0 a1)).bind fun a2=>bif !a2 then out (some 1) else (some (.inl (w64 (a1 + 1))))) else (out (some 0))
noncomputable def gp (a0:List Event):Option Int :=
 bif decide ((a0.length:Int) > 256) then some 1 else (iter (qz a0) 0)
noncomputable def iG (a0:Int):Option Int :=
 some (w64 (((w64 (a0 - 1)).tmod (4:Int)) + 1))
noncomputable def gW (a2:List ByteArray) (a4:List Int) (a3:List (List Int)) (a0:List Int) (a1:List Int):Option (Int×aO) :=
 some (0,(⟨a2,a4,a3,a0,a1⟩:aO))
noncomputable def gX (a2:Int) (a4:List ByteArray) (a6:List Int) (a1:List Int) (a3:List Int) (a0:Int) (a5:List (List Int)) (a7:Bool):Option (Int×aO) :=
 bif a7 then must (0≤a0∧a0 < (a3.length:Int)) (must (0≤a0∧a0 < (a1.length:Int)) (bif decide (idx (a1.set a0.toNat (w64 ((idx a1 a0) + 1))) a0 > 8) then some (51,(⟨a4,a6,a5,a1.set a0.toNat (w64 ((idx a1 a0) + 1)),a3.set a0.toNat a2⟩:aO)) else (gW a4 a6 a5 (a1.set a0.toNat (w64 ((idx a1 a0) + 1))) (a3.set a0.toNat a2)))) else (gW a4 a6 a5 a1 a3)
noncomputable def fM (a1:Call) (a2:Int) (a5:List ByteArray) (a7:List Int) (a4:List Int) (a3:List Int) (a0:Int) (a6:List (List Int)):Option (Int×aO) :=
 bif (a1.Kind == 4) then must (0≤a0∧a0 < (a3.length:Int)) (gX a2 a5 a7 a4 a3 a0 a6 (idx a3 a0 != a2)) else (gX a2 a5 a7 a4 a3 a0 a6 false)
noncomputable def jm (a1:Call) (a2:Int) (a6:List ByteArray) (a8:List Int) (a3:List (List Int)) (a5:List Int) (a7:List Int) (a0:Int):Int→Option (Int ⊕ (Int×aO))
 | a4=>must (0≤a0∧a0 < (a3.length:Int)) (bif decide (a4 < ((idx a3 a0).length:Int)) then must (0≤a4∧a4 < ((idx a3 a0).length:Int)) (bif (idx (idx a3 a0) a4 == a1.Arg) then out (some (3,(⟨a6,a8,a3,a5,a7⟩:aO))) else (some (.inl (w64 (a4 + 1))))) else (must (((((idx a3 a0).length) + 1) + (((idx a3 a0).length) + 1) / 4 + 192) * 8≤281474976710656∧((idx a3 a0).length) + 1≤9223372036854775807) (out (fM a1 a2 a6 a8 a5 a7 a0 (a3.set a0.toNat ((idx a3 a0)++([a1.Arg]:List Int)))))))
noncomputable def jo (a1:Call) (a2:Int) (a3:List ByteArray) (a5:List Int) (a7:List (List Int)) (a0:List Int) (a4:List Int) (a6:Int) (a8:Bool):Option (Int×aO) :=
 bif a8 then iter (jm a1 a2 a3 a5 a7 a0 a4 a6) 0 else (fM a1 a2 a3 a5 a0 a4 a6 a7)
noncomputable def eO (a1:Call) (a2:Int) (a5:List ByteArray) (a0:List Int) (a7:List (List Int)) (a4:List Int) (a6:List Int) (a3:Int):Option (Int×aO) :=
 must (0≤a3∧a3 < (a0.length:Int)) ((iG a1.Kind).bind fun a8=>bif (idx a0 a3 != a8) then some (50,(⟨a5,a0,a7,a4,a6⟩:aO)) else (bif (a1.Kind == 2) then jo a1 a2 a5 a0 a7 a4 a6 a3 true else (jo a1 a2 a5 a0 a7 a4 a6 a3 (a1.Kind == 3))))
noncomputable def jq (a0:aO) (a1:Call) (a2:Int) (a3:List Int):Option (Int×aO) :=
 must (((a0.wrote.length + 1) + (a0.wrote.length + 1) / 4 + 192) * 24≤281474976710656∧a0.wrote.length + 1≤9223372036854775807) (must (((a0.incs.length + 1) + (a0.incs.length + 1) / 4 + 192) * 8≤281474976710656∧a0.incs.length + 1≤9223372036854775807) (must (((a0.last_.length + 1) + (a0.last_.length + 1) / 4 + 192) * 8≤281474976710656∧a0.last_.length + 1≤9223372036854775807) (eO a1 a2 (a0.keys++([a1.Key]:List ByteArray)) a3 (a0.wrote++([([]:List Int)]:List (List Int))) (a0.incs++([0]:List Int)) (a0.last_++([(-1)]:List Int)) (a0.keys.length:Int))))
noncomputable def jr (a0:aO) (a1:Call) (a2:Int):Option (Int×aO) :=
 (iG a1.Kind).bind fun a3=>must (((a0.types.length + 1) + (a0.types.length + 1) / 4 + 192) * 8≤281474976710656∧a0.types.length + 1≤9223372036854775807) (jq a0 a1 a2 (a0.types++([a3]:List Int)))
noncomputable def ak (a0:aO) (a1:Call) (a2:Int):Option (Int×aO) :=
 (fD a0.keys a1.Key).bind fun y5=>bif decide (y5 < 0) then bif decide ((a0.keys.length:Int) ≥ 32) then some (2,a0) else (must (((a0.keys.length + 1) + (a0.keys.length + 1) / 4 + 192) * 16≤281474976710656∧a0.keys.length + 1≤9223372036854775807) (jr a0 a1 a2)) else (eO a1 a2 a0.keys a0.types a0.wrote a0.incs a0.last_ y5)
noncomputable def qA (a0:History) (a2:Int) (a3:List Call) (a1:Int):Option ((List Call×Int) ⊕ ((List ByteArray×List Int×(List (List Int))×List Int×List Int×Int) ⊕ Int)) :=
 some (.inl (a3++([(⟨(idx ((idx a0.Txns a2).Ops) a1).Kind,idx a0.Keys ((idx ((idx a0.Txns a2).Ops) a1).Key),(idx ((idx a0.Txns a2).Ops) a1).Arg,(idx ((idx a0.Txns a2).Ops) a1).Got,(idx ((idx a0.Txns a2).Ops) a1).Vals⟩:Call)]:List Call),w64 (a1 + 1)))
noncomputable def mq (a0:History) (a3:Int) (a1:List Call) (a2:Int) (a4:Bool):Option ((List Call×Int) ⊕ ((List ByteArray×List Int×(List (List Int))×List Int×List Int×Int) ⊕ Int)) :=
 bif a4 then out (out (some 1)) else (must (0≤(idx ((idx a0.Txns a3).Ops) a2).Key∧(idx ((idx a0.Txns a3).Ops) a2).Key < (a0.Keys.length:Int)) (must (((a1.length + 1) + (a1.length + 1) / 4 + 192) * 64≤281474976710656∧a1.length + 1≤9223372036854775807) (qA a0 a3 a1 a2)))
noncomputable def gL (a7:Int) (a2:List Call):(List ByteArray×List Int×(List (List Int))×List Int×List Int×Int)→Option ((List ByteArray×List Int×(List (List Int))×List Int×List Int×Int) ⊕ ((List Call×Int) ⊕ ((List ByteArray×List Int×(List (List Int))×List Int×List Int×Int) ⊕ Int)))
 | (a6,a4,a3,a5,a8,a1)=>bif decide (a1 < (a2.length:Int)) then must (0≤a1∧a1 < (a2.length:Int)) ((ak (⟨a6,a4,a3,a5,a8⟩:aO) (idx a2 a1) a7).bind fun a0=>bif (a0.1 != 0) then out (out (out (some 1))) else (some (.inl (a0.2.keys,a0.2.types,a0.2.wrote,a0.2.incs,a0.2.last_,w64 (a1 + 1))))) else (out (out (some (.inl (a6,a4,a3,a5,a8,w64 (a7 + 1))))))
noncomputable def gM (a0:History) (a8:List ByteArray) (a5:List Int) (a7:List (List Int)) (a4:List Int) (a9:List Int) (a1:Int):(List Call×Int)→Option ((List Call×Int) ⊕ ((List ByteArray×List Int×(List (List Int))×List Int×List Int×Int) ⊕ Int))
 | (a3,a2)=>bif decide (a2 < (((idx a0.Txns a1).Ops).length:Int)) then must (0≤a2∧a2 < (((idx a0.Txns a1).Ops).length:Int)) (bif decide ((idx ((idx a0.Txns a1).Ops) a2).Key < 0) then mq a0 a1 a3 a2 true else (mq a0 a1 a3 a2 (decide ((idx ((idx a0.Txns a1).Ops) a2).Key ≥ (a0.Keys.length:Int))))) else ((gp ([(⟨0,(idx a0.Txns a1).Status,a3⟩:Event)]:List Event)).bind fun a6=>bif (a6 != 0) then out (out (some 1)) else (iter (gL a1 a3) (a8,a5,a7,a4,a9,0)))
noncomputable def jU (a0:History) (a5:List ByteArray) (a2:List Int) (a4:List (List Int)) (a1:List Int) (a6:List Int) (a3:Int) (a7:Bool):Option ((List ByteArray×List Int×(List (List Int))×List Int×List Int×Int) ⊕ Int) :=
 bif a7 then out (some 1) else (iter (gM a0 a5 a2 a4 a1 a6 a3) ([],0))
noncomputable def jV (a0:History):(List ByteArray×List Int×(List (List Int))×List Int×List Int×Int)→Option ((List ByteArray×List Int×(List (List Int))×List Int×List Int×Int) ⊕ Int)
 | (a5,a3,a4,a2,a6,a1)=>bif decide (a1 < (a0.Txns.length:Int)) then must (0≤a1∧a1 < (a0.Txns.length:Int)) ((aU a0.Txns a1).bind fun a7=>bif !a7 then jU a0 a5 a3 a4 a2 a6 a1 true else (jU a0 a5 a3 a4 a2 a6 a1 (decide ((((idx a0.Txns a1).Ops).length:Int) > 16)))) else (out (some 0))
noncomputable def iR (a0:History) (a1:Bool):Option Int :=
 bif a1 then some 1 else (iter (jV a0) ([],[],[],[],[],0))
noncomputable def aA (a0:History):Option Int :=
 (dJ a0.Keys).bind fun a1=>bif !a1 then iR a0 true else (iR a0 (decide ((a0.Txns.length:Int) > 32)))
noncomputable def gN (a0:Int):Option Bool :=
 some (decide (a0≤4))
noncomputable def eU (a0:Bool):Option Int :=
 bif !a0 then some 80 else (some 0)
noncomputable def qB (a1:Int) (a0:Bool):Option ((Bool×Int) ⊕ Int) :=
 some (.inl (a0,w64 (a1 + 1)))
noncomputable def mr (a1:List Int):(Bool×Int)→Option ((Bool×Int) ⊕ Int)
 | (a2,a0)=>bif decide (a0 < (a1.length:Int)) then bif a2 then must (0≤w64 (a0 - 1)∧w64 (a0 - 1) < (a1.length:Int)) (must (0≤a0∧a0 < (a1.length:Int)) (qB a0 (decide (idx a1 (w64 (a0 - 1)) < idx a1 a0)))) else (qB a0 false) else (out (eU a2))
noncomputable def eX (a0:Int) (a1:List Int) (b5:Bool):Option Int :=
 bif b5 then some 1 else (bif (a0 == 1) then eU (decide ((a1.length:Int)≤1)) else (bif (a0 == 4) then eU ((a1.length:Int) == 1) else (bif (a0 == 3) then iter (mr a1) (decide ((a1.length:Int)≤64),1) else (eU (decide ((a1.length:Int)≤64))))))
noncomputable def aP (a0:Int) (a1:List Int):Option Int :=
 bif decide (a0 < 1) then eX a0 a1 true else (eX a0 a1 (decide (a0 > 4)))
noncomputable def tX (a0:List Int) (a1:Int):Int→Option (Int ⊕ Bool)
 | a2=>bif decide (a2 < (a0.length:Int)) then must (0≤a2∧a2 < (a0.length:Int)) (bif (idx a0 a2 == a1) then out (some true) else (some (.inl (w64 (a2 + 1))))) else (out (some false))
noncomputable def gP (a0:List Int) (a1:Int):Option Bool :=
 iter (tX a0 a1) 0
noncomputable def uG (a2:List Int):(Int×Int)→Option ((Int×Int) ⊕ (List Int×Bool))
 | (a1,a0)=>bif decide (a0 < (a2.length:Int)) then must (0≤a0∧a0 < (a2.length:Int)) (some (.inl (w64 (a1 - (idx a2 a0)),w64 (a0 + 1)))) else (out (some (([a1]:List Int),true)))
noncomputable def lC (a1:List Int) (a2:List Int):Int→Option (Int ⊕ (List Int×Bool))
 | a0=>bif decide (a0 < (a2.length:Int)) then must (0≤w64 ((w64 ((a1.length:Int) - (a2.length:Int))) + a0)∧w64 ((w64 ((a1.length:Int) - (a2.length:Int))) + a0) < (a1.length:Int)) (must (0≤a0∧a0 < (a2.length:Int)) (bif (idx a1 (w64 ((w64 ((a1.length:Int) - (a2.length:Int))) + a0)) != idx a2 a0) then out (some (([]:List Int),false)) else (some (.inl (w64 (a0 + 1)))))) else (must (0≤(0:Int)∧(0:Int)≤(w64 ((a1.length:Int) - (a2.length:Int)))∧(w64 ((a1.length:Int) - (a2.length:Int)))≤(a1.length:Int)) (must (((0 + ((eQ a1 (0:Int) (w64 ((a1.length:Int) - (a2.length:Int)))).length)) + (0 + ((eQ a1 (0:Int) (w64 ((a1.length:Int) - (a2.length:Int)))).length)) / 4 + 192) * 8≤281474976710656∧0 + ((eQ a1 (0:Int) (w64 ((a1.length:Int) - (a2.length:Int)))).length)≤9223372036854775807) (out (some (([]:List Int)++(eQ a1 (0:Int) (w64 ((a1.length:Int) - (a2.length:Int)))),true)))))
noncomputable def jE (a0:Int) (a1:Bool):Option (Int ⊕ (List Int×Bool)) :=
 bif a1 then out (some (([]:List Int),false)) else (some (.inl (w64 (a0 + 1))))
noncomputable def pu (a0:Int) (a1:List Int):Option ((List Int×Int) ⊕ (Int ⊕ (List Int×Bool))) :=
 some (.inl (a1,w64 (a0 + 1)))
noncomputable def lD (a1:List Int) (a2:List Int):(List Int×Int)→Option ((List Int×Int) ⊕ (Int ⊕ (List Int×Bool)))
 | (a3,a0)=>bif decide (a0 < (a1.length:Int)) then must (0≤a0∧a0 < (a1.length:Int)) ((gP a2 (idx a1 a0)).bind fun a4=>bif !a4 then must (((a3.length + 1) + (a3.length + 1) / 4 + 192) * 8≤281474976710656∧a3.length + 1≤9223372036854775807) (pu a0 (a3++([idx a1 a0]:List Int))) else (pu a0 a3)) else (out (out (some (a3,true))))
noncomputable def lF (a1:List Int) (a2:List Int):Int→Option (Int ⊕ (List Int×Bool))
 | a0=>bif decide (a0 < (a2.length:Int)) then must (0≤a0∧a0 < (a2.length:Int)) ((gP a1 (idx a2 a0)).bind fun a4=>bif !a4 then jE a0 true else (must (0≤(0:Int)∧(0:Int)≤a0∧a0≤(a2.length:Int)) ((gP (eQ a2 (0:Int) a0) (idx a2 a0)).bind fun a3=>jE a0 a3))) else (iter (lD a1 a2) ([],0))
noncomputable def iB (a0:Int) (a1:List Int) (a2:List Int) (b9:Bool):Option (List Int×Bool) :=
 bif b9 then some (([]:List Int),false) else (bif (a0 == 1) then bif ((a1.length:Int) == 1) then must (0≤(0:Int)∧(0:Int) < (a1.length:Int)) (must (0≤w64 ((a2.length:Int) - 1)∧w64 ((a2.length:Int) - 1) < (a2.length:Int)) (some (([]:List Int),(idx a1 (0:Int) == idx a2 (w64 ((a2.length:Int) - 1)))))) else (some (([]:List Int),false)) else (bif (a0 == 4) then must (0≤(0:Int)∧(0:Int) < (a1.length:Int)) (iter (uG a2) (idx a1 (0:Int),0)) else (bif (a0 == 2) then bif decide ((a2.length:Int) > (a1.length:Int)) then some (([]:List Int),false) else (iter (lC a1 a2) 0) else (iter (lF a1 a2) 0))))
noncomputable def aM (a0:Int) (a1:List Int) (a2:List Int):Option (List Int×Bool) :=
 (aP a0 a1).bind fun a3=>bif (a3 != 0) then iB a0 a1 a2 true else (iB a0 a1 a2 ((a2.length:Int) == 0))
noncomputable def jb (a1:Int) (a2:List Ask) (a0:List iy):Option ((List Ask×List iy×Int) ⊕ (List Ask×List iy)) :=
 some (.inl (a2,a0,w64 (a1 + 1)))
noncomputable def qa (a0:Int) (a1:List Int):Option ((List Int×Int) ⊕ ((List Ask×List iy×Int) ⊕ (List Ask×List iy))) :=
 some (.inl (a1,w64 (a0 + 1)))
noncomputable def qb (a0:History) (a1:Int) (a3:List Int) (a2:Int) (a4:Bool):Option ((List Int×Int) ⊕ ((List Ask×List iy×Int) ⊕ (List Ask×List iy))) :=
 bif a4 then must (0≤a2∧a2 < (((idx a0.Txns a1).Ops).length:Int)) (must (((a3.length + 1) + (a3.length + 1) / 4 + 192) * 8≤281474976710656∧a3.length + 1≤9223372036854775807) (qa a2 (a3++([(idx ((idx a0.Txns a1).Ops) a2).Arg]:List Int)))) else (qa a2 a3)
noncomputable def qc (a0:History) (a1:Int) (a2:List Ask) (a4:List iy) (a3:Int) (a5:List Int):Option ((List Int×Int) ⊕ ((List Ask×List iy×Int) ⊕ (List Ask×List iy))) :=
 must (((a2.length + 1) + (a2.length + 1) / 4 + 192) * 48≤281474976710656∧a2.length + 1≤9223372036854775807) (out (jb a3 (a2++([(⟨a1,a3,(idx ((idx a0.Txns a1).Ops) a3).Key,a5⟩:Ask)]:List Ask)) a4))
noncomputable def tY (a0:History) (a1:Int) (a5:List Ask) (a3:List iy) (a2:Int):(List Int×Int)→Option ((List Int×Int) ⊕ ((List Ask×List iy×Int) ⊕ (List Ask×List iy)))
 | (a6,a4)=>bif decide (a4 < a2) then must (0≤a4∧a4 < (((idx a0.Txns a1).Ops).length:Int)) (bif ((idx ((idx a0.Txns a1).Ops) a4).Key == (idx ((idx a0.Txns a1).Ops) a2).Key) then (gN ((idx ((idx a0.Txns a1).Ops) a4).Kind)).bind fun a8=>qb a0 a1 a6 a4 a8 else (qb a0 a1 a6 a4 false)) else (must (((0 + (((idx ((idx a0.Txns a1).Ops) a2).Vals).length)) + (0 + (((idx ((idx a0.Txns a1).Ops) a2).Vals).length)) / 4 + 192) * 8≤281474976710656∧0 + (((idx ((idx a0.Txns a1).Ops) a2).Vals).length)≤9223372036854775807) (bif decide ((a6.length:Int) > 0) then (iG ((idx ((idx a0.Txns a1).Ops) a2).Kind)).bind fun a9=>(aM a9 ((idx ((idx a0.Txns a1).Ops) a2).Vals) a6).bind fun a7=>bif !a7.2 then must (((a3.length + 1) + (a3.length + 1) / 4 + 192) * 16≤281474976710656∧a3.length + 1≤9223372036854775807) (out (jb a2 a5 (a3++([(⟨a1,a2⟩:iy)]:List iy)))) else (bif ((idx ((idx a0.Txns a1).Ops) a2).Kind == 5) then out (jb a2 a5 a3) else (qc a0 a1 a5 a3 a2 a7.1)) else (qc a0 a1 a5 a3 a2 (([]:List Int)++((idx ((idx a0.Txns a1).Ops) a2).Vals)))))
noncomputable def tZ (a0:History) (a1:Int):(List Ask×List iy×Int)→Option ((List Ask×List iy×Int) ⊕ (List Ask×List iy))
 | (a4,a3,a2)=>bif decide (a2 < (((idx a0.Txns a1).Ops).length:Int)) then must (0≤a2∧a2 < (((idx a0.Txns a1).Ops).length:Int)) ((gN ((idx ((idx a0.Txns a1).Ops) a2).Kind)).bind fun a5=>bif a5 then jb a2 a4 a3 else (iter (tY a0 a1 a4 a3 a2) ([],0))) else (out (some (a4,a3)))
noncomputable def bA (a0:History) (a1:Int):Option (List Ask×List iy) :=
 must (0≤a1∧a1 < (a0.Txns.length:Int)) (bif ((idx a0.Txns a1).Status != 1) then some (([]:List Ask),([]:List iy)) else (iter (tZ a0 a1) ([],[],0)))
noncomputable def sK (a0:History):(List Ask×List iy×Int)→Option ((List Ask×List iy×Int) ⊕ (List Ask×List iy))
 | (a2,a3,a4)=>bif decide (a4 < (a0.Txns.length:Int)) then (bA a0 a4).bind fun a1=>must (((a2.length + a1.1.length) + (a2.length + a1.1.length) / 4 + 192) * 48≤281474976710656∧a2.length + a1.1.length≤9223372036854775807) (must (((a3.length + a1.2.length) + (a3.length + a1.2.length) / 4 + 192) * 16≤281474976710656∧a3.length + a1.2.length≤9223372036854775807) (some (.inl (a2++a1.1,a3++a1.2,w64 (a4 + 1))))) else (out (some (a2,a3)))
noncomputable def gU (a0:History):Option (List Ask×List iy) :=
 iter (sK a0) ([],[],0)
noncomputable def jW (a1:Int) (a0:List Edge):Option ((List Edge×Int) ⊕ (List Edge)) :=
 some (.inl (a0,w64 (a1 + 1)))
noncomputable def mD (a1:Int) (a0:List Edge):Option ((List Edge×Int) ⊕ (List Edge)) :=
 jW a1 a0
noncomputable def mE (a0:List Edge) (a2:Int) (a1:Int) (a3:Bool):Option (Int ⊕ ((List Edge×Int) ⊕ (List Edge))) :=
 bif a3 then must (((a0.length + 1) + (a0.length + 1) / 4 + 192) * 32≤281474976710656∧a0.length + 1≤9223372036854775807) (out (mD a2 (a0++([(⟨a2,a1,1,(-1)⟩:Edge)]:List Edge)))) else (some (.inl (w64 (a1 + 1))))
noncomputable def qC (a0:History) (a3:List Edge) (a2:Int):Int→Option (Int ⊕ ((List Edge×Int) ⊕ (List Edge)))
 | a1=>bif decide (a1 < (a0.Txns.length:Int)) then must (0≤a1∧a1 < (a0.Txns.length:Int)) (bif ((idx a0.Txns a1).Status == 1) then mE a3 a2 a1 ((idx a0.Txns a1).Proc == (idx a0.Txns a2).Proc) else (mE a3 a2 a1 false)) else (out (mD a2 a3))
noncomputable def mF (a1:Int) (a0:List Edge):Option ((List Edge×Int) ⊕ ((List Edge×Int) ⊕ ((List Edge×Int) ⊕ (List Edge)))) :=
 some (.inl (a0,w64 (a1 + 1)))
noncomputable def jX (a3:Int) (a0:List Edge) (a1:Int) (a2:Bool):Option ((List Edge×Int) ⊕ ((List Edge×Int) ⊕ ((List Edge×Int) ⊕ (List Edge)))) :=
 bif a2 then must (((a0.length + 1) + (a0.length + 1) / 4 + 192) * 32≤281474976710656∧a0.length + 1≤9223372036854775807) (mF a1 (a0++([(⟨a3,a1,2,(-1)⟩:Edge)]:List Edge))) else (mF a1 a0)
noncomputable def qD (a0:History) (a2:Int):(List Edge×Int)→Option ((List Edge×Int) ⊕ ((List Edge×Int) ⊕ ((List Edge×Int) ⊕ (List Edge))))
 | (a3,a1)=>bif decide (a1 < (a0.Txns.length:Int)) then must (0≤a2∧a2 < (a0.Txns.length:Int)) (bif ((idx a0.Txns a2).Status == 1) then must (0≤a1∧a1 < (a0.Txns.length:Int)) (bif ((idx a0.Txns a1).Status == 1) then jX a2 a3 a1 (decide ((idx a0.Txns a2).To < (idx a0.Txns a1).From)) else (jX a2 a3 a1 false)) else (jX a2 a3 a1 false)) else (out (some (.inl (a3,w64 (a2 + 1)))))
noncomputable def mG (a0:History):(List Edge×Int)→Option ((List Edge×Int) ⊕ ((List Edge×Int) ⊕ (List Edge)))
 | (a1,a2)=>bif decide (a2 < (a0.Txns.length:Int)) then iter (qD a0 a2) (a1,0) else (out (out (some a1)))
noncomputable def qE (a0:History):(List Edge×Int)→Option ((List Edge×Int) ⊕ (List Edge))
 | (a2,a1)=>bif decide (a1 < (a0.Txns.length:Int)) then must (0≤a1∧a1 < (a0.Txns.length:Int)) (bif ((idx a0.Txns a1).Status != 1) then jW a1 a2 else (iter (qC a0 a2 a1) (w64 (a1 + 1)))) else (iter (mG a0) (a2,0))
noncomputable def aG (a0:History):Option (List Edge) :=
 iter (qE a0) ([],0)
noncomputable def kR (a0:History) (a1:Ask):Option Int :=
 must (0≤a1.Txn∧a1.Txn < (a0.Txns.length:Int)) (must (0≤a1.Place∧a1.Place < (((idx a0.Txns a1.Txn).Ops).length:Int)) ((iG ((idx ((idx a0.Txns a1.Txn).Ops) a1.Place).Kind)).bind fun a2=>some a2))
noncomputable def mH (a1:Int) (a0:List Int):Option ((List Int×Int) ⊕ (List Int)) :=
 some (.inl (a0,w64 (a1 + 1)))
noncomputable def mI (a0:History) (a1:Int) (a2:List Int) (a3:Int) (a4:Bool):Option ((List Int×Int) ⊕ (List Int)) :=
 bif a4 then must (((a2.length + 1) + (a2.length + 1) / 4 + 192) * 8≤281474976710656∧a2.length + 1≤9223372036854775807) (mH a3 (a2++([(idx ((idx a0.Txns a1).Ops) a3).Arg]:List Int))) else (mH a3 a2)
noncomputable def qF (a0:History) (a1:Int) (a2:Int):(List Int×Int)→Option ((List Int×Int) ⊕ (List Int))
 | (a4,a3)=>must (0≤a1∧a1 < (a0.Txns.length:Int)) (bif decide (a3 < (((idx a0.Txns a1).Ops).length:Int)) then must (0≤a3∧a3 < (((idx a0.Txns a1).Ops).length:Int)) (bif ((idx ((idx a0.Txns a1).Ops) a3).Key == a2) then (gN ((idx ((idx a0.Txns a1).Ops) a3).Kind)).bind fun a5=>mI a0 a1 a4 a3 a5 else (mI a0 a1 a4 a3 false)) else (out (some a4)))
noncomputable def aS (a0:History) (a1:Int) (a2:Int):Option (List Int) :=
 iter (qF a0 a1 a2) ([],0)
noncomputable def lG (a1:Int) (a0:List Int):Option ((List Int×Int) ⊕ (List Int)) :=
 some (.inl (a0,w64 (a1 + 1)))
noncomputable def jF (a0:List Int) (a1:Int) (a2:Bool):Option ((List Int×Int) ⊕ (List Int)) :=
 bif a2 then must (((a0.length + 1) + (a0.length + 1) / 4 + 192) * 8≤281474976710656∧a0.length + 1≤9223372036854775807) (lG a1 (a0++([a1]:List Int))) else (lG a1 a0)
noncomputable def pz (a0:History) (a1:Ask):(List Int×Int)→Option ((List Int×Int) ⊕ (List Int))
 | (a3,a2)=>bif decide (a2 < (a0.Txns.length:Int)) then bif (a2 != a1.Txn) then must (0≤a2∧a2 < (a0.Txns.length:Int)) (bif ((idx a0.Txns a2).Status != 2) then (aS a0 a2 a1.Key).bind fun a4=>jF a3 a2 (decide ((a4.length:Int) > 0)) else (jF a3 a2 false)) else (jF a3 a2 false) else (out (some a3))
noncomputable def bq (a0:History) (a1:Ask):Option (List Int) :=
 iter (pz a0 a1) ([],0)
noncomputable def sM (y7:List Int):(Int×Int)→Option ((Int×Int) ⊕ Int)
 | (a1,a0)=>bif decide (a0 < (y7.length:Int)) then must (0≤a0∧a0 < (y7.length:Int)) (some (.inl (w64 (a1 + (idx y7 a0)),w64 (a0 + 1)))) else (out (some a1))
noncomputable def iN (a0:History) (a1:Int) (a2:Int):Option Int :=
 (aS a0 a1 a2).bind fun y7=>iter (sM y7) (0,0)
noncomputable def lH (a1:Int) (a0:Int):Option ((Int×Int) ⊕ ((List Bool×Int) ⊕ (List Int))) :=
 some (.inl (a0,w64 (a1 + 1)))
noncomputable def lI (a0:Int) (a1:List Bool):Option ((List Bool×Int) ⊕ ((Int×Int) ⊕ ((List Bool×Int) ⊕ (List Int)))) :=
 some (.inl (a1,w64 (a0 + 1)))
noncomputable def lJ (a2:Int) (a1:List Bool) (a0:Int) (a3:Bool):Option ((List Bool×Int) ⊕ ((Int×Int) ⊕ ((List Bool×Int) ⊕ (List Int)))) :=
 bif a3 then must (0≤a0∧a0 < (a1.length:Int)) (bif idx a1 a0 then lI a0 (a1.set a0.toNat true) else (must (0≤a0∧a0 < (far:Int)) (lI a0 (a1.set a0.toNat (dI .i64 (fq .i64 a2 a0) 1 == 1))))) else (out (out (some (.inl (a1,w64 (a2 + 1))))))
noncomputable def pE (a1:Ask) (y9:List Int) (a2:Int) (a4:Int):(List Bool×Int)→Option ((List Bool×Int) ⊕ ((Int×Int) ⊕ ((List Bool×Int) ⊕ (List Int))))
 | (a3,a0)=>bif decide (a0 < (y9.length:Int)) then must (0≤(0:Int)∧(0:Int) < (a1.Base.length:Int)) (lJ a2 a3 a0 (a4 == idx a1.Base (0:Int))) else (lJ a2 a3 a0 false)
noncomputable def pF (a0:History) (a1:Ask) (y9:List Int) (a5:List Bool) (a4:Int):(Int×Int)→Option ((Int×Int) ⊕ ((List Bool×Int) ⊕ (List Int)))
 | (a3,a2)=>bif decide (a2 < (y9.length:Int)) then must (0≤a2∧a2 < (far:Int)) (bif (dI .i64 (fq .i64 a4 a2) 1 == 1) then must (0≤a2∧a2 < (y9.length:Int)) ((iN a0 (idx y9 a2) a1.Key).bind fun a6=>lH a2 (w64 (a3 + a6))) else (lH a2 a3)) else (iter (pE a1 y9 a4 a3) (a5,0))
noncomputable def lK (a1:Int) (a0:List Int):Option ((List Int×Int) ⊕ ((List Bool×Int) ⊕ (List Int))) :=
 some (.inl (a0,w64 (a1 + 1)))
noncomputable def pG (y9:List Int) (a2:List Bool):(List Int×Int)→Option ((List Int×Int) ⊕ ((List Bool×Int) ⊕ (List Int)))
 | (a1,a0)=>bif decide (a0 < (y9.length:Int)) then must (0≤a0∧a0 < (a2.length:Int)) (bif idx a2 a0 then must (0≤a0∧a0 < (y9.length:Int)) (must (((a1.length + 1) + (a1.length + 1) / 4 + 192) * 8≤281474976710656∧a1.length + 1≤9223372036854775807) (lK a0 (a1++([idx y9 a0]:List Int)))) else (lK a0 a1)) else (out (out (some a1)))
noncomputable def pI (a0:History) (a1:Ask) (y9:List Int):(List Bool×Int)→Option ((List Bool×Int) ⊕ (List Int))
 | (a2,a3)=>must (0≤(y9.length:Int)∧(y9.length:Int) < (far:Int)) (bif decide (a3 < Eu .i64 1 (y9.length:Int)) then iter (pF a0 a1 y9 a2 a3) (0,0) else (iter (pG y9 a2) ([],0)))
noncomputable def aJ (a0:History) (a1:Ask):Option (List Int) :=
 (bq a0 a1).bind fun y9=>must (0≤(y9.length:Int)∧(y9.length:Int)≤9223372036854775807∧(1:Int) * (y9.length:Int)≤281474976710656) (iter (pI a0 a1 y9) (List.replicate (y9.length:Int).toNat (default:Bool),1))
noncomputable def kW (a0:List Int) (a1:List Int):Option Bool :=
 bif decide ((a1.length:Int) > (a0.length:Int)) then some false else (must (0≤(0:Int)∧(0:Int)≤(a1.length:Int)∧(a1.length:Int)≤(a0.length:Int)) ((cO (eQ a0 (0:Int) (a1.length:Int)) a1).bind fun a2=>some a2))
noncomputable def nz (a1:Int) (a0:Int):Option ((Int×Int) ⊕ ((List Int×List Int) ⊕ (List Int×Bool))) :=
 some (.inl (a0,w64 (a1 + 1)))
noncomputable def rJ (a0:History) (a1:Ask) (a2:List Int) (a3:List Int) (a5:Int):Int→Option (Int ⊕ ((Int×Int) ⊕ ((List Int×List Int) ⊕ (List Int×Bool))))
 | a4=>bif decide (a4 < (a2.length:Int)) then must (0≤a4∧a4 < (a2.length:Int)) (bif (idx a2 a4 == a5) then out (out (out (some (([]:List Int),false)))) else (some (.inl (w64 (a4 + 1))))) else (must (((a2.length + 1) + (a2.length + 1) / 4 + 192) * 8≤281474976710656∧a2.length + 1≤9223372036854775807) ((aS a0 a5 a1.Key).bind fun a6=>must (0≤(a6.length:Int)∧(a6.length:Int)≤(a3.length:Int)∧(a3.length:Int)≤(a3.length:Int)) (out (out (some (.inl (a2++([a5]:List Int),eQ a3 (a6.length:Int) (a3.length:Int))))))))
noncomputable def rM (a0:History) (a1:Ask) (y9:List Int) (a7:List Int) (a4:List Int):(Int×Int)→Option ((Int×Int) ⊕ ((List Int×List Int) ⊕ (List Int×Bool)))
 | (a3,a2)=>bif decide (a2 < (y9.length:Int)) then must (0≤a2∧a2 < (y9.length:Int)) ((aS a0 (idx y9 a2) a1.Key).bind fun a6=>(kW a4 a6).bind fun a5=>bif a5 then nz a2 (idx y9 a2) else (nz a2 a3)) else (bif decide (a3 < 0) then out (out (some (([]:List Int),false))) else (iter (rJ a0 a1 a7 a4 a3) 0))
noncomputable def kz (a0:History) (a1:Ask) (y9:List Int):(List Int×List Int)→Option ((List Int×List Int) ⊕ (List Int×Bool))
 | (a3,a2)=>bif decide ((a2.length:Int) > 0) then iter (rM a0 a1 y9 a3 a2) ((-1),0) else (out (some (a3,true)))
noncomputable def bI (a0:History) (a1:Ask):Option (List Int×Bool) :=
 (bq a0 a1).bind fun y9=>iter (kz a0 a1 y9) ([],a1.Base)
noncomputable def qG (a0:List Int) (a1:Int):Int→Option (Int ⊕ Bool)
 | a2=>bif decide (a2 < (a0.length:Int)) then must (0≤a2∧a2 < (a0.length:Int)) (bif (idx a0 a2 == a1) then out (some true) else (some (.inl (w64 (a2 + 1))))) else (out (some false))
noncomputable def gq (a0:List Int) (a1:Int):Option Bool :=
 iter (qG a0 a1) 0
noncomputable def nY (a0:Int) (a1:List Int) (a2:Int):Option ((List Int×Int×Int) ⊕ (List Int×Bool)) :=
 some (.inl (a1,a2,w64 (a0 + 1)))
noncomputable def nZ (a0:Int) (a1:Int):Option ((Int×Int) ⊕ ((List Int×Int×Int) ⊕ (List Int×Bool))) :=
 some (.inl (a1,w64 (a0 + 1)))
noncomputable def og (y9:List Int) (a0:List Int) (a2:Int) (a1:Int) (a3:Int) (a4:Bool):Option ((Int×Int) ⊕ ((List Int×Int×Int) ⊕ (List Int×Bool))) :=
 bif a4 then out (out (some (([]:List Int),false))) else (bif decide (a3 > 0) then must (((a0.length + 1) + (a0.length + 1) / 4 + 192) * 8≤281474976710656∧a0.length + 1≤9223372036854775807) (out (nY a1 (a0++([idx y9 a1]:List Int)) (w64 (a2 + a3)))) else (out (nY a1 a0 a2)))
noncomputable def sN (a1:Ask) (y9:List Int) (a6:List Int) (a4:Int) (a5:Int) (a3:List Int):(Int×Int)→Option ((Int×Int) ⊕ ((List Int×Int×Int) ⊕ (List Int×Bool)))
 | (a0,a2)=>bif decide (a2 < (a3.length:Int)) then must (0≤a2∧a2 < (a3.length:Int)) ((gq a1.Base (idx a3 a2)).bind fun a7=>bif a7 then nZ a2 (w64 (a0 + 1)) else (nZ a2 a0)) else (bif decide (a0 > 0) then og y9 a6 a4 a5 a0 (decide (a0 < (a3.length:Int))) else (og y9 a6 a4 a5 a0 false))
noncomputable def sO (a0:History) (a1:Ask) (y9:List Int):(List Int×Int×Int)→Option ((List Int×Int×Int) ⊕ (List Int×Bool))
 | (a4,a3,a2)=>bif decide (a2 < (y9.length:Int)) then must (0≤a2∧a2 < (y9.length:Int)) ((aS a0 (idx y9 a2) a1.Key).bind fun a5=>iter (sN a1 y9 a4 a3 a2 a5) (0,0)) else (bif (a3 != (a1.Base.length:Int)) then out (some (([]:List Int),false)) else (out (some (a4,true))))
noncomputable def bE (a0:History) (a1:Ask):Option (List Int×Bool) :=
 (bq a0 a1).bind fun y9=>iter (sO a0 a1 y9) ([],0,0)
noncomputable def qd (a0:List Int):Option (List Int) :=
 some a0
noncomputable def jc (a0:List Int):Option (List Int) :=
 some a0
noncomputable def qf (a1:Int) (a0:List Int):Option ((List Int×Int) ⊕ (List Int)) :=
 some (.inl (a0,w64 (a1 + 1)))
noncomputable def qg (a0:History) (a1:Ask) (a5:List Int):(List Int×Int)→Option ((List Int×Int) ⊕ (List Int))
 | (a3,a2)=>bif decide (a2 < (a5.length:Int)) then must (0≤a2∧a2 < (a5.length:Int)) ((aS a0 (idx a5 a2) a1.Key).bind fun a4=>must (0≤w64 ((a4.length:Int) - 1)∧w64 ((a4.length:Int) - 1) < (a4.length:Int)) (must (0≤(0:Int)∧(0:Int) < (a1.Base.length:Int)) (bif (idx a4 (w64 ((a4.length:Int) - 1)) == idx a1.Base (0:Int)) then must (((a3.length + 1) + (a3.length + 1) / 4 + 192) * 8≤281474976710656∧a3.length + 1≤9223372036854775807) (qf a2 (a3++([idx a5 a2]:List Int))) else (qf a2 a3)))) else (out (jc a3))
noncomputable def bL (a0:History) (a1:Ask):Option (List Int) :=
 (kR a0 a1).bind fun y7=>bif (y7 == 4) then (aJ a0 a1).bind fun a3=>must (0≤(0:Int)∧(0:Int) < (a1.Base.length:Int)) (bif (idx a1.Base (0:Int) == 0) then must (((1 + a3.length) + (1 + a3.length) / 4 + 192) * 8≤281474976710656∧1 + a3.length≤9223372036854775807) (qd (([(-1)]:List Int)++a3)) else (qd a3)) else (bif ((a1.Base.length:Int) == 0) then some ([(-1)]:List Int) else (bif (y7 == 1) then (bq a0 a1).bind fun a5=>iter (qg a0 a1 a5) ([],0) else (bif (y7 == 2) then (bI a0 a1).bind fun a2=>bif a2.2 then must (0≤w64 ((a2.1.length:Int) - 1)∧w64 ((a2.1.length:Int) - 1) < (a2.1.length:Int)) (must (((0 + 1) + (0 + 1) / 4 + 192) * 8≤281474976710656∧0 + 1≤9223372036854775807) (jc (([]:List Int)++([idx a2.1 (w64 ((a2.1.length:Int) - 1))]:List Int)))) else (jc []) else ((bE a0 a1).bind fun a4=>bif a4.2 then jc a4.1 else (jc [])))))
noncomputable def kS (a0:History) (a1:Ask):Option (Int×Bool) :=
 (bL a0 a1).bind fun y9=>bif ((y9.length:Int) != 1) then some (0,false) else (must (0≤(0:Int)∧(0:Int) < (y9.length:Int)) (some (idx y9 (0:Int),true)))
noncomputable def kT (a0:History) (a1:Ask):Option (List Int×Bool) :=
 (kR a0 a1).bind fun a4=>bif (a4 == 2) then (bI a0 a1).bind fun a2=>some (a2.1,a2.2) else (bif (a4 == 3) then (bE a0 a1).bind fun a3=>some (a3.1,a3.2) else (some (([]:List Int),false)))
noncomputable def kK (a0:Int) (a1:List Int):Option ((List Int×Int) ⊕ (List Int)) :=
 some (.inl (a1,w64 (a0 + 1)))
noncomputable def jd (a0:List Int) (a1:Int) (a2:Bool):Option ((List Int×Int) ⊕ (List Int)) :=
 bif a2 then must (((a0.length + 1) + (a0.length + 1) / 4 + 192) * 8≤281474976710656∧a0.length + 1≤9223372036854775807) (kK a1 (a0++([a1]:List Int))) else (kK a1 a0)
noncomputable def oh (a0:History) (a1:Int) (a2:Int):(List Int×Int)→Option ((List Int×Int) ⊕ (List Int))
 | (a4,a3)=>bif decide (a3 < (a0.Txns.length:Int)) then bif (a3 != a2) then must (0≤a3∧a3 < (a0.Txns.length:Int)) (bif ((idx a0.Txns a3).Status == 1) then (aS a0 a3 a1).bind fun a5=>jd a4 a3 (decide ((a5.length:Int) > 0)) else (jd a4 a3 false)) else (jd a4 a3 false) else (out (some a4))
noncomputable def bM (a0:History) (a1:Int) (a2:Int):Option (List Int) :=
 iter (oh a0 a1 a2) ([],0)
noncomputable def uf (a0:List Int) (a1:Int):Int→Option (Int ⊕ Bool)
 | a2=>bif decide (a2 < (a0.length:Int)) then must (0≤a2∧a2 < (a0.length:Int)) (bif (idx a0 a2 == a1) then out (some true) else (some (.inl (w64 (a2 + 1))))) else (out (some false))
noncomputable def fQ (a0:List Int) (a1:Int):Option Bool :=
 iter (uf a0 a1) 0
noncomputable def nA (a0:Int):Option (Int ⊕ Bool) :=
 some (.inl (w64 (a0 + 1)))
noncomputable def nC (a1:Int) (a0:Bool):Option (Int ⊕ Bool) :=
 bif a0 then out (some true) else (nA a1)
noncomputable def nD (a0:History) (a1:List Ask) (a4:Int) (a2:Int) (a5:Bool):Option (Int ⊕ Bool) :=
 bif a5 then must (0≤a2∧a2 < (a1.length:Int)) ((kS a0 (idx a1 a2)).bind fun a3=>bif a3.2 then nC a2 (a3.1 == a4) else (nC a2 false)) else (nA a2)
noncomputable def rO (a0:History) (a1:List Ask) (a2:Int) (a3:Int) (a4:Int):Int→Option (Int ⊕ Bool)
 | a5=>bif decide (a5 < (a1.length:Int)) then must (0≤a5∧a5 < (a1.length:Int)) (bif ((idx a1 a5).Txn == a2) then nD a0 a1 a4 a5 ((idx a1 a5).Key == a3) else (nD a0 a1 a4 a5 false)) else (out (some false))
noncomputable def bJ (a0:History) (a1:List Ask) (a2:Int) (a3:Int) (a4:Int):Option Bool :=
 iter (rO a0 a1 a2 a3 a4) 0
noncomputable def kX (a1:Int) (a0:List Edge):Option ((List Edge×Int) ⊕ (List Edge)) :=
 some (.inl (a0,w64 (a1 + 1)))
noncomputable def om (a0:Int) (a1:List Edge):Option ((List Edge×Int) ⊕ ((List Edge×Int) ⊕ (List Edge))) :=
 some (.inl (a1,w64 (a0 + 1)))
noncomputable def oo (a2:Ask) (a5:List Int×Bool) (a3:List Int) (a4:Int):(List Edge×Int)→Option ((List Edge×Int) ⊕ ((List Edge×Int) ⊕ (List Edge)))
 | (a1,a0)=>bif decide (a0 < (a3.length:Int)) then must (0≤a0∧a0 < (a3.length:Int)) ((fQ a5.1 (idx a3 a0)).bind fun a6=>bif !a6 then must (0≤a4∧a4 < (a5.1.length:Int)) (must (((a1.length + 1) + (a1.length + 1) / 4 + 192) * 32≤281474976710656∧a1.length + 1≤9223372036854775807) (om a0 (a1++([(⟨idx a5.1 a4,idx a3 a0,8,a2.Key⟩:Edge)]:List Edge)))) else (om a0 a1)) else (out (kX a4 a1))
noncomputable def oq (a2:Ask) (a3:List Int×Bool) (a4:List Int) (a1:List Edge) (a0:Int) (a5:Bool):Option ((List Edge×Int) ⊕ (List Edge)) :=
 bif a5 then must (0≤a0∧a0 < (a3.1.length:Int)) (must (0≤w64 (a0 + 1)∧w64 (a0 + 1) < (a3.1.length:Int)) (must (((a1.length + 1) + (a1.length + 1) / 4 + 192) * 32≤281474976710656∧a1.length + 1≤9223372036854775807) (kX a0 (a1++([(⟨idx a3.1 a0,idx a3.1 (w64 (a0 + 1)),8,a2.Key⟩:Edge)]:List Edge))))) else (iter (oo a2 a3 a4 a0) (a1,0))
noncomputable def nE (a1:Int) (a0:List Edge):Option ((List Edge×Int) ⊕ ((List Edge×Int) ⊕ (List Edge))) :=
 some (.inl (a0,w64 (a1 + 1)))
noncomputable def ig (a2:Ask) (a3:List Int) (a0:List Edge) (a1:Int) (a4:Bool):Option ((List Edge×Int) ⊕ ((List Edge×Int) ⊕ (List Edge))) :=
 bif a4 then must (0≤a1∧a1 < (a3.length:Int)) (must (((a0.length + 1) + (a0.length + 1) / 4 + 192) * 32≤281474976710656∧a0.length + 1≤9223372036854775807) (nE a1 (a0++([(⟨a2.Txn,idx a3 a1,16,a2.Key⟩:Edge)]:List Edge)))) else (nE a1 a0)
noncomputable def jh (a0:History) (a1:List Ask) (a2:Ask) (a7:Int×Bool) (a4:List Int) (a5:List Edge) (a3:Int) (a8:Bool) (a9:Bool):Option ((List Edge×Int) ⊕ ((List Edge×Int) ⊕ (List Edge))) :=
 bif a9 then must (0≤a3∧a3 < (a4.length:Int)) ((bJ a0 a1 (idx a4 a3) a2.Key a7.1).bind fun a6=>ig a2 a4 a5 a3 a6) else (ig a2 a4 a5 a3 a8)
noncomputable def eG (a0:History) (a1:List Ask) (a2:Ask) (a8:Int) (a4:Int×Bool) (a5:List Int) (a6:List Edge) (a3:Int) (a7:Bool):Option ((List Edge×Int) ⊕ ((List Edge×Int) ⊕ (List Edge))) :=
 bif (a8 == 1) then bif a4.2 then bif (a4.1 != (-1)) then must (0≤a3∧a3 < (a5.length:Int)) (jh a0 a1 a2 a4 a5 a6 a3 a7 (idx a5 a3 != a4.1)) else (jh a0 a1 a2 a4 a5 a6 a3 a7 false) else (jh a0 a1 a2 a4 a5 a6 a3 a7 false) else (jh a0 a1 a2 a4 a5 a6 a3 a7 false)
noncomputable def ou (a0:History) (a1:List Ask) (a2:Ask) (a7:Int) (a5:Int×Bool) (a9:List Int×Bool) (a8:Bool) (a4:List Int):(List Edge×Int)→Option ((List Edge×Int) ⊕ ((List Edge×Int) ⊕ (List Edge)))
 | (a6,a3)=>bif decide (a3 < (a4.length:Int)) then bif a5.2 then bif (a5.1 == (-1)) then eG a0 a1 a2 a7 a5 a4 a6 a3 true else (bif a8 then must (0≤a3∧a3 < (a4.length:Int)) ((fQ a9.1 (idx a4 a3)).bind fun b0=>eG a0 a1 a2 a7 a5 a4 a6 a3 (!b0)) else (eG a0 a1 a2 a7 a5 a4 a6 a3 false)) else (bif a8 then must (0≤a3∧a3 < (a4.length:Int)) ((fQ a9.1 (idx a4 a3)).bind fun b1=>eG a0 a1 a2 a7 a5 a4 a6 a3 (!b1)) else (eG a0 a1 a2 a7 a5 a4 a6 a3 false)) else (out (out (some a6)))
noncomputable def iQ (a0:History) (a1:List Ask) (a2:Ask) (a7:Int) (b0:Int×Bool) (a3:List Int×Bool) (a8:Bool) (a4:List Int) (a6:List Edge) (a5:Int) (a9:Bool):Option ((List Edge×Int) ⊕ (List Edge)) :=
 bif a9 then bif (a7 == 2) then oq a2 a3 a4 a6 a5 (decide (w64 (a5 + 1) < (a3.1.length:Int))) else (oq a2 a3 a4 a6 a5 false) else (iter (ou a0 a1 a2 a7 b0 a3 a8 a4) (a6,0))
noncomputable def ow (a0:History) (a1:List Ask) (a2:Ask) (a6:Int) (a8:Int×Bool) (a5:List Int×Bool) (a3:Bool) (a7:List Int):(List Edge×Int)→Option ((List Edge×Int) ⊕ (List Edge))
 | (a9,a4)=>bif decide (a4 < (a5.1.length:Int)) then iQ a0 a1 a2 a6 a8 a5 a3 a7 a9 a4 a3 else (iQ a0 a1 a2 a6 a8 a5 a3 a7 a9 a4 false)
noncomputable def kY (a0:History) (a1:List Ask) (a2:Ask) (a4:Int) (a6:Int×Bool) (a7:List Edge) (a8:List Int×Bool) (a3:Bool):Option (List Edge) :=
 (bM a0 a2.Key a2.Txn).bind fun a5=>iter (ow a0 a1 a2 a4 a6 a8 a3 a5) (a7,0)
noncomputable def jL (a0:History) (a1:List Ask) (a2:Ask) (a5:Int) (a4:Int×Bool) (a6:List Edge):Option (List Edge) :=
 (kT a0 a2).bind fun a3=>bif a3.2 then kY a0 a1 a2 a5 a4 a6 a3 (decide ((a2.Base.length:Int) > 0)) else (kY a0 a1 a2 a5 a4 a6 a3 false)
noncomputable def nG (a0:History) (a1:List Ask) (a2:Ask) (a4:Int) (a3:Int×Bool) (a5:Bool):Option (List Edge) :=
 bif a5 then must (((0 + 1) + (0 + 1) / 4 + 192) * 32≤281474976710656∧0 + 1≤9223372036854775807) (jL a0 a1 a2 a4 a3 (([]:List Edge)++([(⟨a3.1,a2.Txn,4,a2.Key⟩:Edge)]:List Edge))) else (jL a0 a1 a2 a4 a3 [])
noncomputable def aj (a0:History) (a1:List Ask) (a2:Ask):Option (List Edge) :=
 must (0≤a2.Txn∧a2.Txn < (a0.Txns.length:Int)) (must (0≤a2.Place∧a2.Place < (((idx a0.Txns a2.Txn).Ops).length:Int)) ((iG ((idx ((idx a0.Txns a2.Txn).Ops) a2.Place).Kind)).bind fun a4=>(kS a0 a2).bind fun a3=>bif a3.2 then nG a0 a1 a2 a4 a3 (a3.1 != (-1)) else (nG a0 a1 a2 a4 a3 false)))
noncomputable def ug (a1:Int) (a0:List Edge):Option ((List Edge×Int) ⊕ jw) :=
 some (.inl (a0,w64 (a1 + 1)))
noncomputable def uh (a0:History) (a4:List Ask×List iy):(List Edge×Int)→Option ((List Edge×Int) ⊕ jw)
 | (a1,a2)=>bif decide (a2 < (a4.1.length:Int)) then must (0≤a2∧a2 < (a4.1.length:Int)) ((aj a0 a4.1 (idx a4.1 a2)).bind fun a3=>must (((a1.length + a3.length) + (a1.length + a3.length) / 4 + 192) * 32≤281474976710656∧a1.length + a3.length≤9223372036854775807) (ug a2 (a1++a3))) else (out (some (⟨(a0.Txns.length:Int),a1⟩:jw)))
noncomputable def ui (a0:History) (a2:List Edge):Option jw :=
 (gU a0).bind fun a1=>iter (uh a0 a1) (a2,0)
noncomputable def dS (a0:History):Option jw :=
 (aG a0).bind fun a1=>ui a0 a1
noncomputable def iq (a0:History):Option (jw×Int) :=
 (aA a0).bind fun a1=>bif (a1 != 0) then some ((⟨0,([]:List Edge)⟩:jw),1) else ((dS a0).bind fun a2=>some (a2,0))
noncomputable def mR (a0:List Edge) (a1:List Edge):Int→Option (Int ⊕ Bool)
 | a2=>bif decide (a2 < (a0.length:Int)) then must (0≤a2∧a2 < (a0.length:Int)) (must (0≤a2∧a2 < (a1.length:Int)) (bif !(((idx a0 a2).From == (idx a1 a2).From) && (((idx a0 a2).To == (idx a1 a2).To) && (((idx a0 a2).Kind == (idx a1 a2).Kind) && (((idx a0 a2).Key == (idx a1 a2).Key) && true)))) then out (some false) else (some (.inl (w64 (a2 + 1)))))) else (out (some true))
noncomputable def dX (a0:List Edge) (a1:List Edge):Option Bool :=
 bif ((a0.length:Int) != (a1.length:Int)) then some false else (iter (mR a0 a1) 0)
noncomputable def kM (a0:History):Option Bool :=
 (kg).bind fun y8=>bif !y8 then some false else ((dZ a0).bind fun a3=>(di a3).bind fun a2=>(iq a0).bind fun a1=>bif (a2.2 == a1.2) then bif (a2.1.N == a1.1.N) then (dX a2.1.Edges a1.1.Edges).bind fun a5=>bif a5 then (aK a3 a0).bind fun a4=>some a4 else (some false) else (some false) else (some false))
noncomputable def lL (a1:List Int) (a2:List Int) (a0:Int) (a3:Bool):Option ((List Int×Int) ⊕ (List Int×Bool)) :=
 bif a3 then out (some (([]:List Int),false)) else (must (0≤idx a1 a0∧idx a1 a0 < (a2.length:Int)) (some (.inl (a2.set (idx a1 a0).toNat (w64 (a0 + 1)),w64 (a0 + 1)))))
noncomputable def uH (a0:Int) (a1:Bool):Option (Int ⊕ ((List Int×Int) ⊕ (List Int×Bool))) :=
 bif a1 then out (out (some (([]:List Int),false))) else (some (.inl (w64 (a0 + 1))))
noncomputable def zJ (a0:History) (a2:List Int):Int→Option (Int ⊕ ((List Int×Int) ⊕ (List Int×Bool)))
 | a1=>bif decide (a1 < (a0.Txns.length:Int)) then must (0≤a1∧a1 < (a0.Txns.length:Int)) (bif ((idx a0.Txns a1).Status == 1) then must (0≤a1∧a1 < (a2.length:Int)) (uH a1 (idx a2 a1 == 0)) else (uH a1 false)) else (out (out (some (a2,true))))
noncomputable def zK (a0:History) (a1:List Int):(List Int×Int)→Option ((List Int×Int) ⊕ (List Int×Bool))
 | (a3,a2)=>bif decide (a2 < (a1.length:Int)) then must (0≤a2∧a2 < (a1.length:Int)) (bif decide (idx a1 a2 < 0) then lL a1 a3 a2 true else (bif decide (idx a1 a2 ≥ (a0.Txns.length:Int)) then lL a1 a3 a2 true else (must (0≤idx a1 a2∧idx a1 a2 < (a3.length:Int)) (bif (idx a3 (idx a1 a2) != 0) then lL a1 a3 a2 true else (must (0≤idx a1 a2∧idx a1 a2 < (a0.Txns.length:Int)) (lL a1 a3 a2 ((idx a0.Txns (idx a1 a2)).Status == 2))))))) else (iter (zJ a0 a3) 0)
noncomputable def dK (a0:History) (a1:List Int):Option (List Int×Bool) :=
 must (0≤(a0.Txns.length:Int)∧(a0.Txns.length:Int)≤9223372036854775807∧(8:Int) * (a0.Txns.length:Int)≤281474976710656) (iter (zK a0 a1) (List.replicate (a0.Txns.length:Int).toNat (default:Int),0))
noncomputable def zL (a1:List Int) (a0:Int):Option ((List Int×Int) ⊕ ((List Int×Int) ⊕ (List Int))) :=
 some (.inl ((a1.set a0.toNat (idx a1 (w64 (a0 - 1)))).set (w64 (a0 - 1)).toNat (idx a1 a0),w64 (a0 - 1)))
noncomputable def uI (a3:Int) (a1:List Int) (a0:Int) (a2:Bool):Option ((List Int×Int) ⊕ ((List Int×Int) ⊕ (List Int))) :=
 bif a2 then must (0≤w64 (a0 - 1)∧w64 (a0 - 1) < (a1.length:Int)) (must (0≤a0∧a0 < (a1.length:Int)) (zL a1 a0)) else (out (some (.inl (a1,w64 (a3 + 1)))))
noncomputable def zM (a2:Int):(List Int×Int)→Option ((List Int×Int) ⊕ ((List Int×Int) ⊕ (List Int)))
 | (a1,a0)=>bif decide (a0 > 0) then must (0≤a0∧a0 < (a1.length:Int)) (must (0≤w64 (a0 - 1)∧w64 (a0 - 1) < (a1.length:Int)) (uI a2 a1 a0 (decide (idx a1 a0 < idx a1 (w64 (a0 - 1)))))) else (uI a2 a1 a0 false)
noncomputable def zN (a0:List Int):(List Int×Int)→Option ((List Int×Int) ⊕ (List Int))
 | (a1,a2)=>bif decide (a2 < (a0.length:Int)) then must (0≤a2∧a2 < (a0.length:Int)) (must (((a1.length + 1) + (a1.length + 1) / 4 + 192) * 8≤281474976710656∧a1.length + 1≤9223372036854775807) (iter (zM a2) (a1++([idx a0 a2]:List Int),w64 (((a1++([idx a0 a2]:List Int)).length:Int) - 1)))) else (out (some a1))
noncomputable def eZ (a0:List Int):Option (List Int) :=
 iter (zN a0) ([],0)
noncomputable def jG (a0:List Int):Option (List Int) :=
 some a0
noncomputable def zO (a1:List Int):(Int×Int)→Option ((Int×Int) ⊕ (List Int))
 | (a2,a0)=>bif decide (a0 < (a1.length:Int)) then must (0≤a0∧a0 < (a1.length:Int)) (some (.inl (w64 (a2 + (idx a1 a0)),w64 (a0 + 1)))) else (out (jG ([a2]:List Int)))
noncomputable def uJ (a2:Int) (a0:List Int):Option (List Int) :=
 bif (a2 == 1) then bif decide ((a0.length:Int) > 0) then must (0≤(w64 ((a0.length:Int) - 1))∧(w64 ((a0.length:Int) - 1))≤(a0.length:Int)∧(a0.length:Int)≤(a0.length:Int)) (jG (eQ a0 (w64 ((a0.length:Int) - 1)) (a0.length:Int))) else (jG a0) else (bif (a2 == 3) then (eZ a0).bind fun a1=>jG a1 else (bif (a2 == 4) then iter (zO a0) (0,0) else (jG a0)))
noncomputable def uK (a0:History) (a1:List Int) (a2:Int) (a3:Int) (a4:Int) (a5:List Int) (a7:Int) (a8:Bool):Option ((List Int×Int) ⊕ (List Int)) :=
 bif a8 then must (0≤a7∧a7 < (a1.length:Int)) ((aS a0 (idx a1 a7) a3).bind fun a6=>must (((a5.length + a6.length) + (a5.length + a6.length) / 4 + 192) * 8≤281474976710656∧a5.length + a6.length≤9223372036854775807) (bif (idx a1 a7 == a4) then out (uJ a2 (a5++a6)) else (some (.inl (a5++a6,w64 (a7 + 1)))))) else (out (uJ a2 a5))
noncomputable def zP (a0:History) (a1:List Int) (a2:Int) (a3:Int) (a4:Int):(List Int×Int)→Option ((List Int×Int) ⊕ (List Int))
 | (a6,a5)=>bif decide (a5 < (a1.length:Int)) then uK a0 a1 a2 a3 a4 a6 a5 (decide (a4 ≥ 0)) else (uK a0 a1 a2 a3 a4 a6 a5 false)
noncomputable def cZ (a0:History) (a1:List Int) (a2:Int) (a3:Int) (a4:Int):Option (List Int) :=
 iter (zP a0 a1 a2 a3 a4) ([],0)
noncomputable def iC (a0:History) (a1:List Int) (a3:Ask) (a4:Int) (a6:Bool):Option Int :=
 bif a6 then some 5 else (must (0≤a3.Txn∧a3.Txn < (a0.Txns.length:Int)) (must (0≤a3.Place∧a3.Place < (((idx a0.Txns a3.Txn).Ops).length:Int)) ((iG ((idx ((idx a0.Txns a3.Txn).Ops) a3.Place).Kind)).bind fun a2=>(cZ a0 a1 a2 a3.Key a4).bind fun a5=>(cO a5 a3.Base).bind fun a7=>bif !a7 then some 6 else (some 0))))
noncomputable def gQ (a0:History) (a1:List Int) (a2:List Int) (a3:Ask) (a4:Int):Option Int :=
 bif (a4 != (-1)) then bif decide (a4 < 0) then iC a0 a1 a3 a4 true else (bif decide (a4 ≥ (a2.length:Int)) then iC a0 a1 a3 a4 true else (must (0≤a4∧a4 < (a2.length:Int)) (bif (idx a2 a4 == 0) then iC a0 a1 a3 a4 true else ((aS a0 a4 a3.Key).bind fun a5=>bif ((a5.length:Int) == 0) then iC a0 a1 a3 a4 true else (must (0≤a3.Txn∧a3.Txn < (a2.length:Int)) (iC a0 a1 a3 a4 (decide (idx a2 a4 ≥ idx a2 a3.Txn)))))))) else (iC a0 a1 a3 a4 false)
noncomputable def rP (a1:Int) (a0:Bool):Option (Int ⊕ (Int ⊕ Int)) :=
 bif a0 then out (out (some 4)) else (some (.inl (w64 (a1 + 1))))
noncomputable def BC (a0:History) (a3:List Int×Bool) (a2:Int):Int→Option (Int ⊕ (Int ⊕ Int))
 | a1=>bif decide (a1 < a2) then must (0≤a2∧a2 < (a0.Txns.length:Int)) (must (0≤a1∧a1 < (a0.Txns.length:Int)) (bif ((idx a0.Txns a2).Proc == (idx a0.Txns a1).Proc) then must (0≤a2∧a2 < (a3.1.length:Int)) (bif (idx a3.1 a2 != 0) then must (0≤a1∧a1 < (a3.1.length:Int)) (rP a1 (decide (idx a3.1 a1 > idx a3.1 a2))) else (rP a1 false)) else (rP a1 false))) else (out (some (.inl (w64 (a2 + 1)))))
noncomputable def BD (a0:History) (a1:Exec) (a3:List Ask×List iy) (a5:List Int×Bool):Int→Option (Int ⊕ (Int ⊕ Int))
 | a2=>bif decide (a2 < (a3.1.length:Int)) then must (0≤a2∧a2 < (a3.1.length:Int)) (must (0≤a2∧a2 < (a1.Picks.length:Int)) ((gQ a0 a1.Order a5.1 (idx a3.1 a2) (idx a1.Picks a2)).bind fun a4=>bif (a4 != 0) then out (out (some a4)) else (some (.inl (w64 (a2 + 1)))))) else (out (out (some 0)))
noncomputable def BF (a0:History) (a1:Exec) (a4:List Ask×List iy) (a3:List Int×Bool):Int→Option (Int ⊕ Int)
 | a2=>bif decide (a2 < (a0.Txns.length:Int)) then iter (BC a0 a3 a2) 0 else (iter (BD a0 a1 a4 a3) 0)
noncomputable def fE (a0:History) (a1:Exec):Option Int :=
 (gU a0).bind fun a2=>bif decide ((a2.2.length:Int) > 0) then some 1 else ((dK a0 a1.Order).bind fun a3=>bif !a3.2 then some 2 else (bif ((a1.Picks.length:Int) != (a2.1.length:Int)) then some 3 else (iter (BF a0 a1 a2 a3) 0)))
noncomputable def El (a0:History) (a1:Exec):Option (Int×Int) :=
 (aA a0).bind fun a2=>bif (a2 != 0) then some (0,1) else ((fE a0 a1).bind fun a3=>some (a3,0))
noncomputable def ji (a0:History) (a1:Exec) (a2:Edge) (a4:Bool):Option Bool :=
 bif a4 then some false else ((dK a0 a1.Order).bind fun a3=>must (0≤a2.From∧a2.From < (a3.1.length:Int)) (bif (idx a3.1 a2.From != 0) then must (0≤a2.To∧a2.To < (a3.1.length:Int)) (bif (idx a3.1 a2.To != 0) then some (decide (idx a3.1 a2.From < idx a3.1 a2.To)) else (some false)) else (some false)))
noncomputable def jM (a0:History) (a1:Exec) (a2:Edge):Option Bool :=
 (El a0 a1).bind fun y9=>bif (y9.2 != 0) then ji a0 a1 a2 true else (bif (y9.1 != 0) then ji a0 a1 a2 true else (bif decide (a2.From < 0) then ji a0 a1 a2 true else (bif decide (a2.From ≥ (a0.Txns.length:Int)) then ji a0 a1 a2 true else (bif decide (a2.To < 0) then ji a0 a1 a2 true else (ji a0 a1 a2 (decide (a2.To ≥ (a0.Txns.length:Int))))))))
noncomputable def xR (a2:jw×Int) (a3:jw×Int):(List Edge×Int)→Option ((List Edge×Int) ⊕ Bool)
 | (a0,a1)=>bif decide (a1 < (a0.length:Int)) then must (0≤a1∧a1 < (a0.length:Int)) (some (.inl (a0.set a1.toNat (⟨0,0,99,0⟩:Edge),w64 (a1 + 1)))) else (must (((a0.length + 2) + (a0.length + 2) / 4 + 192) * 32≤281474976710656∧a0.length + 2≤9223372036854775807) ((dX a2.1.Edges a3.1.Edges).bind fun a4=>out (some a4)))
noncomputable def rV (a1:jw×Int) (a2:jw×Int) (a0:jw×Int) (a3:Bool):Option Bool :=
 bif a3 then some false else (iter (xR a2 a0) (a1.1.Edges,0))
noncomputable def jH (a0:History):Option Bool :=
 (kg).bind fun y8=>bif !y8 then some false else ((di a0).bind fun a2=>(di a0).bind fun a3=>(iq a0).bind fun a1=>bif (a2.2 != a1.2) then rV a2 a3 a1 true else (rV a2 a3 a1 (a3.2 != a1.2)))
noncomputable def BJ (a0:Int) (a1:jw):Option Bool :=
 bif decide (a0 ≥ 0) then some (decide (a0 < a1.N)) else (some false)
noncomputable def Dk (a0:Int):Option Int :=
 must (0≤(1:Int)∧(1:Int) < (far:Int)) (must (0≤(2:Int)∧(2:Int) < (far:Int)) (must (0≤(4:Int)∧(4:Int) < (far:Int)) (must (0≤(8:Int)∧(8:Int) < (far:Int)) (must (0≤(16:Int)∧(16:Int) < (far:Int)) (must (0≤(32:Int)∧(32:Int) < (far:Int)) (some (dI .i64 (w64 (IntKind.wrap .u64 ((IntKind.wrap .u64 ((IntKind.wrap .u64 ((dI .u64 (IntKind.wrap .u64 ((fq .u64 (IntKind.wrap .u64 ((dI .u64 (fq .u64 (IntKind.wrap .u64 ((dI .u64 (fq .u64 a0 (1:Int)) 6148914691236517205) + (dI .u64 a0 6148914691236517205))) (2:Int)) 3689348814741910323) + (dI .u64 (IntKind.wrap .u64 ((dI .u64 (fq .u64 a0 (1:Int)) 6148914691236517205) + (dI .u64 a0 6148914691236517205))) 3689348814741910323))) (4:Int)) + (IntKind.wrap .u64 ((dI .u64 (fq .u64 (IntKind.wrap .u64 ((dI .u64 (fq .u64 a0 (1:Int)) 6148914691236517205) + (dI .u64 a0 6148914691236517205))) (2:Int)) 3689348814741910323) + (dI .u64 (IntKind.wrap .u64 ((dI .u64 (fq .u64 a0 (1:Int)) 6148914691236517205) + (dI .u64 a0 6148914691236517205))) 3689348814741910323))))) 1085102592571150095) + (fq .u64 (dI .u64 (IntKind.wrap .u64 ((fq .u64 (IntKind.wrap .u64 ((dI .u64 (fq .u64 (IntKind.wrap .u64 ((dI .u64 (fq .u64 a0 (1:Int)) 6148914691236517205) + (dI .u64 a0 6148914691236517205))) (2:Int)) 3689348814741910323) + (dI .u64 (IntKind.wrap .u64 ((dI .u64 (fq .u64 a0 (1:Int)) 6148914691236517205) + (dI .u64 a0 6148914691236517205))) 3689348814741910323))) (4:Int)) + (IntKind.wrap .u64 ((dI .u64 (fq .u64 (IntKind.wrap .u64 ((dI .u64 (fq .u64 a0 (1:Int)) 6148914691236517205) + (dI .u64 a0 6148914691236517205))) (2:Int)) 3689348814741910323) + (dI .u64 (IntKind.wrap .u64 ((dI .u64 (fq .u64 a0 (1:Int)) 6148914691236517205) + (dI .u64 a0 6148914691236517205))) 3689348814741910323))))) 1085102592571150095) (8:Int)))) + (fq .u64 (IntKind.wrap .u64 ((dI .u64 (IntKind.wrap .u64 ((fq .u64 (IntKind.wrap .u64 ((dI .u64 (fq .u64 (IntKind.wrap .u64 ((dI .u64 (fq .u64 a0 (1:Int)) 6148914691236517205) + (dI .u64 a0 6148914691236517205))) (2:Int)) 3689348814741910323) + (dI .u64 (IntKind.wrap .u64 ((dI .u64 (fq .u64 a0 (1:Int)) 6148914691236517205) + (dI .u64 a0 6148914691236517205))) 3689348814741910323))) (4:Int)) + (IntKind.wrap .u64 ((dI .u64 (fq .u64 (IntKind.wrap .u64 ((dI .u64 (fq .u64 a0 (1:Int)) 6148914691236517205) + (dI .u64 a0 6148914691236517205))) (2:Int)) 3689348814741910323) + (dI .u64 (IntKind.wrap .u64 ((dI .u64 (fq .u64 a0 (1:Int)) 6148914691236517205) + (dI .u64 a0 6148914691236517205))) 3689348814741910323))))) 1085102592571150095) + (fq .u64 (dI .u64 (IntKind.wrap .u64 ((fq .u64 (IntKind.wrap .u64 ((dI .u64 (fq .u64 (IntKind.wrap .u64 ((dI .u64 (fq .u64 a0 (1:Int)) 6148914691236517205) + (dI .u64 a0 6148914691236517205))) (2:Int)) 3689348814741910323) + (dI .u64 (IntKind.wrap .u64 ((dI .u64 (fq .u64 a0 (1:Int)) 6148914691236517205) + (dI .u64 a0 6148914691236517205))) 3689348814741910323))) (4:Int)) + (IntKind.wrap .u64 ((dI .u64 (fq .u64 (IntKind.wrap .u64 ((dI .u64 (fq .u64 a0 (1:Int)) 6148914691236517205) + (dI .u64 a0 6148914691236517205))) (2:Int)) 3689348814741910323) + (dI .u64 (IntKind.wrap .u64 ((dI .u64 (fq .u64 a0 (1:Int)) 6148914691236517205) + (dI .u64 a0 6148914691236517205))) 3689348814741910323))))) 1085102592571150095) (8:Int)))) (16:Int)))) + (fq .u64 (IntKind.wrap .u64 ((IntKind.wrap .u64 ((dI .u64 (IntKind.wrap .u64 ((fq .u64 (IntKind.wrap .u64 ((dI .u64 (fq .u64 (IntKind.wrap .u64 ((dI .u64 (fq .u64 a0 (1:Int)) 6148914691236517205) + (dI .u64 a0 6148914691236517205))) (2:Int)) 3689348814741910323) + (dI .u64 (IntKind.wrap .u64 ((dI .u64 (fq .u64 a0 (1:Int)) 6148914691236517205) + (dI .u64 a0 6148914691236517205))) 3689348814741910323))) (4:Int)) + (IntKind.wrap .u64 ((dI .u64 (fq .u64 (IntKind.wrap .u64 ((dI .u64 (fq .u64 a0 (1:Int)) 6148914691236517205) + (dI .u64 a0 6148914691236517205))) (2:Int)) 3689348814741910323) + (dI .u64 (IntKind.wrap .u64 ((dI .u64 (fq .u64 a0 (1:Int)) 6148914691236517205) + (dI .u64 a0 6148914691236517205))) 3689348814741910323))))) 1085102592571150095) + (fq .u64 (dI .u64 (IntKind.wrap .u64 ((fq .u64 (IntKind.wrap .u64 ((dI .u64 (fq .u64 (IntKind.wrap .u64 ((dI .u64 (fq .u64 a0 (1:Int)) 6148914691236517205) + (dI .u64 a0 6148914691236517205))) (2:Int)) 3689348814741910323) + (dI .u64 (IntKind.wrap .u64 ((dI .u64 (fq .u64 a0 (1:Int)) 6148914691236517205) + (dI .u64 a0 6148914691236517205))) 3689348814741910323))) (4:Int)) + (IntKind.wrap .u64 ((dI .u64 (fq .u64 (IntKind.wrap .u64 ((dI .u64 (fq .u64 a0 (1:Int)) 6148914691236517205) + (dI .u64 a0 6148914691236517205))) (2:Int)) 3689348814741910323) + (dI .u64 (IntKind.wrap .u64 ((dI .u64 (fq .u64 a0 (1:Int)) 6148914691236517205) + (dI .u64 a0 6148914691236517205))) 3689348814741910323))))) 1085102592571150095) (8:Int)))) + (fq .u64 (IntKind.wrap .u64 ((dI .u64 (IntKind.wrap .u64 ((fq .u64 (IntKind.wrap .u64 ((dI .u64 (fq .u64 (IntKind.wrap .u64 ((dI .u64 (fq .u64 a0 (1:Int)) 6148914691236517205) + (dI .u64 a0 6148914691236517205))) (2:Int)) 3689348814741910323) + (dI .u64 (IntKind.wrap .u64 ((dI .u64 (fq .u64 a0 (1:Int)) 6148914691236517205) + (dI .u64 a0 6148914691236517205))) 3689348814741910323))) (4:Int)) + (IntKind.wrap .u64 ((dI .u64 (fq .u64 (IntKind.wrap .u64 ((dI .u64 (fq .u64 a0 (1:Int)) 6148914691236517205) + (dI .u64 a0 6148914691236517205))) (2:Int)) 3689348814741910323) + (dI .u64 (IntKind.wrap .u64 ((dI .u64 (fq .u64 a0 (1:Int)) 6148914691236517205) + (dI .u64 a0 6148914691236517205))) 3689348814741910323))))) 1085102592571150095) + (fq .u64 (dI .u64 (IntKind.wrap .u64 ((fq .u64 (IntKind.wrap .u64 ((dI .u64 (fq .u64 (IntKind.wrap .u64 ((dI .u64 (fq .u64 a0 (1:Int)) 6148914691236517205) + (dI .u64 a0 6148914691236517205))) (2:Int)) 3689348814741910323) + (dI .u64 (IntKind.wrap .u64 ((dI .u64 (fq .u64 a0 (1:Int)) 6148914691236517205) + (dI .u64 a0 6148914691236517205))) 3689348814741910323))) (4:Int)) + (IntKind.wrap .u64 ((dI .u64 (fq .u64 (IntKind.wrap .u64 ((dI .u64 (fq .u64 a0 (1:Int)) 6148914691236517205) + (dI .u64 a0 6148914691236517205))) (2:Int)) 3689348814741910323) + (dI .u64 (IntKind.wrap .u64 ((dI .u64 (fq .u64 a0 (1:Int)) 6148914691236517205) + (dI .u64 a0 6148914691236517205))) 3689348814741910323))))) 1085102592571150095) (8:Int)))) (16:Int)))) (32:Int))))) 127)))))))
noncomputable def EN (a0:Int):Option Int :=
 (Dk a0).bind fun y3=>some y3
noncomputable def qH (a1:Int) (a0:Bool):Option (Int ⊕ Int) :=
 bif a0 then out (some 60) else (some (.inl (w64 (a1 + 1))))
noncomputable def EO (a0:jw):Int→Option (Int ⊕ Int)
 | a1=>bif decide (a1 < (a0.Edges.length:Int)) then must (0≤a1∧a1 < (a0.Edges.length:Int)) ((BJ ((idx a0.Edges a1).From) a0).bind fun a2=>bif !a2 then qH a1 true else ((BJ ((idx a0.Edges a1).To) a0).bind fun a3=>bif !a3 then qH a1 true else (bif decide ((idx a0.Edges a1).Kind < 1) then qH a1 true else (bif decide ((idx a0.Edges a1).Kind > 16) then qH a1 true else ((EN (IntKind.wrap .u64 ((idx a0.Edges a1).Kind))).bind fun a4=>qH a1 (a4 != 1)))))) else (out (some 0))
noncomputable def wG (a0:jw) (b9:Bool):Option Int :=
 bif b9 then some 60 else (iter (EO a0) 0)
noncomputable def iT (a0:jw):Option Int :=
 bif decide (a0.N < 0) then wG a0 true else (bif decide (a0.N > 64) then wG a0 true else (wG a0 (decide ((a0.Edges.length:Int) > 262144))))
noncomputable def bu (a1:Int) (a0:Bool):Option (Int ⊕ Bool) :=
 bif !a0 then out (some false) else (some (.inl (w64 (a1 + 1))))
noncomputable def mU (a0:History) (a2:jw×Int) (a1:Int) (a5:List Int×Bool) (a4:List Int×Bool) (a3:Bool):Option (Int ⊕ Bool) :=
 bif ((idx a2.1.Edges a1).Kind == 1) then bif a3 then bif ((idx a2.1.Edges a1).Key == (-1)) then bif ((idx a0.Txns ((idx a2.1.Edges a1).From)).Proc == (idx a0.Txns ((idx a2.1.Edges a1).To)).Proc) then bif decide ((idx a2.1.Edges a1).From < (idx a2.1.Edges a1).To) then bif ((idx a0.Txns ((idx a2.1.Edges a1).From)).Status == 1) then bu a1 ((idx a0.Txns ((idx a2.1.Edges a1).To)).Status == 1) else (bu a1 false) else (bu a1 false) else (bu a1 false) else (bu a1 false) else (bu a1 false) else (bif ((idx a2.1.Edges a1).Kind == 2) then bif a3 then bif ((idx a2.1.Edges a1).Key == (-1)) then bif ((idx a0.Txns ((idx a2.1.Edges a1).From)).Status == 1) then bif ((idx a0.Txns ((idx a2.1.Edges a1).To)).Status == 1) then bu a1 (decide ((idx a0.Txns ((idx a2.1.Edges a1).From)).To < (idx a0.Txns ((idx a2.1.Edges a1).To)).From)) else (bu a1 false) else (bu a1 false) else (bu a1 false) else (bu a1 false) else (bif ((idx a2.1.Edges a1).Kind == 4) then bif a3 then bif a5.2 then bu a1 ((idx a0.Txns ((idx a2.1.Edges a1).To)).Status == 1) else (bu a1 false) else (bu a1 false) else (bif ((idx a2.1.Edges a1).Kind == 8) then bif a3 then bif a5.2 then bu a1 a4.2 else (bu a1 false) else (bu a1 false) else (bif a3 then bif a4.2 then bif ((idx a0.Txns ((idx a2.1.Edges a1).From)).Status == 1) then bu a1 ((idx a0.Txns ((idx a2.1.Edges a1).To)).Status == 1) else (bu a1 false) else (bu a1 false) else (bu a1 false)))))
noncomputable def xS (a0:History) (a2:jw×Int) (a1:Int):Option (Int ⊕ Bool) :=
 (ik a0 ((idx a2.1.Edges a1).From) ((idx a2.1.Edges a1).Key)).bind fun a4=>(ik a0 ((idx a2.1.Edges a1).To) ((idx a2.1.Edges a1).Key)).bind fun a3=>bif ((idx a2.1.Edges a1).From != (idx a2.1.Edges a1).To) then bif ((idx a0.Txns ((idx a2.1.Edges a1).From)).Status != 2) then mU a0 a2 a1 a4 a3 ((idx a0.Txns ((idx a2.1.Edges a1).To)).Status != 2) else (mU a0 a2 a1 a4 a3 false) else (mU a0 a2 a1 a4 a3 false)
noncomputable def xU (a0:History) (a2:jw×Int):Int→Option (Int ⊕ Bool)
 | a1=>bif decide (a1 < (a2.1.Edges.length:Int)) then must (0≤a1∧a1 < (a2.1.Edges.length:Int)) (must (0≤(idx a2.1.Edges a1).From∧(idx a2.1.Edges a1).From < (a0.Txns.length:Int)) (must (0≤(idx a2.1.Edges a1).To∧(idx a2.1.Edges a1).To < (a0.Txns.length:Int)) (xS a0 a2 a1))) else (out (some true))
noncomputable def rW (a0:History) (a2:jw×Int) (a1:Bool):Option Bool :=
 bif a1 then some false else (iter (xU a0 a2) 0)
noncomputable def aN (a0:History):Option Bool :=
 (kg).bind fun y8=>bif !y8 then some false else ((di a0).bind fun a1=>bif (a1.2 != 0) then some ((a1.1.Edges.length:Int) == 0) else (bif (a1.1.N != (a0.Txns.length:Int)) then rW a0 a1 true else ((iT a1.1).bind fun a2=>rW a0 a1 (a2 != 0))))
end Go.Proofs.YtfpeabnehpclnaaGreatT
