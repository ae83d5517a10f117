import Derived.Test.YtfpeabnehpclnaaGreatDoorY
import Derived.Lib.TrailingZeros
namespace Go.Proofs.YtfpeabnehpclnaaGreatDoorT
noncomputable section
open Go Go.Proofs Go.Proofs.YtfpeabnehpclnaaGreatDoorE
set_option linter.unusedVariables false
set_option linter.unusedSimpArgs false
set_option maxHeartbeats 0
set_option maxRecDepth 4096
structure dK where
 key:ByteArray
 arg:Int
 deriving Inhabited,DecidableEq
def dK.enc (x:dK):List Value:=[.string x.key,.int .i64 x.arg]
abbrev JZ:Ty dK:=Ty.flat 2 dK.enc (fun _=>rfl) (fun _=>KL rfl)
instance : Flat JZ dK.enc:=⟨Iff.rfl,Iff.rfl⟩
structure bB where
 keys:List ByteArray
 at_:List (ByteArray×Int)
 types:List Int
 facts:List (dK×Unit)
 incs:List (ByteArray×(List Int))
 deriving Inhabited
structure Call where
 Kind:Int
 Key:ByteArray
 Arg:Int
 Got:Bool
 Vals:List Int
 deriving Inhabited
abbrev Bf:Ty Call:=Ty.iso (cu (aF .i64) (cu gP (cu (aF .i64) (cu rW (cB 2 (aF .i64)))))) (fun g:Call=>(g.Kind,g.Key,g.Arg,g.Got,g.Vals))
abbrev xV (N:BM):Ty Call:=Ty.iso (cu (aF .i64) (cu gP (cu (aF .i64) (cu rW (Mh N (aF .i64)))))) (fun g:Call=>(g.Kind,g.Key,g.Arg,g.Got,g.Vals))
theorem Mr (N:BM):wV N (xV N) Bf:=De (jO mH (jO mH (jO mH (jO mH Fh))))
structure Event where
 Proc:Int
 Kind:Int
 Calls:List Call
 deriving Inhabited
abbrev Ka:Ty Event:=Ty.iso (cu (aF .i64) (cu (aF .i64) (cB 134 Bf))) (fun g:Event=>(g.Proc,g.Kind,g.Calls))
structure Op where
 Kind:Int
 Key:Int
 Arg:Int
 Got:Bool
 Vals:List Int
 deriving Inhabited
abbrev kOp:Ty Op:=Ty.iso (cu (aF .i64) (cu (aF .i64) (cu (aF .i64) (cu rW (cB 2 (aF .i64)))))) (fun g:Op=>(g.Kind,g.Key,g.Arg,g.Got,g.Vals))
structure Txn where
 Proc:Int
 Status:Int
 From:Int
 To:Int
 Ops:List Op
 deriving Inhabited
abbrev iZ:Ty Txn:=Ty.iso (cu (aF .i64) (cu (aF .i64) (cu (aF .i64) (cu (aF .i64) (cB 49 kOp))))) (fun g:Txn=>(g.Proc,g.Status,g.From,g.To,g.Ops))
structure History where
 Keys:List ByteArray
 Txns:List Txn
 deriving Inhabited
structure Ask where
 Txn:Int
 Place:Int
 Key:Int
 Base:List Int
 deriving Inhabited
abbrev yS:Ty Ask:=Ty.iso (cu (aF .i64) (cu (aF .i64) (cu (aF .i64) (cB 2 (aF .i64))))) (fun g:Ask=>(g.Txn,g.Place,g.Key,g.Base))
structure pq where
 Txn:Int
 Place:Int
 deriving Inhabited,DecidableEq
def pq.enc (x:pq):List Value:=[.int .i64 x.Txn,.int .i64 x.Place]
abbrev Iu:Ty pq:=Ty.flat 2 pq.enc (fun _=>rfl) (fun _=>KL rfl)
instance : Flat Iu pq.enc:=⟨Iff.rfl,Iff.rfl⟩
structure fu where
 asks:List Ask
 bad:List pq
 deriving Inhabited
structure aP where
 txn:Int
 args:List Int
 deriving Inhabited
abbrev gH:Ty aP:=Ty.iso (cu (aF .i64) (cB 2 (aF .i64))) (fun g:aP=>(g.txn,g.args))
structure aJ where
 Ask:Ask
 sources:List Int
 parts:List Int
 made:Bool
 kind:Int
 deriving Inhabited
abbrev iO:Ty aJ:=Ty.iso (cu yS (cu (cB 3 (aF .i64)) (cu (cB 3 (aF .i64)) (cu rW (aF .i64))))) (fun g:aJ=>(g.Ask,g.sources,g.parts,g.made,g.kind))
structure Edge where
 From:Int
 To:Int
 Kind:Int
 Key:Int
 deriving Inhabited,DecidableEq
def Edge.enc (x:Edge):List Value:=[.int .i64 x.From,.int .i64 x.To,.int .i64 x.Kind,.int .i64 x.Key]
abbrev wH:Ty Edge:=Ty.flat 4 Edge.enc (fun _=>rfl) (fun _=>KL rfl)
instance : Flat wH Edge.enc:=⟨Iff.rfl,Iff.rfl⟩
structure aC where
 h:History
 asks:List aJ
 edges:List Edge
 deriving Inhabited
structure fU where
 N:Int
 Edges:List Edge
 deriving Inhabited
structure dE where
 h:History
 order:List Int
 at_:List (Int×Int)
 deriving Inhabited
structure Exec where
 Order:List Int
 Picks:List Int
 deriving Inhabited
structure dh where
 h:History
 x:Exec
 asks:List Ask
 at_:List Int
 behind:List Int
 near:List Int
 writes:List (Int×Int)
 deriving Inhabited
abbrev kD (N:BM):Ty aJ:=(Ty.iso (cu (Ty.iso (cu (aF .i64) (cu (aF .i64) (cu (aF .i64) (Mh N (aF .i64))))) (fun g:Ask=>(g.Txn,g.Place,g.Key,g.Base))) (cu (Jv (aF .i64)) (cu (Jv (aF .i64)) (cu rW (aF .i64))))) (fun g:aJ=>(g.Ask,g.sources,g.parts,g.made,g.kind)))
theorem Am (N:BM):wV N (kD N) iO:=(De (jO (De (jO mH (jO mH (jO mH Fh)))) (jO Fe (jO Fe (jO mH mH)))))
abbrev Rw2 (A:Option Addr) (c:Nat) (l:List Int):bV := .row (aF .i64) 2 A l.length c l
abbrev Rw3 (A:Option Addr) (c:Nat) (l:List Int):bV := .row (aF .i64) 3 A l.length c l
abbrev Rn3 (A:Option Addr) (n c:Nat) (l:List Int):bV := .row (aF .i64) 3 A n c l
abbrev Rw9 (A:Option Addr) (c:Nat) (l:List ByteArray):bV := .row gP 9 A l.length c l
abbrev Rn9 (A:Option Addr) (n c:Nat) (l:List ByteArray):bV := .row gP 9 A n c l
abbrev kK (A:Option Addr) (c:Nat) (l:List Edge):bV := .row wH 42 A l.length c l
abbrev Nt (A:Option Addr) (c:Nat) (l:List Op):bV := .row kOp 49 A l.length c l
abbrev Te (A:Option Addr) (n c:Nat) (l:List Op):bV := .row kOp 49 A n c l
abbrev Pq (A:Option Addr) (c:Nat) (l:List Txn):bV := .row iZ 52 A l.length c l
abbrev Ps (A:Option Addr) (c:Nat) (l:List Ask):bV := .row yS 66 A l.length c l
abbrev Eo (A:Option Addr) (c:Nat) (l:List Int):bV := .row (aF .u64) 90 A l.length c l
abbrev Iw (A:Option Addr) (c:Nat) (l:List aP):bV := .row gH 142 A l.length c l
abbrev Iy (A:Option Addr) (c:Nat) (l:List pq):bV := .row Iu 158 A l.length c l
abbrev Or2 (A:Option Addr) (c:Nat) (l:List Int):bV:=orA noM (aF .i64) 2 A l.length c l
abbrev Or3 (A:Option Addr) (c:Nat) (l:List Int):bV:=orA noM (aF .i64) 3 A l.length c l
abbrev RP (A:Option Addr) (c:Nat) (l:List Ask):bV:=orA noM yS 66 A l.length c l
abbrev Kb (b:Nat) (m:List (Int×Int)):bV:=DU (fun x:Int => .int .i64 x) (fun x:Int => .int .i64 x) b m
abbrev Ms (b:Nat) (m:List (Int×Int)):bV:=DU (fun x:Int => .int .i64 x) (fun x:Int => .int .i64 x) b m
abbrev xC (b:Nat) (m:List (Int×Int)):bV:=DU (fun x:Int => .int .i64 x) (fun x:Int => .int .u32 x) b m
abbrev FY (b:Nat) (m:List (Int×(List Int))):bV:=wG (fun x:Int => .int .i64 x) (cB 2 (aF .i64)) b m
abbrev Bg (b:Nat) (m:List (ByteArray×Int)):bV:=DU (fun x:ByteArray => .string x) (fun x:Int => .int .i64 x) b m
abbrev Bh (b:Nat) (m:List (dK×Unit)):bV:=DU (fun x:dK => .agg #[.string x.key,.int .i64 x.arg]) (fun _:Unit => .agg #[]) b m
abbrev FZ (b:Nat) (m:List (ByteArray×(List Int))):bV:=wG (fun x:ByteArray => .string x) (cB 3 (aF .i64)) b m
abbrev Ep (b:Nat) (m:List (Int×Unit)):bV:=DU (fun x:Int => .int .i64 x) (fun _:Unit => .agg #[]) b m
abbrev uq (x:History) (A0:Option Addr) (c0:Nat) (A1:Option Addr) (c1:Nat):List Value:=[vS A0 x.Keys.length c0,vS A1 x.Txns.length c1]
abbrev ut (x:History) (A0:Option Addr) (c0:Nat) (A1:Option Addr) (c1:Nat):Value := .agg (uq x A0 c0 A1 c1).toArray
abbrev iR (b:Nat) (x:History) (A0:Option Addr) (c0:Nat) (A1:Option Addr) (c1:Nat):bV := .blk b 25 (uq x A0 c0 A1 c1)
abbrev Iz (x:Exec) (A0:Option Addr) (c0:Nat) (A1:Option Addr) (c1:Nat):List Value:=[vS A0 x.Order.length c0,vS A1 x.Picks.length c1]
abbrev Mt (x:Exec) (A0:Option Addr) (c0:Nat) (A1:Option Addr) (c1:Nat):Value := .agg (Iz x A0 c0 A1 c1).toArray
abbrev Ao (b:Nat) (x:Exec) (A0:Option Addr) (c0:Nat) (A1:Option Addr) (c1:Nat):bV := .blk b 28 (Iz x A0 c0 A1 c1)
abbrev Kc (x:fU) (A1:Option Addr) (c1:Nat):List Value:=[vI x.N,vS A1 x.Edges.length c1]
abbrev Pt (x:fU) (A1:Option Addr) (c1:Nat):Value := .agg (Kc x A1 c1).toArray
abbrev Co (b:Nat) (x:fU) (A1:Option Addr) (c1:Nat):bV := .blk b 35 (Kc x A1 c1)
abbrev Nu (x:Edge):List Value:=[vI x.From,vI x.To,vI x.Kind,vI x.Key]
abbrev Nv (x:Edge):Value := .agg (Nu x).toArray
abbrev Tf (b:Nat) (x:Edge):bV := .blk b 42 (Nu x)
abbrev IA (x:Op) (A4:Option Addr) (c4:Nat):List Value:=[vI x.Kind,vI x.Key,vI x.Arg,vB x.Got,vS A4 x.Vals.length c4]
abbrev Tg (x:Op) (A4:Option Addr) (c4:Nat):Value := .agg (IA x A4 c4).toArray
abbrev Ap (b:Nat) (x:Op) (A4:Option Addr) (c4:Nat):bV := .blk b 49 (IA x A4 c4)
abbrev Aq (x:Txn) (A4:Option Addr) (c4:Nat):List Value:=[vI x.Proc,vI x.Status,vI x.From,vI x.To,vS A4 x.Ops.length c4]
abbrev Mv (x:Txn) (A4:Option Addr) (c4:Nat):Value := .agg (Aq x A4 c4).toArray
abbrev Er (b:Nat) (x:Txn) (A4:Option Addr) (c4:Nat):bV := .blk b 52 (Aq x A4 c4)
abbrev Mw (x:dE) (A0:Option Addr) (c0:Nat) (A1:Option Addr) (c1:Nat) (A2:Option Addr) (c2:Nat) (b3:Nat):List Value:=[vS A0 x.h.Keys.length c0,vS A1 x.h.Txns.length c1,vS A2 x.order.length c2,.map (some b3)]
abbrev Pv (x:dE) (A0:Option Addr) (c0:Nat) (A1:Option Addr) (c1:Nat) (A2:Option Addr) (c2:Nat) (b3:Nat):Value := .agg (Mw x A0 c0 A1 c1 A2 c2 b3).toArray
abbrev Cq (b:Nat) (x:dE) (A0:Option Addr) (c0:Nat) (A1:Option Addr) (c1:Nat) (A2:Option Addr) (c2:Nat) (b3:Nat):bV := .blk b 62 (Mw x A0 c0 A1 c1 A2 c2 b3)
abbrev yT (x:Ask) (A3:Option Addr) (c3:Nat):List Value:=[vI x.Txn,vI x.Place,vI x.Key,vS A3 x.Base.length c3]
abbrev FJ (x:Ask) (A3:Option Addr) (c3:Nat):Value := .agg (yT x A3 c3).toArray
abbrev AQ (b:Nat) (x:Ask) (A3:Option Addr) (c3:Nat):bV := .blk b 66 (yT x A3 c3)
abbrev Ti (x:aC) (A0:Option Addr) (c0:Nat) (A1:Option Addr) (c1:Nat) (A2:Option Addr) (c2:Nat) (A3:Option Addr) (c3:Nat):List Value:=[vS A0 x.h.Keys.length c0,vS A1 x.h.Txns.length c1,vS A2 x.asks.length c2,vS A3 x.edges.length c3]
abbrev FK (b:Nat) (x:aC) (A0:Option Addr) (c0:Nat) (A1:Option Addr) (c1:Nat) (A2:Option Addr) (c2:Nat) (A3:Option Addr) (c3:Nat):bV := .blk b 73 (Ti x A0 c0 A1 c1 A2 c2 A3 c3)
abbrev Ke (x:aJ) (A3:Option Addr) (c3:Nat) (A4:Option Addr) (c4:Nat) (A5:Option Addr) (c5:Nat):List Value:=[vI x.Ask.Txn,vI x.Ask.Place,vI x.Ask.Key,vS A3 x.Ask.Base.length c3,vS A4 x.sources.length c4,vS A5 x.parts.length c5,vB x.made,vI x.kind]
abbrev Pw (x:aJ) (A3:Option Addr) (c3:Nat) (A4:Option Addr) (c4:Nat) (A5:Option Addr) (c5:Nat):Value := .agg (Ke x A3 c3 A4 c4 A5 c5).toArray
abbrev Ar (b:Nat) (x:aJ) (A3:Option Addr) (c3:Nat) (A4:Option Addr) (c4:Nat) (A5:Option Addr) (c5:Nat):bV := .blk b 76 (Ke x A3 c3 A4 c4 A5 c5)
abbrev RQ (x:fu) (A0:Option Addr) (c0:Nat) (A1:Option Addr) (c1:Nat):List Value:=[vS A0 x.asks.length c0,vS A1 x.bad.length c1]
abbrev Tj (x:fu) (A0:Option Addr) (c0:Nat) (A1:Option Addr) (c1:Nat):Value := .agg (RQ x A0 c0 A1 c1).toArray
abbrev IB (x:Event) (A2:Option Addr) (c2:Nat):List Value:=[vI x.Proc,vI x.Kind,vS A2 x.Calls.length c2]
abbrev SA (x:Event) (A2:Option Addr) (c2:Nat):Value := .agg (IB x A2 c2).toArray
abbrev RH (b:Nat) (x:Event) (A2:Option Addr) (c2:Nat):bV := .blk b 129 (IB x A2 c2)
abbrev Es (x:Call) (A4:Option Addr) (c4:Nat):List Value:=[vI x.Kind,.string x.Key,vI x.Arg,vB x.Got,vS A4 x.Vals.length c4]
abbrev IC (x:Call) (A4:Option Addr) (c4:Nat):Value := .agg (Es x A4 c4).toArray
abbrev rZ (b:Nat) (x:Call) (A4:Option Addr) (c4:Nat):bV := .blk b 134 (Es x A4 c4)
abbrev Et (x:aP) (A1:Option Addr) (c1:Nat):List Value:=[vI x.txn,vS A1 x.args.length c1]
abbrev Nw (x:aP) (A1:Option Addr) (c1:Nat):Value := .agg (Et x A1 c1).toArray
abbrev Ga (b:Nat) (x:aP) (A1:Option Addr) (c1:Nat):bV := .blk b 142 (Et x A1 c1)
abbrev Tk (b:Nat) (x0:Int) (A1:Option Addr) (c1:Nat) (x1:List Edge):List bV:=[.blk b 35 [vI x0,vS A1 x1.length c1],kK A1 c1 x1]
abbrev Ny (b:Nat) (x:fU) (A1:Option Addr) (c1:Nat):List bV:=Tk b x.N A1 c1 x.Edges
abbrev Eu (b:Nat) (A0:Option Addr) (c0:Nat) (x0:List Ask) (A1:Option Addr) (c1:Nat) (x1:List pq):List bV:=[.blk b 93 [vS A0 x0.length c0,vS A1 x1.length c1],Ps A0 c0 x0,Iy A1 c1 x1]
abbrev SB (b:Nat) (x:fu) (A0:Option Addr) (c0:Nat) (A1:Option Addr) (c1:Nat):List bV:=Eu b A0 c0 x.asks A1 c1 x.bad
abbrev yU (b:Nat) (A0:Option Addr) (c0:Nat) (x0:List ByteArray) (b1:Nat) (x1:List (ByteArray×Int)) (A2:Option Addr) (c2:Nat) (x2:List Int) (b3:Nat) (x3:List (dK×Unit)) (b4:Nat) (x4:List (ByteArray×(List Int))):List bV:=[.blk b 172 [vS A0 x0.length c0,.map (some b1),vS A2 x2.length c2,.map (some b3),.map (some b4)],Rw9 A0 c0 x0,Bg b1 x1,Rw3 A2 c2 x2,Bh b3 x3,FZ b4 x4]
abbrev Nz (b:Nat) (x:bB) (A0:Option Addr) (c0:Nat) (b1:Nat) (A2:Option Addr) (c2:Nat) (b3:Nat) (b4:Nat):List bV:=yU b A0 c0 x.keys b1 x.at_ A2 c2 x.types b3 x.facts b4 x.incs
theorem NA {H:BM} {x:Op} {cs:List Value} (h:kOp.rd H x cs):∃ A4 c4,cs=IA x A4 c4∧x.Vals.length≤c4∧rdS (aF .i64) H A4 x.Vals:=by
 obtain ⟨_,_,rfl,rfl,⟨_,_,rfl,rfl,⟨_,_,rfl,rfl,⟨_,_,rfl,rfl,⟨A0,c0,rfl,l0,r0⟩⟩⟩⟩⟩:=h;exact ⟨A0,c0,rfl,l0,r0⟩
theorem pO {H:BM} {x:Txn} {cs:List Value} (h:iZ.rd H x cs):∃ A4 c4,cs=Aq x A4 c4∧x.Ops.length≤c4∧rdS kOp H A4 x.Ops:=by
 obtain ⟨_,_,rfl,rfl,⟨_,_,rfl,rfl,⟨_,_,rfl,rfl,⟨_,_,rfl,rfl,⟨A0,c0,rfl,l0,r0⟩⟩⟩⟩⟩:=h;exact ⟨A0,c0,rfl,l0,r0⟩
theorem Bi {H:BM} {x:Ask} {cs:List Value} (h:yS.rd H x cs):∃ A3 c3,cs=yT x A3 c3∧x.Base.length≤c3∧rdS (aF .i64) H A3 x.Base:=by
 obtain ⟨_,_,rfl,rfl,⟨_,_,rfl,rfl,⟨_,_,rfl,rfl,⟨A0,c0,rfl,l0,r0⟩⟩⟩⟩:=h;exact ⟨A0,c0,rfl,l0,r0⟩
theorem Dk {H:BM} {x:aJ} {cs:List Value} (h:iO.rd H x cs):∃ A3 c3 A4 c4 A5 c5,cs=Ke x A3 c3 A4 c4 A5 c5∧x.Ask.Base.length≤c3∧rdS (aF .i64) H A3 x.Ask.Base∧x.sources.length≤c4∧rdS (aF .i64) H A4 x.sources∧x.parts.length≤c5∧rdS (aF .i64) H A5 x.parts:=by
 obtain ⟨_,_,rfl,⟨_,_,rfl,rfl,⟨_,_,rfl,rfl,⟨_,_,rfl,rfl,⟨A0,c0,rfl,l0,r0⟩⟩⟩⟩,⟨_,_,rfl,⟨A1,c1,rfl,l1,r1⟩,⟨_,_,rfl,⟨A2,c2,rfl,l2,r2⟩,⟨_,_,rfl,rfl,rfl⟩⟩⟩⟩:=h;exact ⟨A0,c0,A1,c1,A2,c2,rfl,l0,r0,l1,r1,l2,r2⟩
theorem Px {H:BM} {x:Event} {cs:List Value} (h:Ka.rd H x cs):∃ A2 c2,cs=IB x A2 c2∧x.Calls.length≤c2∧rdS Bf H A2 x.Calls:=by
 obtain ⟨_,_,rfl,rfl,⟨_,_,rfl,rfl,⟨A0,c0,rfl,l0,r0⟩⟩⟩:=h;exact ⟨A0,c0,rfl,l0,r0⟩
theorem RS {H:BM} {x:Call} {cs:List Value} (h:Bf.rd H x cs):∃ A4 c4,cs=Es x A4 c4∧x.Vals.length≤c4∧rdS (aF .i64) H A4 x.Vals:=by
 obtain ⟨_,_,rfl,rfl,⟨_,_,rfl,rfl,⟨_,_,rfl,rfl,⟨_,_,rfl,rfl,⟨A0,c0,rfl,l0,r0⟩⟩⟩⟩⟩:=h;exact ⟨A0,c0,rfl,l0,r0⟩
theorem gu {H:BM} {x:aP} {cs:List Value} (h:gH.rd H x cs):∃ A1 c1,cs=Et x A1 c1∧x.args.length≤c1∧rdS (aF .i64) H A1 x.args:=by
 obtain ⟨_,_,rfl,rfl,⟨A0,c0,rfl,l0,r0⟩⟩:=h;exact ⟨A0,c0,rfl,l0,r0⟩
theorem NB (x:Op) {R4:List bV} {c4:List Value} (h4:Mk (cB 2 (aF .i64)) R4 x.Vals c4):Mk kOp ([]++([]++([]++([]++R4)))) x ([vI x.Kind]++([vI x.Key]++([vI x.Arg]++([vB x.Got]++c4)))):=xA (g:=fun g:Op=>(g.Kind,g.Key,g.Arg,g.Got,g.Vals)) (x:=x) (eZ (oZ _ _ rfl) (eZ (oZ _ _ rfl) (eZ (oZ _ _ rfl) (eZ (oZ _ _ rfl) h4))))
theorem NC (x:Txn) {R4:List bV} {c4:List Value} (h4:Mk (cB 49 kOp) R4 x.Ops c4):Mk iZ ([]++([]++([]++([]++R4)))) x ([vI x.Proc]++([vI x.Status]++([vI x.From]++([vI x.To]++c4)))):=xA (g:=fun g:Txn=>(g.Proc,g.Status,g.From,g.To,g.Ops)) (x:=x) (eZ (oZ _ _ rfl) (eZ (oZ _ _ rfl) (eZ (oZ _ _ rfl) (eZ (oZ _ _ rfl) h4))))
theorem RI (x:Ask) {R3:List bV} {c3:List Value} (h3:Mk (cB 2 (aF .i64)) R3 x.Base c3):Mk yS ([]++([]++([]++R3))) x ([vI x.Txn]++([vI x.Place]++([vI x.Key]++c3))):=xA (g:=fun g:Ask=>(g.Txn,g.Place,g.Key,g.Base)) (x:=x) (eZ (oZ _ _ rfl) (eZ (oZ _ _ rfl) (eZ (oZ _ _ rfl) h3)))
theorem FL (x:aP) {R1:List bV} {c1:List Value} (h1:Mk (cB 2 (aF .i64)) R1 x.args c1):Mk gH ([]++R1) x ([vI x.txn]++c1):=xA (g:=fun g:aP=>(g.txn,g.args)) (x:=x) (eZ (oZ _ _ rfl) h1)
def mg (a0:List ByteArray) (a1:ByteArray):Int→Option (Int ⊕ Int)
 | a2=>bif decide (a2 < (a0.length:Int)) then must (0≤a2∧a2 < (a0.length:Int)) (bif sEq a1 (idx a0 a2) then out (some a2) else (some (.inl (w64 (a2 + 1))))) else (out (some (-1)))
def slices_Index_string (a0:List ByteArray) (a1:ByteArray):Option Int :=
 iter (mg a0 a1) 0
def slices_Contains_string (a0:List ByteArray) (a1:ByteArray):Option Bool :=
 (slices_Index_string a0 a1).bind fun y3=>some (decide (y3 ≥ 0))
def pW:Option bB :=
 some (⟨([]:List ByteArray),([]:List (ByteArray×Int)),([]:List Int),([]:List (dK×Unit)),([]:List (ByteArray×(List Int)))⟩:bB)
def xW (a0:Int):Option (Int×Int) :=
 bif (a0 == 5) then some (0,1) else (bif (a0 == 8) then some (1,1) else (some (0,64)))
def sZ (a0:Call) (a1:Int) (a2:Bool):Option (Int ⊕ Bool) :=
 bif a2 then must (0≤w64 (a1 - 1)∧w64 (a1 - 1) < (a0.Vals.length:Int)) (must (0≤a1∧a1 < (a0.Vals.length:Int)) (bif decide (idx a0.Vals (w64 (a1 - 1)) ≥ idx a0.Vals a1) then out (some false) else (some (.inl (w64 (a1 + 1)))))) else (out (some true))
def tq (a0:Call):Int→Option (Int ⊕ Bool)
 | a1=>bif (a0.Kind == 7) then sZ a0 a1 (decide (a1 < (a0.Vals.length:Int))) else (sZ a0 a1 false)
def tu (a0:Call) (a1:Bool):Option Bool :=
 bif a1 then some false else (iter (tq a0) 1)
def tC (a0:Call) (a2:Bool):Option Bool :=
 bif a2 then some false else (bif !a0.Got then some ((a0.Vals.length:Int) == 0) else ((xW a0.Kind).bind fun a1=>bif decide ((a0.Vals.length:Int) < a1.1) then tu a0 true else (tu a0 (decide ((a0.Vals.length:Int) > a1.2)))))
def mR (a0:Call) (a1:Int) (a2:Bool):Option Bool :=
 bif a2 then some false else (bif decide (a0.Kind≤4) then bif !a0.Got then bif ((a0.Vals.length:Int) == 0) then bif (a0.Kind != 4) then some true else (bif decide ((-1048576)≤a0.Arg) then some (decide (a0.Arg≤1048576)) else (some false)) else (some false) else (some false) else (bif (a0.Arg != 0) then tC a0 true else (tC a0 (a0.Got != (a1 == 1)))))
def dm (a0:Call) (a1:Int):Option Bool :=
 bif decide (a0.Kind < 1) then mR a0 a1 true else (bif decide (a0.Kind > 8) then mR a0 a1 true else (bif sEq a0.Key (⟨#[]⟩:ByteArray) then mR a0 a1 true else (mR a0 a1 (decide ((a0.Key.size:Int) > 32)))))
def uN (a0:Call) (a1:Event):Option Bool :=
 (dm a0 a1.Kind).bind fun y5=>some (!y5)
def fV (a0:List Call) (a1c0:Event):Int→Option (Int ⊕ Int)
 | a1=>bif decide (a1 < (a0.length:Int)) then must (0≤a1∧a1 < (a0.length:Int)) ((uN (idx a0 a1) a1c0).bind fun a2=>bif a2 then out (some a1) else (some (.inl (w64 (a1 + 1))))) else (out (some (-1)))
def bR (a0:List Call) (a1c0:Event):Option Int :=
 iter (fV a0 a1c0) 0
def dS (a0:List Call) (a1c0:Event):Option Bool :=
 (bR a0 a1c0).bind fun y3=>some (decide (y3 ≥ 0))
def pQ (a0:List Event) (a1:Int) (a2:Bool):Option (Int ⊕ Int) :=
 bif a2 then out (some 1) else ((dS ((idx a0 a1).Calls) (idx a0 a1)).bind fun a3=>bif a3 then out (some 1) else (some (.inl (w64 (a1 + 1)))))
def wY (a0:List Event):Int→Option (Int ⊕ Int)
 | a1=>bif decide (a1 < (a0.length:Int)) then must (0≤a1∧a1 < (a0.length:Int)) (bif decide ((idx a0 a1).Kind < 0) then pQ a0 a1 true else (bif decide ((idx a0 a1).Kind > 3) then pQ a0 a1 true else (pQ a0 a1 (decide ((((idx a0 a1).Calls).length:Int) > 16))))) else (out (some 0))
def gM (a0:List Event):Option Int :=
 bif decide ((a0.length:Int) > 256) then some 1 else (iter (wY a0) 0)
def uZ (a0:History) (a1:Txn) (a3:List Call) (a2:Int):Option ((List Call×Int) ⊕ (Event×Bool)) :=
 some (.inl (a3++([(⟨(idx a1.Ops a2).Kind,idx a0.Keys ((idx a1.Ops a2).Key),(idx a1.Ops a2).Arg,(idx a1.Ops a2).Got,(idx a1.Ops a2).Vals⟩:Call)]:List Call),w64 (a2 + 1)))
def qP (a0:History) (a1:Txn) (a2:List Call) (a3:Int) (a4:Bool):Option ((List Call×Int) ⊕ (Event×Bool)) :=
 bif a4 then out (some ((⟨0,a1.Status,a2⟩:Event),false)) else (must (0≤(idx a1.Ops a3).Key∧(idx a1.Ops a3).Key < (a0.Keys.length:Int)) (must (((a2.length + 1) + (a2.length + 1) / 4 + 192) * 64≤281474976710656∧a2.length + 1≤9223372036854775807) (uZ a0 a1 a2 a3)))
def ve (a0:History) (a1:Txn):(List Call×Int)→Option ((List Call×Int) ⊕ (Event×Bool))
 | (a3,a2)=>bif decide (a2 < (a1.Ops.length:Int)) then must (0≤a2∧a2 < (a1.Ops.length:Int)) (bif decide ((idx a1.Ops a2).Key < 0) then qP a0 a1 a3 a2 true else (qP a0 a1 a3 a2 (decide ((idx a1.Ops a2).Key ≥ (a0.Keys.length:Int))))) else ((gM ([(⟨0,a1.Status,a3⟩:Event)]:List Event)).bind fun a4=>out (some ((⟨0,a1.Status,a3⟩:Event),(a4 == 0))))
def fe (a0:History) (a1:Txn):Option (Event×Bool) :=
 iter (ve a0 a1) ([],0)
def qQ (a0:Txn) (a1:Txn):Option Bool :=
 bif (a0.Proc == a1.Proc) then bif (a0.To == (-1)) then some true else (some (decide (a0.To ≥ a1.From))) else (some false)
def fO (a0:List Txn) (a1c0:Txn):Int→Option (Int ⊕ Int)
 | a1=>bif decide (a1 < (a0.length:Int)) then must (0≤a1∧a1 < (a0.length:Int)) ((qQ (idx a0 a1) a1c0).bind fun a2=>bif a2 then out (some a1) else (some (.inl (w64 (a1 + 1))))) else (out (some (-1)))
def bK (a0:List Txn) (a1c0:Txn):Option Int :=
 iter (fO a0 a1c0) 0
def dP (a0:List Txn) (a1c0:Txn):Option Bool :=
 (bK a0 a1c0).bind fun y3=>some (decide (y3 ≥ 0))
def mJ (a0:List Txn) (a1:Txn) (a3:Bool):Option Bool :=
 bif a3 then some false else ((dP a0 a1).bind fun a2=>some (!a2))
def pX (a0:List Txn) (a1:Txn):Option Bool :=
 bif decide (a1.From < 0) then mJ a0 a1 true else (bif decide ((a0.length:Int) > 0) then must (0≤w64 ((a0.length:Int) - 1)∧w64 ((a0.length:Int) - 1) < (a0.length:Int)) (mJ a0 a1 (decide ((idx a0 (w64 ((a0.length:Int) - 1))).From ≥ a1.From))) else (mJ a0 a1 false))
def pY (a0:List Txn) (a1:Txn) (a2:Bool):Option Bool :=
 bif a2 then some false else (pX a0 a1)
def qa (a0:List Txn) (a1:Txn) (a2:Bool):Option Bool :=
 bif a2 then bif decide (a1.To≤a1.From) then some false else (pX a0 a1) else (bif (a1.Status == 3) then bif (a1.To != (-1)) then pY a0 a1 (decide (a1.To≤a1.From)) else (pY a0 a1 false) else (some false))
def di (a0:List Txn) (a1:Txn):Option Bool :=
 bif (a1.Status == 1) then qa a0 a1 (a1.Status == 1) else (qa a0 a1 (a1.Status == 2))
def oH (a0:Int):Option Int :=
 some (w64 ((cz .i64 (w64 (a0 - 1)) 3) + 1))
def iE (a2:List ByteArray) (a1:List (ByteArray×Int)) (a4:List Int) (a3:List (dK×Unit)) (a5:List (ByteArray×(List Int))):Option (Int×bB) :=
 some (0,(⟨a2,a1,a4,a3,a5⟩:bB))
def mW (a0:bB) (a1:Call) (a3:List ByteArray) (a4:List (ByteArray×Int)) (a2:List Int):Option (Int×bB) :=
 bif kC a0.facts (⟨a1.Key,a1.Arg⟩:dK) then some (3,(⟨a3,a4,a2,a0.facts,a0.incs⟩:bB)) else (iE a3 a4 a2 (gG a0.facts (⟨a1.Key,a1.Arg⟩:dK) ()) a0.incs)
def jP (a0:bB) (a1:Call) (a4:List ByteArray) (a5:List (ByteArray×Int)) (a3:List Int) (a2:List (ByteArray×(List Int))):Option (Int×bB) :=
 bif decide (((mat a2 a1.Key).length:Int) > 8) then some (51,(⟨a4,a5,a3,a0.facts,a2⟩:bB)) else (iE a4 a5 a3 a0.facts a2)
def jQ (a0:bB) (a1:Call) (a2:Int) (a4:List ByteArray) (a5:List (ByteArray×Int)) (a3:List Int) (a6:Bool):Option (Int×bB) :=
 bif a6 then must (((((mat a0.incs a1.Key).length) + 1) + (((mat a0.incs a1.Key).length) + 1) / 4 + 192) * 8≤281474976710656∧((mat a0.incs a1.Key).length) + 1≤9223372036854775807) (jP a0 a1 a4 a5 a3 (gG a0.incs a1.Key ((mat a0.incs a1.Key)++([a2]:List Int)))) else (jP a0 a1 a4 a5 a3 a0.incs)
def jR (a0:bB) (a1:Call) (a2:Int) (a4:List ByteArray) (a5:List (ByteArray×Int)) (a3:List Int) (a6:Bool):Option (Int×bB) :=
 bif a6 then mW a0 a1 a4 a5 a3 else (bif (a1.Kind == 4) then bif (((mat a0.incs a1.Key).length:Int) == 0) then jQ a0 a1 a2 a4 a5 a3 true else (must (0≤w64 (((mat a0.incs a1.Key).length:Int) - 1)∧w64 (((mat a0.incs a1.Key).length:Int) - 1) < ((mat a0.incs a1.Key).length:Int)) (jQ a0 a1 a2 a4 a5 a3 (idx (mat a0.incs a1.Key) (w64 (((mat a0.incs a1.Key).length:Int) - 1)) != a2))) else (iE a4 a5 a3 a0.facts a0.incs))
def iF (a0:bB) (a1:Call) (a2:Int) (a6:List ByteArray) (a4:List (ByteArray×Int)) (a3:List Int) (a5:Int):Option (Int×bB) :=
 must (0≤a5∧a5 < (a3.length:Int)) ((oH a1.Kind).bind fun a7=>bif (idx a3 a5 != a7) then some (50,(⟨a6,a4,a3,a0.facts,a0.incs⟩:bB)) else (bif (a1.Kind == 2) then jR a0 a1 a2 a6 a4 a3 (a1.Kind == 2) else (jR a0 a1 a2 a6 a4 a3 (a1.Kind == 3))))
def mX (a0:bB) (a1:Call) (a2:Int):Option (Int×bB) :=
 (oH a1.Kind).bind fun a3=>must (((a0.types.length + 1) + (a0.types.length + 1) / 4 + 192) * 8≤281474976710656∧a0.types.length + 1≤9223372036854775807) (iF a0 a1 a2 (a0.keys++([a1.Key]:List ByteArray)) (gG a0.at_ a1.Key (a0.keys.length:Int)) (a0.types++([a3]:List Int)) (a0.keys.length:Int))
def aG (a0:bB) (a1:Call) (a2:Int):Option (Int×bB) :=
 bif !(kC a0.at_ a1.Key) then bif ((a0.keys.length:Int) == 32) then some (2,a0) else (must (((a0.keys.length + 1) + (a0.keys.length + 1) / 4 + 192) * 16≤281474976710656∧a0.keys.length + 1≤9223372036854775807) (mX a0 a1 a2)) else (iF a0 a1 a2 a0.keys a0.at_ a0.types (mat a0.at_ a1.Key))
def nT (a1:Int) (a2:Bool):Option (Int ⊕ Int) :=
 bif a2 then out (some 1) else (some (.inl (w64 (a1 + 1))))
def qR (a9:Int) (a3:Event×Bool):(List ByteArray×(List (ByteArray×Int))×List Int×(List (dK×Unit))×(List (ByteArray×(List Int)))×Int)→Option ((List ByteArray×(List (ByteArray×Int))×List Int×(List (dK×Unit))×(List (ByteArray×(List Int)))×Int) ⊕ ((List ByteArray×(List (ByteArray×Int))×List Int×(List (dK×Unit))×(List (ByteArray×(List Int)))×Int) ⊕ (Int ⊕ Int)))
 | (a7,a8,a4,a5,a6,a2)=>bif decide (a2 < (a3.1.Calls.length:Int)) then must (0≤a2∧a2 < (a3.1.Calls.length:Int)) ((aG (⟨a7,a8,a4,a5,a6⟩:bB) (idx a3.1.Calls a2) a9).bind fun a1=>bif (a1.1 != 0) then out (out (out (some 1))) else (some (.inl (a1.2.keys,a1.2.at_,a1.2.types,a1.2.facts,a1.2.incs,w64 (a2 + 1))))) else (out (some (.inl (a7,a8,a4,a5,a6,w64 (a9 + 1)))))
def qU (a7:List ByteArray) (a3:List (ByteArray×Int)) (a5:List Int) (a1:List (dK×Unit)) (a2:List (ByteArray×(List Int))) (a8:Int) (a6:Event×Bool) (a4:Bool):Option ((List ByteArray×(List (ByteArray×Int))×List Int×(List (dK×Unit))×(List (ByteArray×(List Int)))×Int) ⊕ (Int ⊕ Int)) :=
 bif a4 then out (out (some 1)) else (iter (qR a8 a6) (a7,a3,a5,a1,a2,0))
def nU (a0:History):(List ByteArray×(List (ByteArray×Int))×List Int×(List (dK×Unit))×(List (ByteArray×(List Int)))×Int)→Option ((List ByteArray×(List (ByteArray×Int))×List Int×(List (dK×Unit))×(List (ByteArray×(List Int)))×Int) ⊕ (Int ⊕ Int))
 | (a7,a5,a6,a3,a4,a1)=>bif decide (a1 < (a0.Txns.length:Int)) then must (0≤a1∧a1 < (a0.Txns.length:Int)) ((fe a0 (idx a0.Txns a1)).bind fun a2=>bif !a2.2 then qU a7 a5 a6 a3 a4 a1 a2 true else (must (0≤(0:Int)∧(0:Int)≤a1∧a1≤(a0.Txns.length:Int)) ((di (dW a0.Txns (0:Int) a1) (idx a0.Txns a1)).bind fun a8=>qU a7 a5 a6 a3 a4 a1 a2 (!a8)))) else (out (out (some 0)))
def vg (a0:History):Int→Option (Int ⊕ Int)
 | a1=>bif decide (a1 < (a0.Keys.length:Int)) then must (0≤a1∧a1 < (a0.Keys.length:Int)) (bif sEq (idx a0.Keys a1) (⟨#[]⟩:ByteArray) then nT a1 true else (bif decide (((idx a0.Keys a1).size:Int) > 32) then nT a1 true else (must (0≤(0:Int)∧(0:Int)≤a1∧a1≤(a0.Keys.length:Int)) ((slices_Contains_string (dW a0.Keys (0:Int) a1) (idx a0.Keys a1)).bind fun a3=>nT a1 a3)))) else ((pW).bind fun a2=>iter (nU a0) (a2.keys,a2.at_,a2.types,a2.facts,a2.incs,0))
def qV (a0:History) (b7:Bool):Option Int :=
 bif b7 then some 1 else (iter (vg a0) 0)
def az (a0:History):Option Int :=
 bif decide ((a0.Keys.length:Int) > 32) then qV a0 true else (qV a0 (decide ((a0.Txns.length:Int) > 32)))
def fP (a0:List Int):Option (List Int) :=
 must (a0.length * 8≤140737488355328) (some a0)
def kM (a0:Int):Option Int :=
 bif (a0 == 1) then some 208 else (bif (a0 == 2) then some 209 else (bif (a0 == 3) then some 210 else (bif (a0 == 4) then some 211 else (some (-1)))))
def kN (a0:Unit) (a1:List Int):Option Bool :=
 some (decide ((a1.length:Int)≤1))
def oI (a0:Unit) (a1:List Int):Option Bool :=
 some (decide ((a1.length:Int)≤64))
def qw (a1:List Int):Int→Option (Int ⊕ Bool)
 | a2=>bif decide (a2 < (a1.length:Int)) then must (0≤w64 (a2 - 1)∧w64 (a2 - 1) < (a1.length:Int)) (must (0≤a2∧a2 < (a1.length:Int)) (bif decide (idx a1 (w64 (a2 - 1)) ≥ idx a1 a2) then out (some false) else (some (.inl (w64 (a2 + 1)))))) else (out (some (decide ((a1.length:Int)≤64))))
def gI (a0:Unit) (a1:List Int):Option Bool :=
 iter (qw a1) 1
def lv (a0:Unit) (a1:List Int):Option Bool :=
 some ((a1.length:Int) == 1)
def kP (a0:Int) (a1:List Int):Option Int :=
 (kM a0).bind fun y8=>bif (y8 == (208:Int)) then (kN () a1).bind fun a4=>bif !a4 then some 80 else (some 0) else (bif (y8 == (209:Int)) then (oI () a1).bind fun a5=>bif !a5 then some 80 else (some 0) else (bif (y8 == (210:Int)) then (gI () a1).bind fun a3=>bif !a3 then some 80 else (some 0) else (bif (y8 == (211:Int)) then (lv () a1).bind fun a2=>bif !a2 then some 80 else (some 0) else (bif (y8 == ((-1):Int)) then some 1 else none))))
def gZ (a0:Unit) (a1:List Int) (a2:List Int):Option (List Int×Bool) :=
 bif ((a1.length:Int) == 1) then must (0≤(0:Int)∧(0:Int) < (a1.length:Int)) (must (0≤w64 ((a2.length:Int) - 1)∧w64 ((a2.length:Int) - 1) < (a2.length:Int)) (some (([]:List Int),(idx a1 (0:Int) == idx a2 (w64 ((a2.length:Int) - 1)))))) else (some (([]:List Int),false))
def si (a0:List Int) (a1:List Int):Int→Option (Int ⊕ Bool)
 | a2=>bif decide (a2 < (a0.length:Int)) then must (0≤a2∧a2 < (a0.length:Int)) (must (0≤a2∧a2 < (a1.length:Int)) (bif (idx a0 a2 != idx a1 a2) then out (some false) else (some (.inl (w64 (a2 + 1)))))) else (out (some true))
def dY (a0:List Int) (a1:List Int):Option Bool :=
 bif ((a0.length:Int) != (a1.length:Int)) then some false else (iter (si a0 a1) 0)
def iG (a1:List Int) (a2:List Int) (a3:Bool):Option (List Int×Bool) :=
 bif a3 then some (([]:List Int),false) else (must (0≤(0:Int)∧(0:Int)≤(w64 ((a1.length:Int) - (a2.length:Int)))∧(w64 ((a1.length:Int) - (a2.length:Int)))≤(a1.length:Int)) ((fP (dW a1 (0:Int) (w64 ((a1.length:Int) - (a2.length:Int))))).bind fun a4=>some (a4,true)))
def dZ (a0:Unit) (a1:List Int) (a2:List Int):Option (List Int×Bool) :=
 bif decide (w64 ((a1.length:Int) - (a2.length:Int)) < 0) then iG a1 a2 true else (must (0≤(w64 ((a1.length:Int) - (a2.length:Int)))∧(w64 ((a1.length:Int) - (a2.length:Int)))≤(a1.length:Int)∧(a1.length:Int)≤(a1.length:Int)) ((dY (dW a1 (w64 ((a1.length:Int) - (a2.length:Int))) (a1.length:Int)) a2).bind fun a3=>iG a1 a2 (!a3)))
def mK (a0:Int):Option Bool :=
 some (a0 != a0)
def nV (a0:Int) (a1:Int):Option Bool :=
 (mK a0).bind fun y7=>bif y7 then (mK a1).bind fun a2=>bif !a2 then some true else (some (decide (a0 < a1))) else (some (decide (a0 < a1)))
def jI (a0:Int):Option Bool :=
 some (a0 != a0)
def ji (a2:Int) (a1:Int):Option ((Int×Int) ⊕ (Int×Bool)) :=
 some (.inl (a2,a1))
def jk (a0:List Int) (a1:Int):(Int×Int)→Option ((Int×Int) ⊕ (Int×Bool))
 | (a2,a3)=>bif decide (a2 < a3) then must (0≤(1:Int)∧(1:Int) < (far:Int)) (must (0≤w64 (ed .u64 (IntKind.wrap .u64 (w64 (a2 + a3))) (1:Int))∧w64 (ed .u64 (IntKind.wrap .u64 (w64 (a2 + a3))) (1:Int)) < (a0.length:Int)) ((nV (idx a0 (w64 (ed .u64 (IntKind.wrap .u64 (w64 (a2 + a3))) (1:Int)))) a1).bind fun a5=>bif a5 then ji (w64 ((w64 (ed .u64 (IntKind.wrap .u64 (w64 (a2 + a3))) (1:Int))) + 1)) a3 else (ji a2 (w64 (ed .u64 (IntKind.wrap .u64 (w64 (a2 + a3))) (1:Int)))))) else (bif decide (a2 < (a0.length:Int)) then must (0≤a2∧a2 < (a0.length:Int)) (bif (idx a0 a2 == a1) then out (some (a2,true)) else ((jI (idx a0 a2)).bind fun a6=>bif a6 then (jI a1).bind fun a4=>out (some (a2,a4)) else (out (some (a2,false))))) else (out (some (a2,false))))
def bQ (a0:List Int) (a1:Int):Option (Int×Bool) :=
 iter (jk a0 a1) (0,(a0.length:Int))
def jl (a0:List Int) (a1 a2:Int):Option (List Int) :=
 must (0≤a1∧a1≤a2∧a2≤(a0.length:Int)) (some (a0.take a1.toNat++a0.drop a2.toNat))
def kQ (a2:List Int):(List Int×Int)→Option ((List Int×Int) ⊕ (List Int×Bool))
 | (a4,a1)=>bif decide (a1 < (a2.length:Int)) then must (0≤a1∧a1 < (a2.length:Int)) ((bQ a4 (idx a2 a1)).bind fun a3=>bif !a3.2 then out (some (([]:List Int),false)) else ((jl a4 a3.1 (w64 (a3.1 + 1))).bind fun a5=>some (.inl (a5,w64 (a1 + 1))))) else (out (some (a4,true)))
def fA (a0:Unit) (a1:List Int) (a2:List Int):Option (List Int×Bool) :=
 (fP a1).bind fun y7=>iter (kQ a2) (y7,0)
def iT (a2:List Int):(Int×Int)→Option ((Int×Int) ⊕ (List Int×Bool))
 | (a3,a1)=>bif decide (a1 < (a2.length:Int)) then must (0≤a1∧a1 < (a2.length:Int)) (some (.inl (w64 (a3 - (idx a2 a1)),w64 (a1 + 1)))) else (out (some (([a3]:List Int),true)))
def eu (a0:Unit) (a1:List Int) (a2:List Int):Option (List Int×Bool) :=
 must (0≤(0:Int)∧(0:Int) < (a1.length:Int)) (iter (iT a2) (idx a1 (0:Int),0))
def kE (a0:Int) (a1:List Int) (a2:List Int) (b9:Bool):Option (List Int×Bool) :=
 bif b9 then some (([]:List Int),false) else ((kM a0).bind fun a3=>bif (a3 == (208:Int)) then (gZ () a1 a2).bind fun a4=>some (a4.1,a4.2) else (bif (a3 == (209:Int)) then (dZ () a1 a2).bind fun a6=>some (a6.1,a6.2) else (bif (a3 == (210:Int)) then (fA () a1 a2).bind fun a5=>some (a5.1,a5.2) else (bif (a3 == (211:Int)) then (eu () a1 a2).bind fun a7=>some (a7.1,a7.2) else (bif (a3 == ((-1):Int)) then none else none)))))
def gJ (a0:Int) (a1:List Int) (a2:List Int):Option (List Int×Bool) :=
 (kP a0 a1).bind fun a3=>bif (a3 != 0) then kE a0 a1 a2 true else (kE a0 a1 a2 ((a2.length:Int) == 0))
def ik (a3:Int) (a2:List Ask) (a4:List pq) (a1:List (Int×(List Int))):Option ((List Ask×List pq×(List (Int×(List Int)))×Int) ⊕ fu) :=
 some (.inl (a2,a4,a1,w64 (a3 + 1)))
def lw (a1:History) (a2:Int) (a5:List Ask) (a4:List pq) (a6:List (Int×(List Int))) (a3:Int) (a7:List Int) (a8:Bool):Option ((List Ask×List pq×(List (Int×(List Int)))×Int) ⊕ fu) :=
 bif !a8 then must (((a4.length + 1) + (a4.length + 1) / 4 + 192) * 16≤281474976710656∧a4.length + 1≤9223372036854775807) (ik a3 a5 (a4++([(⟨a2,a3⟩:pq)]:List pq)) a6) else (must (((a5.length + 1) + (a5.length + 1) / 4 + 192) * 48≤281474976710656∧a5.length + 1≤9223372036854775807) (ik a3 (a5++([(⟨a2,a3,(idx ((idx a1.Txns a2).Ops) a3).Key,a7⟩:Ask)]:List Ask)) a4 a6))
def lC (a1:History) (a2:Int) (a5:List Ask) (a4:List pq) (a6:List (Int×(List Int))) (a3:Int) (a7:List Int×Bool) (a8:Bool):Option ((List Ask×List pq×(List (Int×(List Int)))×Int) ⊕ fu) :=
 bif a8 then ik a3 a5 a4 a6 else (lw a1 a2 a5 a4 a6 a3 a7.1 a7.2)
def pu (a1:History) (a2:Int):(List Ask×List pq×(List (Int×(List Int)))×Int)→Option ((List Ask×List pq×(List (Int×(List Int)))×Int) ⊕ fu)
 | (a6,a5,a4,a3)=>bif decide (a3 < (((idx a1.Txns a2).Ops).length:Int)) then must (0≤a3∧a3 < (((idx a1.Txns a2).Ops).length:Int)) (bif decide ((idx ((idx a1.Txns a2).Ops) a3).Kind≤4) then must (((((mat a4 ((idx ((idx a1.Txns a2).Ops) a3).Key)).length) + 1) + (((mat a4 ((idx ((idx a1.Txns a2).Ops) a3).Key)).length) + 1) / 4 + 192) * 8≤281474976710656∧((mat a4 ((idx ((idx a1.Txns a2).Ops) a3).Key)).length) + 1≤9223372036854775807) (ik a3 a6 a5 (gG a4 ((idx ((idx a1.Txns a2).Ops) a3).Key) ((mat a4 ((idx ((idx a1.Txns a2).Ops) a3).Key))++([(idx ((idx a1.Txns a2).Ops) a3).Arg]:List Int)))) else ((fP ((idx ((idx a1.Txns a2).Ops) a3).Vals)).bind fun a8=>bif decide (((mat a4 ((idx ((idx a1.Txns a2).Ops) a3).Key)).length:Int) > 0) then (gJ (w64 (((idx ((idx a1.Txns a2).Ops) a3).Kind) - 4)) ((idx ((idx a1.Txns a2).Ops) a3).Vals) (mat a4 ((idx ((idx a1.Txns a2).Ops) a3).Key))).bind fun a7=>bif a7.2 then lC a1 a2 a6 a5 a4 a3 a7 ((idx ((idx a1.Txns a2).Ops) a3).Kind == 5) else (lC a1 a2 a6 a5 a4 a3 a7 false) else (lw a1 a2 a6 a5 a4 a3 a8 true))) else (out (some (⟨a6,a5⟩:fu)))
def bv (a0:fu) (a1:History) (a2:Int):Option fu :=
 must (0≤a2∧a2 < (a1.Txns.length:Int)) (bif ((idx a1.Txns a2).Status != 1) then some a0 else (iter (pu a1 a2) (a0.asks,a0.bad,[],0)))
def xX (a0:History):(List Ask×List pq×Int)→Option ((List Ask×List pq×Int) ⊕ (fu×Int))
 | (a3,a2,a1)=>bif decide (a1 < (a0.Txns.length:Int)) then (bv (⟨a3,a2⟩:fu) a0 a1).bind fun a4=>some (.inl (a4.asks,a4.bad,w64 (a1 + 1))) else (out (some ((⟨a3,a2⟩:fu),0)))
def kF (a0:History):Option (fu×Int) :=
 (az a0).bind fun a1=>bif (a1 != 0) then some ((⟨([]:List Ask),([]:List pq)⟩:fu),a1) else (iter (xX a0) ([],[],0))
def gm (a0:History):Option (List Ask×Int) :=
 (kF a0).bind fun a1=>some (a1.1.asks,a1.2)
def wZ (a0:History) (a1:Int) (a3:Int):Int→Option (Int ⊕ (Int ⊕ Int))
 | a2=>bif decide (a2 < (((idx a0.Txns a3).Ops).length:Int)) then must (0≤a2∧a2 < (((idx a0.Txns a3).Ops).length:Int)) (bif ((idx ((idx a0.Txns a3).Ops) a2).Key == a1) then (oH ((idx ((idx a0.Txns a3).Ops) a2).Kind)).bind fun a4=>out (out (some a4)) else (some (.inl (w64 (a2 + 1))))) else (out (some (.inl (w64 (a3 + 1)))))
def xc (a0:History) (a1:Int):Int→Option (Int ⊕ Int)
 | a2=>bif decide (a2 < (a0.Txns.length:Int)) then must (0≤a2∧a2 < (a0.Txns.length:Int)) (iter (wZ a0 a1 a2) 0) else (out (some 0))
def eO (a0:History) (a1:Int):Option Int :=
 (az a0).bind fun y8=>bif (y8 != 0) then some 0 else (iter (xc a0 a1) 0)
def nW (a0:Ask) (a1:Ask):Option Bool :=
 bif (a1.Txn == a0.Txn) then bif (a1.Place == a0.Place) then bif (a1.Key == a0.Key) then (dY a1.Base a0.Base).bind fun a2=>some a2 else (some false) else (some false) else (some false)
def fQ (a0:List Ask) (a1c0:Ask):Int→Option (Int ⊕ Int)
 | a1=>bif decide (a1 < (a0.length:Int)) then must (0≤a1∧a1 < (a0.length:Int)) ((nW (idx a0 a1) a1c0).bind fun a2=>bif a2 then out (some a1) else (some (.inl (w64 (a1 + 1))))) else (out (some (-1)))
def bL (a0:List Ask) (a1c0:Ask):Option Int :=
 iter (fQ a0 a1c0) 0
def dQ (a0:List Ask) (a1c0:Ask):Option Bool :=
 (bL a0 a1c0).bind fun y3=>some (decide (y3 ≥ 0))
def oJ (a0:History) (a1:Ask):Option Int :=
 (gm a0).bind fun y9=>bif (y9.2 != 0) then some y9.2 else ((dQ y9.1 a1).bind fun a2=>bif a2 then some 0 else (some 1))
def qW (a1:Int) (a2:List Int):Option ((List Int×Int) ⊕ (List Int)) :=
 some (.inl (a2,w64 (a1 + 1)))
def qX (a0:Txn) (a1:List Int) (a2:Int) (a3:Bool):Option ((List Int×Int) ⊕ (List Int)) :=
 bif a3 then must (((a1.length + 1) + (a1.length + 1) / 4 + 192) * 8≤281474976710656∧a1.length + 1≤9223372036854775807) (qW a2 (a1++([(idx a0.Ops a2).Arg]:List Int))) else (qW a2 a1)
def vk (a0:Txn) (a1:Int):(List Int×Int)→Option ((List Int×Int) ⊕ (List Int))
 | (a3,a2)=>bif decide (a2 < (a0.Ops.length:Int)) then must (0≤a2∧a2 < (a0.Ops.length:Int)) (bif ((idx a0.Ops a2).Key == a1) then qX a0 a3 a2 (decide ((idx a0.Ops a2).Kind≤4)) else (qX a0 a3 a2 false)) else (out (some a3))
def eF (a0:Txn) (a1:Int):Option (List Int) :=
 iter (vk a0 a1) ([],0)
def nX (a0:History) (a1:Int) (a2:Int) (a4:Bool):Option (List Int×Bool) :=
 bif a4 then some (([]:List Int),false) else (must (0≤a1∧a1 < (a0.Txns.length:Int)) ((eF (idx a0.Txns a1) a2).bind fun a3=>some (a3,decide ((a3.length:Int) > 0))))
def iw (a0:History) (a1:Int) (a2:Int):Option (List Int×Bool) :=
 bif decide (a1 < 0) then nX a0 a1 a2 true else (bif decide (a1 ≥ (a0.Txns.length:Int)) then nX a0 a1 a2 true else ((az a0).bind fun a3=>nX a0 a1 a2 (a3 != 0)))
def oK (a2:Int) (a1:List Int):Option ((List Int×Int) ⊕ (List Int)) :=
 some (.inl (a1,w64 (a2 + 1)))
def oL (a1:List Int) (a2:Int) (a3:Bool):Option ((List Int×Int) ⊕ (List Int)) :=
 bif a3 then must (((a1.length + 1) + (a1.length + 1) / 4 + 192) * 8≤281474976710656∧a1.length + 1≤9223372036854775807) (oK a2 (a1++([a2]:List Int))) else (oK a2 a1)
def sK (a0:History) (a1:Int):(List Int×Int)→Option ((List Int×Int) ⊕ (List Int))
 | (a3,a2)=>bif decide (a2 < (a0.Txns.length:Int)) then must (0≤a2∧a2 < (a0.Txns.length:Int)) (bif ((idx a0.Txns a2).Status != 2) then (eF (idx a0.Txns a2) a1).bind fun a4=>oL a3 a2 (decide ((a4.length:Int) > 0)) else (oL a3 a2 false)) else (out (some a3))
def dG (a0:History) (a1:Int):Option (List Int) :=
 (az a0).bind fun y8=>bif (y8 != 0) then some ([]:List Int) else (iter (sK a0 a1) ([],0))
def oM (a1:Int) (a2:List aP):Option ((List aP×Int) ⊕ (List aP)) :=
 some (.inl (a2,w64 (a1 + 1)))
def oN (a5:List Int) (a1:List aP) (a2:Int) (a4:List Int×Bool) (a3:Bool):Option ((List aP×Int) ⊕ (List aP)) :=
 bif a3 then must (((a1.length + 1) + (a1.length + 1) / 4 + 192) * 32≤281474976710656∧a1.length + 1≤9223372036854775807) (oM a2 (a1++([(⟨idx a5 a2,a4.1⟩:aP)]:List aP))) else (oM a2 a1)
def sM (a0:History) (a1:Ask) (a3:List Int):(List aP×Int)→Option ((List aP×Int) ⊕ (List aP))
 | (a5,a2)=>bif decide (a2 < (a3.length:Int)) then must (0≤a2∧a2 < (a3.length:Int)) ((iw a0 (idx a3 a2) a1.Key).bind fun a4=>bif a4.2 then oN a3 a5 a2 a4 (idx a3 a2 != a1.Txn) else (oN a3 a5 a2 a4 false)) else (out (some a5))
def bY (a0:History) (a1:Ask):Option (List aP) :=
 (dG a0 a1.Key).bind fun a2=>iter (sM a0 a1 a2) ([],0)
def lD (a0:List Int) (a1:Int):Int→Option (Int ⊕ Int)
 | a2=>bif decide (a2 < (a0.length:Int)) then must (0≤a2∧a2 < (a0.length:Int)) (bif (a1 == idx a0 a2) then out (some a2) else (some (.inl (w64 (a2 + 1))))) else (out (some (-1)))
def slices_Index_int (a0:List Int) (a1:Int):Option Int :=
 iter (lD a0 a1) 0
def slices_Contains_int (a0:List Int) (a1:Int):Option Bool :=
 (slices_Index_int a0 a1).bind fun y3=>some (decide (y3 ≥ 0))
def tF (a0:aP) (a1:List Int):Option Bool :=
 must (0≤(0:Int)∧(0:Int) < (a0.args.length:Int)) (must (0≤(0:Int)∧(0:Int) < (a1.length:Int)) (some (idx a0.args (0:Int) == idx a1 (0:Int))))
def fM (a0:List aP) (a1c0:List Int):Int→Option (Int ⊕ Int)
 | a1=>bif decide (a1 < (a0.length:Int)) then must (0≤a1∧a1 < (a0.length:Int)) ((tF (idx a0 a1) a1c0).bind fun a2=>bif a2 then out (some a1) else (some (.inl (w64 (a1 + 1))))) else (out (some (-1)))
def bI (a0:List aP) (a1c0:List Int):Option Int :=
 iter (fM a0 a1c0) 0
def lM (a1:List aP) (a3:List Int) (a4:List Int) (a2:Int) (a5:Bool):Option ((List Int×List Int) ⊕ (List Int×Bool)) :=
 bif a5 then out (some (([]:List Int),false)) else (must (0≤a2∧a2 < (a1.length:Int)) (must (((a4.length + 1) + (a4.length + 1) / 4 + 192) * 8≤281474976710656∧a4.length + 1≤9223372036854775807) (must (0≤(((idx a1 a2).args).length:Int)∧(((idx a1 a2).args).length:Int)≤(a3.length:Int)∧(a3.length:Int)≤(a3.length:Int)) (some (.inl (dW a3 (((idx a1 a2).args).length:Int) (a3.length:Int),a4++([(idx a1 a2).txn]:List Int)))))))
def qY (a1:List aP):(List Int×List Int)→Option ((List Int×List Int) ⊕ (List Int×Bool))
 | (a3,a4)=>bif decide ((a3.length:Int) > 0) then (bI a1 a3).bind fun a2=>bif decide (a2 < 0) then lM a1 a3 a4 a2 true else (must (0≤a2∧a2 < (a1.length:Int)) (bif decide ((((idx a1 a2).args).length:Int) > (a3.length:Int)) then lM a1 a3 a4 a2 true else (must (0≤(0:Int)∧(0:Int)≤(((idx a1 a2).args).length:Int)∧(((idx a1 a2).args).length:Int)≤(a3.length:Int)) ((dY ((idx a1 a2).args) (dW a3 (0:Int) (((idx a1 a2).args).length:Int))).bind fun a5=>bif !a5 then lM a1 a3 a4 a2 true else ((slices_Contains_int a4 ((idx a1 a2).txn)).bind fun a6=>lM a1 a3 a4 a2 a6))))) else (out (some (a4,true)))
def fo (a0:List Int) (a1:List aP):Option (List Int×Bool) :=
 iter (qY a1) (a0,[])
def tH (a3:Int) (a2:List Int) (a1:List (Int×Unit)):Option ((List Int×(List (Int×Unit))×Int) ⊕ (((List (Int×Unit))×Int) ⊕ (List Int×Bool))) :=
 some (.inl (a2,a1,w64 (a3 + 1)))
def tJ (a3:Int) (a1:List (Int×Unit)) (a2:Int):Option (((List (Int×Unit))×Int×Int) ⊕ ((List Int×(List (Int×Unit))×Int) ⊕ (((List (Int×Unit))×Int) ⊕ (List Int×Bool)))) :=
 some (.inl (a1,a2,w64 (a3 + 1)))
def tK (a1:List aP) (a2:List Int) (a3:Int) (a4:List (Int×Unit)) (a5:Int) (a6:Bool):Option (((List (Int×Unit))×Int×Int) ⊕ ((List Int×(List (Int×Unit))×Int) ⊕ (((List (Int×Unit))×Int) ⊕ (List Int×Bool)))) :=
 bif a6 then out (out (out (some (([]:List Int),false)))) else (bif decide (a5 > 0) then must (((a2.length + 1) + (a2.length + 1) / 4 + 192) * 8≤281474976710656∧a2.length + 1≤9223372036854775807) (out (tH a3 (a2++([(idx a1 a3).txn]:List Int)) a4)) else (out (tH a3 a2 a4)))
def xe (a1:List aP) (a6:List Int) (a3:Int):((List (Int×Unit))×Int×Int)→Option (((List (Int×Unit))×Int×Int) ⊕ ((List Int×(List (Int×Unit))×Int) ⊕ (((List (Int×Unit))×Int) ⊕ (List Int×Bool))))
 | (a5,a4,a2)=>bif decide (a2 < (((idx a1 a3).args).length:Int)) then must (0≤a2∧a2 < (((idx a1 a3).args).length:Int)) (bif kC a5 (idx ((idx a1 a3).args) a2) then tJ a2 (DT a5 (idx ((idx a1 a3).args) a2)) (w64 (a4 + 1)) else (tJ a2 a5 a4)) else (bif decide (a4 > 0) then tK a1 a6 a3 a5 a4 (decide (a4 < (((idx a1 a3).args).length:Int))) else (tK a1 a6 a3 a5 a4 false))
def xg (a1:List aP):(List Int×(List (Int×Unit))×Int)→Option ((List Int×(List (Int×Unit))×Int) ⊕ (((List (Int×Unit))×Int) ⊕ (List Int×Bool)))
 | (a4,a3,a2)=>bif decide (a2 < (a1.length:Int)) then must (0≤a2∧a2 < (a1.length:Int)) (iter (xe a1 a4 a2) (a3,0,0)) else (bif decide ((a3.length:Int) > 0) then out (out (some (([]:List Int),false))) else (out (out (some (a4,true)))))
def xh (a0:List Int) (a1:List aP):((List (Int×Unit))×Int)→Option (((List (Int×Unit))×Int) ⊕ (List Int×Bool))
 | (a3,a2)=>bif decide (a2 < (a0.length:Int)) then must (0≤a2∧a2 < (a0.length:Int)) (some (.inl (gG a3 (idx a0 a2) (),w64 (a2 + 1)))) else (iter (xg a1) ([],a3,0))
def df (a0:List Int) (a1:List aP):Option (List Int×Bool) :=
 iter (xh a0 a1) ([],0)
def gL (a0:History) (a1:Ask):Option (List Int×Bool) :=
 (eO a0 a1.Key).bind fun a2=>bif (a2 == 2) then (bY a0 a1).bind fun a6=>(fo a1.Base a6).bind fun a3=>some (a3.1,a3.2) else (bif (a2 == 3) then (bY a0 a1).bind fun a5=>(df a1.Base a5).bind fun a4=>some (a4.1,a4.2) else (some (([]:List Int),false)))
def pz (a0:Int) (a2:Int) (a3:List aP) (a4:Int) (rec:Int→Int→Int→(List aP)→Int→Int→Option Int) (a7:Int):(Int×Int)→Option ((Int×Int) ⊕ Int)
 | (a5,a1)=>bif decide (a1 < (((idx a3 a0).args).length:Int)) then must (0≤a1∧a1 < (((idx a3 a0).args).length:Int)) (some (.inl (w64 (a5 + (idx ((idx a3 a0).args) a1)),w64 (a1 + 1)))) else (must (0≤a0∧a0 < (far:Int)) ((rec (w64 (a0 + 1)) a5 (bOr .u64 a2 (jH .u64 1 a0)) a3 a4 a7).bind fun a6=>out (some a6)))
def jS (rec:Int→Int→Int→(List aP)→Int→Int→Option Int) (a0:Int) (a1:Int) (a2:Int) (a3:List aP) (a4:Int) (a5:Int):Option Int :=
 bif (a0 == (a3.length:Int)) then bif (a1 == a4) then some (bOr .u64 a5 a2) else (some a5) else ((rec (w64 (a0 + 1)) a1 a2 a3 a4 a5).bind fun a6=>must (0≤a0∧a0 < (a3.length:Int)) (iter (pz a0 a2 a3 a4 rec a6) (a1,0)))
def gp:Nat→Int→Int→Int→(List aP)→Int→Int→Option Int
 | 0=>fun _ _ _ _ _ _=>none
 | k + 1=>jS (gp k)
def bE (a0:Int) (a1:Int) (a2:Int) (a3:List aP) (a4:Int) (a5:Int):Option Int:=gp 64 a0 a1 a2 a3 a4 a5
def nG (a2:Int) (a1:List Int):Option ((List Int×Int) ⊕ (List Int)) :=
 some (.inl (a1,w64 (a2 + 1)))
def qZ (a1:List aP) (a4:Int):(List Int×Int)→Option ((List Int×Int) ⊕ (List Int))
 | (a3,a2)=>bif decide (a2 < (a1.length:Int)) then must (0≤a2∧a2 < (a1.length:Int)) (must (0≤a2∧a2 < (far:Int)) (bif (cz .u64 (ed .u64 a4 a2) 1 == 1) then must (((a3.length + 1) + (a3.length + 1) / 4 + 192) * 8≤281474976710656∧a3.length + 1≤9223372036854775807) (nG a2 (a3++([(idx a1 a2).txn]:List Int))) else (nG a2 a3))) else (out (some a3))
def eT (a0:Int) (a1:List aP):Option (List Int) :=
 (bE 0 0 0 a1 a0 0).bind fun a2=>iter (qZ a1 a2) ([],0)
def fK (a1:List Int):Option (List Int) :=
 some a1
def nH (a0:History) (a1:Ask) (a3:List Int):Option (List Int) :=
 must (0≤(0:Int)∧(0:Int) < (a1.Base.length:Int)) ((bY a0 a1).bind fun a4=>(eT (idx a1.Base (0:Int)) a4).bind fun a2=>must (((a3.length + a2.length) + (a3.length + a2.length) / 4 + 192) * 8≤281474976710656∧a3.length + a2.length≤9223372036854775807) (fK (a3++a2)))
def nI (a1:Int) (a2:List Int):Option ((List Int×Int) ⊕ (List Int)) :=
 some (.inl (a2,w64 (a1 + 1)))
def nJ (a1:Ask) (a3:List aP):(List Int×Int)→Option ((List Int×Int) ⊕ (List Int))
 | (a4,a2)=>bif decide (a2 < (a3.length:Int)) then must (0≤a2∧a2 < (a3.length:Int)) (must (0≤w64 ((((idx a3 a2).args).length:Int) - 1)∧w64 ((((idx a3 a2).args).length:Int) - 1) < (((idx a3 a2).args).length:Int)) (must (0≤(0:Int)∧(0:Int) < (a1.Base.length:Int)) (bif (idx ((idx a3 a2).args) (w64 ((((idx a3 a2).args).length:Int) - 1)) == idx a1.Base (0:Int)) then must (((a4.length + 1) + (a4.length + 1) / 4 + 192) * 8≤281474976710656∧a4.length + 1≤9223372036854775807) (nI a2 (a4++([(idx a3 a2).txn]:List Int))) else (nI a2 a4)))) else (out (fK a4))
def bf (a0:History) (a1:Ask):Option (List Int) :=
 (eO a0 a1.Key).bind fun a3=>bif (a3 == 4) then must (0≤(0:Int)∧(0:Int) < (a1.Base.length:Int)) (bif (idx a1.Base (0:Int) == 0) then must (((0 + 1) + (0 + 1) / 4 + 192) * 8≤281474976710656∧0 + 1≤9223372036854775807) (nH a0 a1 (([]:List Int)++([(-1)]:List Int))) else (nH a0 a1 [])) else (bif ((a1.Base.length:Int) == 0) then fK ([(-1)]:List Int) else (bif (a3 == 1) then (bY a0 a1).bind fun a4=>iter (nJ a1 a4) ([],0) else (bif (a3 == 2) then (gL a0 a1).bind fun a2=>bif a2.2 then must (0≤(w64 ((a2.1.length:Int) - 1))∧(w64 ((a2.1.length:Int) - 1))≤(a2.1.length:Int)∧(a2.1.length:Int)≤(a2.1.length:Int)) (fK (dW a2.1 (w64 ((a2.1.length:Int) - 1)) (a2.1.length:Int))) else (fK []) else ((gL a0 a1).bind fun a5=>fK a5.1))))
def nY (a0:History) (a1:Ask):Option (List Int×Int) :=
 (oJ a0 a1).bind fun a2=>bif (a2 != 0) then some (([]:List Int),a2) else ((bf a0 a1).bind fun a3=>some (a3,0))
def rq (a0:History) (a1:Ask):Option (List Int×Bool×Int) :=
 (oJ a0 a1).bind fun a3=>bif (a3 != 0) then some (([]:List Int),false,a3) else ((gL a0 a1).bind fun a2=>some (a2.1,a2.2,0))
def iy (a0:aC) (a1:Int):Option Bool :=
 must (0≤a1∧a1 < (a0.h.Txns.length:Int)) (some ((idx a0.h.Txns a1).Status == 1))
def fD (a0:aC) (a1:Int) (a2:Int) (a3:Int) (a4:Int):Option aC :=
 must (((a0.edges.length + 1) + (a0.edges.length + 1) / 4 + 192) * 32≤281474976710656∧a0.edges.length + 1≤9223372036854775807) (some (⟨a0.h,a0.asks,a0.edges++([(⟨a1,a2,a3,a4⟩:Edge)]:List Edge)⟩:aC))
def jw (a3:Int) (a1:List Int) (a2:List (Int×Int)):Option ((List Int×(List (Int×Int))×Int) ⊕ aC) :=
 some (.inl (a1,a2,w64 (a3 - 1)))
def jy (a0:aC) (a3:List (Int×Int)) (a1:Int) (a2:List Int):Option ((List Int×(List (Int×Int))×Int) ⊕ aC) :=
 must (0≤a1∧a1 < (a0.h.Txns.length:Int)) (jw a1 a2 (gG a3 ((idx a0.h.Txns a1).Proc) a1))
def jA (a1:Int) (a2:List Edge):Option ((List Edge×Int) ⊕ ((List Int×(List (Int×Int))×Int) ⊕ aC)) :=
 some (.inl (a2,w64 (a1 + 1)))
def jB (a0:aC) (a2:List Int):(List Edge×Int)→Option ((List Edge×Int) ⊕ ((List Int×(List (Int×Int))×Int) ⊕ aC))
 | (a3,a1)=>bif decide (a1 < (a2.length:Int)) then must (0≤a1∧a1 < (a2.length:Int)) (bif decide (idx a2 a1 ≥ 0) then (fD (⟨a0.h,a0.asks,a3⟩:aC) a1 (idx a2 a1) 1 (-1)).bind fun a4=>jA a1 a4.edges else (jA a1 a3)) else (out (out (some (⟨a0.h,a0.asks,a3⟩:aC))))
def jC (a0:aC):(List Int×(List (Int×Int))×Int)→Option ((List Int×(List (Int×Int))×Int) ⊕ aC)
 | (a2,a3,a1)=>bif decide (a1 ≥ 0) then must (0≤a1∧a1 < (a2.length:Int)) ((iy a0 a1).bind fun a4=>bif !a4 then jw a1 (a2.set a1.toNat (-1)) a3 else (must (0≤a1∧a1 < (a0.h.Txns.length:Int)) (bif kC a3 ((idx a0.h.Txns a1).Proc) then must (0≤a1∧a1 < ((a2.set a1.toNat (-1)).length:Int)) (jy a0 a3 a1 ((a2.set a1.toNat (-1)).set a1.toNat (mat a3 ((idx a0.h.Txns a1).Proc)))) else (jy a0 a3 a1 (a2.set a1.toNat (-1)))))) else (iter (jB a0 a2) (a0.edges,0))
def aO (a0:aC):Option aC :=
 must (0≤(a0.h.Txns.length:Int)∧(a0.h.Txns.length:Int)≤9223372036854775807∧(8:Int) * (a0.h.Txns.length:Int)≤281474976710656) (iter (jC a0) (List.replicate (a0.h.Txns.length:Int).toNat (default:Int),[],w64 (((a0.h.Txns.length:Int).toNat:Int) - 1)))
def mh (a1:Int) (a2:List Edge):Option ((List Edge×Int) ⊕ ((List Edge×Int) ⊕ aC)) :=
 some (.inl (a2,w64 (a1 + 1)))
def jJ (a0:aC) (a3:Int) (a2:List Edge) (a1:Int) (a4:Bool):Option ((List Edge×Int) ⊕ ((List Edge×Int) ⊕ aC)) :=
 bif a4 then (fD (⟨a0.h,a0.asks,a2⟩:aC) a3 a1 2 (-1)).bind fun a5=>mh a1 a5.edges else (mh a1 a2)
def qx (a0:aC) (a2:Int):(List Edge×Int)→Option ((List Edge×Int) ⊕ ((List Edge×Int) ⊕ aC))
 | (a3,a1)=>bif decide (a1 < (a0.h.Txns.length:Int)) then must (0≤a1∧a1 < (a0.h.Txns.length:Int)) ((iy (⟨a0.h,a0.asks,a3⟩:aC) a2).bind fun a5=>bif a5 then (iy (⟨a0.h,a0.asks,a3⟩:aC) a1).bind fun a4=>bif a4 then jJ a0 a2 a3 a1 (decide ((idx a0.h.Txns a2).To < (idx a0.h.Txns a1).From)) else (jJ a0 a2 a3 a1 false) else (jJ a0 a2 a3 a1 false)) else (out (some (.inl (a3,w64 (a2 + 1)))))
def qy (a0:aC):(List Edge×Int)→Option ((List Edge×Int) ⊕ aC)
 | (a2,a1)=>bif decide (a1 < (a0.h.Txns.length:Int)) then must (0≤a1∧a1 < (a0.h.Txns.length:Int)) (iter (qx a0 a1) (a2,0)) else (out (some (⟨a0.h,a0.asks,a2⟩:aC)))
def bP (a0:aC):Option aC :=
 iter (qy a0) (a0.edges,0)
def jG (a0:Int) (a1:aJ) (a2:aC):Option Bool :=
 bif (a0 == a1.Ask.Txn) then some true else ((iy a2 a0).bind fun y5=>some (!y5))
def kG (a0:aJ) (a1:Int):Option Bool :=
 bif ((a0.sources.length:Int) == 1) then must (0≤(0:Int)∧(0:Int) < (a0.sources.length:Int)) (some (idx a0.sources (0:Int) == a1)) else (some false)
def kR (a0:aJ) (a1:Int) (a2:aJ):Option Bool :=
 bif (a0.Ask.Txn == a1) then bif (a0.Ask.Key == a2.Ask.Key) then must (0≤(0:Int)∧(0:Int) < (a2.sources.length:Int)) ((kG a0 (idx a2.sources (0:Int))).bind fun a3=>some a3) else (some false) else (some false)
def fB (a0:List aJ) (a1c0:Int) (a1c1:aJ):Int→Option (Int ⊕ Int)
 | a1=>bif decide (a1 < (a0.length:Int)) then must (0≤a1∧a1 < (a0.length:Int)) ((kR (⟨((idx a0 a1).Ask),(idx a0 a1).sources,(idx a0 a1).parts,(idx a0 a1).made,(idx a0 a1).kind⟩:aJ) a1c0 a1c1).bind fun a2=>bif a2 then out (some a1) else (some (.inl (w64 (a1 + 1))))) else (out (some (-1)))
def bu (a0:List aJ) (a1c0:Int) (a1c1:aJ):Option Int :=
 iter (fB a0 a1c0 a1c1) 0
def dD (a0:List aJ) (a1c0:Int) (a1c1:aJ):Option Bool :=
 (bu a0 a1c0 a1c1).bind fun y3=>some (decide (y3 ≥ 0))
def gN (a0:aC) (a1:aJ) (a2:Int) (a4:Bool):Option Bool :=
 bif a4 then some false else ((dD a0.asks a2 a1).bind fun a3=>some a3)
def eQ (a0:aC) (a1:aJ) (a2:Int):Option Bool :=
 (kG a1 (-1)).bind fun a4=>bif a4 then some true else (bif a1.made then (slices_Contains_int a1.parts a2).bind fun a3=>some (!a3) else (bif (a1.kind != 1) then gN a0 a1 a2 true else (bif ((a1.sources.length:Int) != 1) then gN a0 a1 a2 true else (must (0≤(0:Int)∧(0:Int) < (a1.sources.length:Int)) (gN a0 a1 a2 (idx a1.sources (0:Int) == a2))))))
def fI (a0:List Int) (a1c0:aJ) (a1c1:aC):Int→Option (Int ⊕ Int)
 | a1=>bif decide (a1 < (a0.length:Int)) then must (0≤a1∧a1 < (a0.length:Int)) ((jG (idx a0 a1) a1c0 a1c1).bind fun a2=>bif a2 then out (some a1) else (some (.inl (w64 (a1 + 1))))) else (out (some (-1)))
def bF (a0:List Int) (a1c0:aJ) (a1c1:aC):Option Int :=
 iter (fI a0 a1c0 a1c1) 0
def fE (a0:List Int) (a1c0:aJ) (a1c1:aC):List Int×Int→Option ((List Int×Int) ⊕ List Int)
 | (l,x)=>bif decide (x < (a0.length:Int)) then must (0≤x∧x < (a0.length:Int)) ((jG (idx a0 x) a1c0 a1c1).bind fun y=>bif !y then (some (.inl (l++[idx a0 x],w64 (x + 1)))) else (some (.inl (l,w64 (x + 1))))) else (out (some l))
def bA (a0:List Int) (a1c0:aJ) (a1c1:aC):Option (List Int) :=
 (bF a0 a1c0 a1c1).bind fun i=>bif i == -1 then some a0 else must (0≤i∧i < (a0.length:Int)) (iter (fE a0 a1c0 a1c1) (a0.take i.toNat,w64 (i + 1)))
def nK (a2:Int) (a1:List Edge):Option ((List Edge×Int) ⊕ aC) :=
 some (.inl (a1,w64 (a2 + 1)))
def ru (a0:aC) (a1:aJ) (a4:List Int):(List Edge×Int)→Option ((List Edge×Int) ⊕ aC)
 | (a3,a2)=>bif decide (a2 < (a4.length:Int)) then must (0≤a2∧a2 < (a4.length:Int)) ((eQ (⟨a0.h,a0.asks,a3⟩:aC) a1 (idx a4 a2)).bind fun a6=>bif a6 then (fD (⟨a0.h,a0.asks,a3⟩:aC) a1.Ask.Txn (idx a4 a2) 16 a1.Ask.Key).bind fun a5=>nK a2 a5.edges else (nK a2 a3)) else (out (some (⟨a0.h,a0.asks,a3⟩:aC)))
def ja (a0:aC) (a1:aJ) (a3:List Int) (a2:List Edge):Option aC :=
 iter (ru a0 a1 a3) (a2,0)
def kS (a2:Int) (a1:List Edge):Option ((List Edge×Int) ⊕ aC) :=
 some (.inl (a1,w64 (a2 + 1)))
def nL (a2:Int) (a1:List Edge):Option ((List Edge×Int) ⊕ ((List Edge×Int) ⊕ aC)) :=
 some (.inl (a1,w64 (a2 + 1)))
def nM (a0:aC) (a1:aJ) (a3:List Int) (a5:Int):(List Edge×Int)→Option ((List Edge×Int) ⊕ ((List Edge×Int) ⊕ aC))
 | (a4,a2)=>bif decide (a2 < (a3.length:Int)) then must (0≤a2∧a2 < (a3.length:Int)) ((slices_Contains_int a1.parts (idx a3 a2)).bind fun a6=>bif !a6 then (fD (⟨a0.h,a0.asks,a4⟩:aC) (idx a1.parts a5) (idx a3 a2) 8 a1.Ask.Key).bind fun a7=>nL a2 a7.edges else (nL a2 a4)) else (out (kS a5 a4))
def nN (a0:aC) (a1:aJ) (a6:List Int) (a3:List Edge) (a2:Int) (a4:Bool):Option ((List Edge×Int) ⊕ aC) :=
 bif a4 then must (0≤w64 (a2 + 1)∧w64 (a2 + 1) < (a1.parts.length:Int)) ((fD (⟨a0.h,a0.asks,a3⟩:aC) (idx a1.parts a2) (idx a1.parts (w64 (a2 + 1))) 8 a1.Ask.Key).bind fun a5=>kS a2 a5.edges) else (iter (nM a0 a1 a6 a2) (a3,0))
def nO (a0:aC) (a1:aJ) (a3:List Int):(List Edge×Int)→Option ((List Edge×Int) ⊕ aC)
 | (a4,a2)=>bif decide (a2 < (a1.parts.length:Int)) then must (0≤a2∧a2 < (a1.parts.length:Int)) (bif (a1.kind == 2) then nN a0 a1 a3 a4 a2 (decide (w64 (a2 + 1) < (a1.parts.length:Int))) else (nN a0 a1 a3 a4 a2 false)) else (out (ja a0 a1 a3 a4))
def ib (a0:aC) (a1:aJ) (a2:List Edge):Option aC :=
 (dG a0.h a1.Ask.Key).bind fun a4=>(bA a4 a1 (⟨a0.h,a0.asks,a2⟩:aC)).bind fun a3=>bif a1.made then iter (nO a0 a1 a3) (a2,0) else (ja a0 a1 a3 a2)
def fT (a0:aC) (a1:aJ) (a2:Bool):Option aC :=
 bif a2 then must (0≤(0:Int)∧(0:Int) < (a1.sources.length:Int)) ((fD a0 (idx a1.sources (0:Int)) a1.Ask.Txn 4 a1.Ask.Key).bind fun a3=>ib a0 a1 a3.edges) else (ib a0 a1 a0.edges)
def ay (a0:aC) (a1:aJ):Option aC :=
 bif ((a1.sources.length:Int) == 1) then must (0≤(0:Int)∧(0:Int) < (a1.sources.length:Int)) (fT a0 a1 (decide (idx a1.sources (0:Int) ≥ 0))) else (fT a0 a1 false)
def xk (a1:Int) (a2:List aJ):Option ((List aJ×Int) ⊕ (fU×Int)) :=
 some (.inl (a2,w64 (a1 + 1)))
def tL (a7:List Ask×Int) (a1:List aJ) (a2:Int) (a5:Int) (a6:List Int×Int) (a4:List Int×Bool×Int) (a3:Bool):Option ((List aJ×Int) ⊕ (fU×Int)) :=
 must (((a1.length + 1) + (a1.length + 1) / 4 + 192) * 112≤281474976710656∧a1.length + 1≤9223372036854775807) (xk a2 (a1++([(⟨(idx a7.1 a2),a6.1,a4.1,a3,a5⟩:aJ)]:List aJ)))
def xm (a0:History) (a2:List Ask×Int) (a5:List aJ) (a1:Int) (a4:Int):Option ((List aJ×Int) ⊕ (fU×Int)) :=
 (nY a0 (idx a2.1 a1)).bind fun a6=>(rq a0 (idx a2.1 a1)).bind fun a3=>bif a3.2.1 then tL a2 a5 a1 a4 a6 a3 (decide ((((idx a2.1 a1).Base).length:Int) > 0)) else (tL a2 a5 a1 a4 a6 a3 false)
def tN (a0:History) (a2:List aJ):(List Edge×Int)→Option ((List Edge×Int) ⊕ ((List aJ×Int) ⊕ (fU×Int)))
 | (a3,a1)=>bif decide (a1 < (a2.length:Int)) then must (0≤a1∧a1 < (a2.length:Int)) ((ay (⟨a0,a2,a3⟩:aC) (⟨((idx a2 a1).Ask),(idx a2 a1).sources,(idx a2 a1).parts,(idx a2 a1).made,(idx a2 a1).kind⟩:aJ)).bind fun a4=>some (.inl (a4.edges,w64 (a1 + 1)))) else (out (out (some ((⟨(a0.Txns.length:Int),a3⟩:fU),0))))
def xn (a0:History) (a3:List Ask×Int):(List aJ×Int)→Option ((List aJ×Int) ⊕ (fU×Int))
 | (a2,a1)=>bif decide (a1 < (a3.1.length:Int)) then must (0≤a1∧a1 < (a3.1.length:Int)) ((eO a0 ((idx a3.1 a1).Key)).bind fun a6=>xm a0 a3 a2 a1 a6) else ((aO (⟨a0,a2,([]:List Edge)⟩:aC)).bind fun a4=>(bP (⟨a0,a2,a4.edges⟩:aC)).bind fun a5=>iter (tN a0 a2) (a5.edges,0))
def dC (a0:History):Option (fU×Int) :=
 (gm a0).bind fun a1=>bif (a1.2 != 0) then some ((⟨0,([]:List Edge)⟩:fU),a1.2) else (iter (xn a0 a1) ([],0))
def xD (a0:History):Option (List pq×Int) :=
 (kF a0).bind fun a1=>some (a1.1.bad,a1.2)
def tQ (a0:History) (a1:List Int) (a3:List (Int×Int)) (a2:Int) (a4:Bool):Option (((List (Int×Int))×Int) ⊕ (dE×Bool)) :=
 bif a4 then out (some ((⟨a0,a1,a3⟩:dE),false)) else (some (.inl (gG a3 (idx a1 a2) a2,w64 (a2 + 1))))
def wI (a0:History) (a1:List Int) (a4:List (Int×Int)) (a2:Int) (a3:Bool):Option (Int ⊕ (((List (Int×Int))×Int) ⊕ (dE×Bool))) :=
 bif a3 then out (out (some ((⟨a0,a1,a4⟩:dE),false))) else (some (.inl (w64 (a2 + 1))))
def wJ (a0:History) (a1:List Int) (a3:List (Int×Int)):Int→Option (Int ⊕ (((List (Int×Int))×Int) ⊕ (dE×Bool)))
 | a2=>bif decide (a2 < (a0.Txns.length:Int)) then must (0≤a2∧a2 < (a0.Txns.length:Int)) (bif !(kC a3 a2) then wI a0 a1 a3 a2 ((idx a0.Txns a2).Status == 1) else (wI a0 a1 a3 a2 false)) else (out (out (some ((⟨a0,a1,a3⟩:dE),true))))
def yV (a0:History) (a1:List Int):((List (Int×Int))×Int)→Option (((List (Int×Int))×Int) ⊕ (dE×Bool))
 | (a3,a2)=>bif decide (a2 < (a1.length:Int)) then must (0≤a2∧a2 < (a1.length:Int)) (bif decide (idx a1 a2 < 0) then tQ a0 a1 a3 a2 true else (bif decide (idx a1 a2 ≥ (a0.Txns.length:Int)) then tQ a0 a1 a3 a2 true else (must (0≤idx a1 a2∧idx a1 a2 < (a0.Txns.length:Int)) (tQ a0 a1 a3 a2 ((idx a0.Txns (idx a1 a2)).Status == 2))))) else (bif ((a3.length:Int) != (a1.length:Int)) then out (some ((⟨a0,a1,a3⟩:dE),false)) else (iter (wJ a0 a1 a3) 0))
def fF (a0:History) (a1:List Int):Option (dE×Bool) :=
 iter (yV a0 a1) ([],0)
def jD (a1:Int) (a2:List (Int×Int)):Option (((List (Int×Int))×Int) ⊕ Bool) :=
 some (.inl (a2,w64 (a1 + 1)))
def jE (a0:dE) (a2:List (Int×Int)) (a1:Int) (a3:Bool):Option (((List (Int×Int))×Int) ⊕ Bool) :=
 bif a3 then out (some false) else (jD a1 (gG a2 ((idx a0.h.Txns a1).Proc) (DN (mat a0.at_ a1) (mat a2 ((idx a0.h.Txns a1).Proc)))))
def mi (a0:dE):((List (Int×Int))×Int)→Option (((List (Int×Int))×Int) ⊕ Bool)
 | (a2,a1)=>bif decide (a1 < (a0.h.Txns.length:Int)) then must (0≤a1∧a1 < (a0.h.Txns.length:Int)) (bif !(kC a0.at_ a1) then jD a1 a2 else (bif kC a2 ((idx a0.h.Txns a1).Proc) then jE a0 a2 a1 (decide (mat a2 ((idx a0.h.Txns a1).Proc) > mat a0.at_ a1)) else (jE a0 a2 a1 false))) else (out (some true))
def bJ (a0:dE):Option Bool :=
 iter (mi a0) ([],0)
def lF (a0:dE) (a1:Ask) (a2:Int) (b9:Bool):Option Bool :=
 bif b9 then some false else ((iw a0.h a2 a1.Key).bind fun a3=>some a3.2)
def fH (a0:dE) (a1:Ask) (a2:Int):Option Bool :=
 bif !(kC a0.at_ a2) then lF a0 a1 a2 true else (lF a0 a1 a2 (decide (mat a0.at_ a2 ≥ mat a0.at_ a1.Txn)))
def ry (a0:List Int):Option (List Int):=must (a0.length < 4611686018427387904) (some (a0.mergeSort fun x y=>decide (x≤y)))
def jT (a1:List Int):Option (List Int) :=
 some a1
def mY (a2:List Int):(Int×Int)→Option ((Int×Int) ⊕ (List Int))
 | (a3,a1)=>bif decide (a1 < (a2.length:Int)) then must (0≤a1∧a1 < (a2.length:Int)) (some (.inl (w64 (a3 + (idx a2 a1)),w64 (a1 + 1)))) else (out (some ([a3]:List Int)))
def iH (a0:dE) (a1:Int) (a2:List Int):Option (List Int) :=
 (eO a0.h a1).bind fun a3=>bif (a3 == 1) then must (0≤(DN 0 (w64 ((a2.length:Int) - 1)))∧(DN 0 (w64 ((a2.length:Int) - 1)))≤(a2.length:Int)∧(a2.length:Int)≤(a2.length:Int)) (some (dW a2 (DN 0 (w64 ((a2.length:Int) - 1))) (a2.length:Int))) else (bif (a3 == 3) then (ry a2).bind fun a4=>jT a4 else (bif (a3 == 4) then iter (mY a2) (0,0) else (jT a2)))
def jU (a2:Int) (a1:List Int):Option ((List Int×Int) ⊕ ((List Int×Int) ⊕ (List Int))) :=
 some (.inl (a1,w64 (a2 + 1)))
def jV (a0:dE) (a2:Int) (a5:Int) (a1:List Int) (a3:Int) (a4:Bool):Option ((List Int×Int) ⊕ ((List Int×Int) ⊕ (List Int))) :=
 bif a4 then must (((a1.length + 1) + (a1.length + 1) / 4 + 192) * 8≤281474976710656∧a1.length + 1≤9223372036854775807) (jU a3 (a1++([(idx ((idx a0.h.Txns (idx (dW a0.order (0:Int) (w64 ((mat a0.at_ a2) + 1))) a5)).Ops) a3).Arg]:List Int))) else (jU a3 a1)
def mZ (a0:dE) (a1:Int) (a2:Int) (a3:Int):(List Int×Int)→Option ((List Int×Int) ⊕ ((List Int×Int) ⊕ (List Int)))
 | (a5,a4)=>bif decide (a4 < (((idx a0.h.Txns (idx (dW a0.order (0:Int) (w64 ((mat a0.at_ a2) + 1))) a3)).Ops).length:Int)) then must (0≤a4∧a4 < (((idx a0.h.Txns (idx (dW a0.order (0:Int) (w64 ((mat a0.at_ a2) + 1))) a3)).Ops).length:Int)) (bif ((idx ((idx a0.h.Txns (idx (dW a0.order (0:Int) (w64 ((mat a0.at_ a2) + 1))) a3)).Ops) a4).Key == a1) then jV a0 a2 a3 a5 a4 (decide ((idx ((idx a0.h.Txns (idx (dW a0.order (0:Int) (w64 ((mat a0.at_ a2) + 1))) a3)).Ops) a4).Kind≤4)) else (jV a0 a2 a3 a5 a4 false)) else (out (some (.inl (a5,w64 (a3 + 1)))))
def ng (a0:dE) (a1:Int) (a2:Int):(List Int×Int)→Option ((List Int×Int) ⊕ (List Int))
 | (a4,a3)=>bif decide (a3 < ((dW a0.order (0:Int) (w64 ((mat a0.at_ a2) + 1))).length:Int)) then must (0≤a3∧a3 < ((dW a0.order (0:Int) (w64 ((mat a0.at_ a2) + 1))).length:Int)) (must (0≤idx (dW a0.order (0:Int) (w64 ((mat a0.at_ a2) + 1))) a3∧idx (dW a0.order (0:Int) (w64 ((mat a0.at_ a2) + 1))) a3 < (a0.h.Txns.length:Int)) (iter (mZ a0 a1 a2 a3) (a4,0))) else (out (iH a0 a1 a4))
def aH (a0:dE) (a1:Int) (a2:Int):Option (List Int) :=
 bif decide (a2 ≥ 0) then must (0≤(0:Int)∧(0:Int)≤(w64 ((mat a0.at_ a2) + 1))∧(w64 ((mat a0.at_ a2) + 1))≤(a0.order.length:Int)) (iter (ng a0 a1 a2) ([],0)) else (iH a0 a1 [])
def wK (a1:Exec) (a3:List Ask×Int) (a7:dE×Bool) (a2:Int) (a6:Bool):Option (Int ⊕ (Int×Int)) :=
 bif a6 then out (some (5,0)) else (must (0≤a2∧a2 < (a1.Picks.length:Int)) ((aH a7.1 ((idx a3.1 a2).Key) (idx a1.Picks a2)).bind fun a4=>(dY a4 ((idx a3.1 a2).Base)).bind fun a5=>bif !a5 then out (some (6,0)) else (some (.inl (w64 (a2 + 1))))))
def wL (a1:Exec) (a3:List Ask×Int) (a4:dE×Bool):Int→Option (Int ⊕ (Int×Int))
 | a2=>bif decide (a2 < (a3.1.length:Int)) then must (0≤a2∧a2 < (a3.1.length:Int)) (must (0≤a2∧a2 < (a1.Picks.length:Int)) (bif (idx a1.Picks a2 != (-1)) then (fH a4.1 (idx a3.1 a2) (idx a1.Picks a2)).bind fun a5=>wK a1 a3 a4 a2 (!a5) else (wK a1 a3 a4 a2 false))) else (out (some (0,0)))
def gy (a0:History) (a1:Exec):Option (Int×Int) :=
 (gm a0).bind fun a2=>bif (a2.2 != 0) then some (0,a2.2) else ((xD a0).bind fun a5=>bif decide ((a5.1.length:Int) > 0) then some (1,0) else ((fF a0 a1.Order).bind fun a3=>bif !a3.2 then some (2,0) else (bif ((a1.Picks.length:Int) != (a2.1.length:Int)) then some (3,0) else ((bJ a3.1).bind fun a4=>bif !a4 then some (4,0) else (iter (wL a1 a2 a3) 0)))))
def uO (a1:Exec) (a2:Edge) (a5:Bool):Option Bool :=
 bif a5 then some false else ((slices_Index_int a1.Order a2.From).bind fun a3=>(slices_Index_int a1.Order a2.To).bind fun a4=>bif decide (a3 ≥ 0) then some (decide (a3 < a4)) else (some false))
def lN (a0:History) (a1:Exec) (a2:Edge):Option Bool :=
 (gy a0 a1).bind fun a3=>bif (a3.2 != 0) then uO a1 a2 true else (uO a1 a2 (a3.1 != 0))
def oO (a0:Int):Option Op :=
 some (⟨5,0,0,true,([a0]:List Int)⟩:Op)
def nP:Option Bool :=
 (oO 1).bind fun a2=>(oO 1).bind fun a3=>(dC (⟨([(⟨#[120]⟩:ByteArray)]:List ByteArray),([(⟨0,1,0,9,([(⟨1,0,1,false,([]:List Int)⟩:Op)]:List Op)⟩:Txn),(⟨1,1,2,5,([a2,(⟨1,0,2,false,([]:List Int)⟩:Op)]:List Op)⟩:Txn),(⟨2,1,3,4,([a3,(⟨1,0,3,false,([]:List Int)⟩:Op)]:List Op)⟩:Txn)]:List Txn)⟩:History)).bind fun a1=>bif (a1.2 == 0) then bif (a1.1.N == 3) then bif ((a1.1.Edges.length:Int) == 4) then must (0≤(1:Int)∧(1:Int) < (a1.1.Edges.length:Int)) (bif (((idx a1.1.Edges (1:Int)).From == 1) && (((idx a1.1.Edges (1:Int)).To == 2) && (((idx a1.1.Edges (1:Int)).Kind == 16) && (((idx a1.1.Edges (1:Int)).Key == 0) && true)))) then must (0≤(0:Int)∧(0:Int) < (a1.1.Edges.length:Int)) ((lN (⟨([(⟨#[120]⟩:ByteArray)]:List ByteArray),([(⟨0,1,0,9,([(⟨1,0,1,false,([]:List Int)⟩:Op)]:List Op)⟩:Txn),(⟨1,1,2,5,([a2,(⟨1,0,2,false,([]:List Int)⟩:Op)]:List Op)⟩:Txn),(⟨2,1,3,4,([a3,(⟨1,0,3,false,([]:List Int)⟩:Op)]:List Op)⟩:Txn)]:List Txn)⟩:History) (⟨([0,1,2]:List Int),([0,0]:List Int)⟩:Exec) (idx a1.1.Edges (0:Int))).bind fun a4=>some a4) else (some false)) else (some false) else (some false) else (some false)
def mU (a0:Int) (a1:fU):Option Bool :=
 bif decide (a0 ≥ 0) then some (decide (a0 < a1.N)) else (some false)
def sN (a0:Int):Option Int :=
 must (0≤(1:Int)∧(1:Int) < (far:Int)) (must (0≤(2:Int)∧(2:Int) < (far:Int)) (must (0≤(4:Int)∧(4:Int) < (far:Int)) (must (0≤(8:Int)∧(8:Int) < (far:Int)) (must (0≤(16:Int)∧(16:Int) < (far:Int)) (must (0≤(32:Int)∧(32:Int) < (far:Int)) (some (cz .i64 (w64 (IntKind.wrap .u64 ((IntKind.wrap .u64 ((IntKind.wrap .u64 ((cz .u64 (IntKind.wrap .u64 ((ed .u64 (IntKind.wrap .u64 ((cz .u64 (ed .u64 (IntKind.wrap .u64 ((cz .u64 (ed .u64 a0 (1:Int)) 6148914691236517205) + (cz .u64 a0 6148914691236517205))) (2:Int)) 3689348814741910323) + (cz .u64 (IntKind.wrap .u64 ((cz .u64 (ed .u64 a0 (1:Int)) 6148914691236517205) + (cz .u64 a0 6148914691236517205))) 3689348814741910323))) (4:Int)) + (IntKind.wrap .u64 ((cz .u64 (ed .u64 (IntKind.wrap .u64 ((cz .u64 (ed .u64 a0 (1:Int)) 6148914691236517205) + (cz .u64 a0 6148914691236517205))) (2:Int)) 3689348814741910323) + (cz .u64 (IntKind.wrap .u64 ((cz .u64 (ed .u64 a0 (1:Int)) 6148914691236517205) + (cz .u64 a0 6148914691236517205))) 3689348814741910323))))) 1085102592571150095) + (ed .u64 (cz .u64 (IntKind.wrap .u64 ((ed .u64 (IntKind.wrap .u64 ((cz .u64 (ed .u64 (IntKind.wrap .u64 ((cz .u64 (ed .u64 a0 (1:Int)) 6148914691236517205) + (cz .u64 a0 6148914691236517205))) (2:Int)) 3689348814741910323) + (cz .u64 (IntKind.wrap .u64 ((cz .u64 (ed .u64 a0 (1:Int)) 6148914691236517205) + (cz .u64 a0 6148914691236517205))) 3689348814741910323))) (4:Int)) + (IntKind.wrap .u64 ((cz .u64 (ed .u64 (IntKind.wrap .u64 ((cz .u64 (ed .u64 a0 (1:Int)) 6148914691236517205) + (cz .u64 a0 6148914691236517205))) (2:Int)) 3689348814741910323) + (cz .u64 (IntKind.wrap .u64 ((cz .u64 (ed .u64 a0 (1:Int)) 6148914691236517205) + (cz .u64 a0 6148914691236517205))) 3689348814741910323))))) 1085102592571150095) (8:Int)))) + (ed .u64 (IntKind.wrap .u64 ((cz .u64 (IntKind.wrap .u64 ((ed .u64 (IntKind.wrap .u64 ((cz .u64 (ed .u64 (IntKind.wrap .u64 ((cz .u64 (ed .u64 a0 (1:Int)) 6148914691236517205) + (cz .u64 a0 6148914691236517205))) (2:Int)) 3689348814741910323) + (cz .u64 (IntKind.wrap .u64 ((cz .u64 (ed .u64 a0 (1:Int)) 6148914691236517205) + (cz .u64 a0 6148914691236517205))) 3689348814741910323))) (4:Int)) + (IntKind.wrap .u64 ((cz .u64 (ed .u64 (IntKind.wrap .u64 ((cz .u64 (ed .u64 a0 (1:Int)) 6148914691236517205) + (cz .u64 a0 6148914691236517205))) (2:Int)) 3689348814741910323) + (cz .u64 (IntKind.wrap .u64 ((cz .u64 (ed .u64 a0 (1:Int)) 6148914691236517205) + (cz .u64 a0 6148914691236517205))) 3689348814741910323))))) 1085102592571150095) + (ed .u64 (cz .u64 (IntKind.wrap .u64 ((ed .u64 (IntKind.wrap .u64 ((cz .u64 (ed .u64 (IntKind.wrap .u64 ((cz .u64 (ed .u64 a0 (1:Int)) 6148914691236517205) + (cz .u64 a0 6148914691236517205))) (2:Int)) 3689348814741910323) + (cz .u64 (IntKind.wrap .u64 ((cz .u64 (ed .u64 a0 (1:Int)) 6148914691236517205) + (cz .u64 a0 6148914691236517205))) 3689348814741910323))) (4:Int)) + (IntKind.wrap .u64 ((cz .u64 (ed .u64 (IntKind.wrap .u64 ((cz .u64 (ed .u64 a0 (1:Int)) 6148914691236517205) + (cz .u64 a0 6148914691236517205))) (2:Int)) 3689348814741910323) + (cz .u64 (IntKind.wrap .u64 ((cz .u64 (ed .u64 a0 (1:Int)) 6148914691236517205) + (cz .u64 a0 6148914691236517205))) 3689348814741910323))))) 1085102592571150095) (8:Int)))) (16:Int)))) + (ed .u64 (IntKind.wrap .u64 ((IntKind.wrap .u64 ((cz .u64 (IntKind.wrap .u64 ((ed .u64 (IntKind.wrap .u64 ((cz .u64 (ed .u64 (IntKind.wrap .u64 ((cz .u64 (ed .u64 a0 (1:Int)) 6148914691236517205) + (cz .u64 a0 6148914691236517205))) (2:Int)) 3689348814741910323) + (cz .u64 (IntKind.wrap .u64 ((cz .u64 (ed .u64 a0 (1:Int)) 6148914691236517205) + (cz .u64 a0 6148914691236517205))) 3689348814741910323))) (4:Int)) + (IntKind.wrap .u64 ((cz .u64 (ed .u64 (IntKind.wrap .u64 ((cz .u64 (ed .u64 a0 (1:Int)) 6148914691236517205) + (cz .u64 a0 6148914691236517205))) (2:Int)) 3689348814741910323) + (cz .u64 (IntKind.wrap .u64 ((cz .u64 (ed .u64 a0 (1:Int)) 6148914691236517205) + (cz .u64 a0 6148914691236517205))) 3689348814741910323))))) 1085102592571150095) + (ed .u64 (cz .u64 (IntKind.wrap .u64 ((ed .u64 (IntKind.wrap .u64 ((cz .u64 (ed .u64 (IntKind.wrap .u64 ((cz .u64 (ed .u64 a0 (1:Int)) 6148914691236517205) + (cz .u64 a0 6148914691236517205))) (2:Int)) 3689348814741910323) + (cz .u64 (IntKind.wrap .u64 ((cz .u64 (ed .u64 a0 (1:Int)) 6148914691236517205) + (cz .u64 a0 6148914691236517205))) 3689348814741910323))) (4:Int)) + (IntKind.wrap .u64 ((cz .u64 (ed .u64 (IntKind.wrap .u64 ((cz .u64 (ed .u64 a0 (1:Int)) 6148914691236517205) + (cz .u64 a0 6148914691236517205))) (2:Int)) 3689348814741910323) + (cz .u64 (IntKind.wrap .u64 ((cz .u64 (ed .u64 a0 (1:Int)) 6148914691236517205) + (cz .u64 a0 6148914691236517205))) 3689348814741910323))))) 1085102592571150095) (8:Int)))) + (ed .u64 (IntKind.wrap .u64 ((cz .u64 (IntKind.wrap .u64 ((ed .u64 (IntKind.wrap .u64 ((cz .u64 (ed .u64 (IntKind.wrap .u64 ((cz .u64 (ed .u64 a0 (1:Int)) 6148914691236517205) + (cz .u64 a0 6148914691236517205))) (2:Int)) 3689348814741910323) + (cz .u64 (IntKind.wrap .u64 ((cz .u64 (ed .u64 a0 (1:Int)) 6148914691236517205) + (cz .u64 a0 6148914691236517205))) 3689348814741910323))) (4:Int)) + (IntKind.wrap .u64 ((cz .u64 (ed .u64 (IntKind.wrap .u64 ((cz .u64 (ed .u64 a0 (1:Int)) 6148914691236517205) + (cz .u64 a0 6148914691236517205))) (2:Int)) 3689348814741910323) + (cz .u64 (IntKind.wrap .u64 ((cz .u64 (ed .u64 a0 (1:Int)) 6148914691236517205) + (cz .u64 a0 6148914691236517205))) 3689348814741910323))))) 1085102592571150095) + (ed .u64 (cz .u64 (IntKind.wrap .u64 ((ed .u64 (IntKind.wrap .u64 ((cz .u64 (ed .u64 (IntKind.wrap .u64 ((cz .u64 (ed .u64 a0 (1:Int)) 6148914691236517205) + (cz .u64 a0 6148914691236517205))) (2:Int)) 3689348814741910323) + (cz .u64 (IntKind.wrap .u64 ((cz .u64 (ed .u64 a0 (1:Int)) 6148914691236517205) + (cz .u64 a0 6148914691236517205))) 3689348814741910323))) (4:Int)) + (IntKind.wrap .u64 ((cz .u64 (ed .u64 (IntKind.wrap .u64 ((cz .u64 (ed .u64 a0 (1:Int)) 6148914691236517205) + (cz .u64 a0 6148914691236517205))) (2:Int)) 3689348814741910323) + (cz .u64 (IntKind.wrap .u64 ((cz .u64 (ed .u64 a0 (1:Int)) 6148914691236517205) + (cz .u64 a0 6148914691236517205))) 3689348814741910323))))) 1085102592571150095) (8:Int)))) (16:Int)))) (32:Int))))) 127)))))))
def lQ (a0:Int):Option Int :=
 (sN a0).bind fun y3=>some y3
def iV (a1:Int) (a2:Bool):Option (Int ⊕ Int) :=
 bif a2 then out (some 60) else (some (.inl (w64 (a1 + 1))))
def yX (a0:fU):Int→Option (Int ⊕ Int)
 | a1=>bif decide (a1 < (a0.Edges.length:Int)) then must (0≤a1∧a1 < (a0.Edges.length:Int)) ((mU ((idx a0.Edges a1).From) a0).bind fun a4=>bif !a4 then iV a1 true else ((mU ((idx a0.Edges a1).To) a0).bind fun a2=>bif !a2 then iV a1 true else (bif decide ((idx a0.Edges a1).Kind < 1) then iV a1 true else (bif decide ((idx a0.Edges a1).Kind > 16) then iV a1 true else ((lQ (IntKind.wrap .u64 ((idx a0.Edges a1).Kind))).bind fun a3=>iV a1 (a3 != 1)))))) else (out (some 0))
def lS (a0:fU) (b9:Bool):Option Int :=
 bif b9 then some 60 else (iter (yX a0) 0)
def dw (a0:fU):Option Int :=
 bif decide (a0.N < 0) then lS a0 true else (bif decide (a0.N > 64) then lS a0 true else (lS a0 (decide ((a0.Edges.length:Int) > 262144))))
def qb (a2:Int) (a1:List Int):Option ((List Int×Int) ⊕ ((List Int×List Int×List Int×Int×Int) ⊕ (dh×Int))) :=
 some (.inl (a1,w64 (a2 + 1)))
def qc (a0:History) (a1:Exec) (a7:List Int) (a6:List Int) (a5:Int) (a2:Int):(List Int×Int)→Option ((List Int×Int) ⊕ ((List Int×List Int×List Int×Int×Int) ⊕ (dh×Int)))
 | (a4,a3)=>bif decide (a3 < ((dW a1.Order (0:Int) a2).length:Int)) then must (0≤a3∧a3 < ((dW a1.Order (0:Int) a2).length:Int)) (must (0≤idx (dW a1.Order (0:Int) a2) a3∧idx (dW a1.Order (0:Int) a2) a3 < (a0.Txns.length:Int)) (must (0≤idx a1.Order a2∧idx a1.Order a2 < (a0.Txns.length:Int)) (bif ((idx a0.Txns (idx (dW a1.Order (0:Int) a2) a3)).Proc == (idx a0.Txns (idx a1.Order a2)).Proc) then must (0≤idx (dW a1.Order (0:Int) a2) a3∧idx (dW a1.Order (0:Int) a2) a3 < (far:Int)) (qb a3 (uG 32 a4 (idx a1.Order a2) (bOr .u32 (idx a4 (idx a1.Order a2)) (jH .u32 1 (idx (dW a1.Order (0:Int) a2) a3))))) else (qb a3 a4)))) else (must (0≤idx a1.Order a2∧idx a1.Order a2 < (far:Int)) (out (some (.inl ((uG 32 a7 (idx a1.Order a2) (w64 (a2 + 1))),(uG 32 a6 (idx a1.Order a2) a5),a4,bOr .u32 a5 (jH .u32 1 (idx a1.Order a2)),w64 (a2 + 1))))))
def qd (a2:Int) (a1:List Int):Option ((List Int×Int) ⊕ ((List Int×List Int×List Int×Int×Int) ⊕ (dh×Int))) :=
 some (.inl (a1,w64 (a2 + 1)))
def qf (a1:Int) (a2:List (Int×Int)):Option (((List (Int×Int))×Int) ⊕ (((List (Int×Int))×Int) ⊕ ((List Int×Int) ⊕ ((List Int×List Int×List Int×Int×Int) ⊕ (dh×Int))))) :=
 some (.inl (a2,w64 (a1 + 1)))
def uu (a5:List Int) (a4:Int) (a2:List Int):((List (Int×Int))×Int)→Option (((List (Int×Int))×Int) ⊕ (((List (Int×Int))×Int) ⊕ ((List Int×Int) ⊕ ((List Int×List Int×List Int×Int×Int) ⊕ (dh×Int)))))
 | (a3,a1)=>bif decide (a1 < (a2.length:Int)) then must (0≤a1∧a1 < (a2.length:Int)) (must (0≤(idx a2 a1)∧(idx a2 a1) < ((32:Nat):Int)) (bif decide (idx a5 (idx a2 a1) > 0) then must (0≤idx a2 a1∧idx a2 a1 < (far:Int)) (qf a1 (gG a3 a4 (bOr .u32 (mat a3 a4) (jH .u32 1 (idx a2 a1))))) else (qf a1 a3))) else (out (some (.inl (a3,w64 (a4 + 1)))))
def uw (a0:History) (a1:Exec) (a5:List Ask×Int) (a3:List Int) (a6:List Int) (a7:List Int):((List (Int×Int))×Int)→Option (((List (Int×Int))×Int) ⊕ ((List Int×Int) ⊕ ((List Int×List Int×List Int×Int×Int) ⊕ (dh×Int))))
 | (a4,a2)=>bif decide (a2 < (a0.Keys.length:Int)) then (dG a0 a2).bind fun a8=>iter (uu a3 a2 a8) (a4,0) else (out (out (out (some ((⟨a0,a1,a5.1,a3,a6,a7,a4⟩:dh),0)))))
def uy (a0:History) (a1:Exec) (a3:List Ask×Int) (a6:List Int) (a5:List Int):(List Int×Int)→Option ((List Int×Int) ⊕ ((List Int×List Int×List Int×Int×Int) ⊕ (dh×Int)))
 | (a4,a2)=>bif decide (a2 < (a3.1.length:Int)) then must (0≤a2∧a2 < (a3.1.length:Int)) (must (0≤a2∧a2 < (a1.Picks.length:Int)) (bif decide (idx a1.Picks a2 ≥ 0) then must (0≤((idx a3.1 a2).Txn)∧((idx a3.1 a2).Txn) < ((32:Nat):Int)) (must (0≤idx a1.Picks a2∧idx a1.Picks a2 < (far:Int)) (qd a2 (uG 32 a4 ((idx a3.1 a2).Txn) (bOr .u32 (idx a4 ((idx a3.1 a2).Txn)) (jH .u32 1 (idx a1.Picks a2)))))) else (qd a2 a4))) else (iter (uw a0 a1 a3 a6 a5 a4) ([],0))
def uz (a0:History) (a1:Exec) (a6:List Ask×Int):(List Int×List Int×List Int×Int×Int)→Option ((List Int×List Int×List Int×Int×Int) ⊕ (dh×Int))
 | (a4,a3,a5,a7,a2)=>bif decide (a2 < (a1.Order.length:Int)) then must (0≤a2∧a2 < (a1.Order.length:Int)) (must (0≤(idx a1.Order a2)∧(idx a1.Order a2) < ((32:Nat):Int)) (must (0≤(0:Int)∧(0:Int)≤a2∧a2≤(a1.Order.length:Int)) (iter (qc a0 a1 a4 a3 a7 a2) (a5,0)))) else (iter (uy a0 a1 a6 a4 a3) (a5,0))
def qg (a0:History) (a1:Exec) (a3:Bool):Option (dh×Int) :=
 bif a3 then some ((default:dh),1) else ((gm a0).bind fun a2=>iter (uz a0 a1 a2) (([]:List Int),([]:List Int),([]:List Int),0,0))
def aS (a0:History) (a1:Exec):Option (dh×Int) :=
 (gy a0 a1).bind fun a2=>bif (a2.2 != 0) then qg a0 a1 true else (qg a0 a1 (a2.1 != 0))
def kT (a2:Int) (a1:Int):Option ((Int×Int) ⊕ Int) :=
 some (.inl (a1,w64 (a2 + 1)))
def iX (a0:dh) (a2:Int) (a1:Int) (a3:Bool):Option ((Int×Int) ⊕ Int) :=
 bif a3 then must (0≤a1∧a1 < (a0.x.Picks.length:Int)) (must (0≤idx a0.x.Picks a1∧idx a0.x.Picks a1 < (far:Int)) (kT a1 (bOr .u32 a2 (jH .u32 1 (idx a0.x.Picks a1))))) else (kT a1 a2)
def nZ (a0:dh) (a1:Int):(Int×Int)→Option ((Int×Int) ⊕ Int)
 | (a3,a2)=>bif decide (a2 < (a0.asks.length:Int)) then must (0≤a2∧a2 < (a0.asks.length:Int)) (must (0≤a1∧a1 < (a0.asks.length:Int)) (bif ((idx a0.asks a2).Txn == (idx a0.asks a1).Txn) then bif decide ((idx a0.asks a2).Place < (idx a0.asks a1).Place) then must (0≤a2∧a2 < (a0.x.Picks.length:Int)) (iX a0 a3 a2 (decide (idx a0.x.Picks a2 ≥ 0))) else (iX a0 a3 a2 false) else (iX a0 a3 a2 false))) else (out (some a3))
def bM (a0:dh) (a1:Int):Option Int :=
 iter (nZ a0 a1) (0,0)
def qh {σ:Type} (a2:Int) (a3:Int) (a4:Bool) (a1:σ):Option ((Int×Int×σ) ⊕ σ) :=
 bif a4 then out (some a1) else (must (0≤(1:Int)∧(1:Int) < (far:Int)) (some (.inl (ed .u32 a2 (1:Int),w64 (a3 + 1),a1))))
def uA {σ:Type} (Y:σ→Int→Option (Bool×σ)):(Int×Int×σ)→Option ((Int×Int×σ) ⊕ σ)
 | (a1,a2,a3)=>bif (a1 != 0) then bif (cz .u32 a1 1 == 1) then (Y a3 a2).bind fun a4=>qh a1 a2 (!a4.1) a4.2 else (qh a1 a2 false a3) else (out (some a3))
def eB {σ:Type} (Y:σ→Int→Option (Bool×σ)) (a1:Int) (s0:σ):Option σ :=
 iter (uA Y) (a1,0,s0)
def og (a0:Int):Option Unit :=
 some ()
def nQ (a0:dh):(Int ⊕ Unit)→Int→Option (Bool×(Int ⊕ Unit))
 | .inl a2,a1=>must (0≤a1∧a1 < ((32:Nat):Int)) (some (true,.inl (bOr .u32 a2 (idx a0.near a1))))
 | .inr _,_=>none
def rz (a2:Int):(Int ⊕ Unit)→Option (Int ⊕ Int)
 | .inl a1=>bif (a1 == a2) then out (some a2) else (some (.inl a1))
 | .inr _=>none
def rA (a0:dh):Int→Option (Int ⊕ Int)
 | a1=>(og a1).bind fun a3=>(eB (nQ a0) a1 (.inl a1)).bind fun a2=>rz a1 a2
def dN (a0:dh) (a1:Int):Option Int :=
 must (0≤a1∧a1 < ((32:Nat):Int)) (iter (rA a0) (idx a0.near a1))
def mo (a0:dh):(Int ⊕ Unit)→Int→Option (Bool×(Int ⊕ Unit))
 | .inl a2,a1=>must (0≤a1∧a1 < ((32:Nat):Int)) (some (true,.inl (bOr .u32 a2 (idx a0.behind a1))))
 | .inr _,_=>none
def vo:(Int ⊕ Unit)→Option Int
 | .inl a1=>some a1
 | .inr _=>none
def dX (a0:dh) (a1:Int):Option Int :=
 (og a1).bind fun a3=>(eB (mo a0) a1 (.inl a1)).bind fun a2=>vo a2
def fw.m1 (a0:dh) (a1:Int):Int→(Int×Int)→Option Int
 | a2,p62=>must (0≤a1∧a1 < (far:Int)) (bif (cz .u32 (ed .u32 p62.2 a1) 1 == 1) then must (0≤a1∧a1 < ((32:Nat):Int)) (some (bOr .u32 a2 (cz .u32 p62.2 (idx a0.behind a1)))) else (some a2))
def fw (a0:dh) (a1:Int):Option Int :=
 (BP (fw.m1 a0 a1) 0 a0.writes).bind fun a2=>some a2
def oh (a0:dh) (a1:Int) (a2:Int):Option Int :=
 must (0≤a2∧a2 < (a0.asks.length:Int)) (bif (a1 == 1) then (bM a0 a2).bind fun a4=>some a4 else (bif (a1 == 2) then must (0≤(idx a0.asks a2).Txn∧(idx a0.asks a2).Txn < (far:Int)) (bif (cz .u32 (ed .u32 (mat a0.writes ((idx a0.asks a2).Key)) ((idx a0.asks a2).Txn)) 1 == 1) then must (0≤((idx a0.asks a2).Txn)∧((idx a0.asks a2).Txn) < ((32:Nat):Int)) (some (idx a0.behind ((idx a0.asks a2).Txn))) else ((bM a0 a2).bind fun a5=>some a5)) else (bif (a1 == 3) then must (0≤((idx a0.asks a2).Txn)∧((idx a0.asks a2).Txn) < ((32:Nat):Int)) (some (idx a0.near ((idx a0.asks a2).Txn))) else (bif (a1 == 4) then (dN a0 ((idx a0.asks a2).Txn)).bind fun a6=>some a6 else (bif (a1 == 5) then must (0≤((idx a0.asks a2).Txn)∧((idx a0.asks a2).Txn) < ((32:Nat):Int)) ((dX a0 (idx a0.near ((idx a0.asks a2).Txn))).bind fun a3=>some a3) else (bif (a1 == 6) then must (0≤((idx a0.asks a2).Txn)∧((idx a0.asks a2).Txn) < ((32:Nat):Int)) ((fw a0 ((idx a0.asks a2).Txn)).bind fun a8=>(dX a0 (bOr .u32 (idx a0.near ((idx a0.asks a2).Txn)) a8)).bind fun a7=>some a7) else (must (0≤((idx a0.asks a2).Txn)∧((idx a0.asks a2).Txn) < ((32:Nat):Int)) (some (idx a0.behind ((idx a0.asks a2).Txn))))))))))
def lG (a1:Int):Option (Int ⊕ ((Int×Int×Int)×Bool)) :=
 some (.inl (w64 (a1 + 1)))
def pE (a0:dh) (a2:Int) (a3:Int):Int→Option (Int ⊕ (Int ⊕ ((Int×Int×Int)×Bool)))
 | a1=>bif decide (a1 < (a0.x.Order.length:Int)) then must (0≤a1∧a1 < (a0.x.Order.length:Int)) (must (0≤idx a0.x.Order a1∧idx a0.x.Order a1 < (far:Int)) (bif (cz .u32 (ed .u32 a3 (idx a0.x.Order a1)) 1 == 1) then out (out (some (((idx a0.x.Order a1,idx a0.x.Picks a2,a2):Int×Int×Int),true))) else (some (.inl (w64 (a1 + 1)))))) else (out (lG a2))
def jm (a0:dh) (a2:Int) (a1:Int):Option (Int ⊕ ((Int×Int×Int)×Bool)) :=
 bif (a1 == 0) then lG a2 else (iter (pE a0 a2 a1) 0)
def pF (a0:dh) (a1:Int) (a2:Int):Option (Int ⊕ ((Int×Int×Int)×Bool)) :=
 bif decide (idx a0.x.Picks a1 ≥ 0) then must (0≤idx a0.x.Picks a1∧idx a0.x.Picks a1 < (far:Int)) (must (0≤(idx a0.x.Picks a1)∧(idx a0.x.Picks a1) < ((32:Nat):Int)) (jm a0 a1 (lK .u32 a2 (bOr .u32 (jH .u32 1 (idx a0.x.Picks a1)) (idx a0.behind (idx a0.x.Picks a1)))))) else (jm a0 a1 a2)
def pG (a0:dh) (a1:Int):Int→Option (Int ⊕ ((Int×Int×Int)×Bool))
 | a2=>bif decide (a2 < (a0.asks.length:Int)) then must (0≤a2∧a2 < (a0.asks.length:Int)) (must (0≤a2∧a2 < (a0.x.Picks.length:Int)) ((oh a0 a1 a2).bind fun a3=>must (0≤(idx a0.asks a2).Txn∧(idx a0.asks a2).Txn < (far:Int)) (pF a0 a2 (lK .u32 (cz .u32 a3 (mat a0.writes ((idx a0.asks a2).Key))) (jH .u32 1 ((idx a0.asks a2).Txn)))))) else (out (some (((0,0,0):Int×Int×Int),false)))
def aY (a0:dh) (a1:Int):Option ((Int×Int×Int)×Bool) :=
 iter (pG a0 a1) 0
def jb (a2:Int) (a1:Int) (a3:Bool):Option (Int ⊕ (Int ⊕ ((Int×Int×Int)×Bool))) :=
 bif a3 then out (out (some (((a2,a1,(-1)):Int×Int×Int),true))) else (some (.inl (w64 (a1 + 1))))
def rC (a0:dh) (a2:Int):Int→Option (Int ⊕ (Int ⊕ ((Int×Int×Int)×Bool)))
 | a1=>bif decide (a1 < (a0.h.Txns.length:Int)) then must (0≤a1∧a1 < (a0.h.Txns.length:Int)) (bif ((idx a0.h.Txns a2).Status == 1) then bif decide ((idx a0.h.Txns a2).To < (idx a0.h.Txns a1).From) then must (0≤a1∧a1 < ((32:Nat):Int)) (bif decide (idx a0.at_ a1 > 0) then must (0≤a2∧a2 < ((32:Nat):Int)) (jb a2 a1 (decide (idx a0.at_ a1 < idx a0.at_ a2))) else (jb a2 a1 false)) else (jb a2 a1 false) else (jb a2 a1 false)) else (out (some (.inl (w64 (a2 + 1)))))
def rD (a0:dh):Int→Option (Int ⊕ ((Int×Int×Int)×Bool))
 | a1=>bif decide (a1 < (a0.h.Txns.length:Int)) then must (0≤a1∧a1 < (a0.h.Txns.length:Int)) (iter (rC a0 a1) 0) else (out (some (((0,0,0):Int×Int×Int),false)))
def dz (a0:dh):Option ((Int×Int×Int)×Bool) :=
 iter (rD a0) 0
def qi (a4:Int) (a1:Int) (a2:Int) (a3:Bool):Option ((Int×Int×Int)×Bool×Int) :=
 some (((a4,a1,a2):Int×Int×Int),a3,0)
def qj (a4:dh×Int) (a2:(Int×Int×Int)×Bool) (a3:Bool):Option ((Int×Int×Int)×Bool×Int) :=
 bif a3 then (dz a4.1).bind fun a1=>qi a1.1.1 a1.1.2.1 a1.1.2.2 a1.2 else (qi a2.1.1 a2.1.2.1 a2.1.2.2 a2.2)
def kH (a2:Int) (a3:dh×Int) (a4:Bool):Option ((Int×Int×Int)×Bool×Int) :=
 bif a4 then some (((0,0,0):Int×Int×Int),false,1) else ((aY a3.1 a2).bind fun a1=>bif !a1.2 then qj a3 a1 (a2 == 8) else (qj a3 a1 false))
def dM (a0:History) (a1:Exec) (a2:Int):Option ((Int×Int×Int)×Bool×Int) :=
 (aS a0 a1).bind fun a3=>bif (a3.2 != 0) then kH a2 a3 true else (bif decide (a2 < 1) then kH a2 a3 true else (kH a2 a3 (decide (a2 > 8))))
def qK (a0:History) (a1:Exec) (a2:Int):Option (Bool×Int) :=
 (dM a0 a1 a2).bind fun y8=>bif (y8.2.2 == 0) then some (!y8.2.1,y8.2.2) else (some (false,y8.2.2))
def xq (a1:Int) (a2:List Int):Option ((List Int×Int) ⊕ (List Int)) :=
 some (.inl (a2,w64 (a1 + 1)))
def Aw (a0:fU) (a1:Int):(List Int×Int)→Option ((List Int×Int) ⊕ (List Int))
 | (a3,a2)=>bif decide (a2 < (a0.Edges.length:Int)) then must (0≤a2∧a2 < (a0.Edges.length:Int)) (bif (cz .i64 ((idx a0.Edges a2).Kind) a1 != 0) then must (0≤(idx a0.Edges a2).From∧(idx a0.Edges a2).From < (a3.length:Int)) (must (0≤(idx a0.Edges a2).To∧(idx a0.Edges a2).To < (far:Int)) (xq a2 (a3.set ((idx a0.Edges a2).From).toNat (bOr .u64 (idx a3 ((idx a0.Edges a2).From)) (jH .u64 1 ((idx a0.Edges a2).To)))))) else (xq a2 a3)) else (out (some a3))
def iP (a0:fU) (a1:Int):Option (List Int) :=
 must (0≤a0.N∧a0.N≤9223372036854775807∧(8:Int) * a0.N≤281474976710656) (iter (Aw a0 a1) (List.replicate a0.N.toNat (default:Int),0))
def bits_TrailingZeros64 (a0:Int):Option Int:=must (0≤a0∧a0 < 18446744073709551616) (some ((Lib.ctz 64 a0.toNat:Nat):Int))
def vv (a4:Int):(List Int×Int)→Option ((List Int×Int) ⊕ ((List Int×Int) ⊕ (List Int×Bool×Int)))
 | (a1,a2)=>bif (a2 != 0) then (bits_TrailingZeros64 a2).bind fun a3=>must (0≤a3∧a3 < (a1.length:Int)) (must (0≤a4∧a4 < (far:Int)) (some (.inl (a1.set a3.toNat (bOr .u64 (idx a1 a3) (jH .u64 1 a4)),cz .u64 a2 (IntKind.wrap .u64 (a2 - 1)))))) else (out (some (.inl (a1,w64 (a4 + 1)))))
def om (a2:List Int) (a4:Int) (a1:Int) (a3:Bool):Option (Int ⊕ ((List Int×Int) ⊕ ((List Int×Int) ⊕ (List Int×Bool×Int)))) :=
 bif a3 then must (0≤a1∧a1 < (far:Int)) (must (((a2.length + 1) + (a2.length + 1) / 4 + 192) * 8≤281474976710656∧a2.length + 1≤9223372036854775807) (out (some (.inl (a2++([a1]:List Int),bOr .u64 a4 (jH .u64 1 a1)))))) else (some (.inl (w64 (a1 + 1))))
def vw (a3:List Int) (a4:List Int) (a2:Int):Int→Option (Int ⊕ ((List Int×Int) ⊕ ((List Int×Int) ⊕ (List Int×Bool×Int))))
 | a1=>bif decide (a1 < (a3.length:Int)) then must (0≤a1∧a1 < (a3.length:Int)) (must (0≤a1∧a1 < (far:Int)) (bif (cz .u64 (ed .u64 a2 a1) 1 == 0) then om a4 a2 a1 (lK .u64 (idx a3 a1) a2 == 0) else (om a4 a2 a1 false))) else (out (out (out (some (([]:List Int),false,0)))))
def vz (a0:fU) (a2:List Int):(List Int×Int)→Option ((List Int×Int) ⊕ ((List Int×Int) ⊕ (List Int×Bool×Int)))
 | (a1,a3)=>bif decide ((a1.length:Int) < a0.N) then iter (vw a2 a1 a3) 0 else (out (out (some (a1,true,0))))
def vC (a0:fU) (a2:List Int):(List Int×Int)→Option ((List Int×Int) ⊕ (List Int×Bool×Int))
 | (a3,a1)=>bif decide (a1 < (a2.length:Int)) then must (0≤a1∧a1 < (a2.length:Int)) (iter (vv a1) (a3,idx a2 a1)) else (iter (vz a0 a3) ([],0))
def dA (a0:fU) (a1:Int):Option (List Int×Bool×Int) :=
 (dw a0).bind fun a2=>bif (a2 != 0) then some (([]:List Int),false,a2) else (must (0≤a0.N∧a0.N≤9223372036854775807∧(8:Int) * a0.N≤281474976710656) ((iP a0 a1).bind fun a3=>iter (vC a0 a3) (List.replicate a0.N.toNat (default:Int),0)))
def jc (a2:Int) (a1:Bool):Option (Int ⊕ Bool) :=
 bif a1 then out (some false) else (some (.inl (w64 (a2 + 1))))
def dL (a0:History) (a1:Exec) (a3:fU×Int) (a2:Int) (a5:Bool):Option (Int ⊕ Bool) :=
 bif a5 then must (0≤a2∧a2 < (a3.1.Edges.length:Int)) ((lN a0 a1 (idx a3.1.Edges a2)).bind fun a4=>jc a2 (!a4)) else (jc a2 false)
def lT (a0:History) (a1:Exec) (a3:fU×Int) (a6:Bool×Int) (a4:Bool×Int):Int→Option (Int ⊕ Bool)
 | a2=>bif decide (a2 < (a3.1.Edges.length:Int)) then must (0≤a2∧a2 < (a3.1.Edges.length:Int)) (bif ((idx a3.1.Edges a2).Kind != 16) then bif ((idx a3.1.Edges a2).Kind != 2) then dL a0 a1 a3 a2 true else (bif a6.1 then bif ((idx a3.1.Edges a2).Kind == 16) then dL a0 a1 a3 a2 true else (dL a0 a1 a3 a2 a4.1) else (dL a0 a1 a3 a2 a4.1)) else (bif a6.1 then bif ((idx a3.1.Edges a2).Kind == 16) then dL a0 a1 a3 a2 true else (dL a0 a1 a3 a2 a4.1) else (dL a0 a1 a3 a2 a4.1))) else ((dA a3.1 13).bind fun a5=>bif (a5.2.2 == 0) then out (some a5.2.1) else (out (some false)))
def jd (a0:History) (a1:Exec) (a2:fU×Int) (a3:Bool×Int) (a5:Bool×Int) (a4:Bool):Option Bool :=
 bif a4 then some false else (iter (lT a0 a1 a2 a3 a5) 0)
def je (a0:History) (a1:Exec) (a6:Int×Int) (a4:fU×Int) (a5:Bool):Option Bool :=
 bif a5 then some false else (bif (a6.1 != 0) then some true else ((qK a0 a1 7).bind fun a2=>(qK a0 a1 8).bind fun a3=>bif (a2.2 != 0) then jd a0 a1 a4 a2 a3 true else (jd a0 a1 a4 a2 a3 (a3.2 != 0))))
def aI (a0:History) (a1:Exec):Option Bool :=
 (nP).bind fun a5=>bif !a5 then some false else ((gy a0 a1).bind fun a3=>(dC a0).bind fun a2=>bif (a3.2 != 0) then bif (a2.2 == a3.2) then some ((a2.1.Edges.length:Int) == 0) else (some false) else (bif (a2.2 != 0) then je a0 a1 a3 a2 true else ((dw a2.1).bind fun a4=>je a0 a1 a3 a2 (a4 != 0))))
end
end Go.Proofs.YtfpeabnehpclnaaGreatDoorT
