import Derived.Test.YtfpeabnehpclnaaGreatY
namespace Go.Proofs.YtfpeabnehpclnaaGreatT
open Go Go.Proofs Go.Proofs.YtfpeabnehpclnaaGreatE
set_option linter.unusedVariables false
set_option linter.unusedSimpArgs false
set_option maxHeartbeats 0
set_option maxRecDepth 4096
structure dM where
 key:ByteArray
 arg:Int
 deriving Inhabited,DecidableEq
def dM.enc (x:dM):List Value:=[.string x.key,.int .i64 x.arg]
abbrev JV:Ty dM:=Ty.flat 2 dM.enc (fun _=>rfl) (fun _=>KF rfl)
instance : Flat JV dM.enc:=⟨Iff.rfl,Iff.rfl⟩
structure bN where
 keys:List ByteArray
 at_:List (ByteArray×Int)
 types:List Int
 facts:List (dM×Unit)
 incs:List (ByteArray×(List Int))
 deriving Inhabited
structure Call where
 Kind:Int
 Key:ByteArray
 Arg:Int
 Got:Bool
 Vals:List Int
 deriving Inhabited
abbrev BC:Ty Call:=Ty.iso (df (aC .i64) (df fM (df (aC .i64) (df qK (bX 2 (aC .i64)))))) (fun g:Call=>(g.Kind,g.Key,g.Arg,g.Got,g.Vals))
abbrev rU (N:BM):Ty Call:=Ty.iso (df (aC .i64) (df fM (df (aC .i64) (df qK (LF N (aC .i64)))))) (fun g:Call=>(g.Kind,g.Key,g.Arg,g.Got,g.Vals))
theorem Gl (N:BM):wL N (rU N) BC:=DI (kX ow (kX ow (kX ow (kX ow Fz))))
structure Event where
 Proc:Int
 Kind:Int
 Calls:List Call
 deriving Inhabited
abbrev EB:Ty Event:=Ty.iso (df (aC .i64) (df (aC .i64) (bX 129 BC))) (fun g:Event=>(g.Proc,g.Kind,g.Calls))
structure Op where
 Kind:Int
 Key:Int
 Arg:Int
 Got:Bool
 Vals:List Int
 deriving Inhabited
abbrev kOp:Ty Op:=Ty.iso (df (aC .i64) (df (aC .i64) (df (aC .i64) (df qK (bX 2 (aC .i64)))))) (fun g:Op=>(g.Kind,g.Key,g.Arg,g.Got,g.Vals))
structure Txn where
 Proc:Int
 Status:Int
 From:Int
 To:Int
 Ops:List Op
 deriving Inhabited
abbrev iO:Ty Txn:=Ty.iso (df (aC .i64) (df (aC .i64) (df (aC .i64) (df (aC .i64) (bX 70 kOp))))) (fun g:Txn=>(g.Proc,g.Status,g.From,g.To,g.Ops))
structure History where
 Keys:List ByteArray
 Txns:List Txn
 deriving Inhabited
structure Ask where
 Txn:Int
 Place:Int
 Key:Int
 Base:List Int
 deriving Inhabited
abbrev Cb:Ty Ask:=Ty.iso (df (aC .i64) (df (aC .i64) (df (aC .i64) (bX 2 (aC .i64))))) (fun g:Ask=>(g.Txn,g.Place,g.Key,g.Base))
structure ib where
 Txn:Int
 Place:Int
 deriving Inhabited,DecidableEq
def ib.enc (x:ib):List Value:=[.int .i64 x.Txn,.int .i64 x.Place]
abbrev Cc:Ty ib:=Ty.flat 2 ib.enc (fun _=>rfl) (fun _=>KF rfl)
instance : Flat Cc ib.enc:=⟨Iff.rfl,Iff.rfl⟩
structure fB where
 asks:List Ask
 bad:List ib
 deriving Inhabited
structure aX where
 txn:Int
 args:List Int
 deriving Inhabited
abbrev iC:Ty aX:=Ty.iso (df (aC .i64) (bX 2 (aC .i64))) (fun g:aX=>(g.txn,g.args))
structure aP where
 Ask:Ask
 sources:List Int
 parts:List Int
 made:Bool
 kind:Int
 deriving Inhabited
abbrev jG:Ty aP:=Ty.iso (df Cb (df (bX 3 (aC .i64)) (df (bX 3 (aC .i64)) (df qK (aC .i64))))) (fun g:aP=>(g.Ask,g.sources,g.parts,g.made,g.kind))
structure Edge where
 From:Int
 To:Int
 Kind:Int
 Key:Int
 deriving Inhabited,DecidableEq
def Edge.enc (x:Edge):List Value:=[.int .i64 x.From,.int .i64 x.To,.int .i64 x.Kind,.int .i64 x.Key]
abbrev qh:Ty Edge:=Ty.flat 4 Edge.enc (fun _=>rfl) (fun _=>KF rfl)
instance : Flat qh Edge.enc:=⟨Iff.rfl,Iff.rfl⟩
structure aH where
 h:History
 asks:List aP
 edges:List Edge
 deriving Inhabited
structure jf where
 N:Int
 Edges:List Edge
 deriving Inhabited
structure dX where
 h:History
 order:List Int
 at_:List (Int×Int)
 deriving Inhabited
structure Exec where
 Order:List Int
 Picks:List Int
 deriving Inhabited
structure aN where
 keys:List ByteArray
 types:List Int
 wrote:List (List Int)
 incs:List Int
 last_:List Int
 deriving Inhabited
abbrev lS (N:BM):Ty aP:=(Ty.iso (df (Ty.iso (df (aC .i64) (df (aC .i64) (df (aC .i64) (LF N (aC .i64))))) (fun g:Ask=>(g.Txn,g.Place,g.Key,g.Base))) (df (Jp (aC .i64)) (df (Jp (aC .i64)) (df qK (aC .i64))))) (fun g:aP=>(g.Ask,g.sources,g.parts,g.made,g.kind)))
theorem Bj (N:BM):wL N (lS N) jG:=(DI (kX (DI (kX ow (kX ow (kX ow Fz)))) (kX Fw (kX Fw (kX ow ow)))))
abbrev Rw2 (A:Option Addr) (c:Nat) (l:List Int):cZ := .row (aC .i64) 2 A l.length c l
abbrev Rw3 (A:Option Addr) (c:Nat) (l:List Int):cZ := .row (aC .i64) 3 A l.length c l
abbrev Rn3 (A:Option Addr) (n c:Nat) (l:List Int):cZ := .row (aC .i64) 3 A n c l
abbrev Rw4 (A:Option Addr) (c:Nat) (l:List Bool):cZ := .row qK 4 A l.length c l
abbrev Rw9 (A:Option Addr) (c:Nat) (l:List ByteArray):cZ := .row fM 9 A l.length c l
abbrev Rn9 (A:Option Addr) (n c:Nat) (l:List ByteArray):cZ := .row fM 9 A n c l
abbrev xy (A:Option Addr) (c:Nat) (l:List ib):cZ := .row Cc 27 A l.length c l
abbrev gy (A:Option Addr) (c:Nat) (l:List Edge):cZ := .row qh 43 A l.length c l
abbrev OQ (A:Option Addr) (c:Nat) (l:List Txn):cZ := .row iO 65 A l.length c l
abbrev IG (A:Option Addr) (c:Nat) (l:List (List Int)):cZ := .row (bX 2 (aC .i64)) 66 A l.length c l
abbrev ME (A:Option Addr) (c:Nat) (l:List Op):cZ := .row kOp 70 A l.length c l
abbrev Rb (A:Option Addr) (n c:Nat) (l:List Op):cZ := .row kOp 70 A n c l
abbrev zM (A:Option Addr) (c:Nat) (l:List Ask):cZ := .row Cb 81 A l.length c l
abbrev II (A:Option Addr) (c:Nat) (l:List aX):cZ := .row iC 209 A l.length c l
abbrev Or2 (A:Option Addr) (c:Nat) (l:List Int):cZ:=orA noM (aC .i64) 2 A l.length c l
abbrev Or3 (A:Option Addr) (c:Nat) (l:List Int):cZ:=orA noM (aC .i64) 3 A l.length c l
abbrev Gm (b:Nat) (m:List (Int×Int)):cZ:=FP (fun x:Int => .int .i64 x) (fun x:Int => .int .i64 x) b m
abbrev EC (b:Nat) (m:List (Int×Int)):cZ:=FP (fun x:Int => .int .i64 x) (fun x:Int => .int .i64 x) b m
abbrev Ce (b:Nat) (m:List (ByteArray×Int)):cZ:=FP (fun x:ByteArray => .string x) (fun x:Int => .int .i64 x) b m
abbrev Cf (b:Nat) (m:List (dM×Unit)):cZ:=FP (fun x:dM => .agg #[.string x.key,.int .i64 x.arg]) (fun _:Unit => .agg #[]) b m
abbrev Gn (b:Nat) (m:List (ByteArray×(List Int))):cZ:=wZ (fun x:ByteArray => .string x) (bX 3 (aC .i64)) b m
abbrev Gp (b:Nat) (m:List (Int×(List Int))):cZ:=wZ (fun x:Int => .int .i64 x) (bX 2 (aC .i64)) b m
abbrev ED (b:Nat) (m:List (Int×Unit)):cZ:=FP (fun x:Int => .int .i64 x) (fun _:Unit => .agg #[]) b m
abbrev nD (x:History) (A0:Option Addr) (c0:Nat) (A1:Option Addr) (c1:Nat):List Value:=[vS A0 x.Keys.length c0,vS A1 x.Txns.length c1]
abbrev lN (x:History) (A0:Option Addr) (c0:Nat) (A1:Option Addr) (c1:Nat):Value := .agg (nD x A0 c0 A1 c1).toArray
abbrev dC (b:Nat) (x:History) (A0:Option Addr) (c0:Nat) (A1:Option Addr) (c1:Nat):cZ := .blk b 25 (nD x A0 c0 A1 c1)
abbrev JW (x:jf) (A1:Option Addr) (c1:Nat):List Value:=[vI x.N,vS A1 x.Edges.length c1]
abbrev MF (x:jf) (A1:Option Addr) (c1:Nat):Value := .agg (JW x A1 c1).toArray
abbrev OT (b:Nat) (x:jf) (A1:Option Addr) (c1:Nat):cZ := .blk b 38 (JW x A1 c1)
abbrev Qx (x:Edge):List Value:=[vI x.From,vI x.To,vI x.Kind,vI x.Key]
abbrev MG (x:Edge):Value := .agg (Qx x).toArray
abbrev Rc (b:Nat) (x:Edge):cZ := .blk b 43 (Qx x)
abbrev OU (x:Exec) (A0:Option Addr) (c0:Nat) (A1:Option Addr) (c1:Nat):List Value:=[vS A0 x.Order.length c0,vS A1 x.Picks.length c1]
abbrev QM (x:Exec) (A0:Option Addr) (c0:Nat) (A1:Option Addr) (c1:Nat):Value := .agg (OU x A0 c0 A1 c1).toArray
abbrev OV (b:Nat) (x:Exec) (A0:Option Addr) (c0:Nat) (A1:Option Addr) (c1:Nat):cZ := .blk b 60 (OU x A0 c0 A1 c1)
abbrev zN (x:Txn) (A4:Option Addr) (c4:Nat):List Value:=[vI x.Proc,vI x.Status,vI x.From,vI x.To,vS A4 x.Ops.length c4]
abbrev LP (x:Txn) (A4:Option Addr) (c4:Nat):Value := .agg (zN x A4 c4).toArray
abbrev sJ (b:Nat) (x:Txn) (A4:Option Addr) (c4:Nat):cZ := .blk b 65 (zN x A4 c4)
abbrev EE (x:Op) (A4:Option Addr) (c4:Nat):List Value:=[vI x.Kind,vI x.Key,vI x.Arg,vB x.Got,vS A4 x.Vals.length c4]
abbrev Re (x:Op) (A4:Option Addr) (c4:Nat):Value := .agg (EE x A4 c4).toArray
abbrev sK (b:Nat) (x:Op) (A4:Option Addr) (c4:Nat):cZ := .blk b 70 (EE x A4 c4)
abbrev wQ (x:Ask) (A3:Option Addr) (c3:Nat):List Value:=[vI x.Txn,vI x.Place,vI x.Key,vS A3 x.Base.length c3]
abbrev xz (x:Ask) (A3:Option Addr) (c3:Nat):Value := .agg (wQ x A3 c3).toArray
abbrev iP (b:Nat) (x:Ask) (A3:Option Addr) (c3:Nat):cZ := .blk b 81 (wQ x A3 c3)
abbrev Rh (x:aH) (A0:Option Addr) (c0:Nat) (A1:Option Addr) (c1:Nat) (A2:Option Addr) (c2:Nat) (A3:Option Addr) (c3:Nat):List Value:=[vS A0 x.h.Keys.length c0,vS A1 x.h.Txns.length c1,vS A2 x.asks.length c2,vS A3 x.edges.length c3]
abbrev FV (b:Nat) (x:aH) (A0:Option Addr) (c0:Nat) (A1:Option Addr) (c1:Nat) (A2:Option Addr) (c2:Nat) (A3:Option Addr) (c3:Nat):cZ := .blk b 93 (Rh x A0 c0 A1 c1 A2 c2 A3 c3)
abbrev JX (x:aP) (A3:Option Addr) (c3:Nat) (A4:Option Addr) (c4:Nat) (A5:Option Addr) (c5:Nat):List Value:=[vI x.Ask.Txn,vI x.Ask.Place,vI x.Ask.Key,vS A3 x.Ask.Base.length c3,vS A4 x.sources.length c4,vS A5 x.parts.length c5,vB x.made,vI x.kind]
abbrev OW (x:aP) (A3:Option Addr) (c3:Nat) (A4:Option Addr) (c4:Nat) (A5:Option Addr) (c5:Nat):Value := .agg (JX x A3 c3 A4 c4 A5 c5).toArray
abbrev Bl (b:Nat) (x:aP) (A3:Option Addr) (c3:Nat) (A4:Option Addr) (c4:Nat) (A5:Option Addr) (c5:Nat):cZ := .blk b 96 (JX x A3 c3 A4 c4 A5 c5)
abbrev Gq (x:Event) (A2:Option Addr) (c2:Nat):List Value:=[vI x.Proc,vI x.Kind,vS A2 x.Calls.length c2]
abbrev Qr (x:Event) (A2:Option Addr) (c2:Nat):Value := .agg (Gq x A2 c2).toArray
abbrev KP (b:Nat) (x:Event) (A2:Option Addr) (c2:Nat):cZ := .blk b 124 (Gq x A2 c2)
abbrev Cg (x:Call) (A4:Option Addr) (c4:Nat):List Value:=[vI x.Kind,.string x.Key,vI x.Arg,vB x.Got,vS A4 x.Vals.length c4]
abbrev EF (x:Call) (A4:Option Addr) (c4:Nat):Value := .agg (Cg x A4 c4).toArray
abbrev iR (b:Nat) (x:Call) (A4:Option Addr) (c4:Nat):cZ := .blk b 129 (Cg x A4 c4)
abbrev MH (x:fB) (A0:Option Addr) (c0:Nat) (A1:Option Addr) (c1:Nat):List Value:=[vS A0 x.asks.length c0,vS A1 x.bad.length c1]
abbrev QN (x:fB) (A0:Option Addr) (c0:Nat) (A1:Option Addr) (c1:Nat):Value := .agg (MH x A0 c0 A1 c1).toArray
abbrev QO (x:aN) (A0:Option Addr) (c0:Nat) (A1:Option Addr) (c1:Nat) (A2:Option Addr) (c2:Nat) (A3:Option Addr) (c3:Nat) (A4:Option Addr) (c4:Nat):List Value:=[vS A0 x.keys.length c0,vS A1 x.types.length c1,vS A2 x.wrote.length c2,vS A3 x.incs.length c3,vS A4 x.last_.length c4]
abbrev Qs (b:Nat) (x:aN) (A0:Option Addr) (c0:Nat) (A1:Option Addr) (c1:Nat) (A2:Option Addr) (c2:Nat) (A3:Option Addr) (c3:Nat) (A4:Option Addr) (c4:Nat):cZ := .blk b 149 (QO x A0 c0 A1 c1 A2 c2 A3 c3 A4 c4)
abbrev Gr (x:dX) (A0:Option Addr) (c0:Nat) (A1:Option Addr) (c1:Nat) (A2:Option Addr) (c2:Nat) (b3:Nat):List Value:=[vS A0 x.h.Keys.length c0,vS A1 x.h.Txns.length c1,vS A2 x.order.length c2,.map (some b3)]
abbrev KQ (x:dX) (A0:Option Addr) (c0:Nat) (A1:Option Addr) (c1:Nat) (A2:Option Addr) (c2:Nat) (b3:Nat):Value := .agg (Gr x A0 c0 A1 c1 A2 c2 b3).toArray
abbrev xY (b:Nat) (x:dX) (A0:Option Addr) (c0:Nat) (A1:Option Addr) (c1:Nat) (A2:Option Addr) (c2:Nat) (b3:Nat):cZ := .blk b 184 (Gr x A0 c0 A1 c1 A2 c2 b3)
abbrev EG (x:aX) (A1:Option Addr) (c1:Nat):List Value:=[vI x.txn,vS A1 x.args.length c1]
abbrev MI (x:aX) (A1:Option Addr) (c1:Nat):Value := .agg (EG x A1 c1).toArray
abbrev Gs (b:Nat) (x:aX) (A1:Option Addr) (c1:Nat):cZ := .blk b 209 (EG x A1 c1)
abbrev LQ (b:Nat) (x0:Int) (A1:Option Addr) (c1:Nat) (x1:List Edge):List cZ:=[.blk b 38 [vI x0,vS A1 x1.length c1],gy A1 c1 x1]
abbrev JY (b:Nat) (x:jf) (A1:Option Addr) (c1:Nat):List cZ:=LQ b x.N A1 c1 x.Edges
abbrev zO (b:Nat) (A0:Option Addr) (c0:Nat) (x0:List Ask) (A1:Option Addr) (c1:Nat) (x1:List ib):List cZ:=[.blk b 132 [vS A0 x0.length c0,vS A1 x1.length c1],zM A0 c0 x0,xy A1 c1 x1]
abbrev Qt (b:Nat) (x:fB) (A0:Option Addr) (c0:Nat) (A1:Option Addr) (c1:Nat):List cZ:=zO b A0 c0 x.asks A1 c1 x.bad
abbrev ul (b:Nat) (A0:Option Addr) (c0:Nat) (x0:List ByteArray) (A1:Option Addr) (c1:Nat) (x1:List Int) (A2:Option Addr) (c2:Nat) (x2:List (List Int)) (A3:Option Addr) (c3:Nat) (x3:List Int) (A4:Option Addr) (c4:Nat) (x4:List Int):List cZ:=[.blk b 149 [vS A0 x0.length c0,vS A1 x1.length c1,vS A2 x2.length c2,vS A3 x3.length c3,vS A4 x4.length c4],Rw9 A0 c0 x0,Rw3 A1 c1 x1,IG A2 c2 x2,Rw3 A3 c3 x3,Rw3 A4 c4 x4]
abbrev Qu (b:Nat) (x:aN) (A0:Option Addr) (c0:Nat) (A1:Option Addr) (c1:Nat) (A2:Option Addr) (c2:Nat) (A3:Option Addr) (c3:Nat) (A4:Option Addr) (c4:Nat):List cZ:=ul b A0 c0 x.keys A1 c1 x.types A2 c2 x.wrote A3 c3 x.incs A4 c4 x.last_
abbrev zP (b:Nat) (A0:Option Addr) (c0:Nat) (x0:List ByteArray) (b1:Nat) (x1:List (ByteArray×Int)) (A2:Option Addr) (c2:Nat) (x2:List Int) (b3:Nat) (x3:List (dM×Unit)) (b4:Nat) (x4:List (ByteArray×(List Int))):List cZ:=[.blk b 199 [vS A0 x0.length c0,.map (some b1),vS A2 x2.length c2,.map (some b3),.map (some b4)],Rw9 A0 c0 x0,Ce b1 x1,Rw3 A2 c2 x2,Cf b3 x3,Gn b4 x4]
abbrev MJ (b:Nat) (x:bN) (A0:Option Addr) (c0:Nat) (b1:Nat) (A2:Option Addr) (c2:Nat) (b3:Nat) (b4:Nat):List cZ:=zP b A0 c0 x.keys b1 x.at_ A2 c2 x.types b3 x.facts b4 x.incs
theorem jg {H:BM} {x:Txn} {cs:List Value} (h:iO.rd H x cs):∃ A4 c4,cs=zN x A4 c4∧x.Ops.length≤c4∧rdS kOp H A4 x.Ops:=by
 obtain ⟨_,_,rfl,rfl,⟨_,_,rfl,rfl,⟨_,_,rfl,rfl,⟨_,_,rfl,rfl,⟨A0,c0,rfl,l0,r0⟩⟩⟩⟩⟩:=h;exact ⟨A0,c0,rfl,l0,r0⟩
theorem Db {H:BM} {x:Op} {cs:List Value} (h:kOp.rd H x cs):∃ A4 c4,cs=EE x A4 c4∧x.Vals.length≤c4∧rdS (aC .i64) H A4 x.Vals:=by
 obtain ⟨_,_,rfl,rfl,⟨_,_,rfl,rfl,⟨_,_,rfl,rfl,⟨_,_,rfl,rfl,⟨A0,c0,rfl,l0,r0⟩⟩⟩⟩⟩:=h;exact ⟨A0,c0,rfl,l0,r0⟩
theorem EH {H:BM} {x:Ask} {cs:List Value} (h:Cb.rd H x cs):∃ A3 c3,cs=wQ x A3 c3∧x.Base.length≤c3∧rdS (aC .i64) H A3 x.Base:=by
 obtain ⟨_,_,rfl,rfl,⟨_,_,rfl,rfl,⟨_,_,rfl,rfl,⟨A0,c0,rfl,l0,r0⟩⟩⟩⟩:=h;exact ⟨A0,c0,rfl,l0,r0⟩
theorem DN {H:BM} {x:aP} {cs:List Value} (h:jG.rd H x cs):∃ A3 c3 A4 c4 A5 c5,cs=JX x A3 c3 A4 c4 A5 c5∧x.Ask.Base.length≤c3∧rdS (aC .i64) H A3 x.Ask.Base∧x.sources.length≤c4∧rdS (aC .i64) H A4 x.sources∧x.parts.length≤c5∧rdS (aC .i64) H A5 x.parts:=by
 obtain ⟨_,_,rfl,⟨_,_,rfl,rfl,⟨_,_,rfl,rfl,⟨_,_,rfl,rfl,⟨A0,c0,rfl,l0,r0⟩⟩⟩⟩,⟨_,_,rfl,⟨A1,c1,rfl,l1,r1⟩,⟨_,_,rfl,⟨A2,c2,rfl,l2,r2⟩,⟨_,_,rfl,rfl,rfl⟩⟩⟩⟩:=h;exact ⟨A0,c0,A1,c1,A2,c2,rfl,l0,r0,l1,r1,l2,r2⟩
theorem KR {H:BM} {x:Event} {cs:List Value} (h:EB.rd H x cs):∃ A2 c2,cs=Gq x A2 c2∧x.Calls.length≤c2∧rdS BC H A2 x.Calls:=by
 obtain ⟨_,_,rfl,rfl,⟨_,_,rfl,rfl,⟨A0,c0,rfl,l0,r0⟩⟩⟩:=h;exact ⟨A0,c0,rfl,l0,r0⟩
theorem MK {H:BM} {x:Call} {cs:List Value} (h:BC.rd H x cs):∃ A4 c4,cs=Cg x A4 c4∧x.Vals.length≤c4∧rdS (aC .i64) H A4 x.Vals:=by
 obtain ⟨_,_,rfl,rfl,⟨_,_,rfl,rfl,⟨_,_,rfl,rfl,⟨_,_,rfl,rfl,⟨A0,c0,rfl,l0,r0⟩⟩⟩⟩⟩:=h;exact ⟨A0,c0,rfl,l0,r0⟩
theorem iy {H:BM} {x:aX} {cs:List Value} (h:iC.rd H x cs):∃ A1 c1,cs=EG x A1 c1∧x.args.length≤c1∧rdS (aC .i64) H A1 x.args:=by
 obtain ⟨_,_,rfl,rfl,⟨A0,c0,rfl,l0,r0⟩⟩:=h;exact ⟨A0,c0,rfl,l0,r0⟩
theorem ML (x:Txn) {R4:List cZ} {c4:List Value} (h4:Mk (bX 70 kOp) R4 x.Ops c4):Mk iO ([]++([]++([]++([]++R4)))) x ([vI x.Proc]++([vI x.Status]++([vI x.From]++([vI x.To]++c4)))):=vG (g:=fun g:Txn=>(g.Proc,g.Status,g.From,g.To,g.Ops)) (x:=x) (dU (qX _ _ rfl) (dU (qX _ _ rfl) (dU (qX _ _ rfl) (dU (qX _ _ rfl) h4))))
theorem MM (x:Op) {R4:List cZ} {c4:List Value} (h4:Mk (bX 2 (aC .i64)) R4 x.Vals c4):Mk kOp ([]++([]++([]++([]++R4)))) x ([vI x.Kind]++([vI x.Key]++([vI x.Arg]++([vB x.Got]++c4)))):=vG (g:=fun g:Op=>(g.Kind,g.Key,g.Arg,g.Got,g.Vals)) (x:=x) (dU (qX _ _ rfl) (dU (qX _ _ rfl) (dU (qX _ _ rfl) (dU (qX _ _ rfl) h4))))
theorem MN (x:Ask) {R3:List cZ} {c3:List Value} (h3:Mk (bX 2 (aC .i64)) R3 x.Base c3):Mk Cb ([]++([]++([]++R3))) x ([vI x.Txn]++([vI x.Place]++([vI x.Key]++c3))):=vG (g:=fun g:Ask=>(g.Txn,g.Place,g.Key,g.Base)) (x:=x) (dU (qX _ _ rfl) (dU (qX _ _ rfl) (dU (qX _ _ rfl) h3)))
theorem FW (x:aX) {R1:List cZ} {c1:List Value} (h1:Mk (bX 2 (aC .i64)) R1 x.args c1):Mk iC ([]++R1) x ([vI x.txn]++c1):=vG (g:=fun g:aX=>(g.txn,g.args)) (x:=x) (dU (qX _ _ rfl) h1)
noncomputable def nP (a0:List ByteArray) (a1:ByteArray):Int→Option (Int ⊕ Int)
 | a2=>bif decide (a2 < (a0.length:Int)) then must (0≤a2∧a2 < (a0.length:Int)) (bif sEq a1 (idx a0 a2) then out (some a2) else (some (.inl (w64 (a2 + 1))))) else (out (some (-1)))
noncomputable def slices_Index_string (a0:List ByteArray) (a1:ByteArray):Option Int :=
 iter (nP a0 a1) 0
noncomputable def slices_Contains_string (a0:List ByteArray) (a1:ByteArray):Option Bool :=
 (slices_Index_string a0 a1).bind fun y3=>some (decide (y3 ≥ 0))
noncomputable def rO:Option bN :=
 some (⟨([]:List ByteArray),([]:List (ByteArray×Int)),([]:List Int),([]:List (dM×Unit)),([]:List (ByteArray×(List Int)))⟩:bN)
noncomputable def yF (a0:Int):Option (Int×Int) :=
 bif (a0 == 5) then some (0,1) else (bif (a0 == 8) then some (1,1) else (some (0,64)))
noncomputable def uQ (a0:Call) (a1:Int) (a2:Bool):Option (Int ⊕ Bool) :=
 bif a2 then must (0≤w64 (a1 - 1)∧w64 (a1 - 1) < (a0.Vals.length:Int)) (must (0≤a1∧a1 < (a0.Vals.length:Int)) (bif decide (idx a0.Vals (w64 (a1 - 1)) ≥ idx a0.Vals a1) then out (some false) else (some (.inl (w64 (a1 + 1)))))) else (out (some true))
noncomputable def uR (a0:Call):Int→Option (Int ⊕ Bool)
 | a1=>bif (a0.Kind == 7) then uQ a0 a1 (decide (a1 < (a0.Vals.length:Int))) else (uQ a0 a1 false)
noncomputable def uS (a0:Call) (a1:Bool):Option Bool :=
 bif a1 then some false else (iter (uR a0) 1)
noncomputable def uT (a0:Call) (a2:Bool):Option Bool :=
 bif a2 then some false else (bif !a0.Got then some ((a0.Vals.length:Int) == 0) else ((yF a0.Kind).bind fun a1=>bif decide ((a0.Vals.length:Int) < a1.1) then uS a0 true else (uS a0 (decide ((a0.Vals.length:Int) > a1.2)))))
noncomputable def oL (a0:Call) (a1:Int) (a2:Bool):Option Bool :=
 bif a2 then some false else (bif decide (a0.Kind≤4) then bif !a0.Got then bif ((a0.Vals.length:Int) == 0) then bif (a0.Kind != 4) then some true else (bif decide ((-1048576)≤a0.Arg) then some (decide (a0.Arg≤1048576)) else (some false)) else (some false) else (some false) else (bif (a0.Arg != 0) then uT a0 true else (uT a0 (a0.Got != (a1 == 1)))))
noncomputable def dB (a0:Call) (a1:Int):Option Bool :=
 bif decide (a0.Kind < 1) then oL a0 a1 true else (bif decide (a0.Kind > 8) then oL a0 a1 true else (bif sEq a0.Key (⟨#[]⟩:ByteArray) then oL a0 a1 true else (oL a0 a1 (decide ((a0.Key.size:Int) > 32)))))
noncomputable def vL (a0:Call) (a1:Event):Option Bool :=
 (dB a0 a1.Kind).bind fun y5=>some (!y5)
noncomputable def gT (a0:List Call) (a1c0:Event):Int→Option (Int ⊕ Int)
 | a1=>bif decide (a1 < (a0.length:Int)) then must (0≤a1∧a1 < (a0.length:Int)) ((vL (idx a0 a1) a1c0).bind fun a2=>bif a2 then out (some a1) else (some (.inl (w64 (a1 + 1))))) else (out (some (-1)))
noncomputable def bW (a0:List Call) (a1c0:Event):Option Int :=
 iter (gT a0 a1c0) 0
noncomputable def dV (a0:List Call) (a1c0:Event):Option Bool :=
 (bW a0 a1c0).bind fun y3=>some (decide (y3 ≥ 0))
noncomputable def rD (a0:List Event) (a1:Int) (a2:Bool):Option (Int ⊕ Int) :=
 bif a2 then out (some 1) else ((dV ((idx a0 a1).Calls) (idx a0 a1)).bind fun a3=>bif a3 then out (some 1) else (some (.inl (w64 (a1 + 1)))))
noncomputable def xA (a0:List Event):Int→Option (Int ⊕ Int)
 | a1=>bif decide (a1 < (a0.length:Int)) then must (0≤a1∧a1 < (a0.length:Int)) (bif decide ((idx a0 a1).Kind < 0) then rD a0 a1 true else (bif decide ((idx a0 a1).Kind > 3) then rD a0 a1 true else (rD a0 a1 (decide ((((idx a0 a1).Calls).length:Int) > 16))))) else (out (some 0))
noncomputable def iH (a0:List Event):Option Int :=
 bif decide ((a0.length:Int) > 256) then some 1 else (iter (xA a0) 0)
noncomputable def wm (a0:History) (a1:Txn) (a3:List Call) (a2:Int):Option ((List Call×Int) ⊕ (Event×Bool)) :=
 some (.inl (a3++([(⟨(idx a1.Ops a2).Kind,idx a0.Keys ((idx a1.Ops a2).Key),(idx a1.Ops a2).Arg,(idx a1.Ops a2).Got,(idx a1.Ops a2).Vals⟩:Call)]:List Call),w64 (a2 + 1)))
noncomputable def sM (a0:History) (a1:Txn) (a2:List Call) (a3:Int) (a4:Bool):Option ((List Call×Int) ⊕ (Event×Bool)) :=
 bif a4 then out (some ((⟨0,a1.Status,a2⟩:Event),false)) else (must (0≤(idx a1.Ops a3).Key∧(idx a1.Ops a3).Key < (a0.Keys.length:Int)) (must (((a2.length + 1) + (a2.length + 1) / 4 + 192) * 64≤281474976710656∧a2.length + 1≤9223372036854775807) (wm a0 a1 a2 a3)))
noncomputable def wo (a0:History) (a1:Txn):(List Call×Int)→Option ((List Call×Int) ⊕ (Event×Bool))
 | (a3,a2)=>bif decide (a2 < (a1.Ops.length:Int)) then must (0≤a2∧a2 < (a1.Ops.length:Int)) (bif decide ((idx a1.Ops a2).Key < 0) then sM a0 a1 a3 a2 true else (sM a0 a1 a3 a2 (decide ((idx a1.Ops a2).Key ≥ (a0.Keys.length:Int))))) else ((iH ([(⟨0,a1.Status,a3⟩:Event)]:List Event)).bind fun a4=>out (some ((⟨0,a1.Status,a3⟩:Event),(a4 == 0))))
noncomputable def fw (a0:History) (a1:Txn):Option (Event×Bool) :=
 iter (wo a0 a1) ([],0)
noncomputable def sN (a0:Txn) (a1:Txn):Option Bool :=
 bif (a0.Proc == a1.Proc) then bif (a0.To == (-1)) then some true else (some (decide (a0.To ≥ a1.From))) else (some false)
noncomputable def gF (a0:List Txn) (a1c0:Txn):Int→Option (Int ⊕ Int)
 | a1=>bif decide (a1 < (a0.length:Int)) then must (0≤a1∧a1 < (a0.length:Int)) ((sN (idx a0 a1) a1c0).bind fun a2=>bif a2 then out (some a1) else (some (.inl (w64 (a1 + 1))))) else (out (some (-1)))
noncomputable def bS (a0:List Txn) (a1c0:Txn):Option Int :=
 iter (gF a0 a1c0) 0
noncomputable def dP (a0:List Txn) (a1c0:Txn):Option Bool :=
 (bS a0 a1c0).bind fun y3=>some (decide (y3 ≥ 0))
noncomputable def oF (a0:List Txn) (a1:Txn) (a2:Bool):Option Bool :=
 bif a2 then some false else ((dP a0 a1).bind fun a3=>some (!a3))
noncomputable def rP (a0:List Txn) (a1:Txn):Option Bool :=
 bif decide (a1.From < 0) then oF a0 a1 true else (bif decide ((a0.length:Int) > 0) then must (0≤w64 ((a0.length:Int) - 1)∧w64 ((a0.length:Int) - 1) < (a0.length:Int)) (oF a0 a1 (decide ((idx a0 (w64 ((a0.length:Int) - 1))).From ≥ a1.From))) else (oF a0 a1 false))
noncomputable def rQ (a0:List Txn) (a1:Txn) (a2:Bool):Option Bool :=
 bif a2 then some false else (rP a0 a1)
noncomputable def rR (a0:List Txn) (a1:Txn) (a2:Bool):Option Bool :=
 bif a2 then bif decide (a1.To≤a1.From) then some false else (rP a0 a1) else (bif (a1.Status == 3) then bif (a1.To != (-1)) then rQ a0 a1 (decide (a1.To≤a1.From)) else (rQ a0 a1 false) else (some false))
noncomputable def dw (a0:List Txn) (a1:Txn):Option Bool :=
 bif (a1.Status == 1) then rR a0 a1 (a1.Status == 1) else (rR a0 a1 (a1.Status == 2))
noncomputable def qL (a0:Int):Option Int :=
 some (w64 ((dJ .i64 (w64 (a0 - 1)) 3) + 1))
noncomputable def jq (a0:List ByteArray) (a3:List (ByteArray×Int)) (a2:List Int) (a4:List (dM×Unit)) (a1:List (ByteArray×(List Int))):Option (Int×bN) :=
 some (0,(⟨a0,a3,a2,a4,a1⟩:bN))
noncomputable def oO (a0:bN) (a1:Call) (a3:List ByteArray) (a2:List (ByteArray×Int)) (a4:List Int):Option (Int×bN) :=
 bif qJ a0.facts (⟨a1.Key,a1.Arg⟩:dM) then some (3,(⟨a3,a2,a4,a0.facts,a0.incs⟩:bN)) else (jq a3 a2 a4 (iQ a0.facts (⟨a1.Key,a1.Arg⟩:dM) ()) a0.incs)
noncomputable def kZ (a0:bN) (a1:Call) (a4:List ByteArray) (a3:List (ByteArray×Int)) (a5:List Int) (a2:List (ByteArray×(List Int))):Option (Int×bN) :=
 bif decide (((mat a2 a1.Key).length:Int) > 8) then some (51,(⟨a4,a3,a5,a0.facts,a2⟩:bN)) else (jq a4 a3 a5 a0.facts a2)
noncomputable def lc (a0:bN) (a1:Call) (a2:Int) (a4:List ByteArray) (a3:List (ByteArray×Int)) (a5:List Int) (a6:Bool):Option (Int×bN) :=
 bif a6 then must (((((mat a0.incs a1.Key).length) + 1) + (((mat a0.incs a1.Key).length) + 1) / 4 + 192) * 8≤281474976710656∧((mat a0.incs a1.Key).length) + 1≤9223372036854775807) (kZ a0 a1 a4 a3 a5 (iQ a0.incs a1.Key ((mat a0.incs a1.Key)++([a2]:List Int)))) else (kZ a0 a1 a4 a3 a5 a0.incs)
noncomputable def lg (a0:bN) (a1:Call) (a2:Int) (a4:List ByteArray) (a3:List (ByteArray×Int)) (a5:List Int) (a6:Bool):Option (Int×bN) :=
 bif a6 then oO a0 a1 a4 a3 a5 else (bif (a1.Kind == 4) then bif (((mat a0.incs a1.Key).length:Int) == 0) then lc a0 a1 a2 a4 a3 a5 true else (must (0≤w64 (((mat a0.incs a1.Key).length:Int) - 1)∧w64 (((mat a0.incs a1.Key).length:Int) - 1) < ((mat a0.incs a1.Key).length:Int)) (lc a0 a1 a2 a4 a3 a5 (idx (mat a0.incs a1.Key) (w64 (((mat a0.incs a1.Key).length:Int) - 1)) != a2))) else (jq a4 a3 a5 a0.facts a0.incs))
noncomputable def jr (a0:bN) (a1:Call) (a2:Int) (a4:List ByteArray) (a5:List (ByteArray×Int)) (a3:List Int) (a6:Int):Option (Int×bN) :=
 must (0≤a6∧a6 < (a3.length:Int)) ((qL a1.Kind).bind fun a7=>bif (idx a3 a6 != a7) then some (50,(⟨a4,a5,a3,a0.facts,a0.incs⟩:bN)) else (bif (a1.Kind == 2) then lg a0 a1 a2 a4 a5 a3 (a1.Kind == 2) else (lg a0 a1 a2 a4 a5 a3 (a1.Kind == 3))))
noncomputable def oP (a0:bN) (a1:Call) (a2:Int):Option (Int×bN) :=
 (qL a1.Kind).bind fun a3=>must (((a0.types.length + 1) + (a0.types.length + 1) / 4 + 192) * 8≤281474976710656∧a0.types.length + 1≤9223372036854775807) (jr a0 a1 a2 (a0.keys++([a1.Key]:List ByteArray)) (iQ a0.at_ a1.Key (a0.keys.length:Int)) (a0.types++([a3]:List Int)) (a0.keys.length:Int))
noncomputable def aI (a0:bN) (a1:Call) (a2:Int):Option (Int×bN) :=
 bif !(qJ a0.at_ a1.Key) then bif ((a0.keys.length:Int) == 32) then some (2,a0) else (must (((a0.keys.length + 1) + (a0.keys.length + 1) / 4 + 192) * 16≤281474976710656∧a0.keys.length + 1≤9223372036854775807) (oP a0 a1 a2)) else (jr a0 a1 a2 a0.keys a0.at_ a0.types (mat a0.at_ a1.Key))
noncomputable def qi (a1:Int) (a0:Bool):Option (Int ⊕ Int) :=
 bif a0 then out (some 1) else (some (.inl (w64 (a1 + 1))))
noncomputable def sO (a4:Int) (a2:Event×Bool):(List ByteArray×(List (ByteArray×Int))×List Int×(List (dM×Unit))×(List (ByteArray×(List Int)))×Int)→Option ((List ByteArray×(List (ByteArray×Int))×List Int×(List (dM×Unit))×(List (ByteArray×(List Int)))×Int) ⊕ ((List ByteArray×(List (ByteArray×Int))×List Int×(List (dM×Unit))×(List (ByteArray×(List Int)))×Int) ⊕ (Int ⊕ Int)))
 | (a5,a3,a8,a6,a7,a1)=>bif decide (a1 < (a2.1.Calls.length:Int)) then must (0≤a1∧a1 < (a2.1.Calls.length:Int)) ((aI (⟨a5,a3,a8,a6,a7⟩:bN) (idx a2.1.Calls a1) a4).bind fun a0=>bif (a0.1 != 0) then out (out (out (some 1))) else (some (.inl (a0.2.keys,a0.2.at_,a0.2.types,a0.2.facts,a0.2.incs,w64 (a1 + 1))))) else (out (some (.inl (a5,a3,a8,a6,a7,w64 (a4 + 1)))))
noncomputable def sP (a1:List ByteArray) (a7:List (ByteArray×Int)) (a2:List Int) (a6:List (dM×Unit)) (a3:List (ByteArray×(List Int))) (a0:Int) (a5:Event×Bool) (a4:Bool):Option ((List ByteArray×(List (ByteArray×Int))×List Int×(List (dM×Unit))×(List (ByteArray×(List Int)))×Int) ⊕ (Int ⊕ Int)) :=
 bif a4 then out (out (some 1)) else (iter (sO a0 a5) (a1,a7,a2,a6,a3,0))
noncomputable def qj (a0:History):(List ByteArray×(List (ByteArray×Int))×List Int×(List (dM×Unit))×(List (ByteArray×(List Int)))×Int)→Option ((List ByteArray×(List (ByteArray×Int))×List Int×(List (dM×Unit))×(List (ByteArray×(List Int)))×Int) ⊕ (Int ⊕ Int))
 | (a3,a7,a4,a6,a5,a1)=>bif decide (a1 < (a0.Txns.length:Int)) then must (0≤a1∧a1 < (a0.Txns.length:Int)) ((fw a0 (idx a0.Txns a1)).bind fun a2=>bif !a2.2 then sP a3 a7 a4 a6 a5 a1 a2 true else (must (0≤(0:Int)∧(0:Int)≤a1∧a1≤(a0.Txns.length:Int)) ((dw (eQ a0.Txns (0:Int) a1) (idx a0.Txns a1)).bind fun a8=>sP a3 a7 a4 a6 a5 a1 a2 (!a8)))) else (out (out (some 0)))
noncomputable def wu (a0:History):Int→Option (Int ⊕ Int)
 | a1=>bif decide (a1 < (a0.Keys.length:Int)) then must (0≤a1∧a1 < (a0.Keys.length:Int)) (bif sEq (idx a0.Keys a1) (⟨#[]⟩:ByteArray) then qi a1 true else (bif decide (((idx a0.Keys a1).size:Int) > 32) then qi a1 true else (must (0≤(0:Int)∧(0:Int)≤a1∧a1≤(a0.Keys.length:Int)) ((slices_Contains_string (eQ a0.Keys (0:Int) a1) (idx a0.Keys a1)).bind fun a3=>qi a1 a3)))) else ((rO).bind fun a2=>iter (qj a0) (a2.keys,a2.at_,a2.types,a2.facts,a2.incs,0))
noncomputable def sQ (a0:History) (b7:Bool):Option Int :=
 bif b7 then some 1 else (iter (wu a0) 0)
noncomputable def aK (a0:History):Option Int :=
 bif decide ((a0.Keys.length:Int) > 32) then sQ a0 true else (sQ a0 (decide ((a0.Txns.length:Int) > 32)))
noncomputable def gG (a0:List Int):Option (List Int) :=
 must (a0.length * 8≤140737488355328) (some a0)
noncomputable def lV (a0:Int):Option Int :=
 bif (a0 == 1) then some 280 else (bif (a0 == 2) then some 281 else (bif (a0 == 3) then some 282 else (bif (a0 == 4) then some 283 else (some (-1)))))
noncomputable def lW (a0:Unit) (a1:List Int):Option Bool :=
 some (decide ((a1.length:Int)≤1))
noncomputable def qM (a0:Unit) (a1:List Int):Option Bool :=
 some (decide ((a1.length:Int)≤64))
noncomputable def rV (a1:List Int):Int→Option (Int ⊕ Bool)
 | a0=>bif decide (a0 < (a1.length:Int)) then must (0≤w64 (a0 - 1)∧w64 (a0 - 1) < (a1.length:Int)) (must (0≤a0∧a0 < (a1.length:Int)) (bif decide (idx a1 (w64 (a0 - 1)) ≥ idx a1 a0) then out (some false) else (some (.inl (w64 (a0 + 1)))))) else (out (some (decide ((a1.length:Int)≤64))))
noncomputable def iD (a0:Unit) (a1:List Int):Option Bool :=
 iter (rV a1) 1
noncomputable def mX (a0:Unit) (a1:List Int):Option Bool :=
 some ((a1.length:Int) == 1)
noncomputable def lX (a0:Int) (a1:List Int):Option Int :=
 (lV a0).bind fun y8=>bif (y8 == (280:Int)) then (lW () a1).bind fun a2=>bif !a2 then some 80 else (some 0) else (bif (y8 == (281:Int)) then (qM () a1).bind fun a4=>bif !a4 then some 80 else (some 0) else (bif (y8 == (282:Int)) then (iD () a1).bind fun a5=>bif !a5 then some 80 else (some 0) else (bif (y8 == (283:Int)) then (mX () a1).bind fun a3=>bif !a3 then some 80 else (some 0) else (bif (y8 == ((-1):Int)) then some 1 else none))))
noncomputable def iT (a0:Unit) (a1:List Int) (a2:List Int):Option (List Int×Bool) :=
 bif ((a1.length:Int) == 1) then must (0≤(0:Int)∧(0:Int) < (a1.length:Int)) (must (0≤w64 ((a2.length:Int) - 1)∧w64 ((a2.length:Int) - 1) < (a2.length:Int)) (some (([]:List Int),(idx a1 (0:Int) == idx a2 (w64 ((a2.length:Int) - 1)))))) else (some (([]:List Int),false))
noncomputable def um (a0:List Int) (a1:List Int):Int→Option (Int ⊕ Bool)
 | a2=>bif decide (a2 < (a0.length:Int)) then must (0≤a2∧a2 < (a0.length:Int)) (must (0≤a2∧a2 < (a1.length:Int)) (bif (idx a0 a2 != idx a1 a2) then out (some false) else (some (.inl (w64 (a2 + 1)))))) else (out (some true))
noncomputable def eY (a0:List Int) (a1:List Int):Option Bool :=
 bif ((a0.length:Int) != (a1.length:Int)) then some false else (iter (um a0 a1) 0)
noncomputable def jv (a1:List Int) (a2:List Int) (a3:Bool):Option (List Int×Bool) :=
 bif a3 then some (([]:List Int),false) else (must (0≤(0:Int)∧(0:Int)≤(w64 ((a1.length:Int) - (a2.length:Int)))∧(w64 ((a1.length:Int) - (a2.length:Int)))≤(a1.length:Int)) ((gG (eQ a1 (0:Int) (w64 ((a1.length:Int) - (a2.length:Int))))).bind fun a0=>some (a0,true)))
noncomputable def dY (a0:Unit) (a1:List Int) (a2:List Int):Option (List Int×Bool) :=
 bif decide (w64 ((a1.length:Int) - (a2.length:Int)) < 0) then jv a1 a2 true else (must (0≤(w64 ((a1.length:Int) - (a2.length:Int)))∧(w64 ((a1.length:Int) - (a2.length:Int)))≤(a1.length:Int)∧(a1.length:Int)≤(a1.length:Int)) ((eY (eQ a1 (w64 ((a1.length:Int) - (a2.length:Int))) (a1.length:Int)) a2).bind fun a3=>jv a1 a2 (!a3)))
noncomputable def oG (a0:Int):Option Bool :=
 some (a0 != a0)
noncomputable def ql (a0:Int) (a1:Int):Option Bool :=
 (oG a0).bind fun y7=>bif y7 then (oG a1).bind fun a2=>bif !a2 then some true else (some (decide (a0 < a1))) else (some (decide (a0 < a1)))
noncomputable def kR (a0:Int):Option Bool :=
 some (a0 != a0)
noncomputable def jY (a0:Int) (a1:Int):Option ((Int×Int) ⊕ (Int×Bool)) :=
 some (.inl (a0,a1))
noncomputable def jZ (a0:List Int) (a1:Int):(Int×Int)→Option ((Int×Int) ⊕ (Int×Bool))
 | (a2,a3)=>bif decide (a2 < a3) then must (0≤(1:Int)∧(1:Int) < (far:Int)) (must (0≤w64 (fu .u64 (IntKind.wrap .u64 (w64 (a2 + a3))) (1:Int))∧w64 (fu .u64 (IntKind.wrap .u64 (w64 (a2 + a3))) (1:Int)) < (a0.length:Int)) ((ql (idx a0 (w64 (fu .u64 (IntKind.wrap .u64 (w64 (a2 + a3))) (1:Int)))) a1).bind fun a6=>bif a6 then jY (w64 ((w64 (fu .u64 (IntKind.wrap .u64 (w64 (a2 + a3))) (1:Int))) + 1)) a3 else (jY a2 (w64 (fu .u64 (IntKind.wrap .u64 (w64 (a2 + a3))) (1:Int)))))) else (bif decide (a2 < (a0.length:Int)) then must (0≤a2∧a2 < (a0.length:Int)) (bif (idx a0 a2 == a1) then out (some (a2,true)) else ((kR (idx a0 a2)).bind fun a5=>bif a5 then (kR a1).bind fun a4=>out (some (a2,a4)) else (out (some (a2,false))))) else (out (some (a2,false))))
noncomputable def bV (a0:List Int) (a1:Int):Option (Int×Bool) :=
 iter (jZ a0 a1) (0,(a0.length:Int))
noncomputable def kg (a0:List Int) (a1 a2:Int):Option (List Int) :=
 must (0≤a1∧a1≤a2∧a2≤(a0.length:Int)) (some (a0.take a1.toNat++a0.drop a2.toNat))
noncomputable def lY (a2:List Int):(List Int×Int)→Option ((List Int×Int) ⊕ (List Int×Bool))
 | (a3,a0)=>bif decide (a0 < (a2.length:Int)) then must (0≤a0∧a0 < (a2.length:Int)) ((bV a3 (idx a2 a0)).bind fun a1=>bif !a1.2 then out (some (([]:List Int),false)) else ((kg a3 a1.1 (w64 (a1.1 + 1))).bind fun a4=>some (.inl (a4,w64 (a0 + 1))))) else (out (some (a3,true)))
noncomputable def fH (a0:Unit) (a1:List Int) (a2:List Int):Option (List Int×Bool) :=
 (gG a1).bind fun y7=>iter (lY a2) (y7,0)
noncomputable def jL (a2:List Int):(Int×Int)→Option ((Int×Int) ⊕ (List Int×Bool))
 | (a1,a0)=>bif decide (a0 < (a2.length:Int)) then must (0≤a0∧a0 < (a2.length:Int)) (some (.inl (w64 (a1 - (idx a2 a0)),w64 (a0 + 1)))) else (out (some (([a1]:List Int),true)))
noncomputable def ed (a0:Unit) (a1:List Int) (a2:List Int):Option (List Int×Bool) :=
 must (0≤(0:Int)∧(0:Int) < (a1.length:Int)) (iter (jL a2) (idx a1 (0:Int),0))
noncomputable def lT (a0:Int) (a1:List Int) (a2:List Int) (b9:Bool):Option (List Int×Bool) :=
 bif b9 then some (([]:List Int),false) else ((lV a0).bind fun a3=>bif (a3 == (280:Int)) then (iT () a1 a2).bind fun a4=>some (a4.1,a4.2) else (bif (a3 == (281:Int)) then (dY () a1 a2).bind fun a5=>some (a5.1,a5.2) else (bif (a3 == (282:Int)) then (fH () a1 a2).bind fun a6=>some (a6.1,a6.2) else (bif (a3 == (283:Int)) then (ed () a1 a2).bind fun a7=>some (a7.1,a7.2) else (bif (a3 == ((-1):Int)) then none else none)))))
noncomputable def iE (a0:Int) (a1:List Int) (a2:List Int):Option (List Int×Bool) :=
 (lX a0 a1).bind fun a3=>bif (a3 != 0) then lT a0 a1 a2 true else (lT a0 a1 a2 ((a2.length:Int) == 0))
noncomputable def ja (a1:Int) (a2:List Ask) (a3:List ib) (a0:List (Int×(List Int))):Option ((List Ask×List ib×(List (Int×(List Int)))×Int) ⊕ fB) :=
 some (.inl (a2,a3,a0,w64 (a1 + 1)))
noncomputable def mY (a1:History) (a2:Int) (a0:List Ask) (a3:List ib) (a5:List (Int×(List Int))) (a4:Int) (a7:List Int) (a6:Bool):Option ((List Ask×List ib×(List (Int×(List Int)))×Int) ⊕ fB) :=
 bif !a6 then must (((a3.length + 1) + (a3.length + 1) / 4 + 192) * 16≤281474976710656∧a3.length + 1≤9223372036854775807) (ja a4 a0 (a3++([(⟨a2,a4⟩:ib)]:List ib)) a5) else (must (((a0.length + 1) + (a0.length + 1) / 4 + 192) * 48≤281474976710656∧a0.length + 1≤9223372036854775807) (ja a4 (a0++([(⟨a2,a4,(idx ((idx a1.Txns a2).Ops) a4).Key,a7⟩:Ask)]:List Ask)) a3 a5))
noncomputable def mZ (a1:History) (a2:Int) (a0:List Ask) (a3:List ib) (a5:List (Int×(List Int))) (a6:Int) (a4:List Int×Bool) (a7:Bool):Option ((List Ask×List ib×(List (Int×(List Int)))×Int) ⊕ fB) :=
 bif a7 then ja a6 a0 a3 a5 else (mY a1 a2 a0 a3 a5 a6 a4.1 a4.2)
noncomputable def qY (a1:History) (a2:Int):(List Ask×List ib×(List (Int×(List Int)))×Int)→Option ((List Ask×List ib×(List (Int×(List Int)))×Int) ⊕ fB)
 | (a4,a5,a3,a0)=>bif decide (a0 < (((idx a1.Txns a2).Ops).length:Int)) then must (0≤a0∧a0 < (((idx a1.Txns a2).Ops).length:Int)) (bif decide ((idx ((idx a1.Txns a2).Ops) a0).Kind≤4) then must (((((mat a3 ((idx ((idx a1.Txns a2).Ops) a0).Key)).length) + 1) + (((mat a3 ((idx ((idx a1.Txns a2).Ops) a0).Key)).length) + 1) / 4 + 192) * 8≤281474976710656∧((mat a3 ((idx ((idx a1.Txns a2).Ops) a0).Key)).length) + 1≤9223372036854775807) (ja a0 a4 a5 (iQ a3 ((idx ((idx a1.Txns a2).Ops) a0).Key) ((mat a3 ((idx ((idx a1.Txns a2).Ops) a0).Key))++([(idx ((idx a1.Txns a2).Ops) a0).Arg]:List Int)))) else ((gG ((idx ((idx a1.Txns a2).Ops) a0).Vals)).bind fun a7=>bif decide (((mat a3 ((idx ((idx a1.Txns a2).Ops) a0).Key)).length:Int) > 0) then (iE (w64 (((idx ((idx a1.Txns a2).Ops) a0).Kind) - 4)) ((idx ((idx a1.Txns a2).Ops) a0).Vals) (mat a3 ((idx ((idx a1.Txns a2).Ops) a0).Key))).bind fun a6=>bif a6.2 then mZ a1 a2 a4 a5 a3 a0 a6 ((idx ((idx a1.Txns a2).Ops) a0).Kind == 5) else (mZ a1 a2 a4 a5 a3 a0 a6 false) else (mY a1 a2 a4 a5 a3 a0 a7 true))) else (out (some (⟨a4,a5⟩:fB)))
noncomputable def bG (a0:fB) (a1:History) (a2:Int):Option fB :=
 must (0≤a2∧a2 < (a1.Txns.length:Int)) (bif ((idx a1.Txns a2).Status != 1) then some a0 else (iter (qY a1 a2) (a0.asks,a0.bad,[],0)))
noncomputable def yG (a0:History):(List Ask×List ib×Int)→Option ((List Ask×List ib×Int) ⊕ (fB×Int))
 | (a2,a4,a1)=>bif decide (a1 < (a0.Txns.length:Int)) then (bG (⟨a2,a4⟩:fB) a0 a1).bind fun a3=>some (.inl (a3.asks,a3.bad,w64 (a1 + 1))) else (out (some ((⟨a2,a4⟩:fB),0)))
noncomputable def nE (a0:History):Option (fB×Int) :=
 (aK a0).bind fun a1=>bif (a1 != 0) then some ((⟨([]:List Ask),([]:List ib)⟩:fB),a1) else (iter (yG a0) ([],[],0))
noncomputable def mK (a0:History):Option (List Ask×Int) :=
 (nE a0).bind fun a1=>some (a1.1.asks,a1.2)
noncomputable def xB (a0:History) (a1:Int) (a3:Int):Int→Option (Int ⊕ (Int ⊕ Int))
 | a2=>bif decide (a2 < (((idx a0.Txns a3).Ops).length:Int)) then must (0≤a2∧a2 < (((idx a0.Txns a3).Ops).length:Int)) (bif ((idx ((idx a0.Txns a3).Ops) a2).Key == a1) then (qL ((idx ((idx a0.Txns a3).Ops) a2).Kind)).bind fun a4=>out (out (some a4)) else (some (.inl (w64 (a2 + 1))))) else (out (some (.inl (w64 (a3 + 1)))))
noncomputable def xC (a0:History) (a1:Int):Int→Option (Int ⊕ Int)
 | a2=>bif decide (a2 < (a0.Txns.length:Int)) then must (0≤a2∧a2 < (a0.Txns.length:Int)) (iter (xB a0 a1 a2) 0) else (out (some 0))
noncomputable def fC (a0:History) (a1:Int):Option Int :=
 (aK a0).bind fun y8=>bif (y8 != 0) then some 0 else (iter (xC a0 a1) 0)
noncomputable def sS (a1:Int) (a0:List Int):Option ((List Int×Int) ⊕ (List Int)) :=
 some (.inl (a0,w64 (a1 + 1)))
noncomputable def sU (a0:Txn) (a1:List Int) (a2:Int) (a3:Bool):Option ((List Int×Int) ⊕ (List Int)) :=
 bif a3 then must (((a1.length + 1) + (a1.length + 1) / 4 + 192) * 8≤281474976710656∧a1.length + 1≤9223372036854775807) (sS a2 (a1++([(idx a0.Ops a2).Arg]:List Int))) else (sS a2 a1)
noncomputable def ww (a0:Txn) (a1:Int):(List Int×Int)→Option ((List Int×Int) ⊕ (List Int))
 | (a3,a2)=>bif decide (a2 < (a0.Ops.length:Int)) then must (0≤a2∧a2 < (a0.Ops.length:Int)) (bif ((idx a0.Ops a2).Key == a1) then sU a0 a3 a2 (decide ((idx a0.Ops a2).Kind≤4)) else (sU a0 a3 a2 false)) else (out (some a3))
noncomputable def eD (a0:Txn) (a1:Int):Option (List Int) :=
 iter (ww a0 a1) ([],0)
noncomputable def qm (a0:History) (a1:Int) (a2:Int) (a4:Bool):Option (List Int×Bool) :=
 bif a4 then some (([]:List Int),false) else (must (0≤a1∧a1 < (a0.Txns.length:Int)) ((eD (idx a0.Txns a1) a2).bind fun a3=>some (a3,decide ((a3.length:Int) > 0))))
noncomputable def gX (a0:History) (a1:Int) (a2:Int):Option (List Int×Bool) :=
 bif decide (a1 < 0) then qm a0 a1 a2 true else (bif decide (a1 ≥ (a0.Txns.length:Int)) then qm a0 a1 a2 true else ((aK a0).bind fun a3=>qm a0 a1 a2 (a3 != 0)))
noncomputable def qN (a1:Int) (a0:List Int):Option ((List Int×Int) ⊕ (List Int)) :=
 some (.inl (a0,w64 (a1 + 1)))
noncomputable def qO (a0:List Int) (a1:Int) (a2:Bool):Option ((List Int×Int) ⊕ (List Int)) :=
 bif a2 then must (((a0.length + 1) + (a0.length + 1) / 4 + 192) * 8≤281474976710656∧a0.length + 1≤9223372036854775807) (qN a1 (a0++([a1]:List Int))) else (qN a1 a0)
noncomputable def uF (a0:History) (a1:Int):(List Int×Int)→Option ((List Int×Int) ⊕ (List Int))
 | (a3,a2)=>bif decide (a2 < (a0.Txns.length:Int)) then must (0≤a2∧a2 < (a0.Txns.length:Int)) (bif ((idx a0.Txns a2).Status != 2) then (eD (idx a0.Txns a2) a1).bind fun a4=>qO a3 a2 (decide ((a4.length:Int) > 0)) else (qO a3 a2 false)) else (out (some a3))
noncomputable def dN (a0:History) (a1:Int):Option (List Int) :=
 (aK a0).bind fun y8=>bif (y8 != 0) then some ([]:List Int) else (iter (uF a0 a1) ([],0))
noncomputable def qP (a0:Int) (a1:List aX):Option ((List aX×Int) ⊕ (List aX)) :=
 some (.inl (a1,w64 (a0 + 1)))
noncomputable def qQ (a4:List Int) (a0:List aX) (a1:Int) (a2:List Int×Bool) (a3:Bool):Option ((List aX×Int) ⊕ (List aX)) :=
 bif a3 then must (((a0.length + 1) + (a0.length + 1) / 4 + 192) * 32≤281474976710656∧a0.length + 1≤9223372036854775807) (qP a1 (a0++([(⟨idx a4 a1,a2.1⟩:aX)]:List aX))) else (qP a1 a0)
noncomputable def uG (a0:History) (a1:Ask) (a3:List Int):(List aX×Int)→Option ((List aX×Int) ⊕ (List aX))
 | (a5,a2)=>bif decide (a2 < (a3.length:Int)) then must (0≤a2∧a2 < (a3.length:Int)) ((gX a0 (idx a3 a2) a1.Key).bind fun a4=>bif a4.2 then qQ a3 a5 a2 a4 (idx a3 a2 != a1.Txn) else (qQ a3 a5 a2 a4 false)) else (out (some a5))
noncomputable def cO (a0:History) (a1:Ask):Option (List aX) :=
 (dN a0 a1.Key).bind fun a2=>iter (uG a0 a1 a2) ([],0)
noncomputable def qZ (a0:List Int) (a1:Int):Int→Option (Int ⊕ Int)
 | a2=>bif decide (a2 < (a0.length:Int)) then must (0≤a2∧a2 < (a0.length:Int)) (bif (a1 == idx a0 a2) then out (some a2) else (some (.inl (w64 (a2 + 1))))) else (out (some (-1)))
noncomputable def slices_Index_int (a0:List Int) (a1:Int):Option Int :=
 iter (qZ a0 a1) 0
noncomputable def slices_Contains_int (a0:List Int) (a1:Int):Option Bool :=
 (slices_Index_int a0 a1).bind fun y3=>some (decide (y3 ≥ 0))
noncomputable def uU (a0:aX) (a1:List Int):Option Bool :=
 must (0≤(0:Int)∧(0:Int) < (a0.args.length:Int)) (must (0≤(0:Int)∧(0:Int) < (a1.length:Int)) (some (idx a0.args (0:Int) == idx a1 (0:Int))))
noncomputable def gu (a0:List aX) (a1c0:List Int):Int→Option (Int ⊕ Int)
 | a1=>bif decide (a1 < (a0.length:Int)) then must (0≤a1∧a1 < (a0.length:Int)) ((uU (idx a0 a1) a1c0).bind fun a2=>bif a2 then out (some a1) else (some (.inl (w64 (a1 + 1))))) else (out (some (-1)))
noncomputable def bR (a0:List aX) (a1c0:List Int):Option Int :=
 iter (gu a0 a1c0) 0
noncomputable def nG (a1:List aX) (a2:List Int) (a3:List Int) (a0:Int) (a4:Bool):Option ((List Int×List Int) ⊕ (List Int×Bool)) :=
 bif a4 then out (some (([]:List Int),false)) else (must (0≤a0∧a0 < (a1.length:Int)) (must (((a3.length + 1) + (a3.length + 1) / 4 + 192) * 8≤281474976710656∧a3.length + 1≤9223372036854775807) (must (0≤(((idx a1 a0).args).length:Int)∧(((idx a1 a0).args).length:Int)≤(a2.length:Int)∧(a2.length:Int)≤(a2.length:Int)) (some (.inl (eQ a2 (((idx a1 a0).args).length:Int) (a2.length:Int),a3++([(idx a1 a0).txn]:List Int)))))))
noncomputable def sV (a1:List aX):(List Int×List Int)→Option ((List Int×List Int) ⊕ (List Int×Bool))
 | (a2,a3)=>bif decide ((a2.length:Int) > 0) then (bR a1 a2).bind fun a0=>bif decide (a0 < 0) then nG a1 a2 a3 a0 true else (must (0≤a0∧a0 < (a1.length:Int)) (bif decide ((((idx a1 a0).args).length:Int) > (a2.length:Int)) then nG a1 a2 a3 a0 true else (must (0≤(0:Int)∧(0:Int)≤(((idx a1 a0).args).length:Int)∧(((idx a1 a0).args).length:Int)≤(a2.length:Int)) ((eY ((idx a1 a0).args) (eQ a2 (0:Int) (((idx a1 a0).args).length:Int))).bind fun a4=>bif !a4 then nG a1 a2 a3 a0 true else ((slices_Contains_int a3 ((idx a1 a0).txn)).bind fun a5=>nG a1 a2 a3 a0 a5))))) else (out (some (a3,true)))
noncomputable def fA (a0:List Int) (a1:List aX):Option (List Int×Bool) :=
 iter (sV a1) (a0,[])
noncomputable def uV (a0:Int) (a1:List Int) (a2:List (Int×Unit)):Option ((List Int×(List (Int×Unit))×Int) ⊕ (((List (Int×Unit))×Int) ⊕ (List Int×Bool))) :=
 some (.inl (a1,a2,w64 (a0 + 1)))
noncomputable def uW (a2:Int) (a1:List (Int×Unit)) (a0:Int):Option (((List (Int×Unit))×Int×Int) ⊕ ((List Int×(List (Int×Unit))×Int) ⊕ (((List (Int×Unit))×Int) ⊕ (List Int×Bool)))) :=
 some (.inl (a1,a0,w64 (a2 + 1)))
noncomputable def uX (a1:List aX) (a0:List Int) (a2:Int) (a3:List (Int×Unit)) (a4:Int) (a5:Bool):Option (((List (Int×Unit))×Int×Int) ⊕ ((List Int×(List (Int×Unit))×Int) ⊕ (((List (Int×Unit))×Int) ⊕ (List Int×Bool)))) :=
 bif a5 then out (out (out (some (([]:List Int),false)))) else (bif decide (a4 > 0) then must (((a0.length + 1) + (a0.length + 1) / 4 + 192) * 8≤281474976710656∧a0.length + 1≤9223372036854775807) (out (uV a2 (a0++([(idx a1 a2).txn]:List Int)) a3)) else (out (uV a2 a0 a3)))
noncomputable def xD (a1:List aX) (a5:List Int) (a0:Int):((List (Int×Unit))×Int×Int)→Option (((List (Int×Unit))×Int×Int) ⊕ ((List Int×(List (Int×Unit))×Int) ⊕ (((List (Int×Unit))×Int) ⊕ (List Int×Bool))))
 | (a4,a3,a2)=>bif decide (a2 < (((idx a1 a0).args).length:Int)) then must (0≤a2∧a2 < (((idx a1 a0).args).length:Int)) (bif qJ a4 (idx ((idx a1 a0).args) a2) then uW a2 (Ep a4 (idx ((idx a1 a0).args) a2)) (w64 (a3 + 1)) else (uW a2 a4 a3)) else (bif decide (a3 > 0) then uX a1 a5 a0 a4 a3 (decide (a3 < (((idx a1 a0).args).length:Int))) else (uX a1 a5 a0 a4 a3 false))
noncomputable def xE (a1:List aX):(List Int×(List (Int×Unit))×Int)→Option ((List Int×(List (Int×Unit))×Int) ⊕ (((List (Int×Unit))×Int) ⊕ (List Int×Bool)))
 | (a2,a3,a0)=>bif decide (a0 < (a1.length:Int)) then must (0≤a0∧a0 < (a1.length:Int)) (iter (xD a1 a2 a0) (a3,0,0)) else (bif decide ((a3.length:Int) > 0) then out (out (some (([]:List Int),false))) else (out (out (some (a2,true)))))
noncomputable def xG (a0:List Int) (a1:List aX):((List (Int×Unit))×Int)→Option (((List (Int×Unit))×Int) ⊕ (List Int×Bool))
 | (a3,a2)=>bif decide (a2 < (a0.length:Int)) then must (0≤a2∧a2 < (a0.length:Int)) (some (.inl (iQ a3 (idx a0 a2) (),w64 (a2 + 1)))) else (iter (xE a1) ([],a3,0))
noncomputable def di (a0:List Int) (a1:List aX):Option (List Int×Bool) :=
 iter (xG a0 a1) ([],0)
noncomputable def iF (a0:History) (a1:Ask):Option (List Int×Bool) :=
 (fC a0 a1.Key).bind fun a3=>bif (a3 == 2) then (cO a0 a1).bind fun a5=>(fA a1.Base a5).bind fun a2=>some (a2.1,a2.2) else (bif (a3 == 3) then (cO a0 a1).bind fun a6=>(di a1.Base a6).bind fun a4=>some (a4.1,a4.2) else (some (([]:List Int),false)))
noncomputable def rf (a0:Int) (a2:Int) (a3:List aX) (a4:Int) (rec:Int→Int→Int→(List aX)→Int→Int→Option Int) (a6:Int):(Int×Int)→Option ((Int×Int) ⊕ Int)
 | (a5,a1)=>bif decide (a1 < (((idx a3 a0).args).length:Int)) then must (0≤a1∧a1 < (((idx a3 a0).args).length:Int)) (some (.inl (w64 (a5 + (idx ((idx a3 a0).args) a1)),w64 (a1 + 1)))) else (must (0≤a0∧a0 < (far:Int)) ((rec (w64 (a0 + 1)) a5 (bOr .u64 a2 (En .u64 1 a0)) a3 a4 a6).bind fun a7=>out (some a7)))
noncomputable def lh (rec:Int→Int→Int→(List aX)→Int→Int→Option Int) (a0:Int) (a1:Int) (a2:Int) (a3:List aX) (a4:Int) (a5:Int):Option Int :=
 bif (a0 == (a3.length:Int)) then bif (a1 == a4) then some (bOr .u64 a5 a2) else (some a5) else ((rec (w64 (a0 + 1)) a1 a2 a3 a4 a5).bind fun a6=>must (0≤a0∧a0 < (a3.length:Int)) (iter (rf a0 a2 a3 a4 rec a6) (a1,0)))
noncomputable def ig:Nat→Int→Int→Int→(List aX)→Int→Int→Option Int
 | 0=>fun _ _ _ _ _ _=>none
 | k + 1=>lh (ig k)
noncomputable def bP (a0:Int) (a1:Int) (a2:Int) (a3:List aX) (a4:Int) (a5:Int):Option Int:=ig 64 a0 a1 a2 a3 a4 a5
noncomputable def pG (a0:Int) (a1:List Int):Option ((List Int×Int) ⊕ (List Int)) :=
 some (.inl (a1,w64 (a0 + 1)))
noncomputable def sW (a1:List aX) (a3:Int):(List Int×Int)→Option ((List Int×Int) ⊕ (List Int))
 | (a2,a0)=>bif decide (a0 < (a1.length:Int)) then must (0≤a0∧a0 < (a1.length:Int)) (must (0≤a0∧a0 < (far:Int)) (bif (dJ .u64 (fu .u64 a3 a0) 1 == 1) then must (((a2.length + 1) + (a2.length + 1) / 4 + 192) * 8≤281474976710656∧a2.length + 1≤9223372036854775807) (pG a0 (a2++([(idx a1 a0).txn]:List Int))) else (pG a0 a2))) else (out (some a2))
noncomputable def eT (a0:Int) (a1:List aX):Option (List Int) :=
 (bP 0 0 0 a1 a0 0).bind fun a2=>iter (sW a1 a2) ([],0)
noncomputable def fZ (a0:List Int):Option (List Int) :=
 some a0
noncomputable def pI (a0:History) (a1:Ask) (a3:List Int):Option (List Int) :=
 must (0≤(0:Int)∧(0:Int) < (a1.Base.length:Int)) ((cO a0 a1).bind fun a4=>(eT (idx a1.Base (0:Int)) a4).bind fun a2=>must (((a3.length + a2.length) + (a3.length + a2.length) / 4 + 192) * 8≤281474976710656∧a3.length + a2.length≤9223372036854775807) (fZ (a3++a2)))
noncomputable def pJ (a0:Int) (a1:List Int):Option ((List Int×Int) ⊕ (List Int)) :=
 some (.inl (a1,w64 (a0 + 1)))
noncomputable def pM (a1:Ask) (a2:List aX):(List Int×Int)→Option ((List Int×Int) ⊕ (List Int))
 | (a3,a0)=>bif decide (a0 < (a2.length:Int)) then must (0≤a0∧a0 < (a2.length:Int)) (must (0≤w64 ((((idx a2 a0).args).length:Int) - 1)∧w64 ((((idx a2 a0).args).length:Int) - 1) < (((idx a2 a0).args).length:Int)) (must (0≤(0:Int)∧(0:Int) < (a1.Base.length:Int)) (bif (idx ((idx a2 a0).args) (w64 ((((idx a2 a0).args).length:Int) - 1)) == idx a1.Base (0:Int)) then must (((a3.length + 1) + (a3.length + 1) / 4 + 192) * 8≤281474976710656∧a3.length + 1≤9223372036854775807) (pJ a0 (a3++([(idx a2 a0).txn]:List Int))) else (pJ a0 a3)))) else (out (fZ a3))
noncomputable def bE (a0:History) (a1:Ask):Option (List Int) :=
 (fC a0 a1.Key).bind fun a3=>bif (a3 == 4) then must (0≤(0:Int)∧(0:Int) < (a1.Base.length:Int)) (bif (idx a1.Base (0:Int) == 0) then must (((0 + 1) + (0 + 1) / 4 + 192) * 8≤281474976710656∧0 + 1≤9223372036854775807) (pI a0 a1 (([]:List Int)++([(-1)]:List Int))) else (pI a0 a1 [])) else (bif ((a1.Base.length:Int) == 0) then fZ ([(-1)]:List Int) else (bif (a3 == 1) then (cO a0 a1).bind fun a4=>iter (pM a1 a4) ([],0) else (bif (a3 == 2) then (iF a0 a1).bind fun a2=>bif a2.2 then must (0≤(w64 ((a2.1.length:Int) - 1))∧(w64 ((a2.1.length:Int) - 1))≤(a2.1.length:Int)∧(a2.1.length:Int)≤(a2.1.length:Int)) (fZ (eQ a2.1 (w64 ((a2.1.length:Int) - 1)) (a2.1.length:Int))) else (fZ []) else ((iF a0 a1).bind fun a5=>fZ a5.1))))
noncomputable def qo (a0:Ask) (a1:Ask):Option Bool :=
 bif (a1.Txn == a0.Txn) then bif (a1.Place == a0.Place) then bif (a1.Key == a0.Key) then (eY a1.Base a0.Base).bind fun a2=>some a2 else (some false) else (some false) else (some false)
noncomputable def gH (a0:List Ask) (a1c0:Ask):Int→Option (Int ⊕ Int)
 | a1=>bif decide (a1 < (a0.length:Int)) then must (0≤a1∧a1 < (a0.length:Int)) ((qo (idx a0 a1) a1c0).bind fun a2=>bif a2 then out (some a1) else (some (.inl (w64 (a1 + 1))))) else (out (some (-1)))
noncomputable def bT (a0:List Ask) (a1c0:Ask):Option Int :=
 iter (gH a0 a1c0) 0
noncomputable def dQ (a0:List Ask) (a1c0:Ask):Option Bool :=
 (bT a0 a1c0).bind fun y3=>some (decide (y3 ≥ 0))
noncomputable def qR (a0:History) (a1:Ask):Option Int :=
 (mK a0).bind fun y9=>bif (y9.2 != 0) then some y9.2 else ((dQ y9.1 a1).bind fun a2=>bif a2 then some 0 else (some 1))
noncomputable def qp (a0:History) (a1:Ask):Option (List Int×Int) :=
 (qR a0 a1).bind fun a2=>bif (a2 != 0) then some (([]:List Int),a2) else ((bE a0 a1).bind fun a3=>some (a3,0))
noncomputable def sZ (a0:History) (a1:Ask):Option (List Int×Bool×Int) :=
 (qR a0 a1).bind fun a2=>bif (a2 != 0) then some (([]:List Int),false,a2) else ((iF a0 a1).bind fun a3=>some (a3.1,a3.2,0))
noncomputable def jh (a0:aH) (a1:Int):Option Bool :=
 must (0≤a1∧a1 < (a0.h.Txns.length:Int)) (some ((idx a0.h.Txns a1).Status == 1))
noncomputable def fO (a0:aH) (a1:Int) (a2:Int) (a3:Int) (a4:Int):Option aH :=
 must (((a0.edges.length + 1) + (a0.edges.length + 1) / 4 + 192) * 32≤281474976710656∧a0.edges.length + 1≤9223372036854775807) (some (⟨a0.h,a0.asks,a0.edges++([(⟨a1,a2,a3,a4⟩:Edge)]:List Edge)⟩:aH))
noncomputable def kC (a2:Int) (a1:List Int) (a0:List (Int×Int)):Option ((List Int×(List (Int×Int))×Int) ⊕ aH) :=
 some (.inl (a1,a0,w64 (a2 - 1)))
noncomputable def kD (a0:aH) (a2:List (Int×Int)) (a1:Int) (a3:List Int):Option ((List Int×(List (Int×Int))×Int) ⊕ aH) :=
 must (0≤a1∧a1 < (a0.h.Txns.length:Int)) (kC a1 a3 (iQ a2 ((idx a0.h.Txns a1).Proc) a1))
noncomputable def kE (a0:Int) (a1:List Edge):Option ((List Edge×Int) ⊕ ((List Int×(List (Int×Int))×Int) ⊕ aH)) :=
 some (.inl (a1,w64 (a0 + 1)))
noncomputable def kF (a0:aH) (a2:List Int):(List Edge×Int)→Option ((List Edge×Int) ⊕ ((List Int×(List (Int×Int))×Int) ⊕ aH))
 | (a3,a1)=>bif decide (a1 < (a2.length:Int)) then must (0≤a1∧a1 < (a2.length:Int)) (bif decide (idx a2 a1 ≥ 0) then (fO (⟨a0.h,a0.asks,a3⟩:aH) a1 (idx a2 a1) 1 (-1)).bind fun a4=>kE a1 a4.edges else (kE a1 a3)) else (out (out (some (⟨a0.h,a0.asks,a3⟩:aH))))
noncomputable def kG (a0:aH):(List Int×(List (Int×Int))×Int)→Option ((List Int×(List (Int×Int))×Int) ⊕ aH)
 | (a2,a3,a1)=>bif decide (a1 ≥ 0) then must (0≤a1∧a1 < (a2.length:Int)) ((jh a0 a1).bind fun a4=>bif !a4 then kC a1 (a2.set a1.toNat (-1)) a3 else (must (0≤a1∧a1 < (a0.h.Txns.length:Int)) (bif qJ a3 ((idx a0.h.Txns a1).Proc) then must (0≤a1∧a1 < ((a2.set a1.toNat (-1)).length:Int)) (kD a0 a3 a1 ((a2.set a1.toNat (-1)).set a1.toNat (mat a3 ((idx a0.h.Txns a1).Proc)))) else (kD a0 a3 a1 (a2.set a1.toNat (-1)))))) else (iter (kF a0 a2) (a0.edges,0))
noncomputable def aW (a0:aH):Option aH :=
 must (0≤(a0.h.Txns.length:Int)∧(a0.h.Txns.length:Int)≤9223372036854775807∧(8:Int) * (a0.h.Txns.length:Int)≤281474976710656) (iter (kG a0) (List.replicate (a0.h.Txns.length:Int).toNat (default:Int),[],w64 (((a0.h.Txns.length:Int).toNat:Int) - 1)))
noncomputable def nQ (a1:Int) (a0:List Edge):Option ((List Edge×Int) ⊕ ((List Edge×Int) ⊕ aH)) :=
 some (.inl (a0,w64 (a1 + 1)))
noncomputable def kS (a0:aH) (a3:Int) (a2:List Edge) (a1:Int) (a5:Bool):Option ((List Edge×Int) ⊕ ((List Edge×Int) ⊕ aH)) :=
 bif a5 then (fO (⟨a0.h,a0.asks,a2⟩:aH) a3 a1 2 (-1)).bind fun a4=>nQ a1 a4.edges else (nQ a1 a2)
noncomputable def rW (a0:aH) (a2:Int):(List Edge×Int)→Option ((List Edge×Int) ⊕ ((List Edge×Int) ⊕ aH))
 | (a3,a1)=>bif decide (a1 < (a0.h.Txns.length:Int)) then must (0≤a1∧a1 < (a0.h.Txns.length:Int)) ((jh (⟨a0.h,a0.asks,a3⟩:aH) a2).bind fun a4=>bif a4 then (jh (⟨a0.h,a0.asks,a3⟩:aH) a1).bind fun a5=>bif a5 then kS a0 a2 a3 a1 (decide ((idx a0.h.Txns a2).To < (idx a0.h.Txns a1).From)) else (kS a0 a2 a3 a1 false) else (kS a0 a2 a3 a1 false)) else (out (some (.inl (a3,w64 (a2 + 1)))))
noncomputable def rX (a0:aH):(List Edge×Int)→Option ((List Edge×Int) ⊕ aH)
 | (a2,a1)=>bif decide (a1 < (a0.h.Txns.length:Int)) then must (0≤a1∧a1 < (a0.h.Txns.length:Int)) (iter (rW a0 a1) (a2,0)) else (out (some (⟨a0.h,a0.asks,a2⟩:aH)))
noncomputable def bU (a0:aH):Option aH :=
 iter (rX a0) (a0.edges,0)
noncomputable def kM (a0:Int) (a1:aP) (a2:aH):Option Bool :=
 bif (a0 == a1.Ask.Txn) then some true else ((jh a2 a0).bind fun y5=>some (!y5))
noncomputable def lU (a0:aP) (a1:Int):Option Bool :=
 bif ((a0.sources.length:Int) == 1) then must (0≤(0:Int)∧(0:Int) < (a0.sources.length:Int)) (some (idx a0.sources (0:Int) == a1)) else (some false)
noncomputable def lZ (a0:aP) (a1:Int) (a2:aP):Option Bool :=
 bif (a0.Ask.Txn == a1) then bif (a0.Ask.Key == a2.Ask.Key) then must (0≤(0:Int)∧(0:Int) < (a2.sources.length:Int)) ((lU a0 (idx a2.sources (0:Int))).bind fun a3=>some a3) else (some false) else (some false)
noncomputable def fI (a0:List aP) (a1c0:Int) (a1c1:aP):Int→Option (Int ⊕ Int)
 | a1=>bif decide (a1 < (a0.length:Int)) then must (0≤a1∧a1 < (a0.length:Int)) ((lZ (⟨((idx a0 a1).Ask),(idx a0 a1).sources,(idx a0 a1).parts,(idx a0 a1).made,(idx a0 a1).kind⟩:aP) a1c0 a1c1).bind fun a2=>bif a2 then out (some a1) else (some (.inl (w64 (a1 + 1))))) else (out (some (-1)))
noncomputable def bF (a0:List aP) (a1c0:Int) (a1c1:aP):Option Int :=
 iter (fI a0 a1c0 a1c1) 0
noncomputable def dF (a0:List aP) (a1c0:Int) (a1c1:aP):Option Bool :=
 (bF a0 a1c0 a1c1).bind fun y3=>some (decide (y3 ≥ 0))
noncomputable def iI (a0:aH) (a1:aP) (a2:Int) (a3:Bool):Option Bool :=
 bif a3 then some false else ((dF a0.asks a2 a1).bind fun a4=>some a4)
noncomputable def eP (a0:aH) (a1:aP) (a2:Int):Option Bool :=
 (lU a1 (-1)).bind fun a4=>bif a4 then some true else (bif a1.made then (slices_Contains_int a1.parts a2).bind fun a3=>some (!a3) else (bif (a1.kind != 1) then iI a0 a1 a2 true else (bif ((a1.sources.length:Int) != 1) then iI a0 a1 a2 true else (must (0≤(0:Int)∧(0:Int) < (a1.sources.length:Int)) (iI a0 a1 a2 (idx a1.sources (0:Int) == a2))))))
noncomputable def fV (a0:List Int) (a1c0:aP) (a1c1:aH):Int→Option (Int ⊕ Int)
 | a1=>bif decide (a1 < (a0.length:Int)) then must (0≤a1∧a1 < (a0.length:Int)) ((kM (idx a0 a1) a1c0 a1c1).bind fun a2=>bif a2 then out (some a1) else (some (.inl (w64 (a1 + 1))))) else (out (some (-1)))
noncomputable def bQ (a0:List Int) (a1c0:aP) (a1c1:aH):Option Int :=
 iter (fV a0 a1c0 a1c1) 0
noncomputable def fP (a0:List Int) (a1c0:aP) (a1c1:aH):List Int×Int→Option ((List Int×Int) ⊕ List Int)
 | (l,x)=>bif decide (x < (a0.length:Int)) then must (0≤x∧x < (a0.length:Int)) ((kM (idx a0 x) a1c0 a1c1).bind fun y=>bif !y then (some (.inl (l++[idx a0 x],w64 (x + 1)))) else (some (.inl (l,w64 (x + 1))))) else (out (some l))
noncomputable def bK (a0:List Int) (a1c0:aP) (a1c1:aH):Option (List Int) :=
 (bQ a0 a1c0 a1c1).bind fun i=>bif i == -1 then some a0 else must (0≤i∧i < (a0.length:Int)) (iter (fP a0 a1c0 a1c1) (a0.take i.toNat,w64 (i + 1)))
noncomputable def pO (a1:Int) (a0:List Edge):Option ((List Edge×Int) ⊕ aH) :=
 some (.inl (a0,w64 (a1 + 1)))
noncomputable def tq (a0:aH) (a1:aP) (a3:List Int):(List Edge×Int)→Option ((List Edge×Int) ⊕ aH)
 | (a4,a2)=>bif decide (a2 < (a3.length:Int)) then must (0≤a2∧a2 < (a3.length:Int)) ((eP (⟨a0.h,a0.asks,a4⟩:aH) a1 (idx a3 a2)).bind fun a5=>bif a5 then (fO (⟨a0.h,a0.asks,a4⟩:aH) a1.Ask.Txn (idx a3 a2) 16 a1.Ask.Key).bind fun a6=>pO a2 a6.edges else (pO a2 a4)) else (out (some (⟨a0.h,a0.asks,a4⟩:aH)))
noncomputable def jW (a0:aH) (a1:aP) (a3:List Int) (a2:List Edge):Option aH :=
 iter (tq a0 a1 a3) (a2,0)
noncomputable def ma (a1:Int) (a0:List Edge):Option ((List Edge×Int) ⊕ aH) :=
 some (.inl (a0,w64 (a1 + 1)))
noncomputable def pQ (a0:Int) (a1:List Edge):Option ((List Edge×Int) ⊕ ((List Edge×Int) ⊕ aH)) :=
 some (.inl (a1,w64 (a0 + 1)))
noncomputable def pR (a0:aH) (a1:aP) (a3:List Int) (a5:Int):(List Edge×Int)→Option ((List Edge×Int) ⊕ ((List Edge×Int) ⊕ aH))
 | (a4,a2)=>bif decide (a2 < (a3.length:Int)) then must (0≤a2∧a2 < (a3.length:Int)) ((slices_Contains_int a1.parts (idx a3 a2)).bind fun a6=>bif !a6 then (fO (⟨a0.h,a0.asks,a4⟩:aH) (idx a1.parts a5) (idx a3 a2) 8 a1.Ask.Key).bind fun a7=>pQ a2 a7.edges else (pQ a2 a4)) else (out (ma a5 a4))
noncomputable def pU (a0:aH) (a1:aP) (a6:List Int) (a3:List Edge) (a2:Int) (a4:Bool):Option ((List Edge×Int) ⊕ aH) :=
 bif a4 then must (0≤w64 (a2 + 1)∧w64 (a2 + 1) < (a1.parts.length:Int)) ((fO (⟨a0.h,a0.asks,a3⟩:aH) (idx a1.parts a2) (idx a1.parts (w64 (a2 + 1))) 8 a1.Ask.Key).bind fun a5=>ma a2 a5.edges) else (iter (pR a0 a1 a6 a2) (a3,0))
noncomputable def pV (a0:aH) (a1:aP) (a4:List Int):(List Edge×Int)→Option ((List Edge×Int) ⊕ aH)
 | (a3,a2)=>bif decide (a2 < (a1.parts.length:Int)) then must (0≤a2∧a2 < (a1.parts.length:Int)) (bif (a1.kind == 2) then pU a0 a1 a4 a3 a2 (decide (w64 (a2 + 1) < (a1.parts.length:Int))) else (pU a0 a1 a4 a3 a2 false)) else (out (jW a0 a1 a4 a3))
noncomputable def iU (a0:aH) (a1:aP) (a2:List Edge):Option aH :=
 (dN a0.h a1.Ask.Key).bind fun a4=>(bK a4 a1 (⟨a0.h,a0.asks,a2⟩:aH)).bind fun a3=>bif a1.made then iter (pV a0 a1 a3) (a2,0) else (jW a0 a1 a3 a2)
noncomputable def gI (a0:aH) (a1:aP) (a2:Bool):Option aH :=
 bif a2 then must (0≤(0:Int)∧(0:Int) < (a1.sources.length:Int)) ((fO a0 (idx a1.sources (0:Int)) a1.Ask.Txn 4 a1.Ask.Key).bind fun a3=>iU a0 a1 a3.edges) else (iU a0 a1 a0.edges)
noncomputable def aF (a0:aH) (a1:aP):Option aH :=
 bif ((a1.sources.length:Int) == 1) then must (0≤(0:Int)∧(0:Int) < (a1.sources.length:Int)) (gI a0 a1 (decide (idx a1.sources (0:Int) ≥ 0))) else (gI a0 a1 false)
noncomputable def xH (a1:Int) (a0:List aP):Option ((List aP×Int) ⊕ (jf×Int)) :=
 some (.inl (a0,w64 (a1 + 1)))
noncomputable def uY (a3:List Ask×Int) (a0:List aP) (a1:Int) (a6:Int) (a4:List Int×Int) (a5:List Int×Bool×Int) (a2:Bool):Option ((List aP×Int) ⊕ (jf×Int)) :=
 must (((a0.length + 1) + (a0.length + 1) / 4 + 192) * 112≤281474976710656∧a0.length + 1≤9223372036854775807) (xH a1 (a0++([(⟨(idx a3.1 a1),a4.1,a5.1,a2,a6⟩:aP)]:List aP)))
noncomputable def xI (a0:History) (a2:List Ask×Int) (a4:List aP) (a1:Int) (a6:Int):Option ((List aP×Int) ⊕ (jf×Int)) :=
 (qp a0 (idx a2.1 a1)).bind fun a5=>(sZ a0 (idx a2.1 a1)).bind fun a3=>bif a3.2.1 then uY a2 a4 a1 a6 a5 a3 (decide ((((idx a2.1 a1).Base).length:Int) > 0)) else (uY a2 a4 a1 a6 a5 a3 false)
noncomputable def uZ (a0:History) (a2:List aP):(List Edge×Int)→Option ((List Edge×Int) ⊕ ((List aP×Int) ⊕ (jf×Int)))
 | (a3,a1)=>bif decide (a1 < (a2.length:Int)) then must (0≤a1∧a1 < (a2.length:Int)) ((aF (⟨a0,a2,a3⟩:aH) (⟨((idx a2 a1).Ask),(idx a2 a1).sources,(idx a2 a1).parts,(idx a2 a1).made,(idx a2 a1).kind⟩:aP)).bind fun a4=>some (.inl (a4.edges,w64 (a1 + 1)))) else (out (out (some ((⟨(a0.Txns.length:Int),a3⟩:jf),0))))
noncomputable def xJ (a0:History) (a3:List Ask×Int):(List aP×Int)→Option ((List aP×Int) ⊕ (jf×Int))
 | (a2,a1)=>bif decide (a1 < (a3.1.length:Int)) then must (0≤a1∧a1 < (a3.1.length:Int)) ((fC a0 ((idx a3.1 a1).Key)).bind fun a4=>xI a0 a3 a2 a1 a4) else ((aW (⟨a0,a2,([]:List Edge)⟩:aH)).bind fun a6=>(bU (⟨a0,a2,a6.edges⟩:aH)).bind fun a5=>iter (uZ a0 a2) (a5.edges,0))
noncomputable def dm (a0:History):Option (jf×Int) :=
 (mK a0).bind fun a1=>bif (a1.2 != 0) then some ((⟨0,([]:List Edge)⟩:jf),a1.2) else (iter (xJ a0 a1) ([],0))
noncomputable def Bn (a0:History) (a4:List Txn) (a1:Int):(List Op×Int)→Option ((List Op×Int) ⊕ ((List Txn×Int) ⊕ History))
 | (a3,a2)=>bif decide (a2 < (((idx a0.Txns a1).Ops).length:Int)) then must (0≤a2∧a2 < (((idx a0.Txns a1).Ops).length:Int)) (must (((0 + (((idx ((idx a0.Txns a1).Ops) a2).Vals).length)) + (0 + (((idx ((idx a0.Txns a1).Ops) a2).Vals).length)) / 4 + 192) * 8≤281474976710656∧0 + (((idx ((idx a0.Txns a1).Ops) a2).Vals).length)≤9223372036854775807) (must (((a3.length + 1) + (a3.length + 1) / 4 + 192) * 56≤281474976710656∧a3.length + 1≤9223372036854775807) (some (.inl (a3++([(⟨(idx ((idx a0.Txns a1).Ops) a2).Kind,(idx ((idx a0.Txns a1).Ops) a2).Key,(idx ((idx a0.Txns a1).Ops) a2).Arg,(idx ((idx a0.Txns a1).Ops) a2).Got,([]:List Int)++((idx ((idx a0.Txns a1).Ops) a2).Vals)⟩:Op)]:List Op),w64 (a2 + 1)))))) else (must (((a4.length + 1) + (a4.length + 1) / 4 + 192) * 56≤281474976710656∧a4.length + 1≤9223372036854775807) (out (some (.inl (a4++([(⟨(idx a0.Txns a1).Proc,(idx a0.Txns a1).Status,(idx a0.Txns a1).From,(idx a0.Txns a1).To,a3⟩:Txn)]:List Txn),w64 (a1 + 1))))))
noncomputable def Bo (a0:History):(List Txn×Int)→Option ((List Txn×Int) ⊕ History)
 | (a2,a1)=>bif decide (a1 < (a0.Txns.length:Int)) then must (0≤a1∧a1 < (a0.Txns.length:Int)) (iter (Bn a0 a2 a1) ([],0)) else (out (some (⟨([]:List ByteArray)++a0.Keys,a2⟩:History)))
noncomputable def qU (a0:History):Option History :=
 must (((0 + a0.Keys.length) + (0 + a0.Keys.length) / 4 + 192) * 16≤281474976710656∧0 + a0.Keys.length≤9223372036854775807) (iter (Bo a0) ([],0))
noncomputable def jX (a0:List Int) (a1:List Int):Int→Option (Int ⊕ Bool)
 | a2=>bif decide (a2 < (a0.length:Int)) then must (0≤a2∧a2 < (a0.length:Int)) (must (0≤a2∧a2 < (a1.length:Int)) (bif (idx a0 a2 != idx a1 a2) then out (some false) else (some (.inl (w64 (a2 + 1)))))) else (out (some true))
noncomputable def cB (a0:List Int) (a1:List Int):Option Bool :=
 bif ((a0.length:Int) != (a1.length:Int)) then some false else (iter (jX a0 a1) 0)
noncomputable def ko (a1:Int) (a0:Bool):Option (Int ⊕ (Int ⊕ (Int ⊕ Bool))) :=
 bif a0 then out (out (out (some false))) else (some (.inl (w64 (a1 + 1))))
noncomputable def Bp (a0:History) (a1:History) (a3:Int) (a2:Int):Option (Int ⊕ (Int ⊕ (Int ⊕ Bool))) :=
 bif ((idx ((idx a0.Txns a3).Ops) a2).Kind != (idx ((idx a1.Txns a3).Ops) a2).Kind) then ko a2 true else (bif ((idx ((idx a0.Txns a3).Ops) a2).Key != (idx ((idx a1.Txns a3).Ops) a2).Key) then ko a2 true else (bif ((idx ((idx a0.Txns a3).Ops) a2).Arg != (idx ((idx a1.Txns a3).Ops) a2).Arg) then ko a2 true else (bif ((idx ((idx a0.Txns a3).Ops) a2).Got != (idx ((idx a1.Txns a3).Ops) a2).Got) then ko a2 true else ((cB ((idx ((idx a0.Txns a3).Ops) a2).Vals) ((idx ((idx a1.Txns a3).Ops) a2).Vals)).bind fun a4=>ko a2 (!a4)))))
noncomputable def Bq (a0:History) (a1:History) (a3:Int):Int→Option (Int ⊕ (Int ⊕ (Int ⊕ Bool)))
 | a2=>bif decide (a2 < (((idx a0.Txns a3).Ops).length:Int)) then must (0≤a2∧a2 < (((idx a0.Txns a3).Ops).length:Int)) (must (0≤a2∧a2 < (((idx a1.Txns a3).Ops).length:Int)) (Bp a0 a1 a3 a2)) else (out (some (.inl (w64 (a3 + 1)))))
noncomputable def kr (a0:History) (a1:History) (a3:Int) (a2:Bool):Option (Int ⊕ (Int ⊕ Bool)) :=
 bif a2 then out (out (some false)) else (iter (Bq a0 a1 a3) 0)
noncomputable def Br (a0:History) (a1:History) (a2:Int):Option (Int ⊕ (Int ⊕ Bool)) :=
 bif ((idx a0.Txns a2).Proc != (idx a1.Txns a2).Proc) then kr a0 a1 a2 true else (bif ((idx a0.Txns a2).Status != (idx a1.Txns a2).Status) then kr a0 a1 a2 true else (bif ((idx a0.Txns a2).From != (idx a1.Txns a2).From) then kr a0 a1 a2 true else (bif ((idx a0.Txns a2).To != (idx a1.Txns a2).To) then kr a0 a1 a2 true else (kr a0 a1 a2 ((((idx a0.Txns a2).Ops).length:Int) != (((idx a1.Txns a2).Ops).length:Int))))))
noncomputable def Bt (a0:History) (a1:History):Int→Option (Int ⊕ (Int ⊕ Bool))
 | a2=>bif decide (a2 < (a0.Txns.length:Int)) then must (0≤a2∧a2 < (a0.Txns.length:Int)) (must (0≤a2∧a2 < (a1.Txns.length:Int)) (Br a0 a1 a2)) else (out (out (some true)))
noncomputable def Bu (a0:History) (a1:History):Int→Option (Int ⊕ Bool)
 | a2=>bif decide (a2 < (a0.Keys.length:Int)) then must (0≤a2∧a2 < (a0.Keys.length:Int)) (must (0≤a2∧a2 < (a1.Keys.length:Int)) (bif !(sEq (idx a0.Keys a2) (idx a1.Keys a2)) then out (some false) else (some (.inl (w64 (a2 + 1)))))) else (iter (Bt a0 a1) 0)
noncomputable def vH (a0:History) (a1:History) (b9:Bool):Option Bool :=
 bif b9 then some false else (iter (Bu a0 a1) 0)
noncomputable def bH (a0:History) (a1:History):Option Bool :=
 bif ((a0.Keys.length:Int) != (a1.Keys.length:Int)) then vH a0 a1 true else (vH a0 a1 ((a0.Txns.length:Int) != (a1.Txns.length:Int)))
noncomputable def Dc (a0:History):Option (List ib×Int) :=
 (nE a0).bind fun a1=>some (a1.1.bad,a1.2)
noncomputable def xc (a0:History) (a1:List Int) (a3:List (Int×Int)) (a2:Int) (a4:Bool):Option (((List (Int×Int))×Int) ⊕ (dX×Bool)) :=
 bif a4 then out (some ((⟨a0,a1,a3⟩:dX),false)) else (some (.inl (iQ a3 (idx a1 a2) a2,w64 (a2 + 1))))
noncomputable def zQ (a0:History) (a1:List Int) (a4:List (Int×Int)) (a2:Int) (a3:Bool):Option (Int ⊕ (((List (Int×Int))×Int) ⊕ (dX×Bool))) :=
 bif a3 then out (out (some ((⟨a0,a1,a4⟩:dX),false))) else (some (.inl (w64 (a2 + 1))))
noncomputable def DR (a0:History) (a1:List Int) (a3:List (Int×Int)):Int→Option (Int ⊕ (((List (Int×Int))×Int) ⊕ (dX×Bool)))
 | a2=>bif decide (a2 < (a0.Txns.length:Int)) then must (0≤a2∧a2 < (a0.Txns.length:Int)) (bif !(qJ a3 a2) then zQ a0 a1 a3 a2 ((idx a0.Txns a2).Status == 1) else (zQ a0 a1 a3 a2 false)) else (out (out (some ((⟨a0,a1,a3⟩:dX),true))))
noncomputable def DT (a0:History) (a1:List Int):((List (Int×Int))×Int)→Option (((List (Int×Int))×Int) ⊕ (dX×Bool))
 | (a3,a2)=>bif decide (a2 < (a1.length:Int)) then must (0≤a2∧a2 < (a1.length:Int)) (bif decide (idx a1 a2 < 0) then xc a0 a1 a3 a2 true else (bif decide (idx a1 a2 ≥ (a0.Txns.length:Int)) then xc a0 a1 a3 a2 true else (must (0≤idx a1 a2∧idx a1 a2 < (a0.Txns.length:Int)) (xc a0 a1 a3 a2 ((idx a0.Txns (idx a1 a2)).Status == 2))))) else (bif ((a3.length:Int) != (a1.length:Int)) then out (some ((⟨a0,a1,a3⟩:dX),false)) else (iter (DR a0 a1 a3) 0))
noncomputable def jw (a0:History) (a1:List Int):Option (dX×Bool) :=
 iter (DT a0 a1) ([],0)
noncomputable def nR (a0:Int) (a1:List (Int×Int)):Option (((List (Int×Int))×Int) ⊕ Bool) :=
 some (.inl (a1,w64 (a0 + 1)))
noncomputable def nS (a0:dX) (a2:List (Int×Int)) (a1:Int) (a3:Bool):Option (((List (Int×Int))×Int) ⊕ Bool) :=
 bif a3 then out (some false) else (nR a1 (iQ a2 ((idx a0.h.Txns a1).Proc) (KE (mat a0.at_ a1) (mat a2 ((idx a0.h.Txns a1).Proc)))))
noncomputable def tu (a0:dX):((List (Int×Int))×Int)→Option (((List (Int×Int))×Int) ⊕ Bool)
 | (a2,a1)=>bif decide (a1 < (a0.h.Txns.length:Int)) then must (0≤a1∧a1 < (a0.h.Txns.length:Int)) (bif !(qJ a0.at_ a1) then nR a1 a2 else (bif qJ a2 ((idx a0.h.Txns a1).Proc) then nS a0 a2 a1 (decide (mat a2 ((idx a0.h.Txns a1).Proc) > mat a0.at_ a1)) else (nS a0 a2 a1 false))) else (out (some true))
noncomputable def dD (a0:dX):Option Bool :=
 iter (tu a0) ([],0)
noncomputable def rq (a0:dX) (a1:Ask) (a2:Int) (b9:Bool):Option Bool :=
 bif b9 then some false else ((gX a0.h a2 a1.Key).bind fun a3=>some a3.2)
noncomputable def jH (a0:dX) (a1:Ask) (a2:Int):Option Bool :=
 bif !(qJ a0.at_ a2) then rq a0 a1 a2 true else (rq a0 a1 a2 (decide (mat a0.at_ a2 ≥ mat a0.at_ a1.Txn)))
noncomputable def xe (a0:List Int):Option (List Int):=must (a0.length < 4611686018427387904) (some (a0.mergeSort fun x y=>decide (x≤y)))
noncomputable def oQ (a0:List Int):Option (List Int) :=
 some a0
noncomputable def uo (a1:List Int):(Int×Int)→Option ((Int×Int) ⊕ (List Int))
 | (a2,a0)=>bif decide (a0 < (a1.length:Int)) then must (0≤a0∧a0 < (a1.length:Int)) (some (.inl (w64 (a2 + (idx a1 a0)),w64 (a0 + 1)))) else (out (some ([a2]:List Int)))
noncomputable def oU (a0:dX) (a1:Int) (a2:List Int):Option (List Int) :=
 (fC a0.h a1).bind fun a3=>bif (a3 == 1) then must (0≤(KE 0 (w64 ((a2.length:Int) - 1)))∧(KE 0 (w64 ((a2.length:Int) - 1)))≤(a2.length:Int)∧(a2.length:Int)≤(a2.length:Int)) (some (eQ a2 (KE 0 (w64 ((a2.length:Int) - 1))) (a2.length:Int))) else (bif (a3 == 3) then (xe a2).bind fun a4=>oQ a4 else (bif (a3 == 4) then iter (uo a2) (0,0) else (oQ a2)))
noncomputable def oV (a1:Int) (a0:List Int):Option ((List Int×Int) ⊕ ((List Int×Int) ⊕ (List Int))) :=
 some (.inl (a0,w64 (a1 + 1)))
noncomputable def oW (a0:dX) (a2:Int) (a5:Int) (a1:List Int) (a3:Int) (a4:Bool):Option ((List Int×Int) ⊕ ((List Int×Int) ⊕ (List Int))) :=
 bif a4 then must (((a1.length + 1) + (a1.length + 1) / 4 + 192) * 8≤281474976710656∧a1.length + 1≤9223372036854775807) (oV a3 (a1++([(idx ((idx a0.h.Txns (idx (eQ a0.order (0:Int) (w64 ((mat a0.at_ a2) + 1))) a5)).Ops) a3).Arg]:List Int))) else (oV a3 a1)
noncomputable def uq (a0:dX) (a1:Int) (a2:Int) (a3:Int):(List Int×Int)→Option ((List Int×Int) ⊕ ((List Int×Int) ⊕ (List Int)))
 | (a5,a4)=>bif decide (a4 < (((idx a0.h.Txns (idx (eQ a0.order (0:Int) (w64 ((mat a0.at_ a2) + 1))) a3)).Ops).length:Int)) then must (0≤a4∧a4 < (((idx a0.h.Txns (idx (eQ a0.order (0:Int) (w64 ((mat a0.at_ a2) + 1))) a3)).Ops).length:Int)) (bif ((idx ((idx a0.h.Txns (idx (eQ a0.order (0:Int) (w64 ((mat a0.at_ a2) + 1))) a3)).Ops) a4).Key == a1) then oW a0 a2 a3 a5 a4 (decide ((idx ((idx a0.h.Txns (idx (eQ a0.order (0:Int) (w64 ((mat a0.at_ a2) + 1))) a3)).Ops) a4).Kind≤4)) else (oW a0 a2 a3 a5 a4 false)) else (out (some (.inl (a5,w64 (a3 + 1)))))
noncomputable def ut (a0:dX) (a1:Int) (a2:Int):(List Int×Int)→Option ((List Int×Int) ⊕ (List Int))
 | (a4,a3)=>bif decide (a3 < ((eQ a0.order (0:Int) (w64 ((mat a0.at_ a2) + 1))).length:Int)) then must (0≤a3∧a3 < ((eQ a0.order (0:Int) (w64 ((mat a0.at_ a2) + 1))).length:Int)) (must (0≤idx (eQ a0.order (0:Int) (w64 ((mat a0.at_ a2) + 1))) a3∧idx (eQ a0.order (0:Int) (w64 ((mat a0.at_ a2) + 1))) a3 < (a0.h.Txns.length:Int)) (iter (uq a0 a1 a2 a3) (a4,0))) else (out (oU a0 a1 a4))
noncomputable def bu (a0:dX) (a1:Int) (a2:Int):Option (List Int) :=
 bif decide (a2 ≥ 0) then must (0≤(0:Int)∧(0:Int)≤(w64 ((mat a0.at_ a2) + 1))∧(w64 ((mat a0.at_ a2) + 1))≤(a0.order.length:Int)) (iter (ut a0 a1 a2) ([],0)) else (oU a0 a1 [])
noncomputable def zR (a1:Exec) (a2:List Ask×Int) (a5:dX×Bool) (a0:Int) (a3:Bool):Option (Int ⊕ (Int×Int)) :=
 bif a3 then out (some (5,0)) else (must (0≤a0∧a0 < (a1.Picks.length:Int)) ((bu a5.1 ((idx a2.1 a0).Key) (idx a1.Picks a0)).bind fun a4=>(eY a4 ((idx a2.1 a0).Base)).bind fun a6=>bif !a6 then out (some (6,0)) else (some (.inl (w64 (a0 + 1))))))
noncomputable def DU (a1:Exec) (a2:List Ask×Int) (a3:dX×Bool):Int→Option (Int ⊕ (Int×Int))
 | a0=>bif decide (a0 < (a2.1.length:Int)) then must (0≤a0∧a0 < (a2.1.length:Int)) (must (0≤a0∧a0 < (a1.Picks.length:Int)) (bif (idx a1.Picks a0 != (-1)) then (jH a3.1 (idx a2.1 a0) (idx a1.Picks a0)).bind fun a4=>zR a1 a2 a3 a0 (!a4) else (zR a1 a2 a3 a0 false))) else (out (some (0,0)))
noncomputable def rE (a0:History) (a1:Exec):Option (Int×Int) :=
 (mK a0).bind fun a2=>bif (a2.2 != 0) then some (0,a2.2) else ((Dc a0).bind fun a4=>bif decide ((a4.1.length:Int) > 0) then some (1,0) else ((jw a0 a1.Order).bind fun a3=>bif !a3.2 then some (2,0) else (bif ((a1.Picks.length:Int) != (a2.1.length:Int)) then some (3,0) else ((dD a3.1).bind fun a5=>bif !a5 then some (4,0) else (iter (DU a1 a2 a3) 0)))))
noncomputable def yH (a1:Exec) (a2:Edge) (a4:Bool):Option Bool :=
 bif a4 then some false else ((slices_Index_int a1.Order a2.From).bind fun a0=>(slices_Index_int a1.Order a2.To).bind fun a3=>bif decide (a0 ≥ 0) then some (decide (a0 < a3)) else (some false))
noncomputable def uH (a0:History) (a1:Exec) (a2:Edge):Option Bool :=
 (rE a0 a1).bind fun a3=>bif (a3.2 != 0) then yH a1 a2 true else (yH a1 a2 (a3.1 != 0))
noncomputable def qV (a0:Int):Option Op :=
 some (⟨5,0,0,true,([a0]:List Int)⟩:Op)
noncomputable def mf:Option Bool :=
 (qV 1).bind fun a1=>(qV 1).bind fun a2=>(dm (⟨([(⟨#[120]⟩:ByteArray)]:List ByteArray),([(⟨0,1,0,9,([(⟨1,0,1,false,([]:List Int)⟩:Op)]:List Op)⟩:Txn),(⟨1,1,2,5,([a1,(⟨1,0,2,false,([]:List Int)⟩:Op)]:List Op)⟩:Txn),(⟨2,1,3,4,([a2,(⟨1,0,3,false,([]:List Int)⟩:Op)]:List Op)⟩:Txn)]:List Txn)⟩:History)).bind fun a0=>bif (a0.2 == 0) then bif (a0.1.N == 3) then bif ((a0.1.Edges.length:Int) == 4) then must (0≤(1:Int)∧(1:Int) < (a0.1.Edges.length:Int)) (bif (((idx a0.1.Edges (1:Int)).From == 1) && (((idx a0.1.Edges (1:Int)).To == 2) && (((idx a0.1.Edges (1:Int)).Kind == 16) && (((idx a0.1.Edges (1:Int)).Key == 0) && true)))) then must (0≤(0:Int)∧(0:Int) < (a0.1.Edges.length:Int)) ((uH (⟨([(⟨#[120]⟩:ByteArray)]:List ByteArray),([(⟨0,1,0,9,([(⟨1,0,1,false,([]:List Int)⟩:Op)]:List Op)⟩:Txn),(⟨1,1,2,5,([a1,(⟨1,0,2,false,([]:List Int)⟩:Op)]:List Op)⟩:Txn),(⟨2,1,3,4,([a2,(⟨1,0,3,false,([]:List Int)⟩:Op)]:List Op)⟩:Txn)]:List Txn)⟩:History) (⟨([0,1,2]:List Int),([0,0]:List Int)⟩:Exec) (idx a0.1.Edges (0:Int))).bind fun a3=>some a3) else (some false)) else (some false) else (some false) else (some false)
noncomputable def ru (a0:List ByteArray) (a1:ByteArray):Int→Option (Int ⊕ Int)
 | a2=>bif decide (a2 < (a0.length:Int)) then must (0≤a2∧a2 < (a0.length:Int)) (bif sEq (idx a0 a2) a1 then out (some a2) else (some (.inl (w64 (a2 + 1))))) else (out (some (-1)))
noncomputable def fD (a0:List ByteArray) (a1:ByteArray):Option Int :=
 iter (ru a0 a1) 0
noncomputable def jQ (a1:Int) (a0:Bool):Option (Int ⊕ Bool) :=
 bif a0 then out (some false) else (some (.inl (w64 (a1 + 1))))
noncomputable def qw (a0:List ByteArray):Int→Option (Int ⊕ Bool)
 | a1=>bif decide (a1 < (a0.length:Int)) then must (0≤a1∧a1 < (a0.length:Int)) (bif decide (((idx a0 a1).size:Int) < 1) then jQ a1 true else (bif decide (((idx a0 a1).size:Int) > 32) then jQ a1 true else (must (0≤(0:Int)∧(0:Int)≤a1∧a1≤(a0.length:Int)) ((fD (eQ a0 (0:Int) a1) (idx a0 a1)).bind fun a2=>jQ a1 (decide (a2 ≥ 0)))))) else (out (some (decide ((a0.length:Int)≤32))))
noncomputable def dK (a0:List ByteArray):Option Bool :=
 iter (qw a0) 0
noncomputable def jy (a1:Int) (a0:Bool):Option (Int ⊕ Bool) :=
 bif a0 then out (some false) else (some (.inl (w64 (a1 + 1))))
noncomputable def lm (a0:List Txn) (a1:Int):Int→Option (Int ⊕ Bool)
 | a2=>bif decide (a2 < a1) then must (0≤a2∧a2 < (a0.length:Int)) (bif ((idx a0 a2).Proc == (idx a0 a1).Proc) then bif ((idx a0 a2).To == (-1)) then jy a2 true else (jy a2 (decide ((idx a0 a2).To ≥ (idx a0 a1).From))) else (jy a2 false)) else (out (some true))
noncomputable def lq (a0:List Txn) (a1:Int) (a2:Bool):Option Bool :=
 bif a2 then some false else (iter (lm a0 a1) 0)
noncomputable def dW (a0:List Txn) (a1:Int) (a2:Bool):Option Bool :=
 bif a2 then some false else (bif decide (a1 > 0) then must (0≤w64 (a1 - 1)∧w64 (a1 - 1) < (a0.length:Int)) (lq a0 a1 (decide ((idx a0 a1).From≤(idx a0 (w64 (a1 - 1))).From))) else (lq a0 a1 false))
noncomputable def aR (a0:List Txn) (a1:Int):Option Bool :=
 must (0≤a1∧a1 < (a0.length:Int)) (bif decide ((idx a0 a1).Status < 1) then dW a0 a1 true else (bif decide ((idx a0 a1).Status > 3) then dW a0 a1 true else (bif decide ((idx a0 a1).From < 0) then dW a0 a1 true else (bif ((idx a0 a1).To != (-1)) then bif decide ((idx a0 a1).To≤(idx a0 a1).From) then dW a0 a1 true else (bif ((idx a0 a1).To == (-1)) then dW a0 a1 ((idx a0 a1).Status != 3) else (dW a0 a1 false)) else (bif ((idx a0 a1).To == (-1)) then dW a0 a1 ((idx a0 a1).Status != 3) else (dW a0 a1 false))))))
noncomputable def ku (a0:Call):Option Bool :=
 some (decide ((a0.Vals.length:Int)≤64))
noncomputable def ng (a0:Call):Int→Option (Int ⊕ Bool)
 | a1=>bif decide (a1 < (a0.Vals.length:Int)) then must (0≤a1∧a1 < (a0.Vals.length:Int)) (must (0≤w64 (a1 - 1)∧w64 (a1 - 1) < (a0.Vals.length:Int)) (bif decide (idx a0.Vals a1≤idx a0.Vals (w64 (a1 - 1))) then out (some false) else (some (.inl (w64 (a1 + 1)))))) else (out (ku a0))
noncomputable def jb (a0:Call) (a1:Bool):Option Bool :=
 bif a1 then some false else (bif (a0.Kind == 5) then some (decide ((a0.Vals.length:Int)≤1)) else (bif (a0.Kind == 8) then bif !a0.Got then some true else (some ((a0.Vals.length:Int) == 1)) else (bif (a0.Kind == 7) then iter (ng a0) 1 else (ku a0))))
noncomputable def jc (a0:Call) (a1:Int) (a2:Bool):Option Bool :=
 bif a2 then some false else (bif decide (a0.Kind≤4) then bif !a0.Got then bif ((a0.Vals.length:Int) == 0) then bif (a0.Kind != 4) then some true else (bif decide (a0.Arg ≥ (-1048576)) then some (decide (a0.Arg≤1048576)) else (some false)) else (some false) else (some false) else (bif (a0.Arg != 0) then jb a0 true else (bif (a0.Got != (a1 == 1)) then jb a0 true else (bif !a0.Got then jb a0 (decide ((a0.Vals.length:Int) > 0)) else (jb a0 false)))))
noncomputable def bA (a0:Call) (a1:Int):Option Bool :=
 bif decide (a0.Kind < 1) then jc a0 a1 true else (bif decide (a0.Kind > 8) then jc a0 a1 true else (bif decide ((a0.Key.size:Int) < 1) then jc a0 a1 true else (jc a0 a1 (decide ((a0.Key.size:Int) > 32)))))
noncomputable def mg (a0:Event):Int→Option (Int ⊕ Bool)
 | a1=>bif decide (a1 < (a0.Calls.length:Int)) then must (0≤a1∧a1 < (a0.Calls.length:Int)) ((bA (idx a0.Calls a1) a0.Kind).bind fun a2=>bif !a2 then out (some false) else (some (.inl (w64 (a1 + 1))))) else (out (some true))
noncomputable def jR (a0:Event) (b9:Bool):Option Bool :=
 bif b9 then some false else (iter (mg a0) 0)
noncomputable def dz (a0:Event):Option Bool :=
 bif decide (a0.Kind < 0) then jR a0 true else (bif decide (a0.Kind > 3) then jR a0 true else (jR a0 (decide ((a0.Calls.length:Int) > 16))))
noncomputable def qx (a0:List Event):Int→Option (Int ⊕ Int)
 | a1=>bif decide (a1 < (a0.length:Int)) then must (0≤a1∧a1 < (a0.length:Int)) ((dz (idx a0 a1)).bind fun a2=>bif !a2 then out (some 1) else (some (.inl (w64 (a1 + 1))))) else (out (some 0))
noncomputable def gm (a0:List Event):Option Int :=
 bif decide ((a0.length:Int) > 256) then some 1 else (iter (qx a0) 0)
noncomputable def iA (a0:Int):Option Int :=
 some (w64 (((w64 (a0 - 1)).tmod (4:Int)) + 1))
noncomputable def gU (a4:List ByteArray) (a1:List Int) (a3:List (List Int)) (a2:List Int) (a0:List Int):Option (Int×aN) :=
 some (0,(⟨a4,a1,a3,a2,a0⟩:aN))
noncomputable def gV (a2:Int) (a6:List ByteArray) (a4:List Int) (a1:List Int) (a3:List Int) (a0:Int) (a5:List (List Int)) (a7:Bool):Option (Int×aN) :=
 bif a7 then must (0≤a0∧a0 < (a3.length:Int)) (must (0≤a0∧a0 < (a1.length:Int)) (bif decide (idx (a1.set a0.toNat (w64 ((idx a1 a0) + 1))) a0 > 8) then some (51,(⟨a6,a4,a5,a1.set a0.toNat (w64 ((idx a1 a0) + 1)),a3.set a0.toNat a2⟩:aN)) else (gU a6 a4 a5 (a1.set a0.toNat (w64 ((idx a1 a0) + 1))) (a3.set a0.toNat a2)))) else (gU a6 a4 a5 a1 a3)
noncomputable def fK (a1:Call) (a2:Int) (a6:List ByteArray) (a4:List Int) (a7:List Int) (a3:List Int) (a0:Int) (a5:List (List Int)):Option (Int×aN) :=
 bif (a1.Kind == 4) then must (0≤a0∧a0 < (a3.length:Int)) (gV a2 a6 a4 a7 a3 a0 a5 (idx a3 a0 != a2)) else (gV a2 a6 a4 a7 a3 a0 a5 false)
noncomputable def ji (a1:Call) (a2:Int) (a7:List ByteArray) (a5:List Int) (a3:List (List Int)) (a8:List Int) (a6:List Int) (a0:Int):Int→Option (Int ⊕ (Int×aN))
 | a4=>must (0≤a0∧a0 < (a3.length:Int)) (bif decide (a4 < ((idx a3 a0).length:Int)) then must (0≤a4∧a4 < ((idx a3 a0).length:Int)) (bif (idx (idx a3 a0) a4 == a1.Arg) then out (some (3,(⟨a7,a5,a3,a8,a6⟩:aN))) else (some (.inl (w64 (a4 + 1))))) else (must (((((idx a3 a0).length) + 1) + (((idx a3 a0).length) + 1) / 4 + 192) * 8≤281474976710656∧((idx a3 a0).length) + 1≤9223372036854775807) (out (fK a1 a2 a7 a5 a8 a6 a0 (a3.set a0.toNat ((idx a3 a0)++([a1.Arg]:List Int)))))))
noncomputable def jk (a1:Call) (a2:Int) (a5:List ByteArray) (a0:List Int) (a4:List (List Int)) (a6:List Int) (a3:List Int) (a7:Int) (a8:Bool):Option (Int×aN) :=
 bif a8 then iter (ji a1 a2 a5 a0 a4 a6 a3 a7) 0 else (fK a1 a2 a5 a0 a6 a3 a7 a4)
noncomputable def eO (a1:Call) (a2:Int) (a6:List ByteArray) (a0:List Int) (a5:List (List Int)) (a7:List Int) (a4:List Int) (a3:Int):Option (Int×aN) :=
 must (0≤a3∧a3 < (a0.length:Int)) ((iA a1.Kind).bind fun a8=>bif (idx a0 a3 != a8) then some (50,(⟨a6,a0,a5,a7,a4⟩:aN)) else (bif (a1.Kind == 2) then jk a1 a2 a6 a0 a5 a7 a4 a3 true else (jk a1 a2 a6 a0 a5 a7 a4 a3 (a1.Kind == 3))))
noncomputable def jl (a0:aN) (a1:Call) (a2:Int) (a3:List Int):Option (Int×aN) :=
 must (((a0.wrote.length + 1) + (a0.wrote.length + 1) / 4 + 192) * 24≤281474976710656∧a0.wrote.length + 1≤9223372036854775807) (must (((a0.incs.length + 1) + (a0.incs.length + 1) / 4 + 192) * 8≤281474976710656∧a0.incs.length + 1≤9223372036854775807) (must (((a0.last_.length + 1) + (a0.last_.length + 1) / 4 + 192) * 8≤281474976710656∧a0.last_.length + 1≤9223372036854775807) (eO a1 a2 (a0.keys++([a1.Key]:List ByteArray)) a3 (a0.wrote++([([]:List Int)]:List (List Int))) (a0.incs++([0]:List Int)) (a0.last_++([(-1)]:List Int)) (a0.keys.length:Int))))
noncomputable def jm (a0:aN) (a1:Call) (a2:Int):Option (Int×aN) :=
 (iA a1.Kind).bind fun a3=>must (((a0.types.length + 1) + (a0.types.length + 1) / 4 + 192) * 8≤281474976710656∧a0.types.length + 1≤9223372036854775807) (jl a0 a1 a2 (a0.types++([a3]:List Int)))
noncomputable def ak (a0:aN) (a1:Call) (a2:Int):Option (Int×aN) :=
 (fD a0.keys a1.Key).bind fun y5=>bif decide (y5 < 0) then bif decide ((a0.keys.length:Int) ≥ 32) then some (2,a0) else (must (((a0.keys.length + 1) + (a0.keys.length + 1) / 4 + 192) * 16≤281474976710656∧a0.keys.length + 1≤9223372036854775807) (jm a0 a1 a2)) else (eO a1 a2 a0.keys a0.types a0.wrote a0.incs a0.last_ y5)
noncomputable def qy (a0:History) (a2:Int) (a3:List Call) (a1:Int):Option ((List Call×Int) ⊕ ((List ByteArray×List Int×(List (List Int))×List Int×List Int×Int) ⊕ Int)) :=
 some (.inl (a3++([(⟨(idx ((idx a0.Txns a2).Ops) a1).Kind,idx a0.Keys ((idx ((idx a0.Txns a2).Ops) a1).Key),(idx ((idx a0.Txns a2).Ops) a1).Arg,(idx ((idx a0.Txns a2).Ops) a1).Got,(idx ((idx a0.Txns a2).Ops) a1).Vals⟩:Call)]:List Call),w64 (a1 + 1)))
noncomputable def mh (a0:History) (a2:Int) (a1:List Call) (a3:Int) (a4:Bool):Option ((List Call×Int) ⊕ ((List ByteArray×List Int×(List (List Int))×List Int×List Int×Int) ⊕ Int)) :=
 bif a4 then out (out (some 1)) else (must (0≤(idx ((idx a0.Txns a2).Ops) a3).Key∧(idx ((idx a0.Txns a2).Ops) a3).Key < (a0.Keys.length:Int)) (must (((a1.length + 1) + (a1.length + 1) / 4 + 192) * 64≤281474976710656∧a1.length + 1≤9223372036854775807) (qy a0 a2 a1 a3)))
noncomputable def gJ (a7:Int) (a2:List Call):(List ByteArray×List Int×(List (List Int))×List Int×List Int×Int)→Option ((List ByteArray×List Int×(List (List Int))×List Int×List Int×Int) ⊕ ((List Call×Int) ⊕ ((List ByteArray×List Int×(List (List Int))×List Int×List Int×Int) ⊕ Int)))
 | (a5,a8,a6,a4,a3,a1)=>bif decide (a1 < (a2.length:Int)) then must (0≤a1∧a1 < (a2.length:Int)) ((ak (⟨a5,a8,a6,a4,a3⟩:aN) (idx a2 a1) a7).bind fun a0=>bif (a0.1 != 0) then out (out (out (some 1))) else (some (.inl (a0.2.keys,a0.2.types,a0.2.wrote,a0.2.incs,a0.2.last_,w64 (a1 + 1))))) else (out (out (some (.inl (a5,a8,a6,a4,a3,w64 (a7 + 1))))))
noncomputable def gL (a0:History) (a5:List ByteArray) (a8:List Int) (a7:List (List Int)) (a4:List Int) (a6:List Int) (a1:Int):(List Call×Int)→Option ((List Call×Int) ⊕ ((List ByteArray×List Int×(List (List Int))×List Int×List Int×Int) ⊕ Int))
 | (a3,a2)=>bif decide (a2 < (((idx a0.Txns a1).Ops).length:Int)) then must (0≤a2∧a2 < (((idx a0.Txns a1).Ops).length:Int)) (bif decide ((idx ((idx a0.Txns a1).Ops) a2).Key < 0) then mh a0 a1 a3 a2 true else (mh a0 a1 a3 a2 (decide ((idx ((idx a0.Txns a1).Ops) a2).Key ≥ (a0.Keys.length:Int))))) else ((gm ([(⟨0,(idx a0.Txns a1).Status,a3⟩:Event)]:List Event)).bind fun a9=>bif (a9 != 0) then out (out (some 1)) else (iter (gJ a1 a3) (a5,a8,a7,a4,a6,0)))
noncomputable def jS (a0:History) (a3:List ByteArray) (a6:List Int) (a5:List (List Int)) (a2:List Int) (a4:List Int) (a7:Int) (a1:Bool):Option ((List ByteArray×List Int×(List (List Int))×List Int×List Int×Int) ⊕ Int) :=
 bif a1 then out (some 1) else (iter (gL a0 a3 a6 a5 a2 a4 a7) ([],0))
noncomputable def jT (a0:History):(List ByteArray×List Int×(List (List Int))×List Int×List Int×Int)→Option ((List ByteArray×List Int×(List (List Int))×List Int×List Int×Int) ⊕ Int)
 | (a3,a6,a5,a2,a4,a1)=>bif decide (a1 < (a0.Txns.length:Int)) then must (0≤a1∧a1 < (a0.Txns.length:Int)) ((aR a0.Txns a1).bind fun a7=>bif !a7 then jS a0 a3 a6 a5 a2 a4 a1 true else (jS a0 a3 a6 a5 a2 a4 a1 (decide ((((idx a0.Txns a1).Ops).length:Int) > 16)))) else (out (some 0))
noncomputable def iK (a0:History) (a1:Bool):Option Int :=
 bif a1 then some 1 else (iter (jT a0) ([],[],[],[],[],0))
noncomputable def ay (a0:History):Option Int :=
 (dK a0.Keys).bind fun a1=>bif !a1 then iK a0 true else (iK a0 (decide ((a0.Txns.length:Int) > 32)))
noncomputable def gM (a0:Int):Option Bool :=
 some (decide (a0≤4))
noncomputable def eU (a0:Bool):Option Int :=
 bif !a0 then some 80 else (some 0)
noncomputable def qz (a0:Int) (a1:Bool):Option ((Bool×Int) ⊕ Int) :=
 some (.inl (a1,w64 (a0 + 1)))
noncomputable def mi (a1:List Int):(Bool×Int)→Option ((Bool×Int) ⊕ Int)
 | (a2,a0)=>bif decide (a0 < (a1.length:Int)) then bif a2 then must (0≤w64 (a0 - 1)∧w64 (a0 - 1) < (a1.length:Int)) (must (0≤a0∧a0 < (a1.length:Int)) (qz a0 (decide (idx a1 (w64 (a0 - 1)) < idx a1 a0)))) else (qz a0 false) else (out (eU a2))
noncomputable def eX (a0:Int) (a1:List Int) (b5:Bool):Option Int :=
 bif b5 then some 1 else (bif (a0 == 1) then eU (decide ((a1.length:Int)≤1)) else (bif (a0 == 4) then eU ((a1.length:Int) == 1) else (bif (a0 == 3) then iter (mi a1) (decide ((a1.length:Int)≤64),1) else (eU (decide ((a1.length:Int)≤64))))))
noncomputable def aO (a0:Int) (a1:List Int):Option Int :=
 bif decide (a0 < 1) then eX a0 a1 true else (eX a0 a1 (decide (a0 > 4)))
noncomputable def tC (a0:List Int) (a1:Int):Int→Option (Int ⊕ Bool)
 | a2=>bif decide (a2 < (a0.length:Int)) then must (0≤a2∧a2 < (a0.length:Int)) (bif (idx a0 a2 == a1) then out (some true) else (some (.inl (w64 (a2 + 1))))) else (out (some false))
noncomputable def gN (a0:List Int) (a1:Int):Option Bool :=
 iter (tC a0 a1) 0
noncomputable def uu (a2:List Int):(Int×Int)→Option ((Int×Int) ⊕ (List Int×Bool))
 | (a1,a0)=>bif decide (a0 < (a2.length:Int)) then must (0≤a0∧a0 < (a2.length:Int)) (some (.inl (w64 (a1 - (idx a2 a0)),w64 (a0 + 1)))) else (out (some (([a1]:List Int),true)))
noncomputable def lu (a1:List Int) (a2:List Int):Int→Option (Int ⊕ (List Int×Bool))
 | a0=>bif decide (a0 < (a2.length:Int)) then must (0≤w64 ((w64 ((a1.length:Int) - (a2.length:Int))) + a0)∧w64 ((w64 ((a1.length:Int) - (a2.length:Int))) + a0) < (a1.length:Int)) (must (0≤a0∧a0 < (a2.length:Int)) (bif (idx a1 (w64 ((w64 ((a1.length:Int) - (a2.length:Int))) + a0)) != idx a2 a0) then out (some (([]:List Int),false)) else (some (.inl (w64 (a0 + 1)))))) else (must (0≤(0:Int)∧(0:Int)≤(w64 ((a1.length:Int) - (a2.length:Int)))∧(w64 ((a1.length:Int) - (a2.length:Int)))≤(a1.length:Int)) (must (((0 + ((eQ a1 (0:Int) (w64 ((a1.length:Int) - (a2.length:Int)))).length)) + (0 + ((eQ a1 (0:Int) (w64 ((a1.length:Int) - (a2.length:Int)))).length)) / 4 + 192) * 8≤281474976710656∧0 + ((eQ a1 (0:Int) (w64 ((a1.length:Int) - (a2.length:Int)))).length)≤9223372036854775807) (out (some (([]:List Int)++(eQ a1 (0:Int) (w64 ((a1.length:Int) - (a2.length:Int)))),true)))))
noncomputable def jA (a0:Int) (a1:Bool):Option (Int ⊕ (List Int×Bool)) :=
 bif a1 then out (some (([]:List Int),false)) else (some (.inl (w64 (a0 + 1))))
noncomputable def oZ (a0:Int) (a1:List Int):Option ((List Int×Int) ⊕ (Int ⊕ (List Int×Bool))) :=
 some (.inl (a1,w64 (a0 + 1)))
noncomputable def lv (a1:List Int) (a2:List Int):(List Int×Int)→Option ((List Int×Int) ⊕ (Int ⊕ (List Int×Bool)))
 | (a3,a0)=>bif decide (a0 < (a1.length:Int)) then must (0≤a0∧a0 < (a1.length:Int)) ((gN a2 (idx a1 a0)).bind fun a4=>bif !a4 then must (((a3.length + 1) + (a3.length + 1) / 4 + 192) * 8≤281474976710656∧a3.length + 1≤9223372036854775807) (oZ a0 (a3++([idx a1 a0]:List Int))) else (oZ a0 a3)) else (out (out (some (a3,true))))
noncomputable def lw (a1:List Int) (a2:List Int):Int→Option (Int ⊕ (List Int×Bool))
 | a0=>bif decide (a0 < (a2.length:Int)) then must (0≤a0∧a0 < (a2.length:Int)) ((gN a1 (idx a2 a0)).bind fun a3=>bif !a3 then jA a0 true else (must (0≤(0:Int)∧(0:Int)≤a0∧a0≤(a2.length:Int)) ((gN (eQ a2 (0:Int) a0) (idx a2 a0)).bind fun a4=>jA a0 a4))) else (iter (lv a1 a2) ([],0))
noncomputable def ik (a0:Int) (a1:List Int) (a2:List Int) (b9:Bool):Option (List Int×Bool) :=
 bif b9 then some (([]:List Int),false) else (bif (a0 == 1) then bif ((a1.length:Int) == 1) then must (0≤(0:Int)∧(0:Int) < (a1.length:Int)) (must (0≤w64 ((a2.length:Int) - 1)∧w64 ((a2.length:Int) - 1) < (a2.length:Int)) (some (([]:List Int),(idx a1 (0:Int) == idx a2 (w64 ((a2.length:Int) - 1)))))) else (some (([]:List Int),false)) else (bif (a0 == 4) then must (0≤(0:Int)∧(0:Int) < (a1.length:Int)) (iter (uu a2) (idx a1 (0:Int),0)) else (bif (a0 == 2) then bif decide ((a2.length:Int) > (a1.length:Int)) then some (([]:List Int),false) else (iter (lu a1 a2) 0) else (iter (lw a1 a2) 0))))
noncomputable def aL (a0:Int) (a1:List Int) (a2:List Int):Option (List Int×Bool) :=
 (aO a0 a1).bind fun a3=>bif (a3 != 0) then ik a0 a1 a2 true else (ik a0 a1 a2 ((a2.length:Int) == 0))
noncomputable def iV (a2:Int) (a1:List Ask) (a0:List ib):Option ((List Ask×List ib×Int) ⊕ (List Ask×List ib)) :=
 some (.inl (a1,a0,w64 (a2 + 1)))
noncomputable def pW (a1:Int) (a0:List Int):Option ((List Int×Int) ⊕ ((List Ask×List ib×Int) ⊕ (List Ask×List ib))) :=
 some (.inl (a0,w64 (a1 + 1)))
noncomputable def pX (a0:History) (a1:Int) (a2:List Int) (a3:Int) (a4:Bool):Option ((List Int×Int) ⊕ ((List Ask×List ib×Int) ⊕ (List Ask×List ib))) :=
 bif a4 then must (0≤a3∧a3 < (((idx a0.Txns a1).Ops).length:Int)) (must (((a2.length + 1) + (a2.length + 1) / 4 + 192) * 8≤281474976710656∧a2.length + 1≤9223372036854775807) (pW a3 (a2++([(idx ((idx a0.Txns a1).Ops) a3).Arg]:List Int)))) else (pW a3 a2)
noncomputable def pY (a0:History) (a1:Int) (a2:List Ask) (a4:List ib) (a3:Int) (a5:List Int):Option ((List Int×Int) ⊕ ((List Ask×List ib×Int) ⊕ (List Ask×List ib))) :=
 must (((a2.length + 1) + (a2.length + 1) / 4 + 192) * 48≤281474976710656∧a2.length + 1≤9223372036854775807) (out (iV a3 (a2++([(⟨a1,a3,(idx ((idx a0.Txns a1).Ops) a3).Key,a5⟩:Ask)]:List Ask)) a4))
noncomputable def tF (a0:History) (a1:Int) (a6:List Ask) (a4:List ib) (a2:Int):(List Int×Int)→Option ((List Int×Int) ⊕ ((List Ask×List ib×Int) ⊕ (List Ask×List ib)))
 | (a5,a3)=>bif decide (a3 < a2) then must (0≤a3∧a3 < (((idx a0.Txns a1).Ops).length:Int)) (bif ((idx ((idx a0.Txns a1).Ops) a3).Key == (idx ((idx a0.Txns a1).Ops) a2).Key) then (gM ((idx ((idx a0.Txns a1).Ops) a3).Kind)).bind fun a9=>pX a0 a1 a5 a3 a9 else (pX a0 a1 a5 a3 false)) else (must (((0 + (((idx ((idx a0.Txns a1).Ops) a2).Vals).length)) + (0 + (((idx ((idx a0.Txns a1).Ops) a2).Vals).length)) / 4 + 192) * 8≤281474976710656∧0 + (((idx ((idx a0.Txns a1).Ops) a2).Vals).length)≤9223372036854775807) (bif decide ((a5.length:Int) > 0) then (iA ((idx ((idx a0.Txns a1).Ops) a2).Kind)).bind fun a8=>(aL a8 ((idx ((idx a0.Txns a1).Ops) a2).Vals) a5).bind fun a7=>bif !a7.2 then must (((a4.length + 1) + (a4.length + 1) / 4 + 192) * 16≤281474976710656∧a4.length + 1≤9223372036854775807) (out (iV a2 a6 (a4++([(⟨a1,a2⟩:ib)]:List ib)))) else (bif ((idx ((idx a0.Txns a1).Ops) a2).Kind == 5) then out (iV a2 a6 a4) else (pY a0 a1 a6 a4 a2 a7.1)) else (pY a0 a1 a6 a4 a2 (([]:List Int)++((idx ((idx a0.Txns a1).Ops) a2).Vals)))))
noncomputable def tH (a0:History) (a1:Int):(List Ask×List ib×Int)→Option ((List Ask×List ib×Int) ⊕ (List Ask×List ib))
 | (a4,a3,a2)=>bif decide (a2 < (((idx a0.Txns a1).Ops).length:Int)) then must (0≤a2∧a2 < (((idx a0.Txns a1).Ops).length:Int)) ((gM ((idx ((idx a0.Txns a1).Ops) a2).Kind)).bind fun a5=>bif a5 then iV a2 a4 a3 else (iter (tF a0 a1 a4 a3 a2) ([],0))) else (out (some (a4,a3)))
noncomputable def bv (a0:History) (a1:Int):Option (List Ask×List ib) :=
 must (0≤a1∧a1 < (a0.Txns.length:Int)) (bif ((idx a0.Txns a1).Status != 1) then some (([]:List Ask),([]:List ib)) else (iter (tH a0 a1) ([],[],0)))
noncomputable def rY (a0:History):(List Ask×List ib×Int)→Option ((List Ask×List ib×Int) ⊕ (List Ask×List ib))
 | (a3,a2,a4)=>bif decide (a4 < (a0.Txns.length:Int)) then (bv a0 a4).bind fun a1=>must (((a3.length + a1.1.length) + (a3.length + a1.1.length) / 4 + 192) * 48≤281474976710656∧a3.length + a1.1.length≤9223372036854775807) (must (((a2.length + a1.2.length) + (a2.length + a1.2.length) / 4 + 192) * 16≤281474976710656∧a2.length + a1.2.length≤9223372036854775807) (some (.inl (a3++a1.1,a2++a1.2,w64 (a4 + 1))))) else (out (some (a3,a2)))
noncomputable def gQ (a0:History):Option (List Ask×List ib) :=
 iter (rY a0) ([],[],0)
noncomputable def jU (a1:Int) (a0:List Edge):Option ((List Edge×Int) ⊕ (List Edge)) :=
 some (.inl (a0,w64 (a1 + 1)))
noncomputable def mo (a0:Int) (a1:List Edge):Option ((List Edge×Int) ⊕ (List Edge)) :=
 jU a0 a1
noncomputable def mq (a0:List Edge) (a2:Int) (a1:Int) (a3:Bool):Option (Int ⊕ ((List Edge×Int) ⊕ (List Edge))) :=
 bif a3 then must (((a0.length + 1) + (a0.length + 1) / 4 + 192) * 32≤281474976710656∧a0.length + 1≤9223372036854775807) (out (mo a2 (a0++([(⟨a2,a1,1,(-1)⟩:Edge)]:List Edge)))) else (some (.inl (w64 (a1 + 1))))
noncomputable def qA (a0:History) (a3:List Edge) (a2:Int):Int→Option (Int ⊕ ((List Edge×Int) ⊕ (List Edge)))
 | a1=>bif decide (a1 < (a0.Txns.length:Int)) then must (0≤a1∧a1 < (a0.Txns.length:Int)) (bif ((idx a0.Txns a1).Status == 1) then mq a3 a2 a1 ((idx a0.Txns a1).Proc == (idx a0.Txns a2).Proc) else (mq a3 a2 a1 false)) else (out (mo a2 a3))
noncomputable def mr (a1:Int) (a0:List Edge):Option ((List Edge×Int) ⊕ ((List Edge×Int) ⊕ ((List Edge×Int) ⊕ (List Edge)))) :=
 some (.inl (a0,w64 (a1 + 1)))
noncomputable def jV (a3:Int) (a0:List Edge) (a1:Int) (a2:Bool):Option ((List Edge×Int) ⊕ ((List Edge×Int) ⊕ ((List Edge×Int) ⊕ (List Edge)))) :=
 bif a2 then must (((a0.length + 1) + (a0.length + 1) / 4 + 192) * 32≤281474976710656∧a0.length + 1≤9223372036854775807) (mr a1 (a0++([(⟨a3,a1,2,(-1)⟩:Edge)]:List Edge))) else (mr a1 a0)
noncomputable def qB (a0:History) (a2:Int):(List Edge×Int)→Option ((List Edge×Int) ⊕ ((List Edge×Int) ⊕ ((List Edge×Int) ⊕ (List Edge))))
 | (a3,a1)=>bif decide (a1 < (a0.Txns.length:Int)) then must (0≤a2∧a2 < (a0.Txns.length:Int)) (bif ((idx a0.Txns a2).Status == 1) then must (0≤a1∧a1 < (a0.Txns.length:Int)) (bif ((idx a0.Txns a1).Status == 1) then jV a2 a3 a1 (decide ((idx a0.Txns a2).To < (idx a0.Txns a1).From)) else (jV a2 a3 a1 false)) else (jV a2 a3 a1 false)) else (out (some (.inl (a3,w64 (a2 + 1)))))
noncomputable def mD (a0:History):(List Edge×Int)→Option ((List Edge×Int) ⊕ ((List Edge×Int) ⊕ (List Edge)))
 | (a1,a2)=>bif decide (a2 < (a0.Txns.length:Int)) then iter (qB a0 a2) (a1,0) else (out (out (some a1)))
noncomputable def qC (a0:History):(List Edge×Int)→Option ((List Edge×Int) ⊕ (List Edge))
 | (a2,a1)=>bif decide (a1 < (a0.Txns.length:Int)) then must (0≤a1∧a1 < (a0.Txns.length:Int)) (bif ((idx a0.Txns a1).Status != 1) then jU a1 a2 else (iter (qA a0 a2 a1) (w64 (a1 + 1)))) else (iter (mD a0) (a2,0))
noncomputable def aG (a0:History):Option (List Edge) :=
 iter (qC a0) ([],0)
noncomputable def kN (a0:History) (a1:Ask):Option Int :=
 must (0≤a1.Txn∧a1.Txn < (a0.Txns.length:Int)) (must (0≤a1.Place∧a1.Place < (((idx a0.Txns a1.Txn).Ops).length:Int)) ((iA ((idx ((idx a0.Txns a1.Txn).Ops) a1.Place).Kind)).bind fun a2=>some a2))
noncomputable def mE (a1:Int) (a0:List Int):Option ((List Int×Int) ⊕ (List Int)) :=
 some (.inl (a0,w64 (a1 + 1)))
noncomputable def mF (a0:History) (a1:Int) (a2:List Int) (a3:Int) (a4:Bool):Option ((List Int×Int) ⊕ (List Int)) :=
 bif a4 then must (((a2.length + 1) + (a2.length + 1) / 4 + 192) * 8≤281474976710656∧a2.length + 1≤9223372036854775807) (mE a3 (a2++([(idx ((idx a0.Txns a1).Ops) a3).Arg]:List Int))) else (mE a3 a2)
noncomputable def qD (a0:History) (a1:Int) (a2:Int):(List Int×Int)→Option ((List Int×Int) ⊕ (List Int))
 | (a4,a3)=>must (0≤a1∧a1 < (a0.Txns.length:Int)) (bif decide (a3 < (((idx a0.Txns a1).Ops).length:Int)) then must (0≤a3∧a3 < (((idx a0.Txns a1).Ops).length:Int)) (bif ((idx ((idx a0.Txns a1).Ops) a3).Key == a2) then (gM ((idx ((idx a0.Txns a1).Ops) a3).Kind)).bind fun a5=>mF a0 a1 a4 a3 a5 else (mF a0 a1 a4 a3 false)) else (out (some a4)))
noncomputable def aQ (a0:History) (a1:Int) (a2:Int):Option (List Int) :=
 iter (qD a0 a1 a2) ([],0)
noncomputable def lC (a1:Int) (a0:List Int):Option ((List Int×Int) ⊕ (List Int)) :=
 some (.inl (a0,w64 (a1 + 1)))
noncomputable def jB (a0:List Int) (a1:Int) (a2:Bool):Option ((List Int×Int) ⊕ (List Int)) :=
 bif a2 then must (((a0.length + 1) + (a0.length + 1) / 4 + 192) * 8≤281474976710656∧a0.length + 1≤9223372036854775807) (lC a1 (a0++([a1]:List Int))) else (lC a1 a0)
noncomputable def pg (a0:History) (a1:Ask):(List Int×Int)→Option ((List Int×Int) ⊕ (List Int))
 | (a3,a2)=>bif decide (a2 < (a0.Txns.length:Int)) then bif (a2 != a1.Txn) then must (0≤a2∧a2 < (a0.Txns.length:Int)) (bif ((idx a0.Txns a2).Status != 2) then (aQ a0 a2 a1.Key).bind fun a4=>jB a3 a2 (decide ((a4.length:Int) > 0)) else (jB a3 a2 false)) else (jB a3 a2 false) else (out (some a3))
noncomputable def bf (a0:History) (a1:Ask):Option (List Int) :=
 iter (pg a0 a1) ([],0)
noncomputable def rZ (y7:List Int):(Int×Int)→Option ((Int×Int) ⊕ Int)
 | (a1,a0)=>bif decide (a0 < (y7.length:Int)) then must (0≤a0∧a0 < (y7.length:Int)) (some (.inl (w64 (a1 + (idx y7 a0)),w64 (a0 + 1)))) else (out (some a1))
noncomputable def iG (a0:History) (a1:Int) (a2:Int):Option Int :=
 (aQ a0 a1 a2).bind fun y7=>iter (rZ y7) (0,0)
noncomputable def lD (a0:Int) (a1:Int):Option ((Int×Int) ⊕ ((List Bool×Int) ⊕ (List Int))) :=
 some (.inl (a1,w64 (a0 + 1)))
noncomputable def lF (a0:Int) (a1:List Bool):Option ((List Bool×Int) ⊕ ((Int×Int) ⊕ ((List Bool×Int) ⊕ (List Int)))) :=
 some (.inl (a1,w64 (a0 + 1)))
noncomputable def lG (a2:Int) (a1:List Bool) (a0:Int) (a3:Bool):Option ((List Bool×Int) ⊕ ((Int×Int) ⊕ ((List Bool×Int) ⊕ (List Int)))) :=
 bif a3 then must (0≤a0∧a0 < (a1.length:Int)) (bif idx a1 a0 then lF a0 (a1.set a0.toNat true) else (must (0≤a0∧a0 < (far:Int)) (lF a0 (a1.set a0.toNat (dJ .i64 (fu .i64 a2 a0) 1 == 1))))) else (out (out (some (.inl (a1,w64 (a2 + 1))))))
noncomputable def pq (a1:Ask) (y9:List Int) (a3:Int) (a4:Int):(List Bool×Int)→Option ((List Bool×Int) ⊕ ((Int×Int) ⊕ ((List Bool×Int) ⊕ (List Int))))
 | (a2,a0)=>bif decide (a0 < (y9.length:Int)) then must (0≤(0:Int)∧(0:Int) < (a1.Base.length:Int)) (lG a3 a2 a0 (a4 == idx a1.Base (0:Int))) else (lG a3 a2 a0 false)
noncomputable def pu (a0:History) (a1:Ask) (y9:List Int) (a5:List Bool) (a4:Int):(Int×Int)→Option ((Int×Int) ⊕ ((List Bool×Int) ⊕ (List Int)))
 | (a3,a2)=>bif decide (a2 < (y9.length:Int)) then must (0≤a2∧a2 < (far:Int)) (bif (dJ .i64 (fu .i64 a4 a2) 1 == 1) then must (0≤a2∧a2 < (y9.length:Int)) ((iG a0 (idx y9 a2) a1.Key).bind fun a6=>lD a2 (w64 (a3 + a6))) else (lD a2 a3)) else (iter (pq a1 y9 a4 a3) (a5,0))
noncomputable def lH (a1:Int) (a0:List Int):Option ((List Int×Int) ⊕ ((List Bool×Int) ⊕ (List Int))) :=
 some (.inl (a0,w64 (a1 + 1)))
noncomputable def pz (y9:List Int) (a2:List Bool):(List Int×Int)→Option ((List Int×Int) ⊕ ((List Bool×Int) ⊕ (List Int)))
 | (a1,a0)=>bif decide (a0 < (y9.length:Int)) then must (0≤a0∧a0 < (a2.length:Int)) (bif idx a2 a0 then must (0≤a0∧a0 < (y9.length:Int)) (must (((a1.length + 1) + (a1.length + 1) / 4 + 192) * 8≤281474976710656∧a1.length + 1≤9223372036854775807) (lH a0 (a1++([idx y9 a0]:List Int)))) else (lH a0 a1)) else (out (out (some a1)))
noncomputable def pE (a0:History) (a1:Ask) (y9:List Int):(List Bool×Int)→Option ((List Bool×Int) ⊕ (List Int))
 | (a2,a3)=>must (0≤(y9.length:Int)∧(y9.length:Int) < (far:Int)) (bif decide (a3 < En .i64 1 (y9.length:Int)) then iter (pu a0 a1 y9 a2 a3) (0,0) else (iter (pz y9 a2) ([],0)))
noncomputable def aJ (a0:History) (a1:Ask):Option (List Int) :=
 (bf a0 a1).bind fun y9=>must (0≤(y9.length:Int)∧(y9.length:Int)≤9223372036854775807∧(1:Int) * (y9.length:Int)≤281474976710656) (iter (pE a0 a1 y9) (List.replicate (y9.length:Int).toNat (default:Bool),1))
noncomputable def kT (a0:List Int) (a1:List Int):Option Bool :=
 bif decide ((a1.length:Int) > (a0.length:Int)) then some false else (must (0≤(0:Int)∧(0:Int)≤(a1.length:Int)∧(a1.length:Int)≤(a0.length:Int)) ((cB (eQ a0 (0:Int) (a1.length:Int)) a1).bind fun a2=>some a2))
noncomputable def ni (a1:Int) (a0:Int):Option ((Int×Int) ⊕ ((List Int×List Int) ⊕ (List Int×Bool))) :=
 some (.inl (a0,w64 (a1 + 1)))
noncomputable def ry (a0:History) (a1:Ask) (a2:List Int) (a3:List Int) (a6:Int):Int→Option (Int ⊕ ((Int×Int) ⊕ ((List Int×List Int) ⊕ (List Int×Bool))))
 | a4=>bif decide (a4 < (a2.length:Int)) then must (0≤a4∧a4 < (a2.length:Int)) (bif (idx a2 a4 == a6) then out (out (out (some (([]:List Int),false)))) else (some (.inl (w64 (a4 + 1))))) else (must (((a2.length + 1) + (a2.length + 1) / 4 + 192) * 8≤281474976710656∧a2.length + 1≤9223372036854775807) ((aQ a0 a6 a1.Key).bind fun a5=>must (0≤(a5.length:Int)∧(a5.length:Int)≤(a3.length:Int)∧(a3.length:Int)≤(a3.length:Int)) (out (out (some (.inl (a2++([a6]:List Int),eQ a3 (a5.length:Int) (a3.length:Int))))))))
noncomputable def rz (a0:History) (a1:Ask) (y9:List Int) (a7:List Int) (a4:List Int):(Int×Int)→Option ((Int×Int) ⊕ ((List Int×List Int) ⊕ (List Int×Bool)))
 | (a3,a2)=>bif decide (a2 < (y9.length:Int)) then must (0≤a2∧a2 < (y9.length:Int)) ((aQ a0 (idx y9 a2) a1.Key).bind fun a5=>(kT a4 a5).bind fun a6=>bif a6 then ni a2 (idx y9 a2) else (ni a2 a3)) else (bif decide (a3 < 0) then out (out (some (([]:List Int),false))) else (iter (ry a0 a1 a7 a4 a3) 0))
noncomputable def kw (a0:History) (a1:Ask) (y9:List Int):(List Int×List Int)→Option ((List Int×List Int) ⊕ (List Int×Bool))
 | (a2,a3)=>bif decide ((a3.length:Int) > 0) then iter (rz a0 a1 y9 a2 a3) ((-1),0) else (out (some (a2,true)))
noncomputable def bI (a0:History) (a1:Ask):Option (List Int×Bool) :=
 (bf a0 a1).bind fun y9=>iter (kw a0 a1 y9) ([],a1.Base)
noncomputable def qE (a0:List Int) (a1:Int):Int→Option (Int ⊕ Bool)
 | a2=>bif decide (a2 < (a0.length:Int)) then must (0≤a2∧a2 < (a0.length:Int)) (bif (idx a0 a2 == a1) then out (some true) else (some (.inl (w64 (a2 + 1))))) else (out (some false))
noncomputable def gp (a0:List Int) (a1:Int):Option Bool :=
 iter (qE a0 a1) 0
noncomputable def nT (a2:Int) (a0:List Int) (a1:Int):Option ((List Int×Int×Int) ⊕ (List Int×Bool)) :=
 some (.inl (a0,a1,w64 (a2 + 1)))
noncomputable def nU (a1:Int) (a0:Int):Option ((Int×Int) ⊕ ((List Int×Int×Int) ⊕ (List Int×Bool))) :=
 some (.inl (a0,w64 (a1 + 1)))
noncomputable def nV (y9:List Int) (a0:List Int) (a3:Int) (a1:Int) (a2:Int) (a4:Bool):Option ((Int×Int) ⊕ ((List Int×Int×Int) ⊕ (List Int×Bool))) :=
 bif a4 then out (out (some (([]:List Int),false))) else (bif decide (a2 > 0) then must (((a0.length + 1) + (a0.length + 1) / 4 + 192) * 8≤281474976710656∧a0.length + 1≤9223372036854775807) (out (nT a1 (a0++([idx y9 a1]:List Int)) (w64 (a3 + a2)))) else (out (nT a1 a0 a3)))
noncomputable def si (a1:Ask) (y9:List Int) (a4:List Int) (a6:Int) (a5:Int) (a3:List Int):(Int×Int)→Option ((Int×Int) ⊕ ((List Int×Int×Int) ⊕ (List Int×Bool)))
 | (a0,a2)=>bif decide (a2 < (a3.length:Int)) then must (0≤a2∧a2 < (a3.length:Int)) ((gp a1.Base (idx a3 a2)).bind fun a7=>bif a7 then nU a2 (w64 (a0 + 1)) else (nU a2 a0)) else (bif decide (a0 > 0) then nV y9 a4 a6 a5 a0 (decide (a0 < (a3.length:Int))) else (nV y9 a4 a6 a5 a0 false))
noncomputable def sj (a0:History) (a1:Ask) (y9:List Int):(List Int×Int×Int)→Option ((List Int×Int×Int) ⊕ (List Int×Bool))
 | (a3,a4,a2)=>bif decide (a2 < (y9.length:Int)) then must (0≤a2∧a2 < (y9.length:Int)) ((aQ a0 (idx y9 a2) a1.Key).bind fun a5=>iter (si a1 y9 a3 a4 a2 a5) (0,0)) else (bif (a4 != (a1.Base.length:Int)) then out (some (([]:List Int),false)) else (out (some (a3,true))))
noncomputable def bD (a0:History) (a1:Ask):Option (List Int×Bool) :=
 (bf a0 a1).bind fun y9=>iter (sj a0 a1 y9) ([],0,0)
noncomputable def qa (a0:List Int):Option (List Int) :=
 some a0
noncomputable def iW (a0:List Int):Option (List Int) :=
 some a0
noncomputable def qb (a1:Int) (a0:List Int):Option ((List Int×Int) ⊕ (List Int)) :=
 some (.inl (a0,w64 (a1 + 1)))
noncomputable def qc (a0:History) (a1:Ask) (a5:List Int):(List Int×Int)→Option ((List Int×Int) ⊕ (List Int))
 | (a3,a2)=>bif decide (a2 < (a5.length:Int)) then must (0≤a2∧a2 < (a5.length:Int)) ((aQ a0 (idx a5 a2) a1.Key).bind fun a4=>must (0≤w64 ((a4.length:Int) - 1)∧w64 ((a4.length:Int) - 1) < (a4.length:Int)) (must (0≤(0:Int)∧(0:Int) < (a1.Base.length:Int)) (bif (idx a4 (w64 ((a4.length:Int) - 1)) == idx a1.Base (0:Int)) then must (((a3.length + 1) + (a3.length + 1) / 4 + 192) * 8≤281474976710656∧a3.length + 1≤9223372036854775807) (qb a2 (a3++([idx a5 a2]:List Int))) else (qb a2 a3)))) else (out (iW a3))
noncomputable def bL (a0:History) (a1:Ask):Option (List Int) :=
 (kN a0 a1).bind fun y7=>bif (y7 == 4) then (aJ a0 a1).bind fun a3=>must (0≤(0:Int)∧(0:Int) < (a1.Base.length:Int)) (bif (idx a1.Base (0:Int) == 0) then must (((1 + a3.length) + (1 + a3.length) / 4 + 192) * 8≤281474976710656∧1 + a3.length≤9223372036854775807) (qa (([(-1)]:List Int)++a3)) else (qa a3)) else (bif ((a1.Base.length:Int) == 0) then some ([(-1)]:List Int) else (bif (y7 == 1) then (bf a0 a1).bind fun a5=>iter (qc a0 a1 a5) ([],0) else (bif (y7 == 2) then (bI a0 a1).bind fun a2=>bif a2.2 then must (0≤w64 ((a2.1.length:Int) - 1)∧w64 ((a2.1.length:Int) - 1) < (a2.1.length:Int)) (must (((0 + 1) + (0 + 1) / 4 + 192) * 8≤281474976710656∧0 + 1≤9223372036854775807) (iW (([]:List Int)++([idx a2.1 (w64 ((a2.1.length:Int) - 1))]:List Int)))) else (iW []) else ((bD a0 a1).bind fun a4=>bif a4.2 then iW a4.1 else (iW [])))))
noncomputable def kP (a0:History) (a1:Ask):Option (Int×Bool) :=
 (bL a0 a1).bind fun y9=>bif ((y9.length:Int) != 1) then some (0,false) else (must (0≤(0:Int)∧(0:Int) < (y9.length:Int)) (some (idx y9 (0:Int),true)))
noncomputable def kQ (a0:History) (a1:Ask):Option (List Int×Bool) :=
 (kN a0 a1).bind fun a2=>bif (a2 == 2) then (bI a0 a1).bind fun a4=>some (a4.1,a4.2) else (bif (a2 == 3) then (bD a0 a1).bind fun a3=>some (a3.1,a3.2) else (some (([]:List Int),false)))
noncomputable def kH (a0:Int) (a1:List Int):Option ((List Int×Int) ⊕ (List Int)) :=
 some (.inl (a1,w64 (a0 + 1)))
noncomputable def iX (a0:List Int) (a1:Int) (a2:Bool):Option ((List Int×Int) ⊕ (List Int)) :=
 bif a2 then must (((a0.length + 1) + (a0.length + 1) / 4 + 192) * 8≤281474976710656∧a0.length + 1≤9223372036854775807) (kH a1 (a0++([a1]:List Int))) else (kH a1 a0)
noncomputable def nW (a0:History) (a1:Int) (a2:Int):(List Int×Int)→Option ((List Int×Int) ⊕ (List Int))
 | (a4,a3)=>bif decide (a3 < (a0.Txns.length:Int)) then bif (a3 != a2) then must (0≤a3∧a3 < (a0.Txns.length:Int)) (bif ((idx a0.Txns a3).Status == 1) then (aQ a0 a3 a1).bind fun a5=>iX a4 a3 (decide ((a5.length:Int) > 0)) else (iX a4 a3 false)) else (iX a4 a3 false) else (out (some a4))
noncomputable def bM (a0:History) (a1:Int) (a2:Int):Option (List Int) :=
 iter (nW a0 a1 a2) ([],0)
noncomputable def tJ (a0:List Int) (a1:Int):Int→Option (Int ⊕ Bool)
 | a2=>bif decide (a2 < (a0.length:Int)) then must (0≤a2∧a2 < (a0.length:Int)) (bif (idx a0 a2 == a1) then out (some true) else (some (.inl (w64 (a2 + 1))))) else (out (some false))
noncomputable def fQ (a0:List Int) (a1:Int):Option Bool :=
 iter (tJ a0 a1) 0
noncomputable def nk (a0:Int):Option (Int ⊕ Bool) :=
 some (.inl (w64 (a0 + 1)))
noncomputable def nu (a0:Int) (a1:Bool):Option (Int ⊕ Bool) :=
 bif a1 then out (some true) else (nk a0)
noncomputable def ny (a0:History) (a1:List Ask) (a4:Int) (a2:Int) (a5:Bool):Option (Int ⊕ Bool) :=
 bif a5 then must (0≤a2∧a2 < (a1.length:Int)) ((kP a0 (idx a1 a2)).bind fun a3=>bif a3.2 then nu a2 (a3.1 == a4) else (nu a2 false)) else (nk a2)
noncomputable def rA (a0:History) (a1:List Ask) (a2:Int) (a3:Int) (a4:Int):Int→Option (Int ⊕ Bool)
 | a5=>bif decide (a5 < (a1.length:Int)) then must (0≤a5∧a5 < (a1.length:Int)) (bif ((idx a1 a5).Txn == a2) then ny a0 a1 a4 a5 ((idx a1 a5).Key == a3) else (ny a0 a1 a4 a5 false)) else (out (some false))
noncomputable def bJ (a0:History) (a1:List Ask) (a2:Int) (a3:Int) (a4:Int):Option Bool :=
 iter (rA a0 a1 a2 a3 a4) 0
noncomputable def kU (a0:Int) (a1:List Edge):Option ((List Edge×Int) ⊕ (List Edge)) :=
 some (.inl (a1,w64 (a0 + 1)))
noncomputable def nX (a0:Int) (a1:List Edge):Option ((List Edge×Int) ⊕ ((List Edge×Int) ⊕ (List Edge))) :=
 some (.inl (a1,w64 (a0 + 1)))
noncomputable def nY (a2:Ask) (a5:List Int×Bool) (a3:List Int) (a4:Int):(List Edge×Int)→Option ((List Edge×Int) ⊕ ((List Edge×Int) ⊕ (List Edge)))
 | (a1,a0)=>bif decide (a0 < (a3.length:Int)) then must (0≤a0∧a0 < (a3.length:Int)) ((fQ a5.1 (idx a3 a0)).bind fun a6=>bif !a6 then must (0≤a4∧a4 < (a5.1.length:Int)) (must (((a1.length + 1) + (a1.length + 1) / 4 + 192) * 32≤281474976710656∧a1.length + 1≤9223372036854775807) (nX a0 (a1++([(⟨idx a5.1 a4,idx a3 a0,8,a2.Key⟩:Edge)]:List Edge)))) else (nX a0 a1)) else (out (kU a4 a1))
noncomputable def nZ (a2:Ask) (a1:List Int×Bool) (a5:List Int) (a3:List Edge) (a0:Int) (a4:Bool):Option ((List Edge×Int) ⊕ (List Edge)) :=
 bif a4 then must (0≤a0∧a0 < (a1.1.length:Int)) (must (0≤w64 (a0 + 1)∧w64 (a0 + 1) < (a1.1.length:Int)) (must (((a3.length + 1) + (a3.length + 1) / 4 + 192) * 32≤281474976710656∧a3.length + 1≤9223372036854775807) (kU a0 (a3++([(⟨idx a1.1 a0,idx a1.1 (w64 (a0 + 1)),8,a2.Key⟩:Edge)]:List Edge))))) else (iter (nY a2 a1 a5 a0) (a3,0))
noncomputable def nz (a0:Int) (a1:List Edge):Option ((List Edge×Int) ⊕ ((List Edge×Int) ⊕ (List Edge))) :=
 some (.inl (a1,w64 (a0 + 1)))
noncomputable def gW (a2:Ask) (a3:List Int) (a1:List Edge) (a0:Int) (a4:Bool):Option ((List Edge×Int) ⊕ ((List Edge×Int) ⊕ (List Edge))) :=
 bif a4 then must (0≤a0∧a0 < (a3.length:Int)) (must (((a1.length + 1) + (a1.length + 1) / 4 + 192) * 32≤281474976710656∧a1.length + 1≤9223372036854775807) (nz a0 (a1++([(⟨a2.Txn,idx a3 a0,16,a2.Key⟩:Edge)]:List Edge)))) else (nz a0 a1)
noncomputable def jd (a0:History) (a1:List Ask) (a2:Ask) (a9:Int×Bool) (a4:List Int) (a5:List Edge) (a3:Int) (a6:Bool) (a7:Bool):Option ((List Edge×Int) ⊕ ((List Edge×Int) ⊕ (List Edge))) :=
 bif a7 then must (0≤a3∧a3 < (a4.length:Int)) ((bJ a0 a1 (idx a4 a3) a2.Key a9.1).bind fun a8=>gW a2 a4 a5 a3 a8) else (gW a2 a4 a5 a3 a6)
noncomputable def eG (a0:History) (a1:List Ask) (a2:Ask) (a8:Int) (a4:Int×Bool) (a5:List Int) (a7:List Edge) (a3:Int) (a6:Bool):Option ((List Edge×Int) ⊕ ((List Edge×Int) ⊕ (List Edge))) :=
 bif (a8 == 1) then bif a4.2 then bif (a4.1 != (-1)) then must (0≤a3∧a3 < (a5.length:Int)) (jd a0 a1 a2 a4 a5 a7 a3 a6 (idx a5 a3 != a4.1)) else (jd a0 a1 a2 a4 a5 a7 a3 a6 false) else (jd a0 a1 a2 a4 a5 a7 a3 a6 false) else (jd a0 a1 a2 a4 a5 a7 a3 a6 false)
noncomputable def og (a0:History) (a1:List Ask) (a2:Ask) (a7:Int) (a5:Int×Bool) (a8:List Int×Bool) (a9:Bool) (a4:List Int):(List Edge×Int)→Option ((List Edge×Int) ⊕ ((List Edge×Int) ⊕ (List Edge)))
 | (a6,a3)=>bif decide (a3 < (a4.length:Int)) then bif a5.2 then bif (a5.1 == (-1)) then eG a0 a1 a2 a7 a5 a4 a6 a3 true else (bif a9 then must (0≤a3∧a3 < (a4.length:Int)) ((fQ a8.1 (idx a4 a3)).bind fun b0=>eG a0 a1 a2 a7 a5 a4 a6 a3 (!b0)) else (eG a0 a1 a2 a7 a5 a4 a6 a3 false)) else (bif a9 then must (0≤a3∧a3 < (a4.length:Int)) ((fQ a8.1 (idx a4 a3)).bind fun b1=>eG a0 a1 a2 a7 a5 a4 a6 a3 (!b1)) else (eG a0 a1 a2 a7 a5 a4 a6 a3 false)) else (out (out (some a6)))
noncomputable def iJ (a0:History) (a1:List Ask) (a2:Ask) (a7:Int) (a9:Int×Bool) (a3:List Int×Bool) (b0:Bool) (a4:List Int) (a6:List Edge) (a5:Int) (a8:Bool):Option ((List Edge×Int) ⊕ (List Edge)) :=
 bif a8 then bif (a7 == 2) then nZ a2 a3 a4 a6 a5 (decide (w64 (a5 + 1) < (a3.1.length:Int))) else (nZ a2 a3 a4 a6 a5 false) else (iter (og a0 a1 a2 a7 a9 a3 b0 a4) (a6,0))
noncomputable def oh (a0:History) (a1:List Ask) (a2:Ask) (a6:Int) (a8:Int×Bool) (a3:List Int×Bool) (a5:Bool) (a7:List Int):(List Edge×Int)→Option ((List Edge×Int) ⊕ (List Edge))
 | (a9,a4)=>bif decide (a4 < (a3.1.length:Int)) then iJ a0 a1 a2 a6 a8 a3 a5 a7 a9 a4 a5 else (iJ a0 a1 a2 a6 a8 a3 a5 a7 a9 a4 false)
noncomputable def kV (a0:History) (a1:List Ask) (a2:Ask) (a3:Int) (a7:Int×Bool) (a4:List Edge) (a6:List Int×Bool) (a8:Bool):Option (List Edge) :=
 (bM a0 a2.Key a2.Txn).bind fun a5=>iter (oh a0 a1 a2 a3 a7 a6 a8 a5) (a4,0)
noncomputable def jI (a0:History) (a1:List Ask) (a2:Ask) (a4:Int) (a6:Int×Bool) (a5:List Edge):Option (List Edge) :=
 (kQ a0 a2).bind fun a3=>bif a3.2 then kV a0 a1 a2 a4 a6 a5 a3 (decide ((a2.Base.length:Int) > 0)) else (kV a0 a1 a2 a4 a6 a5 a3 false)
noncomputable def nA (a0:History) (a1:List Ask) (a2:Ask) (a4:Int) (a3:Int×Bool) (a5:Bool):Option (List Edge) :=
 bif a5 then must (((0 + 1) + (0 + 1) / 4 + 192) * 32≤281474976710656∧0 + 1≤9223372036854775807) (jI a0 a1 a2 a4 a3 (([]:List Edge)++([(⟨a3.1,a2.Txn,4,a2.Key⟩:Edge)]:List Edge))) else (jI a0 a1 a2 a4 a3 [])
noncomputable def aj (a0:History) (a1:List Ask) (a2:Ask):Option (List Edge) :=
 must (0≤a2.Txn∧a2.Txn < (a0.Txns.length:Int)) (must (0≤a2.Place∧a2.Place < (((idx a0.Txns a2.Txn).Ops).length:Int)) ((iA ((idx ((idx a0.Txns a2.Txn).Ops) a2.Place).Kind)).bind fun a4=>(kP a0 a2).bind fun a3=>bif a3.2 then nA a0 a1 a2 a4 a3 (a3.1 != (-1)) else (nA a0 a1 a2 a4 a3 false)))
noncomputable def tK (a0:Int) (a1:List Edge):Option ((List Edge×Int) ⊕ jf) :=
 some (.inl (a1,w64 (a0 + 1)))
noncomputable def tL (a0:History) (a4:List Ask×List ib):(List Edge×Int)→Option ((List Edge×Int) ⊕ jf)
 | (a2,a1)=>bif decide (a1 < (a4.1.length:Int)) then must (0≤a1∧a1 < (a4.1.length:Int)) ((aj a0 a4.1 (idx a4.1 a1)).bind fun a3=>must (((a2.length + a3.length) + (a2.length + a3.length) / 4 + 192) * 32≤281474976710656∧a2.length + a3.length≤9223372036854775807) (tK a1 (a2++a3))) else (out (some (⟨(a0.Txns.length:Int),a2⟩:jf)))
noncomputable def tN (a0:History) (a1:List Edge):Option jf :=
 (gQ a0).bind fun a2=>iter (tL a0 a2) (a1,0)
noncomputable def dR (a0:History):Option jf :=
 (aG a0).bind fun a1=>tN a0 a1
noncomputable def iY (a0:History):Option (jf×Int) :=
 (ay a0).bind fun a1=>bif (a1 != 0) then some ((⟨0,([]:List Edge)⟩:jf),1) else ((dR a0).bind fun a2=>some (a2,0))
noncomputable def mM (a0:List Edge) (a1:List Edge):Int→Option (Int ⊕ Bool)
 | a2=>bif decide (a2 < (a0.length:Int)) then must (0≤a2∧a2 < (a0.length:Int)) (must (0≤a2∧a2 < (a1.length:Int)) (bif !(((idx a0 a2).From == (idx a1 a2).From) && (((idx a0 a2).To == (idx a1 a2).To) && (((idx a0 a2).Kind == (idx a1 a2).Kind) && (((idx a0 a2).Key == (idx a1 a2).Key) && true)))) then out (some false) else (some (.inl (w64 (a2 + 1)))))) else (out (some true))
noncomputable def eu (a0:List Edge) (a1:List Edge):Option Bool :=
 bif ((a0.length:Int) != (a1.length:Int)) then some false else (iter (mM a0 a1) 0)
noncomputable def lI (a1:List Int) (a2:List Int) (a0:Int) (a3:Bool):Option ((List Int×Int) ⊕ (List Int×Bool)) :=
 bif a3 then out (some (([]:List Int),false)) else (must (0≤idx a1 a0∧idx a1 a0 < (a2.length:Int)) (some (.inl (a2.set (idx a1 a0).toNat (w64 (a0 + 1)),w64 (a0 + 1)))))
noncomputable def uw (a0:Int) (a1:Bool):Option (Int ⊕ ((List Int×Int) ⊕ (List Int×Bool))) :=
 bif a1 then out (out (some (([]:List Int),false))) else (some (.inl (w64 (a0 + 1))))
noncomputable def zx (a0:History) (a2:List Int):Int→Option (Int ⊕ ((List Int×Int) ⊕ (List Int×Bool)))
 | a1=>bif decide (a1 < (a0.Txns.length:Int)) then must (0≤a1∧a1 < (a0.Txns.length:Int)) (bif ((idx a0.Txns a1).Status == 1) then must (0≤a1∧a1 < (a2.length:Int)) (uw a1 (idx a2 a1 == 0)) else (uw a1 false)) else (out (out (some (a2,true))))
noncomputable def zy (a0:History) (a1:List Int):(List Int×Int)→Option ((List Int×Int) ⊕ (List Int×Bool))
 | (a3,a2)=>bif decide (a2 < (a1.length:Int)) then must (0≤a2∧a2 < (a1.length:Int)) (bif decide (idx a1 a2 < 0) then lI a1 a3 a2 true else (bif decide (idx a1 a2 ≥ (a0.Txns.length:Int)) then lI a1 a3 a2 true else (must (0≤idx a1 a2∧idx a1 a2 < (a3.length:Int)) (bif (idx a3 (idx a1 a2) != 0) then lI a1 a3 a2 true else (must (0≤idx a1 a2∧idx a1 a2 < (a0.Txns.length:Int)) (lI a1 a3 a2 ((idx a0.Txns (idx a1 a2)).Status == 2))))))) else (iter (zx a0 a3) 0)
noncomputable def dL (a0:History) (a1:List Int):Option (List Int×Bool) :=
 must (0≤(a0.Txns.length:Int)∧(a0.Txns.length:Int)≤9223372036854775807∧(8:Int) * (a0.Txns.length:Int)≤281474976710656) (iter (zy a0 a1) (List.replicate (a0.Txns.length:Int).toNat (default:Int),0))
noncomputable def zz (a1:List Int) (a0:Int):Option ((List Int×Int) ⊕ ((List Int×Int) ⊕ (List Int))) :=
 some (.inl ((a1.set a0.toNat (idx a1 (w64 (a0 - 1)))).set (w64 (a0 - 1)).toNat (idx a1 a0),w64 (a0 - 1)))
noncomputable def uy (a3:Int) (a1:List Int) (a0:Int) (a2:Bool):Option ((List Int×Int) ⊕ ((List Int×Int) ⊕ (List Int))) :=
 bif a2 then must (0≤w64 (a0 - 1)∧w64 (a0 - 1) < (a1.length:Int)) (must (0≤a0∧a0 < (a1.length:Int)) (zz a1 a0)) else (out (some (.inl (a1,w64 (a3 + 1)))))
noncomputable def zA (a2:Int):(List Int×Int)→Option ((List Int×Int) ⊕ ((List Int×Int) ⊕ (List Int)))
 | (a1,a0)=>bif decide (a0 > 0) then must (0≤a0∧a0 < (a1.length:Int)) (must (0≤w64 (a0 - 1)∧w64 (a0 - 1) < (a1.length:Int)) (uy a2 a1 a0 (decide (idx a1 a0 < idx a1 (w64 (a0 - 1)))))) else (uy a2 a1 a0 false)
noncomputable def zB (a0:List Int):(List Int×Int)→Option ((List Int×Int) ⊕ (List Int))
 | (a2,a1)=>bif decide (a1 < (a0.length:Int)) then must (0≤a1∧a1 < (a0.length:Int)) (must (((a2.length + 1) + (a2.length + 1) / 4 + 192) * 8≤281474976710656∧a2.length + 1≤9223372036854775807) (iter (zA a1) (a2++([idx a0 a1]:List Int),w64 (((a2++([idx a0 a1]:List Int)).length:Int) - 1)))) else (out (some a2))
noncomputable def eZ (a0:List Int):Option (List Int) :=
 iter (zB a0) ([],0)
noncomputable def jC (a0:List Int):Option (List Int) :=
 some a0
noncomputable def zC (a1:List Int):(Int×Int)→Option ((Int×Int) ⊕ (List Int))
 | (a2,a0)=>bif decide (a0 < (a1.length:Int)) then must (0≤a0∧a0 < (a1.length:Int)) (some (.inl (w64 (a2 + (idx a1 a0)),w64 (a0 + 1)))) else (out (jC ([a2]:List Int)))
noncomputable def uz (a2:Int) (a0:List Int):Option (List Int) :=
 bif (a2 == 1) then bif decide ((a0.length:Int) > 0) then must (0≤(w64 ((a0.length:Int) - 1))∧(w64 ((a0.length:Int) - 1))≤(a0.length:Int)∧(a0.length:Int)≤(a0.length:Int)) (jC (eQ a0 (w64 ((a0.length:Int) - 1)) (a0.length:Int))) else (jC a0) else (bif (a2 == 3) then (eZ a0).bind fun a1=>jC a1 else (bif (a2 == 4) then iter (zC a0) (0,0) else (jC a0)))
noncomputable def uA (a0:History) (a1:List Int) (a2:Int) (a3:Int) (a4:Int) (a5:List Int) (a6:Int) (a8:Bool):Option ((List Int×Int) ⊕ (List Int)) :=
 bif a8 then must (0≤a6∧a6 < (a1.length:Int)) ((aQ a0 (idx a1 a6) a3).bind fun a7=>must (((a5.length + a7.length) + (a5.length + a7.length) / 4 + 192) * 8≤281474976710656∧a5.length + a7.length≤9223372036854775807) (bif (idx a1 a6 == a4) then out (uz a2 (a5++a7)) else (some (.inl (a5++a7,w64 (a6 + 1)))))) else (out (uz a2 a5))
noncomputable def zD (a0:History) (a1:List Int) (a2:Int) (a3:Int) (a4:Int):(List Int×Int)→Option ((List Int×Int) ⊕ (List Int))
 | (a6,a5)=>bif decide (a5 < (a1.length:Int)) then uA a0 a1 a2 a3 a4 a6 a5 (decide (a4 ≥ 0)) else (uA a0 a1 a2 a3 a4 a6 a5 false)
noncomputable def cK (a0:History) (a1:List Int) (a2:Int) (a3:Int) (a4:Int):Option (List Int) :=
 iter (zD a0 a1 a2 a3 a4) ([],0)
noncomputable def iq (a0:History) (a1:List Int) (a3:Ask) (a4:Int) (a2:Bool):Option Int :=
 bif a2 then some 5 else (must (0≤a3.Txn∧a3.Txn < (a0.Txns.length:Int)) (must (0≤a3.Place∧a3.Place < (((idx a0.Txns a3.Txn).Ops).length:Int)) ((iA ((idx ((idx a0.Txns a3.Txn).Ops) a3.Place).Kind)).bind fun a7=>(cK a0 a1 a7 a3.Key a4).bind fun a5=>(cB a5 a3.Base).bind fun a6=>bif !a6 then some 6 else (some 0))))
noncomputable def gP (a0:History) (a1:List Int) (a2:List Int) (a3:Ask) (a4:Int):Option Int :=
 bif (a4 != (-1)) then bif decide (a4 < 0) then iq a0 a1 a3 a4 true else (bif decide (a4 ≥ (a2.length:Int)) then iq a0 a1 a3 a4 true else (must (0≤a4∧a4 < (a2.length:Int)) (bif (idx a2 a4 == 0) then iq a0 a1 a3 a4 true else ((aQ a0 a4 a3.Key).bind fun a5=>bif ((a5.length:Int) == 0) then iq a0 a1 a3 a4 true else (must (0≤a3.Txn∧a3.Txn < (a2.length:Int)) (iq a0 a1 a3 a4 (decide (idx a2 a4 ≥ idx a2 a3.Txn)))))))) else (iq a0 a1 a3 a4 false)
noncomputable def rC (a1:Int) (a0:Bool):Option (Int ⊕ (Int ⊕ Int)) :=
 bif a0 then out (out (some 4)) else (some (.inl (w64 (a1 + 1))))
noncomputable def Bv (a0:History) (a3:List Int×Bool) (a2:Int):Int→Option (Int ⊕ (Int ⊕ Int))
 | a1=>bif decide (a1 < a2) then must (0≤a2∧a2 < (a0.Txns.length:Int)) (must (0≤a1∧a1 < (a0.Txns.length:Int)) (bif ((idx a0.Txns a2).Proc == (idx a0.Txns a1).Proc) then must (0≤a2∧a2 < (a3.1.length:Int)) (bif (idx a3.1 a2 != 0) then must (0≤a1∧a1 < (a3.1.length:Int)) (rC a1 (decide (idx a3.1 a1 > idx a3.1 a2))) else (rC a1 false)) else (rC a1 false))) else (out (some (.inl (w64 (a2 + 1)))))
noncomputable def Bw (a0:History) (a1:Exec) (a3:List Ask×List ib) (a5:List Int×Bool):Int→Option (Int ⊕ (Int ⊕ Int))
 | a2=>bif decide (a2 < (a3.1.length:Int)) then must (0≤a2∧a2 < (a3.1.length:Int)) (must (0≤a2∧a2 < (a1.Picks.length:Int)) ((gP a0 a1.Order a5.1 (idx a3.1 a2) (idx a1.Picks a2)).bind fun a4=>bif (a4 != 0) then out (out (some a4)) else (some (.inl (w64 (a2 + 1)))))) else (out (out (some 0)))
noncomputable def Bz (a0:History) (a1:Exec) (a4:List Ask×List ib) (a2:List Int×Bool):Int→Option (Int ⊕ Int)
 | a3=>bif decide (a3 < (a0.Txns.length:Int)) then iter (Bv a0 a2 a3) 0 else (iter (Bw a0 a1 a4 a2) 0)
noncomputable def fE (a0:History) (a1:Exec):Option Int :=
 (gQ a0).bind fun a2=>bif decide ((a2.2.length:Int) > 0) then some 1 else ((dL a0 a1.Order).bind fun a3=>bif !a3.2 then some 2 else (bif ((a1.Picks.length:Int) != (a2.1.length:Int)) then some 3 else (iter (Bz a0 a1 a2 a3) 0)))
noncomputable def Ee (a0:History) (a1:Exec):Option (Int×Int) :=
 (ay a0).bind fun a2=>bif (a2 != 0) then some (0,1) else ((fE a0 a1).bind fun a3=>some (a3,0))
noncomputable def je (a0:History) (a1:Exec) (a2:Edge) (a4:Bool):Option Bool :=
 bif a4 then some false else ((dL a0 a1.Order).bind fun a3=>must (0≤a2.From∧a2.From < (a3.1.length:Int)) (bif (idx a3.1 a2.From != 0) then must (0≤a2.To∧a2.To < (a3.1.length:Int)) (bif (idx a3.1 a2.To != 0) then some (decide (idx a3.1 a2.From < idx a3.1 a2.To)) else (some false)) else (some false)))
noncomputable def jJ (a0:History) (a1:Exec) (a2:Edge):Option Bool :=
 (Ee a0 a1).bind fun y9=>bif (y9.2 != 0) then je a0 a1 a2 true else (bif (y9.1 != 0) then je a0 a1 a2 true else (bif decide (a2.From < 0) then je a0 a1 a2 true else (bif decide (a2.From ≥ (a0.Txns.length:Int)) then je a0 a1 a2 true else (bif decide (a2.To < 0) then je a0 a1 a2 true else (je a0 a1 a2 (decide (a2.To ≥ (a0.Txns.length:Int))))))))
noncomputable def mO (a4:jf×Int) (a3:jf×Int):(List Edge×Int)→Option ((List Edge×Int) ⊕ Bool)
 | (a0,a1)=>bif decide (a1 < (a0.length:Int)) then must (0≤a1∧a1 < (a0.length:Int)) (some (.inl (a0.set a1.toNat (⟨0,0,99,0⟩:Edge),w64 (a1 + 1)))) else (must (((a0.length + 2) + (a0.length + 2) / 4 + 192) * 32≤281474976710656∧a0.length + 2≤9223372036854775807) ((eu a4.1.Edges a3.1.Edges).bind fun a2=>out (some a2)))
noncomputable def jM (a1:jf×Int) (a2:jf×Int) (a0:jf×Int) (a3:Bool):Option Bool :=
 bif a3 then some false else (iter (mO a2 a0) (a1.1.Edges,0))
noncomputable def dA (a0:History):Option Bool :=
 (mf).bind fun y8=>bif !y8 then some false else ((dm a0).bind fun a2=>(dm a0).bind fun a3=>(iY a0).bind fun a1=>bif (a2.2 != a1.2) then jM a2 a3 a1 true else (jM a2 a3 a1 (a3.2 != a1.2)))
noncomputable def BD (a0:Int) (a1:jf):Option Bool :=
 bif decide (a0 ≥ 0) then some (decide (a0 < a1.N)) else (some false)
noncomputable def De (a0:Int):Option Int :=
 must (0≤(1:Int)∧(1:Int) < (far:Int)) (must (0≤(2:Int)∧(2:Int) < (far:Int)) (must (0≤(4:Int)∧(4:Int) < (far:Int)) (must (0≤(8:Int)∧(8:Int) < (far:Int)) (must (0≤(16:Int)∧(16:Int) < (far:Int)) (must (0≤(32:Int)∧(32:Int) < (far:Int)) (some (dJ .i64 (w64 (IntKind.wrap .u64 ((IntKind.wrap .u64 ((IntKind.wrap .u64 ((dJ .u64 (IntKind.wrap .u64 ((fu .u64 (IntKind.wrap .u64 ((dJ .u64 (fu .u64 (IntKind.wrap .u64 ((dJ .u64 (fu .u64 a0 (1:Int)) 6148914691236517205) + (dJ .u64 a0 6148914691236517205))) (2:Int)) 3689348814741910323) + (dJ .u64 (IntKind.wrap .u64 ((dJ .u64 (fu .u64 a0 (1:Int)) 6148914691236517205) + (dJ .u64 a0 6148914691236517205))) 3689348814741910323))) (4:Int)) + (IntKind.wrap .u64 ((dJ .u64 (fu .u64 (IntKind.wrap .u64 ((dJ .u64 (fu .u64 a0 (1:Int)) 6148914691236517205) + (dJ .u64 a0 6148914691236517205))) (2:Int)) 3689348814741910323) + (dJ .u64 (IntKind.wrap .u64 ((dJ .u64 (fu .u64 a0 (1:Int)) 6148914691236517205) + (dJ .u64 a0 6148914691236517205))) 3689348814741910323))))) 1085102592571150095) + (fu .u64 (dJ .u64 (IntKind.wrap .u64 ((fu .u64 (IntKind.wrap .u64 ((dJ .u64 (fu .u64 (IntKind.wrap .u64 ((dJ .u64 (fu .u64 a0 (1:Int)) 6148914691236517205) + (dJ .u64 a0 6148914691236517205))) (2:Int)) 3689348814741910323) + (dJ .u64 (IntKind.wrap .u64 ((dJ .u64 (fu .u64 a0 (1:Int)) 6148914691236517205) + (dJ .u64 a0 6148914691236517205))) 3689348814741910323))) (4:Int)) + (IntKind.wrap .u64 ((dJ .u64 (fu .u64 (IntKind.wrap .u64 ((dJ .u64 (fu .u64 a0 (1:Int)) 6148914691236517205) + (dJ .u64 a0 6148914691236517205))) (2:Int)) 3689348814741910323) + (dJ .u64 (IntKind.wrap .u64 ((dJ .u64 (fu .u64 a0 (1:Int)) 6148914691236517205) + (dJ .u64 a0 6148914691236517205))) 3689348814741910323))))) 1085102592571150095) (8:Int)))) + (fu .u64 (IntKind.wrap .u64 ((dJ .u64 (IntKind.wrap .u64 ((fu .u64 (IntKind.wrap .u64 ((dJ .u64 (fu .u64 (IntKind.wrap .u64 ((dJ .u64 (fu .u64 a0 (1:Int)) 6148914691236517205) + (dJ .u64 a0 6148914691236517205))) (2:Int)) 3689348814741910323) + (dJ .u64 (IntKind.wrap .u64 ((dJ .u64 (fu .u64 a0 (1:Int)) 6148914691236517205) + (dJ .u64 a0 6148914691236517205))) 3689348814741910323))) (4:Int)) + (IntKind.wrap .u64 ((dJ .u64 (fu .u64 (IntKind.wrap .u64 ((dJ .u64 (fu .u64 a0 (1:Int)) 6148914691236517205) + (dJ .u64 a0 6148914691236517205))) (2:Int)) 3689348814741910323) + (dJ .u64 (IntKind.wrap .u64 ((dJ .u64 (fu .u64 a0 (1:Int)) 6148914691236517205) + (dJ .u64 a0 6148914691236517205))) 3689348814741910323))))) 1085102592571150095) + (fu .u64 (dJ .u64 (IntKind.wrap .u64 ((fu .u64 (IntKind.wrap .u64 ((dJ .u64 (fu .u64 (IntKind.wrap .u64 ((dJ .u64 (fu .u64 a0 (1:Int)) 6148914691236517205) + (dJ .u64 a0 6148914691236517205))) (2:Int)) 3689348814741910323) + (dJ .u64 (IntKind.wrap .u64 ((dJ .u64 (fu .u64 a0 (1:Int)) 6148914691236517205) + (dJ .u64 a0 6148914691236517205))) 3689348814741910323))) (4:Int)) + (IntKind.wrap .u64 ((dJ .u64 (fu .u64 (IntKind.wrap .u64 ((dJ .u64 (fu .u64 a0 (1:Int)) 6148914691236517205) + (dJ .u64 a0 6148914691236517205))) (2:Int)) 3689348814741910323) + (dJ .u64 (IntKind.wrap .u64 ((dJ .u64 (fu .u64 a0 (1:Int)) 6148914691236517205) + (dJ .u64 a0 6148914691236517205))) 3689348814741910323))))) 1085102592571150095) (8:Int)))) (16:Int)))) + (fu .u64 (IntKind.wrap .u64 ((IntKind.wrap .u64 ((dJ .u64 (IntKind.wrap .u64 ((fu .u64 (IntKind.wrap .u64 ((dJ .u64 (fu .u64 (IntKind.wrap .u64 ((dJ .u64 (fu .u64 a0 (1:Int)) 6148914691236517205) + (dJ .u64 a0 6148914691236517205))) (2:Int)) 3689348814741910323) + (dJ .u64 (IntKind.wrap .u64 ((dJ .u64 (fu .u64 a0 (1:Int)) 6148914691236517205) + (dJ .u64 a0 6148914691236517205))) 3689348814741910323))) (4:Int)) + (IntKind.wrap .u64 ((dJ .u64 (fu .u64 (IntKind.wrap .u64 ((dJ .u64 (fu .u64 a0 (1:Int)) 6148914691236517205) + (dJ .u64 a0 6148914691236517205))) (2:Int)) 3689348814741910323) + (dJ .u64 (IntKind.wrap .u64 ((dJ .u64 (fu .u64 a0 (1:Int)) 6148914691236517205) + (dJ .u64 a0 6148914691236517205))) 3689348814741910323))))) 1085102592571150095) + (fu .u64 (dJ .u64 (IntKind.wrap .u64 ((fu .u64 (IntKind.wrap .u64 ((dJ .u64 (fu .u64 (IntKind.wrap .u64 ((dJ .u64 (fu .u64 a0 (1:Int)) 6148914691236517205) + (dJ .u64 a0 6148914691236517205))) (2:Int)) 3689348814741910323) + (dJ .u64 (IntKind.wrap .u64 ((dJ .u64 (fu .u64 a0 (1:Int)) 6148914691236517205) + (dJ .u64 a0 6148914691236517205))) 3689348814741910323))) (4:Int)) + (IntKind.wrap .u64 ((dJ .u64 (fu .u64 (IntKind.wrap .u64 ((dJ .u64 (fu .u64 a0 (1:Int)) 6148914691236517205) + (dJ .u64 a0 6148914691236517205))) (2:Int)) 3689348814741910323) + (dJ .u64 (IntKind.wrap .u64 ((dJ .u64 (fu .u64 a0 (1:Int)) 6148914691236517205) + (dJ .u64 a0 6148914691236517205))) 3689348814741910323))))) 1085102592571150095) (8:Int)))) + (fu .u64 (IntKind.wrap .u64 ((dJ .u64 (IntKind.wrap .u64 ((fu .u64 (IntKind.wrap .u64 ((dJ .u64 (fu .u64 (IntKind.wrap .u64 ((dJ .u64 (fu .u64 a0 (1:Int)) 6148914691236517205) + (dJ .u64 a0 6148914691236517205))) (2:Int)) 3689348814741910323) + (dJ .u64 (IntKind.wrap .u64 ((dJ .u64 (fu .u64 a0 (1:Int)) 6148914691236517205) + (dJ .u64 a0 6148914691236517205))) 3689348814741910323))) (4:Int)) + (IntKind.wrap .u64 ((dJ .u64 (fu .u64 (IntKind.wrap .u64 ((dJ .u64 (fu .u64 a0 (1:Int)) 6148914691236517205) + (dJ .u64 a0 6148914691236517205))) (2:Int)) 3689348814741910323) + (dJ .u64 (IntKind.wrap .u64 ((dJ .u64 (fu .u64 a0 (1:Int)) 6148914691236517205) + (dJ .u64 a0 6148914691236517205))) 3689348814741910323))))) 1085102592571150095) + (fu .u64 (dJ .u64 (IntKind.wrap .u64 ((fu .u64 (IntKind.wrap .u64 ((dJ .u64 (fu .u64 (IntKind.wrap .u64 ((dJ .u64 (fu .u64 a0 (1:Int)) 6148914691236517205) + (dJ .u64 a0 6148914691236517205))) (2:Int)) 3689348814741910323) + (dJ .u64 (IntKind.wrap .u64 ((dJ .u64 (fu .u64 a0 (1:Int)) 6148914691236517205) + (dJ .u64 a0 6148914691236517205))) 3689348814741910323))) (4:Int)) + (IntKind.wrap .u64 ((dJ .u64 (fu .u64 (IntKind.wrap .u64 ((dJ .u64 (fu .u64 a0 (1:Int)) 6148914691236517205) + (dJ .u64 a0 6148914691236517205))) (2:Int)) 3689348814741910323) + (dJ .u64 (IntKind.wrap .u64 ((dJ .u64 (fu .u64 a0 (1:Int)) 6148914691236517205) + (dJ .u64 a0 6148914691236517205))) 3689348814741910323))))) 1085102592571150095) (8:Int)))) (16:Int)))) (32:Int))))) 127)))))))
noncomputable def EI (a0:Int):Option Int :=
 (De a0).bind fun y3=>some y3
noncomputable def qF (a1:Int) (a0:Bool):Option (Int ⊕ Int) :=
 bif a0 then out (some 60) else (some (.inl (w64 (a1 + 1))))
noncomputable def EJ (a0:jf):Int→Option (Int ⊕ Int)
 | a1=>bif decide (a1 < (a0.Edges.length:Int)) then must (0≤a1∧a1 < (a0.Edges.length:Int)) ((BD ((idx a0.Edges a1).From) a0).bind fun a4=>bif !a4 then qF a1 true else ((BD ((idx a0.Edges a1).To) a0).bind fun a2=>bif !a2 then qF a1 true else (bif decide ((idx a0.Edges a1).Kind < 1) then qF a1 true else (bif decide ((idx a0.Edges a1).Kind > 16) then qF a1 true else ((EI (IntKind.wrap .u64 ((idx a0.Edges a1).Kind))).bind fun a3=>qF a1 (a3 != 1)))))) else (out (some 0))
noncomputable def wy (a0:jf) (b9:Bool):Option Int :=
 bif b9 then some 60 else (iter (EJ a0) 0)
noncomputable def iL (a0:jf):Option Int :=
 bif decide (a0.N < 0) then wy a0 true else (bif decide (a0.N > 64) then wy a0 true else (wy a0 (decide ((a0.Edges.length:Int) > 262144))))
noncomputable def bq (a0:Int) (a1:Bool):Option (Int ⊕ Bool) :=
 bif !a1 then out (some false) else (some (.inl (w64 (a0 + 1))))
noncomputable def mP (a0:History) (a2:jf×Int) (a1:Int) (a5:List Int×Bool) (a4:List Int×Bool) (a3:Bool):Option (Int ⊕ Bool) :=
 bif ((idx a2.1.Edges a1).Kind == 1) then bif a3 then bif ((idx a2.1.Edges a1).Key == (-1)) then bif ((idx a0.Txns ((idx a2.1.Edges a1).From)).Proc == (idx a0.Txns ((idx a2.1.Edges a1).To)).Proc) then bif decide ((idx a2.1.Edges a1).From < (idx a2.1.Edges a1).To) then bif ((idx a0.Txns ((idx a2.1.Edges a1).From)).Status == 1) then bq a1 ((idx a0.Txns ((idx a2.1.Edges a1).To)).Status == 1) else (bq a1 false) else (bq a1 false) else (bq a1 false) else (bq a1 false) else (bq a1 false) else (bif ((idx a2.1.Edges a1).Kind == 2) then bif a3 then bif ((idx a2.1.Edges a1).Key == (-1)) then bif ((idx a0.Txns ((idx a2.1.Edges a1).From)).Status == 1) then bif ((idx a0.Txns ((idx a2.1.Edges a1).To)).Status == 1) then bq a1 (decide ((idx a0.Txns ((idx a2.1.Edges a1).From)).To < (idx a0.Txns ((idx a2.1.Edges a1).To)).From)) else (bq a1 false) else (bq a1 false) else (bq a1 false) else (bq a1 false) else (bif ((idx a2.1.Edges a1).Kind == 4) then bif a3 then bif a5.2 then bq a1 ((idx a0.Txns ((idx a2.1.Edges a1).To)).Status == 1) else (bq a1 false) else (bq a1 false) else (bif ((idx a2.1.Edges a1).Kind == 8) then bif a3 then bif a5.2 then bq a1 a4.2 else (bq a1 false) else (bq a1 false) else (bif a3 then bif a4.2 then bif ((idx a0.Txns ((idx a2.1.Edges a1).From)).Status == 1) then bq a1 ((idx a0.Txns ((idx a2.1.Edges a1).To)).Status == 1) else (bq a1 false) else (bq a1 false) else (bq a1 false)))))
noncomputable def xK (a0:History) (a2:jf×Int) (a1:Int):Option (Int ⊕ Bool) :=
 (gX a0 ((idx a2.1.Edges a1).From) ((idx a2.1.Edges a1).Key)).bind fun a3=>(gX a0 ((idx a2.1.Edges a1).To) ((idx a2.1.Edges a1).Key)).bind fun a4=>bif ((idx a2.1.Edges a1).From != (idx a2.1.Edges a1).To) then bif ((idx a0.Txns ((idx a2.1.Edges a1).From)).Status != 2) then mP a0 a2 a1 a3 a4 ((idx a0.Txns ((idx a2.1.Edges a1).To)).Status != 2) else (mP a0 a2 a1 a3 a4 false) else (mP a0 a2 a1 a3 a4 false)
noncomputable def xL (a0:History) (a2:jf×Int):Int→Option (Int ⊕ Bool)
 | a1=>bif decide (a1 < (a2.1.Edges.length:Int)) then must (0≤a1∧a1 < (a2.1.Edges.length:Int)) (must (0≤(idx a2.1.Edges a1).From∧(idx a2.1.Edges a1).From < (a0.Txns.length:Int)) (must (0≤(idx a2.1.Edges a1).To∧(idx a2.1.Edges a1).To < (a0.Txns.length:Int)) (xK a0 a2 a1))) else (out (some true))
noncomputable def rF (a0:History) (a1:jf×Int) (a2:Bool):Option Bool :=
 bif a2 then some false else (iter (xL a0 a1) 0)
noncomputable def aM (a0:History):Option Bool :=
 (mf).bind fun y8=>bif !y8 then some false else ((dm a0).bind fun a1=>bif (a1.2 != 0) then some ((a1.1.Edges.length:Int) == 0) else (bif (a1.1.N != (a0.Txns.length:Int)) then rF a0 a1 true else ((iL a1.1).bind fun a2=>rF a0 a1 (a2 != 0))))
end Go.Proofs.YtfpeabnehpclnaaGreatT
