import Derived.Test.YtfpeabnehpclnaaGreatI
namespace Go.Proofs.YtfpeabnehpclnaaGreatT
noncomputable section
open Go Go.Proofs Go.Proofs.YtfpeabnehpclnaaGreatE
set_option linter.unusedVariables false
set_option linter.unusedSimpArgs false
set_option maxHeartbeats 0
set_option maxRecDepth 4096
structure dP where
 key:ByteArray
 arg:Int
 deriving Inhabited,DecidableEq
def dP.enc (x:dP):List Value:=[.string x.key,.int .i64 x.arg]
abbrev Lc:Ty dP:=Ty.flat 2 dP.enc (fun _=>rfl) (fun _=>DF rfl)
instance : Flat Lc dP.enc:=⟨Iff.rfl,Iff.rfl⟩
structure bG where
 keys:List ByteArray
 at_:List (ByteArray×Int)
 types:List Int
 facts:List (dP×Unit)
 incs:List (ByteArray×(List Int))
 deriving Inhabited
structure Call where
 Kind:Int
 Key:ByteArray
 Arg:Int
 Got:Bool
 Vals:List Int
 deriving Inhabited
abbrev BB:Ty Call:=Ty.iso (cO (aH .i64) (cO jq (cO (aH .i64) (cO sD (bB 2 (aH .i64)))))) (fun g:Call=>(g.Kind,g.Key,g.Arg,g.Got,g.Vals))
abbrev yh (N:BM):Ty Call:=Ty.iso (cO (aH .i64) (cO jq (cO (aH .i64) (cO sD (Nz N (aH .i64)))))) (fun g:Call=>(g.Kind,g.Key,g.Arg,g.Got,g.Vals))
theorem NL (N:BM):xe N (yh N) BB:=DJ (jQ mQ (jQ mQ (jQ mQ (jQ mQ FY))))
structure Event where
 Proc:Int
 Kind:Int
 Calls:List Call
 deriving Inhabited
abbrev Ld:Ty Event:=Ty.iso (cO (aH .i64) (cO (aH .i64) (bB 129 BB))) (fun g:Event=>(g.Proc,g.Kind,g.Calls))
structure Op where
 Kind:Int
 Key:Int
 Arg:Int
 Got:Bool
 Vals:List Int
 deriving Inhabited
abbrev kOp:Ty Op:=Ty.iso (cO (aH .i64) (cO (aH .i64) (cO (aH .i64) (cO sD (bB 2 (aH .i64)))))) (fun g:Op=>(g.Kind,g.Key,g.Arg,g.Got,g.Vals))
structure Txn where
 Proc:Int
 Status:Int
 From:Int
 To:Int
 Ops:List Op
 deriving Inhabited
abbrev mq:Ty Txn:=Ty.iso (cO (aH .i64) (cO (aH .i64) (cO (aH .i64) (cO (aH .i64) (bB 70 kOp))))) (fun g:Txn=>(g.Proc,g.Status,g.From,g.To,g.Ops))
structure History where
 Keys:List ByteArray
 Txns:List Txn
 deriving Inhabited
structure Ask where
 Txn:Int
 Place:Int
 Key:Int
 Base:List Int
 deriving Inhabited
abbrev um:Ty Ask:=Ty.iso (cO (aH .i64) (cO (aH .i64) (cO (aH .i64) (bB 2 (aH .i64))))) (fun g:Ask=>(g.Txn,g.Place,g.Key,g.Base))
structure Spot where
 Txn:Int
 Place:Int
 deriving Inhabited,DecidableEq
def Spot.enc (x:Spot):List Value:=[.int .i64 x.Txn,.int .i64 x.Place]
abbrev DU:Ty Spot:=Ty.flat 2 Spot.enc (fun _=>rfl) (fun _=>DF rfl)
instance : Flat DU Spot.enc:=⟨Iff.rfl,Iff.rfl⟩
structure fq where
 asks:List Ask
 bad:List Spot
 deriving Inhabited
structure aN where
 txn:Int
 args:List Int
 deriving Inhabited
abbrev gQ:Ty aN:=Ty.iso (cO (aH .i64) (bB 2 (aH .i64))) (fun g:aN=>(g.txn,g.args))
structure aI where
 Ask:Ask
 sources:List Int
 parts:List Int
 made:Bool
 kind:Int
 deriving Inhabited
abbrev iT:Ty aI:=Ty.iso (cO um (cO (bB 3 (aH .i64)) (cO (bB 3 (aH .i64)) (cO sD (aH .i64))))) (fun g:aI=>(g.Ask,g.sources,g.parts,g.made,g.kind))
structure Edge where
 From:Int
 To:Int
 Kind:Int
 Key:Int
 deriving Inhabited,DecidableEq
def Edge.enc (x:Edge):List Value:=[.int .i64 x.From,.int .i64 x.To,.int .i64 x.Kind,.int .i64 x.Key]
abbrev iy:Ty Edge:=Ty.flat 4 Edge.enc (fun _=>rfl) (fun _=>DF rfl)
instance : Flat iy Edge.enc:=⟨Iff.rfl,Iff.rfl⟩
structure aD where
 h:History
 asks:List aI
 edges:List Edge
 deriving Inhabited
structure cz where
 N:Int
 Edges:List Edge
 deriving Inhabited
structure bY where
 Kind:Int
 Level:Int
 Spot:Spot
 Cycle:List Edge
 deriving Inhabited
abbrev xk:Ty bY:=Ty.iso (cO (aH .i64) (cO (aH .i64) (cO DU (bB 43 iy)))) (fun g:bY=>(g.Kind,g.Level,g.Spot,g.Cycle))
structure aR where
 tight:Int
 loose:Int
 deriving Inhabited,DecidableEq
def aR.enc (x:aR):List Value:=[.int .i64 x.tight,.int .i64 x.loose]
abbrev fE:Ty aR:=Ty.flat 2 aR.enc (fun _=>rfl) (fun _=>DF rfl)
instance : Flat fE aR.enc:=⟨Iff.rfl,Iff.rfl⟩
structure dF where
 g:cz
 links:List (List aR)
 deriving Inhabited
structure af where
 node:Int
 last_:Bool
 first_:Bool
 deriving Inhabited,DecidableEq
def af.enc (x:af):List Value:=[.int .i64 x.node,.bool x.last_,.bool x.first_]
abbrev vF:Ty af:=Ty.flat 3 af.enc (fun _=>rfl) (fun _=>DF rfl)
instance : Flat vF af.enc:=⟨Iff.rfl,Iff.rfl⟩
structure fF where
 kind:Int
 level:Int
 d:Int
 r:Int
 rule:Int
 find:Int
 deriving Inhabited
def fF.enc (x:fF):List Value:=[.int .i64 x.kind,.int .i64 x.level,.int .i64 x.d,.int .i64 x.r,.int .i64 x.rule,fnV x.find]
abbrev Lf:Ty fF:=Ty.flat 6 fF.enc (fun _=>rfl) (fun _=>DF rfl)
instance : Flat Lf fF.enc:=⟨Iff.rfl,Iff.rfl⟩
structure aL where
 keys:List ByteArray
 types:List Int
 wrote:List (List Int)
 incs:List Int
 last_:List Int
 deriving Inhabited
abbrev kC (N:BM):Ty aI:=(Ty.iso (cO (Ty.iso (cO (aH .i64) (cO (aH .i64) (cO (aH .i64) (Nz N (aH .i64))))) (fun g:Ask=>(g.Txn,g.Place,g.Key,g.Base))) (cO (KL (aH .i64)) (cO (KL (aH .i64)) (cO sD (aH .i64))))) (fun g:aI=>(g.Ask,g.sources,g.parts,g.made,g.kind)))
theorem AJ (N:BM):xe N (kC N) iT:=(DJ (jQ (DJ (jQ mQ (jQ mQ (jQ mQ FY)))) (jQ FX (jQ FX (jQ mQ mQ)))))
abbrev Rw2 (A:Option Addr) (c:Nat) (l:List Int):bV := .row (aH .i64) 2 A l.length c l
abbrev Rn2 (A:Option Addr) (n c:Nat) (l:List Int):bV := .row (aH .i64) 2 A n c l
abbrev Rw3 (A:Option Addr) (c:Nat) (l:List Int):bV := .row (aH .i64) 3 A l.length c l
abbrev Rw9 (A:Option Addr) (c:Nat) (l:List ByteArray):bV := .row jq 9 A l.length c l
abbrev Rn9 (A:Option Addr) (n c:Nat) (l:List ByteArray):bV := .row jq 9 A n c l
abbrev ER (A:Option Addr) (c:Nat) (l:List Spot):bV := .row DU 27 A l.length c l
abbrev CU (A:Option Addr) (c:Nat) (l:List bY):bV := .row xk 30 A l.length c l
abbrev je (A:Option Addr) (c:Nat) (l:List Edge):bV := .row iy 43 A l.length c l
abbrev TT (A:Option Addr) (c:Nat) (l:List Txn):bV := .row mq 65 A l.length c l
abbrev TU (A:Option Addr) (n c:Nat) (l:List Op):bV := .row kOp 70 A n c l
abbrev Ij (A:Option Addr) (c:Nat) (l:List Ask):bV := .row um 81 A l.length c l
abbrev Mo (A:Option Addr) (c:Nat) (l:List aR):bV := .row fE 169 A l.length c l
abbrev GN (A:Option Addr) (n c:Nat) (l:List aR):bV := .row fE 169 A n c l
abbrev xK (A:Option Addr) (c:Nat) (l:List (List aR)):bV := .row (bB 169 fE) 170 A l.length c l
abbrev Js (A:Option Addr) (c:Nat) (l:List aN):bV := .row gQ 209 A l.length c l
abbrev lF (A:Option Addr) (c:Nat) (l:List af):bV := .row vF 225 A l.length c l
abbrev Or3 (A:Option Addr) (c:Nat) (l:List Int):bV:=orA noM (aH .i64) 3 A l.length c l
abbrev GQ (b:Nat) (m:List (Edge×Unit)):bV:=CQ (fun x:Edge => .agg #[.int .i64 x.From,.int .i64 x.To,.int .i64 x.Kind,.int .i64 x.Key]) (fun _:Unit => .agg #[]) b m
abbrev Jt (b:Nat) (m:List (Int×Unit)):bV:=CQ (fun x:Int => .int .i64 x) (fun _:Unit => .agg #[]) b m
abbrev OH (b:Nat) (m:List (Int×Int)):bV:=CQ (fun x:Int => .int .i64 x) (fun x:Int => .int .i64 x) b m
abbrev AX (b:Nat) (m:List (Int×Int)):bV:=CQ (fun x:Int => .int .i64 x) (fun x:Int => .int .i64 x) b m
abbrev BC (b:Nat) (m:List (ByteArray×Int)):bV:=CQ (fun x:ByteArray => .string x) (fun x:Int => .int .i64 x) b m
abbrev BD (b:Nat) (m:List (dP×Unit)):bV:=CQ (fun x:dP => .agg #[.string x.key,.int .i64 x.arg]) (fun _:Unit => .agg #[]) b m
abbrev GR (b:Nat) (m:List (ByteArray×(List Int))):bV:=wQ (fun x:ByteArray => .string x) (bB 3 (aH .i64)) b m
abbrev nZ (b:Nat) (m:List (af×af)):bV:=CQ (fun x:af => .agg #[.int .i64 x.node,.bool x.last_,.bool x.first_]) (fun x:af => .agg #[.int .i64 x.node,.bool x.last_,.bool x.first_]) b m
abbrev GU (b:Nat) (m:List (Int×(List Int))):bV:=wQ (fun x:Int => .int .i64 x) (bB 2 (aH .i64)) b m
abbrev ES (b:Nat) (m:List (Int×Unit)):bV:=CQ (fun x:Int => .int .i64 x) (fun _:Unit => .agg #[]) b m
abbrev wJ (x:History) (A0:Option Addr) (c0:Nat) (A1:Option Addr) (c1:Nat):List Value:=[vS A0 x.Keys.length c0,vS A1 x.Txns.length c1]
abbrev uU (x:History) (A0:Option Addr) (c0:Nat) (A1:Option Addr) (c1:Nat):Value := .agg (wJ x A0 c0 A1 c1).toArray
abbrev iF (b:Nat) (x:History) (A0:Option Addr) (c0:Nat) (A1:Option Addr) (c1:Nat):bV := .blk b 25 (wJ x A0 c0 A1 c1)
abbrev QO (x:Spot):List Value:=[vI x.Txn,vI x.Place]
abbrev Tu (x:Spot):Value := .agg (QO x).toArray
abbrev TV (b:Nat) (x:Spot):bV := .blk b 27 (QO x)
abbrev QP (x:bY) (A4:Option Addr) (c4:Nat):List Value:=[vI x.Kind,vI x.Level,vI x.Spot.Txn,vI x.Spot.Place,vS A4 x.Cycle.length c4]
abbrev Tv (x:bY) (A4:Option Addr) (c4:Nat):Value := .agg (QP x A4 c4).toArray
abbrev Et (b:Nat) (x:bY) (A4:Option Addr) (c4:Nat):bV := .blk b 30 (QP x A4 c4)
abbrev ET (x:cz) (A1:Option Addr) (c1:Nat):List Value:=[vI x.N,vS A1 x.Edges.length c1]
abbrev Ik (x:cz) (A1:Option Addr) (c1:Nat):Value := .agg (ET x A1 c1).toArray
abbrev zq (b:Nat) (x:cz) (A1:Option Addr) (c1:Nat):bV := .blk b 38 (ET x A1 c1)
abbrev Ju (x:Edge):List Value:=[vI x.From,vI x.To,vI x.Kind,vI x.Key]
abbrev EU (b:Nat) (x:Edge):bV := .blk b 43 (Ju x)
abbrev Eu (x:Txn) (A4:Option Addr) (c4:Nat):List Value:=[vI x.Proc,vI x.Status,vI x.From,vI x.To,vS A4 x.Ops.length c4]
abbrev NM (x:Txn) (A4:Option Addr) (c4:Nat):Value := .agg (Eu x A4 c4).toArray
abbrev Jv (b:Nat) (x:Txn) (A4:Option Addr) (c4:Nat):bV := .blk b 65 (Eu x A4 c4)
abbrev NN (x:Op) (A4:Option Addr) (c4:Nat):List Value:=[vI x.Kind,vI x.Key,vI x.Arg,vB x.Got,vS A4 x.Vals.length c4]
abbrev BF (b:Nat) (x:Op) (A4:Option Addr) (c4:Nat):bV := .blk b 70 (NN x A4 c4)
abbrev CV (x:Ask) (A3:Option Addr) (c3:Nat):List Value:=[vI x.Txn,vI x.Place,vI x.Key,vS A3 x.Base.length c3]
abbrev Bh (x:Ask) (A3:Option Addr) (c3:Nat):Value := .agg (CV x A3 c3).toArray
abbrev CW (b:Nat) (x:Ask) (A3:Option Addr) (c3:Nat):bV := .blk b 81 (CV x A3 c3)
abbrev TW (x:aD) (A0:Option Addr) (c0:Nat) (A1:Option Addr) (c1:Nat) (A2:Option Addr) (c2:Nat) (A3:Option Addr) (c3:Nat):List Value:=[vS A0 x.h.Keys.length c0,vS A1 x.h.Txns.length c1,vS A2 x.asks.length c2,vS A3 x.edges.length c3]
abbrev Gv (b:Nat) (x:aD) (A0:Option Addr) (c0:Nat) (A1:Option Addr) (c1:Nat) (A2:Option Addr) (c2:Nat) (A3:Option Addr) (c3:Nat):bV := .blk b 93 (TW x A0 c0 A1 c1 A2 c2 A3 c3)
abbrev Lg (x:aI) (A3:Option Addr) (c3:Nat) (A4:Option Addr) (c4:Nat) (A5:Option Addr) (c5:Nat):List Value:=[vI x.Ask.Txn,vI x.Ask.Place,vI x.Ask.Key,vS A3 x.Ask.Base.length c3,vS A4 x.sources.length c4,vS A5 x.parts.length c5,vB x.made,vI x.kind]
abbrev QQ (x:aI) (A3:Option Addr) (c3:Nat) (A4:Option Addr) (c4:Nat) (A5:Option Addr) (c5:Nat):Value := .agg (Lg x A3 c3 A4 c4 A5 c5).toArray
abbrev AL (b:Nat) (x:aI) (A3:Option Addr) (c3:Nat) (A4:Option Addr) (c4:Nat) (A5:Option Addr) (c5:Nat):bV := .blk b 96 (Lg x A3 c3 A4 c4 A5 c5)
abbrev Jw (x:Event) (A2:Option Addr) (c2:Nat):List Value:=[vI x.Proc,vI x.Kind,vS A2 x.Calls.length c2]
abbrev Tw (x:Event) (A2:Option Addr) (c2:Nat):Value := .agg (Jw x A2 c2).toArray
abbrev Sv (b:Nat) (x:Event) (A2:Option Addr) (c2:Nat):bV := .blk b 124 (Jw x A2 c2)
abbrev EW (x:Call) (A4:Option Addr) (c4:Nat):List Value:=[vI x.Kind,.string x.Key,vI x.Arg,vB x.Got,vS A4 x.Vals.length c4]
abbrev Jy (x:Call) (A4:Option Addr) (c4:Nat):Value := .agg (EW x A4 c4).toArray
abbrev sI (b:Nat) (x:Call) (A4:Option Addr) (c4:Nat):bV := .blk b 129 (EW x A4 c4)
abbrev OI (x:fq) (A0:Option Addr) (c0:Nat) (A1:Option Addr) (c1:Nat):List Value:=[vS A0 x.asks.length c0,vS A1 x.bad.length c1]
abbrev Tx (x:fq) (A0:Option Addr) (c0:Nat) (A1:Option Addr) (c1:Nat):Value := .agg (OI x A0 c0 A1 c1).toArray
abbrev EX (x:aR):List Value:=[vI x.tight,vI x.loose]
abbrev Sw (x:aR):Value := .agg (EX x).toArray
abbrev Mq (b:Nat) (x:aR):bV := .blk b 169 (EX x)
abbrev Tz (x:dF) (A1:Option Addr) (c1:Nat) (A2:Option Addr) (c2:Nat):List Value:=[vI x.g.N,vS A1 x.g.Edges.length c1,vS A2 x.links.length c2]
abbrev zt (b:Nat) (x:dF) (A1:Option Addr) (c1:Nat) (A2:Option Addr) (c2:Nat):bV := .blk b 173 (Tz x A1 c1 A2 c2)
abbrev EY (x:aN) (A1:Option Addr) (c1:Nat):List Value:=[vI x.txn,vS A1 x.args.length c1]
abbrev OJ (x:aN) (A1:Option Addr) (c1:Nat):Value := .agg (EY x A1 c1).toArray
abbrev GV (b:Nat) (x:aN) (A1:Option Addr) (c1:Nat):bV := .blk b 209 (EY x A1 c1)
abbrev AY (x:af):List Value:=[vI x.node,vB x.last_,vB x.first_]
abbrev DV (x:af):Value := .agg (AY x).toArray
abbrev wR (b:Nat) (x:af):bV := .blk b 225 (AY x)
abbrev TY (b:Nat) (x0:Int) (A1:Option Addr) (c1:Nat) (x1:List Edge):List bV:=[.blk b 38 [vI x0,vS A1 x1.length c1],je A1 c1 x1]
abbrev NP (b:Nat) (x:cz) (A1:Option Addr) (c1:Nat):List bV:=TY b x.N A1 c1 x.Edges
abbrev zu (b:Nat) (A0:Option Addr) (c0:Nat) (x0:List Ask) (A1:Option Addr) (c1:Nat) (x1:List Spot):List bV:=[.blk b 132 [vS A0 x0.length c0,vS A1 x1.length c1],Ij A0 c0 x0,ER A1 c1 x1]
abbrev Sy (b:Nat) (x:fq) (A0:Option Addr) (c0:Nat) (A1:Option Addr) (c1:Nat):List bV:=zu b A0 c0 x.asks A1 c1 x.bad
abbrev zw (b:Nat) (A0:Option Addr) (c0:Nat) (x0:List ByteArray) (b1:Nat) (x1:List (ByteArray×Int)) (A2:Option Addr) (c2:Nat) (x2:List Int) (b3:Nat) (x3:List (dP×Unit)) (b4:Nat) (x4:List (ByteArray×(List Int))):List bV:=[.blk b 199 [vS A0 x0.length c0,.map (some b1),vS A2 x2.length c2,.map (some b3),.map (some b4)],Rw9 A0 c0 x0,BC b1 x1,Rw3 A2 c2 x2,BD b3 x3,GR b4 x4]
abbrev OL (b:Nat) (x:bG) (A0:Option Addr) (c0:Nat) (b1:Nat) (A2:Option Addr) (c2:Nat) (b3:Nat) (b4:Nat):List bV:=zw b A0 c0 x.keys b1 x.at_ A2 c2 x.types b3 x.facts b4 x.incs
theorem yj {H:BM} {x:bY} {cs:List Value} (h:xk.rd H x cs):∃ A4 c4,cs=QP x A4 c4∧x.Cycle.length≤c4∧rdS iy H A4 x.Cycle:=by
 obtain ⟨_,_,rfl,rfl,⟨_,_,rfl,rfl,⟨_,_,rfl,rfl,⟨A0,c0,rfl,l0,r0⟩⟩⟩⟩:=h;exact ⟨A0,c0,rfl,l0,r0⟩
theorem xL {H:BM} {x:Txn} {cs:List Value} (h:mq.rd H x cs):∃ A4 c4,cs=Eu x A4 c4∧x.Ops.length≤c4∧rdS kOp H A4 x.Ops:=by
 obtain ⟨_,_,rfl,rfl,⟨_,_,rfl,rfl,⟨_,_,rfl,rfl,⟨_,_,rfl,rfl,⟨A0,c0,rfl,l0,r0⟩⟩⟩⟩⟩:=h;exact ⟨A0,c0,rfl,l0,r0⟩
theorem QR {H:BM} {x:Op} {cs:List Value} (h:kOp.rd H x cs):∃ A4 c4,cs=NN x A4 c4∧x.Vals.length≤c4∧rdS (aH .i64) H A4 x.Vals:=by
 obtain ⟨_,_,rfl,rfl,⟨_,_,rfl,rfl,⟨_,_,rfl,rfl,⟨_,_,rfl,rfl,⟨A0,c0,rfl,l0,r0⟩⟩⟩⟩⟩:=h;exact ⟨A0,c0,rfl,l0,r0⟩
theorem GX {H:BM} {x:Ask} {cs:List Value} (h:um.rd H x cs):∃ A3 c3,cs=CV x A3 c3∧x.Base.length≤c3∧rdS (aH .i64) H A3 x.Base:=by
 obtain ⟨_,_,rfl,rfl,⟨_,_,rfl,rfl,⟨_,_,rfl,rfl,⟨A0,c0,rfl,l0,r0⟩⟩⟩⟩:=h;exact ⟨A0,c0,rfl,l0,r0⟩
theorem DW {H:BM} {x:aI} {cs:List Value} (h:iT.rd H x cs):∃ A3 c3 A4 c4 A5 c5,cs=Lg x A3 c3 A4 c4 A5 c5∧x.Ask.Base.length≤c3∧rdS (aH .i64) H A3 x.Ask.Base∧x.sources.length≤c4∧rdS (aH .i64) H A4 x.sources∧x.parts.length≤c5∧rdS (aH .i64) H A5 x.parts:=by
 obtain ⟨_,_,rfl,⟨_,_,rfl,rfl,⟨_,_,rfl,rfl,⟨_,_,rfl,rfl,⟨A0,c0,rfl,l0,r0⟩⟩⟩⟩,⟨_,_,rfl,⟨A1,c1,rfl,l1,r1⟩,⟨_,_,rfl,⟨A2,c2,rfl,l2,r2⟩,⟨_,_,rfl,rfl,rfl⟩⟩⟩⟩:=h;exact ⟨A0,c0,A1,c1,A2,c2,rfl,l0,r0,l1,r1,l2,r2⟩
theorem QS {H:BM} {x:Event} {cs:List Value} (h:Ld.rd H x cs):∃ A2 c2,cs=Jw x A2 c2∧x.Calls.length≤c2∧rdS BB H A2 x.Calls:=by
 obtain ⟨_,_,rfl,rfl,⟨_,_,rfl,rfl,⟨A0,c0,rfl,l0,r0⟩⟩⟩:=h;exact ⟨A0,c0,rfl,l0,r0⟩
theorem SH {H:BM} {x:Call} {cs:List Value} (h:BB.rd H x cs):∃ A4 c4,cs=EW x A4 c4∧x.Vals.length≤c4∧rdS (aH .i64) H A4 x.Vals:=by
 obtain ⟨_,_,rfl,rfl,⟨_,_,rfl,rfl,⟨_,_,rfl,rfl,⟨_,_,rfl,rfl,⟨A0,c0,rfl,l0,r0⟩⟩⟩⟩⟩:=h;exact ⟨A0,c0,rfl,l0,r0⟩
theorem gM {H:BM} {x:aN} {cs:List Value} (h:gQ.rd H x cs):∃ A1 c1,cs=EY x A1 c1∧x.args.length≤c1∧rdS (aH .i64) H A1 x.args:=by
 obtain ⟨_,_,rfl,rfl,⟨A0,c0,rfl,l0,r0⟩⟩:=h;exact ⟨A0,c0,rfl,l0,r0⟩
theorem BG (x:bY) {R3:List bV} {c3:List Value} (h3:Mk (bB 43 iy) R3 x.Cycle c3):Mk xk ([]++([]++([]++R3))) x ([vI x.Kind]++([vI x.Level]++([vI x.Spot.Txn,vI x.Spot.Place]++c3))):=wC (g:=fun g:bY=>(g.Kind,g.Level,g.Spot,g.Cycle)) (x:=x) (eG (lS _ _ rfl) (eG (lS _ _ rfl) (eG (lS _ _ rfl) h3)))
theorem TA (x:Txn) {R4:List bV} {c4:List Value} (h4:Mk (bB 70 kOp) R4 x.Ops c4):Mk mq ([]++([]++([]++([]++R4)))) x ([vI x.Proc]++([vI x.Status]++([vI x.From]++([vI x.To]++c4)))):=wC (g:=fun g:Txn=>(g.Proc,g.Status,g.From,g.To,g.Ops)) (x:=x) (eG (lS _ _ rfl) (eG (lS _ _ rfl) (eG (lS _ _ rfl) (eG (lS _ _ rfl) h4))))
theorem TB (x:Op) {R4:List bV} {c4:List Value} (h4:Mk (bB 2 (aH .i64)) R4 x.Vals c4):Mk kOp ([]++([]++([]++([]++R4)))) x ([vI x.Kind]++([vI x.Key]++([vI x.Arg]++([vB x.Got]++c4)))):=wC (g:=fun g:Op=>(g.Kind,g.Key,g.Arg,g.Got,g.Vals)) (x:=x) (eG (lS _ _ rfl) (eG (lS _ _ rfl) (eG (lS _ _ rfl) (eG (lS _ _ rfl) h4))))
theorem Sz (x:Ask) {R3:List bV} {c3:List Value} (h3:Mk (bB 2 (aH .i64)) R3 x.Base c3):Mk um ([]++([]++([]++R3))) x ([vI x.Txn]++([vI x.Place]++([vI x.Key]++c3))):=wC (g:=fun g:Ask=>(g.Txn,g.Place,g.Key,g.Base)) (x:=x) (eG (lS _ _ rfl) (eG (lS _ _ rfl) (eG (lS _ _ rfl) h3)))
theorem Gw (x:aN) {R1:List bV} {c1:List Value} (h1:Mk (bB 2 (aH .i64)) R1 x.args c1):Mk gQ ([]++R1) x ([vI x.txn]++c1):=wC (g:=fun g:aN=>(g.txn,g.args)) (x:=x) (eG (lS _ _ rfl) h1)
def mE (a0:List ByteArray) (a1:ByteArray):Int→Option (Int ⊕ Int)
 | a2=>bif decide (a2 < (a0.length:Int)) then must (0≤a2∧a2 < (a0.length:Int)) (bif sEq a1 (idx a0 a2) then out (some a2) else (some (.inl (w64 (a2 + 1))))) else (out (some (-1)))
def slices_Index_string (a0:List ByteArray) (a1:ByteArray):Option Int :=
 iter (mE a0 a1) 0
def slices_Contains_string (a0:List ByteArray) (a1:ByteArray):Option Bool :=
 (slices_Index_string a0 a1).bind fun y3=>some (decide (y3 ≥ 0))
def qp:Option bG :=
 some (⟨([]:List ByteArray),([]:List (ByteArray×Int)),([]:List Int),([]:List (dP×Unit)),([]:List (ByteArray×(List Int)))⟩:bG)
def yl (a0:Int):Option (Int×Int) :=
 bif (a0 == 5) then some (0,1) else (bif (a0 == 8) then some (1,1) else (some (0,64)))
def tQ (a0:Call) (a1:Int) (a2:Bool):Option (Int ⊕ Bool) :=
 bif a2 then must (0≤w64 (a1 - 1)∧w64 (a1 - 1) < (a0.Vals.length:Int)) (must (0≤a1∧a1 < (a0.Vals.length:Int)) (bif decide (idx a0.Vals (w64 (a1 - 1)) ≥ idx a0.Vals a1) then out (some false) else (some (.inl (w64 (a1 + 1)))))) else (out (some true))
def tT (a0:Call):Int→Option (Int ⊕ Bool)
 | a1=>bif (a0.Kind == 7) then tQ a0 a1 (decide (a1 < (a0.Vals.length:Int))) else (tQ a0 a1 false)
def tV (a0:Call) (a1:Bool):Option Bool :=
 bif a1 then some false else (iter (tT a0) 1)
def tX (a0:Call) (a2:Bool):Option Bool :=
 bif a2 then some false else (bif !a0.Got then some ((a0.Vals.length:Int) == 0) else ((yl a0.Kind).bind fun a1=>bif decide ((a0.Vals.length:Int) < a1.1) then tV a0 true else (tV a0 (decide ((a0.Vals.length:Int) > a1.2)))))
def ni (a0:Call) (a1:Int) (a2:Bool):Option Bool :=
 bif a2 then some false else (bif decide (a0.Kind≤4) then bif !a0.Got then bif ((a0.Vals.length:Int) == 0) then bif (a0.Kind != 4) then some true else (bif decide ((-1048576)≤a0.Arg) then some (decide (a0.Arg≤1048576)) else (some false)) else (some false) else (some false) else (bif (a0.Arg != 0) then tX a0 true else (tX a0 (a0.Got != (a1 == 1)))))
def dA (a0:Call) (a1:Int):Option Bool :=
 bif decide (a0.Kind < 1) then ni a0 a1 true else (bif decide (a0.Kind > 8) then ni a0 a1 true else (bif sEq a0.Key (⟨#[]⟩:ByteArray) then ni a0 a1 true else (ni a0 a1 (decide ((a0.Key.size:Int) > 32)))))
def uV (a0:Call) (a1:Event):Option Bool :=
 (dA a0 a1.Kind).bind fun y5=>some (!y5)
def gF (a0:List Call) (a1c0:Event):Int→Option (Int ⊕ Int)
 | a1=>bif decide (a1 < (a0.length:Int)) then must (0≤a1∧a1 < (a0.length:Int)) ((uV (idx a0 a1) a1c0).bind fun a2=>bif a2 then out (some a1) else (some (.inl (w64 (a1 + 1))))) else (out (some (-1)))
def bT (a0:List Call) (a1c0:Event):Option Int :=
 iter (gF a0 a1c0) 0
def dW (a0:List Call) (a1c0:Event):Option Bool :=
 (bT a0 a1c0).bind fun y3=>some (decide (y3 ≥ 0))
def pY (a0:List Event) (a1:Int) (a3:Bool):Option (Int ⊕ Int) :=
 bif a3 then out (some 1) else ((dW ((idx a0 a1).Calls) (idx a0 a1)).bind fun a2=>bif a2 then out (some 1) else (some (.inl (w64 (a1 + 1)))))
def xm (a0:List Event):Int→Option (Int ⊕ Int)
 | a1=>bif decide (a1 < (a0.length:Int)) then must (0≤a1∧a1 < (a0.length:Int)) (bif decide ((idx a0 a1).Kind < 0) then pY a0 a1 true else (bif decide ((idx a0 a1).Kind > 3) then pY a0 a1 true else (pY a0 a1 (decide ((((idx a0 a1).Calls).length:Int) > 16))))) else (out (some 0))
def gW (a0:List Event):Option Int :=
 bif decide ((a0.length:Int) > 256) then some 1 else (iter (xm a0) 0)
def vJ (a0:History) (a1:Txn) (a3:List Call) (a2:Int):Option ((List Call×Int) ⊕ (Event×Bool)) :=
 some (.inl (a3++([(⟨(idx a1.Ops a2).Kind,idx a0.Keys ((idx a1.Ops a2).Key),(idx a1.Ops a2).Arg,(idx a1.Ops a2).Got,(idx a1.Ops a2).Vals⟩:Call)]:List Call),w64 (a2 + 1)))
def rf (a0:History) (a1:Txn) (a2:List Call) (a3:Int) (a4:Bool):Option ((List Call×Int) ⊕ (Event×Bool)) :=
 bif a4 then out (some ((⟨0,a1.Status,a2⟩:Event),false)) else (must (0≤(idx a1.Ops a3).Key∧(idx a1.Ops a3).Key < (a0.Keys.length:Int)) (must (((a2.length + 1) + (a2.length + 1) / 4 + 192) * 64≤281474976710656∧a2.length + 1≤9223372036854775807) (vJ a0 a1 a2 a3)))
def vK (a0:History) (a1:Txn):(List Call×Int)→Option ((List Call×Int) ⊕ (Event×Bool))
 | (a3,a2)=>bif decide (a2 < (a1.Ops.length:Int)) then must (0≤a2∧a2 < (a1.Ops.length:Int)) (bif decide ((idx a1.Ops a2).Key < 0) then rf a0 a1 a3 a2 true else (rf a0 a1 a3 a2 (decide ((idx a1.Ops a2).Key ≥ (a0.Keys.length:Int))))) else ((gW ([(⟨0,a1.Status,a3⟩:Event)]:List Event)).bind fun a4=>out (some ((⟨0,a1.Status,a3⟩:Event),(a4 == 0))))
def eZ (a0:History) (a1:Txn):Option (Event×Bool) :=
 iter (vK a0 a1) ([],0)
def rq (a0:Txn) (a1:Txn):Option Bool :=
 bif (a0.Proc == a1.Proc) then bif (a0.To == (-1)) then some true else (some (decide (a0.To ≥ a1.From))) else (some false)
def gp (a0:List Txn) (a1c0:Txn):Int→Option (Int ⊕ Int)
 | a1=>bif decide (a1 < (a0.length:Int)) then must (0≤a1∧a1 < (a0.length:Int)) ((rq (idx a0 a1) a1c0).bind fun a2=>bif a2 then out (some a1) else (some (.inl (w64 (a1 + 1))))) else (out (some (-1)))
def bM (a0:List Txn) (a1c0:Txn):Option Int :=
 iter (gp a0 a1c0) 0
def dU (a0:List Txn) (a1c0:Txn):Option Bool :=
 (bM a0 a1c0).bind fun y3=>some (decide (y3 ≥ 0))
def mU (a0:List Txn) (a1:Txn) (a3:Bool):Option Bool :=
 bif a3 then some false else ((dU a0 a1).bind fun a2=>some (!a2))
def qw (a0:List Txn) (a1:Txn):Option Bool :=
 bif decide (a1.From < 0) then mU a0 a1 true else (bif decide ((a0.length:Int) > 0) then must (0≤w64 ((a0.length:Int) - 1)∧w64 ((a0.length:Int) - 1) < (a0.length:Int)) (mU a0 a1 (decide ((idx a0 (w64 ((a0.length:Int) - 1))).From ≥ a1.From))) else (mU a0 a1 false))
def qx (a0:List Txn) (a1:Txn) (a2:Bool):Option Bool :=
 bif a2 then some false else (qw a0 a1)
def qy (a0:List Txn) (a1:Txn) (a2:Bool):Option Bool :=
 bif a2 then bif decide (a1.To≤a1.From) then some false else (qw a0 a1) else (bif (a1.Status == 3) then bif (a1.To != (-1)) then qx a0 a1 (decide (a1.To≤a1.From)) else (qx a0 a1 false) else (some false))
def dw (a0:List Txn) (a1:Txn):Option Bool :=
 bif (a1.Status == 1) then qy a0 a1 (a1.Status == 1) else (qy a0 a1 (a1.Status == 2))
def oP (a0:Int):Option Int :=
 some (w64 ((cK .i64 (w64 (a0 - 1)) 3) + 1))
def iL (a3:List ByteArray) (a1:List (ByteArray×Int)) (a2:List Int) (a4:List (dP×Unit)) (a5:List (ByteArray×(List Int))):Option (Int×bG) :=
 some (0,(⟨a3,a1,a2,a4,a5⟩:bG))
def ny (a0:bG) (a1:Call) (a2:List ByteArray) (a4:List (ByteArray×Int)) (a3:List Int):Option (Int×bG) :=
 bif iR a0.facts (⟨a1.Key,a1.Arg⟩:dP) then some (3,(⟨a2,a4,a3,a0.facts,a0.incs⟩:bG)) else (iL a2 a4 a3 (fC a0.facts (⟨a1.Key,a1.Arg⟩:dP) ()) a0.incs)
def jR (a0:bG) (a1:Call) (a3:List ByteArray) (a5:List (ByteArray×Int)) (a4:List Int) (a2:List (ByteArray×(List Int))):Option (Int×bG) :=
 bif decide (((mat a2 a1.Key).length:Int) > 8) then some (51,(⟨a3,a5,a4,a0.facts,a2⟩:bG)) else (iL a3 a5 a4 a0.facts a2)
def jS (a0:bG) (a1:Call) (a2:Int) (a3:List ByteArray) (a5:List (ByteArray×Int)) (a4:List Int) (a6:Bool):Option (Int×bG) :=
 bif a6 then must (((((mat a0.incs a1.Key).length) + 1) + (((mat a0.incs a1.Key).length) + 1) / 4 + 192) * 8≤281474976710656∧((mat a0.incs a1.Key).length) + 1≤9223372036854775807) (jR a0 a1 a3 a5 a4 (fC a0.incs a1.Key ((mat a0.incs a1.Key)++([a2]:List Int)))) else (jR a0 a1 a3 a5 a4 a0.incs)
def jT (a0:bG) (a1:Call) (a2:Int) (a3:List ByteArray) (a5:List (ByteArray×Int)) (a4:List Int) (a6:Bool):Option (Int×bG) :=
 bif a6 then ny a0 a1 a3 a5 a4 else (bif (a1.Kind == 4) then bif (((mat a0.incs a1.Key).length:Int) == 0) then jS a0 a1 a2 a3 a5 a4 true else (must (0≤w64 (((mat a0.incs a1.Key).length:Int) - 1)∧w64 (((mat a0.incs a1.Key).length:Int) - 1) < ((mat a0.incs a1.Key).length:Int)) (jS a0 a1 a2 a3 a5 a4 (idx (mat a0.incs a1.Key) (w64 (((mat a0.incs a1.Key).length:Int) - 1)) != a2))) else (iL a3 a5 a4 a0.facts a0.incs))
def iM (a0:bG) (a1:Call) (a2:Int) (a5:List ByteArray) (a4:List (ByteArray×Int)) (a3:List Int) (a6:Int):Option (Int×bG) :=
 must (0≤a6∧a6 < (a3.length:Int)) ((oP a1.Kind).bind fun a7=>bif (idx a3 a6 != a7) then some (50,(⟨a5,a4,a3,a0.facts,a0.incs⟩:bG)) else (bif (a1.Kind == 2) then jT a0 a1 a2 a5 a4 a3 (a1.Kind == 2) else (jT a0 a1 a2 a5 a4 a3 (a1.Kind == 3))))
def nz (a0:bG) (a1:Call) (a2:Int):Option (Int×bG) :=
 (oP a1.Kind).bind fun a3=>must (((a0.types.length + 1) + (a0.types.length + 1) / 4 + 192) * 8≤281474976710656∧a0.types.length + 1≤9223372036854775807) (iM a0 a1 a2 (a0.keys++([a1.Key]:List ByteArray)) (fC a0.at_ a1.Key (a0.keys.length:Int)) (a0.types++([a3]:List Int)) (a0.keys.length:Int))
def aG (a0:bG) (a1:Call) (a2:Int):Option (Int×bG) :=
 bif !(iR a0.at_ a1.Key) then bif ((a0.keys.length:Int) == 32) then some (2,a0) else (must (((a0.keys.length + 1) + (a0.keys.length + 1) / 4 + 192) * 16≤281474976710656∧a0.keys.length + 1≤9223372036854775807) (nz a0 a1 a2)) else (iM a0 a1 a2 a0.keys a0.at_ a0.types (mat a0.at_ a1.Key))
def og (a1:Int) (a2:Bool):Option (Int ⊕ Int) :=
 bif a2 then out (some 1) else (some (.inl (w64 (a1 + 1))))
def ru (a6:Int) (a3:Event×Bool):(List ByteArray×(List (ByteArray×Int))×List Int×(List (dP×Unit))×(List (ByteArray×(List Int)))×Int)→Option ((List ByteArray×(List (ByteArray×Int))×List Int×(List (dP×Unit))×(List (ByteArray×(List Int)))×Int) ⊕ ((List ByteArray×(List (ByteArray×Int))×List Int×(List (dP×Unit))×(List (ByteArray×(List Int)))×Int) ⊕ (Int ⊕ Int)))
 | (a8,a5,a4,a9,a7,a2)=>bif decide (a2 < (a3.1.Calls.length:Int)) then must (0≤a2∧a2 < (a3.1.Calls.length:Int)) ((aG (⟨a8,a5,a4,a9,a7⟩:bG) (idx a3.1.Calls a2) a6).bind fun a1=>bif (a1.1 != 0) then out (out (out (some 1))) else (some (.inl (a1.2.keys,a1.2.at_,a1.2.types,a1.2.facts,a1.2.incs,w64 (a2 + 1))))) else (out (some (.inl (a8,a5,a4,a9,a7,w64 (a6 + 1)))))
def ry (a8:List ByteArray) (a2:List (ByteArray×Int)) (a5:List Int) (a4:List (dP×Unit)) (a6:List (ByteArray×(List Int))) (a3:Int) (a1:Event×Bool) (a7:Bool):Option ((List ByteArray×(List (ByteArray×Int))×List Int×(List (dP×Unit))×(List (ByteArray×(List Int)))×Int) ⊕ (Int ⊕ Int)) :=
 bif a7 then out (out (some 1)) else (iter (ru a3 a1) (a8,a2,a5,a4,a6,0))
def oh (a0:History):(List ByteArray×(List (ByteArray×Int))×List Int×(List (dP×Unit))×(List (ByteArray×(List Int)))×Int)→Option ((List ByteArray×(List (ByteArray×Int))×List Int×(List (dP×Unit))×(List (ByteArray×(List Int)))×Int) ⊕ (Int ⊕ Int))
 | (a7,a3,a5,a4,a6,a1)=>bif decide (a1 < (a0.Txns.length:Int)) then must (0≤a1∧a1 < (a0.Txns.length:Int)) ((eZ a0 (idx a0.Txns a1)).bind fun a2=>bif !a2.2 then ry a7 a3 a5 a4 a6 a1 a2 true else (must (0≤(0:Int)∧(0:Int)≤a1∧a1≤(a0.Txns.length:Int)) ((dw (kg a0.Txns (0:Int) a1) (idx a0.Txns a1)).bind fun a8=>ry a7 a3 a5 a4 a6 a1 a2 (!a8)))) else (out (out (some 0)))
def vL (a0:History):Int→Option (Int ⊕ Int)
 | a1=>bif decide (a1 < (a0.Keys.length:Int)) then must (0≤a1∧a1 < (a0.Keys.length:Int)) (bif sEq (idx a0.Keys a1) (⟨#[]⟩:ByteArray) then og a1 true else (bif decide (((idx a0.Keys a1).size:Int) > 32) then og a1 true else (must (0≤(0:Int)∧(0:Int)≤a1∧a1≤(a0.Keys.length:Int)) ((slices_Contains_string (kg a0.Keys (0:Int) a1) (idx a0.Keys a1)).bind fun a3=>og a1 a3)))) else ((qp).bind fun a2=>iter (oh a0) (a2.keys,a2.at_,a2.types,a2.facts,a2.incs,0))
def rz (a0:History) (b7:Bool):Option Int :=
 bif b7 then some 1 else (iter (vL a0) 0)
def aC (a0:History):Option Int :=
 bif decide ((a0.Keys.length:Int) > 32) then rz a0 true else (rz a0 (decide ((a0.Txns.length:Int) > 32)))
def gq (a0:List Int):Option (List Int) :=
 must (a0.length * 8≤140737488355328) (some a0)
def kI (a0:Int):Option Int :=
 bif (a0 == 1) then some 280 else (bif (a0 == 2) then some 281 else (bif (a0 == 3) then some 282 else (bif (a0 == 4) then some 283 else (some (-1)))))
def kJ (a0:Unit) (a1:List Int):Option Bool :=
 some (decide ((a1.length:Int)≤1))
def oQ (a0:Unit) (a1:List Int):Option Bool :=
 some (decide ((a1.length:Int)≤64))
def qC (a1:List Int):Int→Option (Int ⊕ Bool)
 | a2=>bif decide (a2 < (a1.length:Int)) then must (0≤w64 (a2 - 1)∧w64 (a2 - 1) < (a1.length:Int)) (must (0≤a2∧a2 < (a1.length:Int)) (bif decide (idx a1 (w64 (a2 - 1)) ≥ idx a1 a2) then out (some false) else (some (.inl (w64 (a2 + 1)))))) else (out (some (decide ((a1.length:Int)≤64))))
def gT (a0:Unit) (a1:List Int):Option Bool :=
 iter (qC a1) 1
def lI (a0:Unit) (a1:List Int):Option Bool :=
 some ((a1.length:Int) == 1)
def kK (a0:Int) (a1:List Int):Option Int :=
 (kI a0).bind fun y8=>bif (y8 == (280:Int)) then (kJ () a1).bind fun a2=>bif !a2 then some 80 else (some 0) else (bif (y8 == (281:Int)) then (oQ () a1).bind fun a4=>bif !a4 then some 80 else (some 0) else (bif (y8 == (282:Int)) then (gT () a1).bind fun a3=>bif !a3 then some 80 else (some 0) else (bif (y8 == (283:Int)) then (lI () a1).bind fun a5=>bif !a5 then some 80 else (some 0) else (bif (y8 == ((-1):Int)) then some 1 else none))))
def iA (a0:Unit) (a1:List Int) (a2:List Int):Option (List Int×Bool) :=
 bif ((a1.length:Int) == 1) then must (0≤(0:Int)∧(0:Int) < (a1.length:Int)) (must (0≤w64 ((a2.length:Int) - 1)∧w64 ((a2.length:Int) - 1) < (a2.length:Int)) (some (([]:List Int),(idx a1 (0:Int) == idx a2 (w64 ((a2.length:Int) - 1)))))) else (some (([]:List Int),false))
def sJ (a0:List Int) (a1:List Int):Int→Option (Int ⊕ Bool)
 | a2=>bif decide (a2 < (a0.length:Int)) then must (0≤a2∧a2 < (a0.length:Int)) (must (0≤a2∧a2 < (a1.length:Int)) (bif (idx a0 a2 != idx a1 a2) then out (some false) else (some (.inl (w64 (a2 + 1)))))) else (out (some true))
def fH (a0:List Int) (a1:List Int):Option Bool :=
 bif ((a0.length:Int) != (a1.length:Int)) then some false else (iter (sJ a0 a1) 0)
def iN (a1:List Int) (a2:List Int) (a4:Bool):Option (List Int×Bool) :=
 bif a4 then some (([]:List Int),false) else (must (0≤(0:Int)∧(0:Int)≤(w64 ((a1.length:Int) - (a2.length:Int)))∧(w64 ((a1.length:Int) - (a2.length:Int)))≤(a1.length:Int)) ((gq (kg a1 (0:Int) (w64 ((a1.length:Int) - (a2.length:Int))))).bind fun a3=>some (a3,true)))
def eB (a0:Unit) (a1:List Int) (a2:List Int):Option (List Int×Bool) :=
 bif decide (w64 ((a1.length:Int) - (a2.length:Int)) < 0) then iN a1 a2 true else (must (0≤(w64 ((a1.length:Int) - (a2.length:Int)))∧(w64 ((a1.length:Int) - (a2.length:Int)))≤(a1.length:Int)∧(a1.length:Int)≤(a1.length:Int)) ((fH (kg a1 (w64 ((a1.length:Int) - (a2.length:Int))) (a1.length:Int)) a2).bind fun a3=>iN a1 a2 (!a3)))
def mV (a0:Int):Option Bool :=
 some (a0 != a0)
def om (a0:Int) (a1:Int):Option Bool :=
 (mV a0).bind fun y7=>bif y7 then (mV a1).bind fun a2=>bif !a2 then some true else (some (decide (a0 < a1))) else (some (decide (a0 < a1)))
def jI (a0:Int):Option Bool :=
 some (a0 != a0)
def jm (a2:Int) (a1:Int):Option ((Int×Int) ⊕ (Int×Bool)) :=
 some (.inl (a2,a1))
def jo (a0:List Int) (a1:Int):(Int×Int)→Option ((Int×Int) ⊕ (Int×Bool))
 | (a2,a3)=>bif decide (a2 < a3) then must (0≤(1:Int)∧(1:Int) < (far:Int)) (must (0≤w64 (fu .u64 (IntKind.wrap .u64 (w64 (a2 + a3))) (1:Int))∧w64 (fu .u64 (IntKind.wrap .u64 (w64 (a2 + a3))) (1:Int)) < (a0.length:Int)) ((om (idx a0 (w64 (fu .u64 (IntKind.wrap .u64 (w64 (a2 + a3))) (1:Int)))) a1).bind fun a6=>bif a6 then jm (w64 ((w64 (fu .u64 (IntKind.wrap .u64 (w64 (a2 + a3))) (1:Int))) + 1)) a3 else (jm a2 (w64 (fu .u64 (IntKind.wrap .u64 (w64 (a2 + a3))) (1:Int)))))) else (bif decide (a2 < (a0.length:Int)) then must (0≤a2∧a2 < (a0.length:Int)) (bif (idx a0 a2 == a1) then out (some (a2,true)) else ((jI (idx a0 a2)).bind fun a5=>bif a5 then (jI a1).bind fun a4=>out (some (a2,a4)) else (out (some (a2,false))))) else (out (some (a2,false))))
def bS (a0:List Int) (a1:Int):Option (Int×Bool) :=
 iter (jo a0 a1) (0,(a0.length:Int))
def jr (a0:List Int) (a1 a2:Int):Option (List Int) :=
 must (0≤a1∧a1≤a2∧a2≤(a0.length:Int)) (some (a0.take a1.toNat++a0.drop a2.toNat))
def kM (a2:List Int):(List Int×Int)→Option ((List Int×Int) ⊕ (List Int×Bool))
 | (a3,a1)=>bif decide (a1 < (a2.length:Int)) then must (0≤a1∧a1 < (a2.length:Int)) ((bS a3 (idx a2 a1)).bind fun a4=>bif !a4.2 then out (some (([]:List Int),false)) else ((jr a3 a4.1 (w64 (a4.1 + 1))).bind fun a5=>some (.inl (a5,w64 (a1 + 1))))) else (out (some (a3,true)))
def fw (a0:Unit) (a1:List Int) (a2:List Int):Option (List Int×Bool) :=
 (gq a1).bind fun y7=>iter (kM a2) (y7,0)
def iW (a2:List Int):(Int×Int)→Option ((Int×Int) ⊕ (List Int×Bool))
 | (a3,a1)=>bif decide (a1 < (a2.length:Int)) then must (0≤a1∧a1 < (a2.length:Int)) (some (.inl (w64 (a3 - (idx a2 a1)),w64 (a1 + 1)))) else (out (some (([a3]:List Int),true)))
def eD (a0:Unit) (a1:List Int) (a2:List Int):Option (List Int×Bool) :=
 must (0≤(0:Int)∧(0:Int) < (a1.length:Int)) (iter (iW a2) (idx a1 (0:Int),0))
def kD (a0:Int) (a1:List Int) (a2:List Int) (b9:Bool):Option (List Int×Bool) :=
 bif b9 then some (([]:List Int),false) else ((kI a0).bind fun a3=>bif (a3 == (280:Int)) then (iA () a1 a2).bind fun a6=>some (a6.1,a6.2) else (bif (a3 == (281:Int)) then (eB () a1 a2).bind fun a5=>some (a5.1,a5.2) else (bif (a3 == (282:Int)) then (fw () a1 a2).bind fun a7=>some (a7.1,a7.2) else (bif (a3 == (283:Int)) then (eD () a1 a2).bind fun a4=>some (a4.1,a4.2) else (bif (a3 == ((-1):Int)) then none else none)))))
def gU (a0:Int) (a1:List Int) (a2:List Int):Option (List Int×Bool) :=
 (kK a0 a1).bind fun a3=>bif (a3 != 0) then kD a0 a1 a2 true else (kD a0 a1 a2 ((a2.length:Int) == 0))
def iE (a2:Int) (a1:List Ask) (a3:List Spot) (a4:List (Int×(List Int))):Option ((List Ask×List Spot×(List (Int×(List Int)))×Int) ⊕ fq) :=
 some (.inl (a1,a3,a4,w64 (a2 + 1)))
def lJ (a1:History) (a2:Int) (a4:List Ask) (a5:List Spot) (a6:List (Int×(List Int))) (a3:Int) (a8:List Int) (a7:Bool):Option ((List Ask×List Spot×(List (Int×(List Int)))×Int) ⊕ fq) :=
 bif !a7 then must (((a5.length + 1) + (a5.length + 1) / 4 + 192) * 16≤281474976710656∧a5.length + 1≤9223372036854775807) (iE a3 a4 (a5++([(⟨a2,a3⟩:Spot)]:List Spot)) a6) else (must (((a4.length + 1) + (a4.length + 1) / 4 + 192) * 48≤281474976710656∧a4.length + 1≤9223372036854775807) (iE a3 (a4++([(⟨a2,a3,(idx ((idx a1.Txns a2).Ops) a3).Key,a8⟩:Ask)]:List Ask)) a5 a6))
def lK (a1:History) (a2:Int) (a6:List Ask) (a7:List Spot) (a4:List (Int×(List Int))) (a5:Int) (a3:List Int×Bool) (a8:Bool):Option ((List Ask×List Spot×(List (Int×(List Int)))×Int) ⊕ fq) :=
 bif a8 then iE a5 a6 a7 a4 else (lJ a1 a2 a6 a7 a4 a5 a3.1 a3.2)
def pO (a1:History) (a2:Int):(List Ask×List Spot×(List (Int×(List Int)))×Int)→Option ((List Ask×List Spot×(List (Int×(List Int)))×Int) ⊕ fq)
 | (a5,a6,a4,a3)=>bif decide (a3 < (((idx a1.Txns a2).Ops).length:Int)) then must (0≤a3∧a3 < (((idx a1.Txns a2).Ops).length:Int)) (bif decide ((idx ((idx a1.Txns a2).Ops) a3).Kind≤4) then must (((((mat a4 ((idx ((idx a1.Txns a2).Ops) a3).Key)).length) + 1) + (((mat a4 ((idx ((idx a1.Txns a2).Ops) a3).Key)).length) + 1) / 4 + 192) * 8≤281474976710656∧((mat a4 ((idx ((idx a1.Txns a2).Ops) a3).Key)).length) + 1≤9223372036854775807) (iE a3 a5 a6 (fC a4 ((idx ((idx a1.Txns a2).Ops) a3).Key) ((mat a4 ((idx ((idx a1.Txns a2).Ops) a3).Key))++([(idx ((idx a1.Txns a2).Ops) a3).Arg]:List Int)))) else ((gq ((idx ((idx a1.Txns a2).Ops) a3).Vals)).bind fun a8=>bif decide (((mat a4 ((idx ((idx a1.Txns a2).Ops) a3).Key)).length:Int) > 0) then (gU (w64 (((idx ((idx a1.Txns a2).Ops) a3).Kind) - 4)) ((idx ((idx a1.Txns a2).Ops) a3).Vals) (mat a4 ((idx ((idx a1.Txns a2).Ops) a3).Key))).bind fun a7=>bif a7.2 then lK a1 a2 a5 a6 a4 a3 a7 ((idx ((idx a1.Txns a2).Ops) a3).Kind == 5) else (lK a1 a2 a5 a6 a4 a3 a7 false) else (lJ a1 a2 a5 a6 a4 a3 a8 true))) else (out (some (⟨a5,a6⟩:fq)))
def bq (a0:fq) (a1:History) (a2:Int):Option fq :=
 must (0≤a2∧a2 < (a1.Txns.length:Int)) (bif ((idx a1.Txns a2).Status != 1) then some a0 else (iter (pO a1 a2) (a0.asks,a0.bad,[],0)))
def ym (a0:History):(List Ask×List Spot×Int)→Option ((List Ask×List Spot×Int) ⊕ (fq×Int))
 | (a2,a3,a1)=>bif decide (a1 < (a0.Txns.length:Int)) then (bq (⟨a2,a3⟩:fq) a0 a1).bind fun a4=>some (.inl (a4.asks,a4.bad,w64 (a1 + 1))) else (out (some ((⟨a2,a3⟩:fq),0)))
def lV (a0:History):Option (fq×Int) :=
 (aC a0).bind fun a1=>bif (a1 != 0) then some ((⟨([]:List Ask),([]:List Spot)⟩:fq),a1) else (iter (ym a0) ([],[],0))
def jJ (a0:History):Option (List Ask×Int) :=
 (lV a0).bind fun a1=>some (a1.1.asks,a1.2)
def xn (a0:History) (a1:Int) (a3:Int):Int→Option (Int ⊕ (Int ⊕ Int))
 | a2=>bif decide (a2 < (((idx a0.Txns a3).Ops).length:Int)) then must (0≤a2∧a2 < (((idx a0.Txns a3).Ops).length:Int)) (bif ((idx ((idx a0.Txns a3).Ops) a2).Key == a1) then (oP ((idx ((idx a0.Txns a3).Ops) a2).Kind)).bind fun a4=>out (out (some a4)) else (some (.inl (w64 (a2 + 1))))) else (out (some (.inl (w64 (a3 + 1)))))
def xq (a0:History) (a1:Int):Int→Option (Int ⊕ Int)
 | a2=>bif decide (a2 < (a0.Txns.length:Int)) then must (0≤a2∧a2 < (a0.Txns.length:Int)) (iter (xn a0 a1 a2) 0) else (out (some 0))
def fI (a0:History) (a1:Int):Option Int :=
 (aC a0).bind fun y8=>bif (y8 != 0) then some 0 else (iter (xq a0 a1) 0)
def rA (a2:Int) (a1:List Int):Option ((List Int×Int) ⊕ (List Int)) :=
 some (.inl (a1,w64 (a2 + 1)))
def rC (a0:Txn) (a1:List Int) (a2:Int) (a3:Bool):Option ((List Int×Int) ⊕ (List Int)) :=
 bif a3 then must (((a1.length + 1) + (a1.length + 1) / 4 + 192) * 8≤281474976710656∧a1.length + 1≤9223372036854775807) (rA a2 (a1++([(idx a0.Ops a2).Arg]:List Int))) else (rA a2 a1)
def vM (a0:Txn) (a1:Int):(List Int×Int)→Option ((List Int×Int) ⊕ (List Int))
 | (a3,a2)=>bif decide (a2 < (a0.Ops.length:Int)) then must (0≤a2∧a2 < (a0.Ops.length:Int)) (bif ((idx a0.Ops a2).Key == a1) then rC a0 a3 a2 (decide ((idx a0.Ops a2).Kind≤4)) else (rC a0 a3 a2 false)) else (out (some a3))
def eH (a0:Txn) (a1:Int):Option (List Int) :=
 iter (vM a0 a1) ([],0)
def oo (a0:History) (a1:Int) (a2:Int) (a4:Bool):Option (List Int×Bool) :=
 bif a4 then some (([]:List Int),false) else (must (0≤a1∧a1 < (a0.Txns.length:Int)) ((eH (idx a0.Txns a1) a2).bind fun a3=>some (a3,decide ((a3.length:Int) > 0))))
def ja (a0:History) (a1:Int) (a2:Int):Option (List Int×Bool) :=
 bif decide (a1 < 0) then oo a0 a1 a2 true else (bif decide (a1 ≥ (a0.Txns.length:Int)) then oo a0 a1 a2 true else ((aC a0).bind fun a3=>oo a0 a1 a2 (a3 != 0)))
def oU (a1:Int) (a2:List Int):Option ((List Int×Int) ⊕ (List Int)) :=
 some (.inl (a2,w64 (a1 + 1)))
def oV (a1:List Int) (a2:Int) (a3:Bool):Option ((List Int×Int) ⊕ (List Int)) :=
 bif a3 then must (((a1.length + 1) + (a1.length + 1) / 4 + 192) * 8≤281474976710656∧a1.length + 1≤9223372036854775807) (oU a2 (a1++([a2]:List Int))) else (oU a2 a1)
def sW (a0:History) (a1:Int):(List Int×Int)→Option ((List Int×Int) ⊕ (List Int))
 | (a3,a2)=>bif decide (a2 < (a0.Txns.length:Int)) then must (0≤a2∧a2 < (a0.Txns.length:Int)) (bif ((idx a0.Txns a2).Status != 2) then (eH (idx a0.Txns a2) a1).bind fun a4=>oV a3 a2 (decide ((a4.length:Int) > 0)) else (oV a3 a2 false)) else (out (some a3))
def dQ (a0:History) (a1:Int):Option (List Int) :=
 (aC a0).bind fun y8=>bif (y8 != 0) then some ([]:List Int) else (iter (sW a0 a1) ([],0))
def oW (a1:Int) (a2:List aN):Option ((List aN×Int) ⊕ (List aN)) :=
 some (.inl (a2,w64 (a1 + 1)))
def oZ (a5:List Int) (a1:List aN) (a2:Int) (a4:List Int×Bool) (a3:Bool):Option ((List aN×Int) ⊕ (List aN)) :=
 bif a3 then must (((a1.length + 1) + (a1.length + 1) / 4 + 192) * 32≤281474976710656∧a1.length + 1≤9223372036854775807) (oW a2 (a1++([(⟨idx a5 a2,a4.1⟩:aN)]:List aN))) else (oW a2 a1)
def sZ (a0:History) (a1:Ask) (a3:List Int):(List aN×Int)→Option ((List aN×Int) ⊕ (List aN))
 | (a4,a2)=>bif decide (a2 < (a3.length:Int)) then must (0≤a2∧a2 < (a3.length:Int)) ((ja a0 (idx a3 a2) a1.Key).bind fun a5=>bif a5.2 then oZ a3 a4 a2 a5 (idx a3 a2 != a1.Txn) else (oZ a3 a4 a2 a5 false)) else (out (some a4))
def cZ (a0:History) (a1:Ask):Option (List aN) :=
 (dQ a0 a1.Key).bind fun a2=>iter (sZ a0 a1 a2) ([],0)
def pQ (a0:List Int) (a1:Int):Int→Option (Int ⊕ Int)
 | a2=>bif decide (a2 < (a0.length:Int)) then must (0≤a2∧a2 < (a0.length:Int)) (bif (a1 == idx a0 a2) then out (some a2) else (some (.inl (w64 (a2 + 1))))) else (out (some (-1)))
def slices_Index_int (a0:List Int) (a1:Int):Option Int :=
 iter (pQ a0 a1) 0
def slices_Contains_int (a0:List Int) (a1:Int):Option Bool :=
 (slices_Index_int a0 a1).bind fun y3=>some (decide (y3 ≥ 0))
def tY (a0:aN) (a1:List Int):Option Bool :=
 must (0≤(0:Int)∧(0:Int) < (a0.args.length:Int)) (must (0≤(0:Int)∧(0:Int) < (a1.length:Int)) (some (idx a0.args (0:Int) == idx a1 (0:Int))))
def fZ (a0:List aN) (a1c0:List Int):Int→Option (Int ⊕ Int)
 | a1=>bif decide (a1 < (a0.length:Int)) then must (0≤a1∧a1 < (a0.length:Int)) ((tY (idx a0 a1) a1c0).bind fun a2=>bif a2 then out (some a1) else (some (.inl (w64 (a1 + 1))))) else (out (some (-1)))
def bL (a0:List aN) (a1c0:List Int):Option Int :=
 iter (fZ a0 a1c0) 0
def lW (a1:List aN) (a3:List Int) (a4:List Int) (a2:Int) (a5:Bool):Option ((List Int×List Int) ⊕ (List Int×Bool)) :=
 bif a5 then out (some (([]:List Int),false)) else (must (0≤a2∧a2 < (a1.length:Int)) (must (((a4.length + 1) + (a4.length + 1) / 4 + 192) * 8≤281474976710656∧a4.length + 1≤9223372036854775807) (must (0≤(((idx a1 a2).args).length:Int)∧(((idx a1 a2).args).length:Int)≤(a3.length:Int)∧(a3.length:Int)≤(a3.length:Int)) (some (.inl (kg a3 (((idx a1 a2).args).length:Int) (a3.length:Int),a4++([(idx a1 a2).txn]:List Int)))))))
def rD (a1:List aN):(List Int×List Int)→Option ((List Int×List Int) ⊕ (List Int×Bool))
 | (a3,a4)=>bif decide ((a3.length:Int) > 0) then (bL a1 a3).bind fun a2=>bif decide (a2 < 0) then lW a1 a3 a4 a2 true else (must (0≤a2∧a2 < (a1.length:Int)) (bif decide ((((idx a1 a2).args).length:Int) > (a3.length:Int)) then lW a1 a3 a4 a2 true else (must (0≤(0:Int)∧(0:Int)≤(((idx a1 a2).args).length:Int)∧(((idx a1 a2).args).length:Int)≤(a3.length:Int)) ((fH ((idx a1 a2).args) (kg a3 (0:Int) (((idx a1 a2).args).length:Int))).bind fun a6=>bif !a6 then lW a1 a3 a4 a2 true else ((slices_Contains_int a4 ((idx a1 a2).txn)).bind fun a5=>lW a1 a3 a4 a2 a5))))) else (out (some (a4,true)))
def fo (a0:List Int) (a1:List aN):Option (List Int×Bool) :=
 iter (rD a1) (a0,[])
def tZ (a1:Int) (a3:List Int) (a2:List (Int×Unit)):Option ((List Int×(List (Int×Unit))×Int) ⊕ (((List (Int×Unit))×Int) ⊕ (List Int×Bool))) :=
 some (.inl (a3,a2,w64 (a1 + 1)))
def uf (a3:Int) (a1:List (Int×Unit)) (a2:Int):Option (((List (Int×Unit))×Int×Int) ⊕ ((List Int×(List (Int×Unit))×Int) ⊕ (((List (Int×Unit))×Int) ⊕ (List Int×Bool)))) :=
 some (.inl (a1,a2,w64 (a3 + 1)))
def ug (a1:List aN) (a2:List Int) (a3:Int) (a4:List (Int×Unit)) (a5:Int) (a6:Bool):Option (((List (Int×Unit))×Int×Int) ⊕ ((List Int×(List (Int×Unit))×Int) ⊕ (((List (Int×Unit))×Int) ⊕ (List Int×Bool)))) :=
 bif a6 then out (out (out (some (([]:List Int),false)))) else (bif decide (a5 > 0) then must (((a2.length + 1) + (a2.length + 1) / 4 + 192) * 8≤281474976710656∧a2.length + 1≤9223372036854775807) (out (tZ a3 (a2++([(idx a1 a3).txn]:List Int)) a4)) else (out (tZ a3 a2 a4)))
def xu (a1:List aN) (a6:List Int) (a3:Int):((List (Int×Unit))×Int×Int)→Option (((List (Int×Unit))×Int×Int) ⊕ ((List Int×(List (Int×Unit))×Int) ⊕ (((List (Int×Unit))×Int) ⊕ (List Int×Bool))))
 | (a5,a4,a2)=>bif decide (a2 < (((idx a1 a3).args).length:Int)) then must (0≤a2∧a2 < (((idx a1 a3).args).length:Int)) (bif iR a5 (idx ((idx a1 a3).args) a2) then uf a2 (EC a5 (idx ((idx a1 a3).args) a2)) (w64 (a4 + 1)) else (uf a2 a5 a4)) else (bif decide (a4 > 0) then ug a1 a6 a3 a5 a4 (decide (a4 < (((idx a1 a3).args).length:Int))) else (ug a1 a6 a3 a5 a4 false))
def xw (a1:List aN):(List Int×(List (Int×Unit))×Int)→Option ((List Int×(List (Int×Unit))×Int) ⊕ (((List (Int×Unit))×Int) ⊕ (List Int×Bool)))
 | (a3,a4,a2)=>bif decide (a2 < (a1.length:Int)) then must (0≤a2∧a2 < (a1.length:Int)) (iter (xu a1 a3 a2) (a4,0,0)) else (bif decide ((a4.length:Int) > 0) then out (out (some (([]:List Int),false))) else (out (out (some (a3,true)))))
def xx (a0:List Int) (a1:List aN):((List (Int×Unit))×Int)→Option (((List (Int×Unit))×Int) ⊕ (List Int×Bool))
 | (a3,a2)=>bif decide (a2 < (a0.length:Int)) then must (0≤a2∧a2 < (a0.length:Int)) (some (.inl (fC a3 (idx a0 a2) (),w64 (a2 + 1)))) else (iter (xw a1) ([],a3,0))
def dn (a0:List Int) (a1:List aN):Option (List Int×Bool) :=
 iter (xx a0 a1) ([],0)
def gV (a0:History) (a1:Ask):Option (List Int×Bool) :=
 (fI a0 a1.Key).bind fun a3=>bif (a3 == 2) then (cZ a0 a1).bind fun a6=>(fo a1.Base a6).bind fun a2=>some (a2.1,a2.2) else (bif (a3 == 3) then (cZ a0 a1).bind fun a5=>(dn a1.Base a5).bind fun a4=>some (a4.1,a4.2) else (some (([]:List Int),false)))
def pR (a0:Int) (a2:Int) (a3:List aN) (a4:Int) (rec:Int→Int→Int→(List aN)→Int→Int→Option Int) (a6:Int):(Int×Int)→Option ((Int×Int) ⊕ Int)
 | (a5,a1)=>bif decide (a1 < (((idx a3 a0).args).length:Int)) then must (0≤a1∧a1 < (((idx a3 a0).args).length:Int)) (some (.inl (w64 (a5 + (idx ((idx a3 a0).args) a1)),w64 (a1 + 1)))) else (must (0≤a0∧a0 < (far:Int)) ((rec (w64 (a0 + 1)) a5 (bOr .u64 a2 (EA .u64 1 a0)) a3 a4 a6).bind fun a7=>out (some a7)))
def jU (rec:Int→Int→Int→(List aN)→Int→Int→Option Int) (a0:Int) (a1:Int) (a2:Int) (a3:List aN) (a4:Int) (a5:Int):Option Int :=
 bif (a0 == (a3.length:Int)) then bif (a1 == a4) then some (bOr .u64 a5 a2) else (some a5) else ((rec (w64 (a0 + 1)) a1 a2 a3 a4 a5).bind fun a6=>must (0≤a0∧a0 < (a3.length:Int)) (iter (pR a0 a2 a3 a4 rec a6) (a1,0)))
def gL:Nat→Int→Int→Int→(List aN)→Int→Int→Option Int
 | 0=>fun _ _ _ _ _ _=>none
 | k + 1=>jU (gL k)
def bH (a0:Int) (a1:Int) (a2:Int) (a3:List aN) (a4:Int) (a5:Int):Option Int:=gL 64 a0 a1 a2 a3 a4 a5
def nL (a1:Int) (a2:List Int):Option ((List Int×Int) ⊕ (List Int)) :=
 some (.inl (a2,w64 (a1 + 1)))
def rE (a1:List aN) (a4:Int):(List Int×Int)→Option ((List Int×Int) ⊕ (List Int))
 | (a3,a2)=>bif decide (a2 < (a1.length:Int)) then must (0≤a2∧a2 < (a1.length:Int)) (must (0≤a2∧a2 < (far:Int)) (bif (cK .u64 (fu .u64 a4 a2) 1 == 1) then must (((a3.length + 1) + (a3.length + 1) / 4 + 192) * 8≤281474976710656∧a3.length + 1≤9223372036854775807) (nL a2 (a3++([(idx a1 a2).txn]:List Int))) else (nL a2 a3))) else (out (some a3))
def eU (a0:Int) (a1:List aN):Option (List Int) :=
 (bH 0 0 0 a1 a0 0).bind fun a2=>iter (rE a1 a2) ([],0)
def fU (a1:List Int):Option (List Int) :=
 some a1
def nM (a0:History) (a1:Ask) (a2:List Int):Option (List Int) :=
 must (0≤(0:Int)∧(0:Int) < (a1.Base.length:Int)) ((cZ a0 a1).bind fun a4=>(eU (idx a1.Base (0:Int)) a4).bind fun a3=>must (((a2.length + a3.length) + (a2.length + a3.length) / 4 + 192) * 8≤281474976710656∧a2.length + a3.length≤9223372036854775807) (fU (a2++a3)))
def nN (a1:Int) (a2:List Int):Option ((List Int×Int) ⊕ (List Int)) :=
 some (.inl (a2,w64 (a1 + 1)))
def nO (a1:Ask) (a3:List aN):(List Int×Int)→Option ((List Int×Int) ⊕ (List Int))
 | (a4,a2)=>bif decide (a2 < (a3.length:Int)) then must (0≤a2∧a2 < (a3.length:Int)) (must (0≤w64 ((((idx a3 a2).args).length:Int) - 1)∧w64 ((((idx a3 a2).args).length:Int) - 1) < (((idx a3 a2).args).length:Int)) (must (0≤(0:Int)∧(0:Int) < (a1.Base.length:Int)) (bif (idx ((idx a3 a2).args) (w64 ((((idx a3 a2).args).length:Int) - 1)) == idx a1.Base (0:Int)) then must (((a4.length + 1) + (a4.length + 1) / 4 + 192) * 8≤281474976710656∧a4.length + 1≤9223372036854775807) (nN a2 (a4++([(idx a3 a2).txn]:List Int))) else (nN a2 a4)))) else (out (fU a4))
def aX (a0:History) (a1:Ask):Option (List Int) :=
 (fI a0 a1.Key).bind fun a3=>bif (a3 == 4) then must (0≤(0:Int)∧(0:Int) < (a1.Base.length:Int)) (bif (idx a1.Base (0:Int) == 0) then must (((0 + 1) + (0 + 1) / 4 + 192) * 8≤281474976710656∧0 + 1≤9223372036854775807) (nM a0 a1 (([]:List Int)++([(-1)]:List Int))) else (nM a0 a1 [])) else (bif ((a1.Base.length:Int) == 0) then fU ([(-1)]:List Int) else (bif (a3 == 1) then (cZ a0 a1).bind fun a5=>iter (nO a1 a5) ([],0) else (bif (a3 == 2) then (gV a0 a1).bind fun a2=>bif a2.2 then must (0≤(w64 ((a2.1.length:Int) - 1))∧(w64 ((a2.1.length:Int) - 1))≤(a2.1.length:Int)∧(a2.1.length:Int)≤(a2.1.length:Int)) (fU (kg a2.1 (w64 ((a2.1.length:Int) - 1)) (a2.1.length:Int))) else (fU []) else ((gV a0 a1).bind fun a4=>fU a4.1))))
def oq (a0:Ask) (a1:Ask):Option Bool :=
 bif (a1.Txn == a0.Txn) then bif (a1.Place == a0.Place) then bif (a1.Key == a0.Key) then (fH a1.Base a0.Base).bind fun a2=>some a2 else (some false) else (some false) else (some false)
def gu (a0:List Ask) (a1c0:Ask):Int→Option (Int ⊕ Int)
 | a1=>bif decide (a1 < (a0.length:Int)) then must (0≤a1∧a1 < (a0.length:Int)) ((oq (idx a0 a1) a1c0).bind fun a2=>bif a2 then out (some a1) else (some (.inl (w64 (a1 + 1))))) else (out (some (-1)))
def bN (a0:List Ask) (a1c0:Ask):Option Int :=
 iter (gu a0 a1c0) 0
def dV (a0:List Ask) (a1c0:Ask):Option Bool :=
 (bN a0 a1c0).bind fun y3=>some (decide (y3 ≥ 0))
def pg (a0:History) (a1:Ask):Option Int :=
 (jJ a0).bind fun y9=>bif (y9.2 != 0) then some y9.2 else ((dV y9.1 a1).bind fun a2=>bif a2 then some 0 else (some 1))
def ou (a0:History) (a1:Ask):Option (List Int×Int) :=
 (pg a0 a1).bind fun a2=>bif (a2 != 0) then some (([]:List Int),a2) else ((aX a0 a1).bind fun a3=>some (a3,0))
def rF (a0:History) (a1:Ask):Option (List Int×Bool×Int) :=
 (pg a0 a1).bind fun a2=>bif (a2 != 0) then some (([]:List Int),false,a2) else ((gV a0 a1).bind fun a3=>some (a3.1,a3.2,0))
def iG (a0:aD) (a1:Int):Option Bool :=
 must (0≤a1∧a1 < (a0.h.Txns.length:Int)) (some ((idx a0.h.Txns a1).Status == 1))
def fM (a0:aD) (a1:Int) (a2:Int) (a3:Int) (a4:Int):Option aD :=
 must (((a0.edges.length + 1) + (a0.edges.length + 1) / 4 + 192) * 32≤281474976710656∧a0.edges.length + 1≤9223372036854775807) (some (⟨a0.h,a0.asks,a0.edges++([(⟨a1,a2,a3,a4⟩:Edge)]:List Edge)⟩:aD))
def jA (a2:Int) (a1:List Int) (a3:List (Int×Int)):Option ((List Int×(List (Int×Int))×Int) ⊕ aD) :=
 some (.inl (a1,a3,w64 (a2 - 1)))
def jB (a0:aD) (a2:List (Int×Int)) (a1:Int) (a3:List Int):Option ((List Int×(List (Int×Int))×Int) ⊕ aD) :=
 must (0≤a1∧a1 < (a0.h.Txns.length:Int)) (jA a1 a3 (fC a2 ((idx a0.h.Txns a1).Proc) a1))
def jC (a2:Int) (a1:List Edge):Option ((List Edge×Int) ⊕ ((List Int×(List (Int×Int))×Int) ⊕ aD)) :=
 some (.inl (a1,w64 (a2 + 1)))
def jD (a0:aD) (a2:List Int):(List Edge×Int)→Option ((List Edge×Int) ⊕ ((List Int×(List (Int×Int))×Int) ⊕ aD))
 | (a3,a1)=>bif decide (a1 < (a2.length:Int)) then must (0≤a1∧a1 < (a2.length:Int)) (bif decide (idx a2 a1 ≥ 0) then (fM (⟨a0.h,a0.asks,a3⟩:aD) a1 (idx a2 a1) 1 (-1)).bind fun a4=>jC a1 a4.edges else (jC a1 a3)) else (out (out (some (⟨a0.h,a0.asks,a3⟩:aD))))
def jE (a0:aD):(List Int×(List (Int×Int))×Int)→Option ((List Int×(List (Int×Int))×Int) ⊕ aD)
 | (a2,a3,a1)=>bif decide (a1 ≥ 0) then must (0≤a1∧a1 < (a2.length:Int)) ((iG a0 a1).bind fun a4=>bif !a4 then jA a1 (a2.set a1.toNat (-1)) a3 else (must (0≤a1∧a1 < (a0.h.Txns.length:Int)) (bif iR a3 ((idx a0.h.Txns a1).Proc) then must (0≤a1∧a1 < ((a2.set a1.toNat (-1)).length:Int)) (jB a0 a3 a1 ((a2.set a1.toNat (-1)).set a1.toNat (mat a3 ((idx a0.h.Txns a1).Proc)))) else (jB a0 a3 a1 (a2.set a1.toNat (-1)))))) else (iter (jD a0 a2) (a0.edges,0))
def aM (a0:aD):Option aD :=
 must (0≤(a0.h.Txns.length:Int)∧(a0.h.Txns.length:Int)≤9223372036854775807∧(8:Int) * (a0.h.Txns.length:Int)≤281474976710656) (iter (jE a0) (List.replicate (a0.h.Txns.length:Int).toNat (default:Int),[],w64 (((a0.h.Txns.length:Int).toNat:Int) - 1)))
def mF (a2:Int) (a1:List Edge):Option ((List Edge×Int) ⊕ ((List Edge×Int) ⊕ aD)) :=
 some (.inl (a1,w64 (a2 + 1)))
def jK (a0:aD) (a5:Int) (a2:List Edge) (a1:Int) (a4:Bool):Option ((List Edge×Int) ⊕ ((List Edge×Int) ⊕ aD)) :=
 bif a4 then (fM (⟨a0.h,a0.asks,a2⟩:aD) a5 a1 2 (-1)).bind fun a3=>mF a1 a3.edges else (mF a1 a2)
def qD (a0:aD) (a2:Int):(List Edge×Int)→Option ((List Edge×Int) ⊕ ((List Edge×Int) ⊕ aD))
 | (a3,a1)=>bif decide (a1 < (a0.h.Txns.length:Int)) then must (0≤a1∧a1 < (a0.h.Txns.length:Int)) ((iG (⟨a0.h,a0.asks,a3⟩:aD) a2).bind fun a5=>bif a5 then (iG (⟨a0.h,a0.asks,a3⟩:aD) a1).bind fun a4=>bif a4 then jK a0 a2 a3 a1 (decide ((idx a0.h.Txns a2).To < (idx a0.h.Txns a1).From)) else (jK a0 a2 a3 a1 false) else (jK a0 a2 a3 a1 false)) else (out (some (.inl (a3,w64 (a2 + 1)))))
def qE (a0:aD):(List Edge×Int)→Option ((List Edge×Int) ⊕ aD)
 | (a2,a1)=>bif decide (a1 < (a0.h.Txns.length:Int)) then must (0≤a1∧a1 < (a0.h.Txns.length:Int)) (iter (qD a0 a1) (a2,0)) else (out (some (⟨a0.h,a0.asks,a2⟩:aD)))
def bQ (a0:aD):Option aD :=
 iter (qE a0) (a0.edges,0)
def jG (a0:Int) (a1:aI) (a2:aD):Option Bool :=
 bif (a0 == a1.Ask.Txn) then some true else ((iG a2 a0).bind fun y5=>some (!y5))
def kE (a0:aI) (a1:Int):Option Bool :=
 bif ((a0.sources.length:Int) == 1) then must (0≤(0:Int)∧(0:Int) < (a0.sources.length:Int)) (some (idx a0.sources (0:Int) == a1)) else (some false)
def kN (a0:aI) (a1:Int) (a2:aI):Option Bool :=
 bif (a0.Ask.Txn == a1) then bif (a0.Ask.Key == a2.Ask.Key) then must (0≤(0:Int)∧(0:Int) < (a2.sources.length:Int)) ((kE a0 (idx a2.sources (0:Int))).bind fun a3=>some a3) else (some false) else (some false)
def fB (a0:List aI) (a1c0:Int) (a1c1:aI):Int→Option (Int ⊕ Int)
 | a1=>bif decide (a1 < (a0.length:Int)) then must (0≤a1∧a1 < (a0.length:Int)) ((kN (⟨((idx a0 a1).Ask),(idx a0 a1).sources,(idx a0 a1).parts,(idx a0 a1).made,(idx a0 a1).kind⟩:aI) a1c0 a1c1).bind fun a2=>bif a2 then out (some a1) else (some (.inl (w64 (a1 + 1))))) else (out (some (-1)))
def bn (a0:List aI) (a1c0:Int) (a1c1:aI):Option Int :=
 iter (fB a0 a1c0 a1c1) 0
def dD (a0:List aI) (a1c0:Int) (a1c1:aI):Option Bool :=
 (bn a0 a1c0 a1c1).bind fun y3=>some (decide (y3 ≥ 0))
def gX (a0:aD) (a1:aI) (a2:Int) (a4:Bool):Option Bool :=
 bif a4 then some false else ((dD a0.asks a2 a1).bind fun a3=>some a3)
def eT (a0:aD) (a1:aI) (a2:Int):Option Bool :=
 (kE a1 (-1)).bind fun a4=>bif a4 then some true else (bif a1.made then (slices_Contains_int a1.parts a2).bind fun a3=>some (!a3) else (bif (a1.kind != 1) then gX a0 a1 a2 true else (bif ((a1.sources.length:Int) != 1) then gX a0 a1 a2 true else (must (0≤(0:Int)∧(0:Int) < (a1.sources.length:Int)) (gX a0 a1 a2 (idx a1.sources (0:Int) == a2))))))
def fQ (a0:List Int) (a1c0:aI) (a1c1:aD):Int→Option (Int ⊕ Int)
 | a1=>bif decide (a1 < (a0.length:Int)) then must (0≤a1∧a1 < (a0.length:Int)) ((jG (idx a0 a1) a1c0 a1c1).bind fun a2=>bif a2 then out (some a1) else (some (.inl (w64 (a1 + 1))))) else (out (some (-1)))
def bI (a0:List Int) (a1c0:aI) (a1c1:aD):Option Int :=
 iter (fQ a0 a1c0 a1c1) 0
def fO (a0:List Int) (a1c0:aI) (a1c1:aD):List Int×Int→Option ((List Int×Int) ⊕ List Int)
 | (l,x)=>bif decide (x < (a0.length:Int)) then must (0≤x∧x < (a0.length:Int)) ((jG (idx a0 x) a1c0 a1c1).bind fun y=>bif !y then (some (.inl (l++[idx a0 x],w64 (x + 1)))) else (some (.inl (l,w64 (x + 1))))) else (out (some l))
def bE (a0:List Int) (a1c0:aI) (a1c1:aD):Option (List Int) :=
 (bI a0 a1c0 a1c1).bind fun i=>bif i == -1 then some a0 else must (0≤i∧i < (a0.length:Int)) (iter (fO a0 a1c0 a1c1) (a0.take i.toNat,w64 (i + 1)))
def nP (a1:Int) (a2:List Edge):Option ((List Edge×Int) ⊕ aD) :=
 some (.inl (a2,w64 (a1 + 1)))
def rG (a0:aD) (a1:aI) (a3:List Int):(List Edge×Int)→Option ((List Edge×Int) ⊕ aD)
 | (a4,a2)=>bif decide (a2 < (a3.length:Int)) then must (0≤a2∧a2 < (a3.length:Int)) ((eT (⟨a0.h,a0.asks,a4⟩:aD) a1 (idx a3 a2)).bind fun a5=>bif a5 then (fM (⟨a0.h,a0.asks,a4⟩:aD) a1.Ask.Txn (idx a3 a2) 16 a1.Ask.Key).bind fun a6=>nP a2 a6.edges else (nP a2 a4)) else (out (some (⟨a0.h,a0.asks,a4⟩:aD)))
def jf (a0:aD) (a1:aI) (a3:List Int) (a2:List Edge):Option aD :=
 iter (rG a0 a1 a3) (a2,0)
def kP (a2:Int) (a1:List Edge):Option ((List Edge×Int) ⊕ aD) :=
 some (.inl (a1,w64 (a2 + 1)))
def nQ (a2:Int) (a1:List Edge):Option ((List Edge×Int) ⊕ ((List Edge×Int) ⊕ aD)) :=
 some (.inl (a1,w64 (a2 + 1)))
def nR (a0:aD) (a1:aI) (a3:List Int) (a5:Int):(List Edge×Int)→Option ((List Edge×Int) ⊕ ((List Edge×Int) ⊕ aD))
 | (a4,a2)=>bif decide (a2 < (a3.length:Int)) then must (0≤a2∧a2 < (a3.length:Int)) ((slices_Contains_int a1.parts (idx a3 a2)).bind fun a7=>bif !a7 then (fM (⟨a0.h,a0.asks,a4⟩:aD) (idx a1.parts a5) (idx a3 a2) 8 a1.Ask.Key).bind fun a6=>nQ a2 a6.edges else (nQ a2 a4)) else (out (kP a5 a4))
def nS (a0:aD) (a1:aI) (a6:List Int) (a3:List Edge) (a2:Int) (a4:Bool):Option ((List Edge×Int) ⊕ aD) :=
 bif a4 then must (0≤w64 (a2 + 1)∧w64 (a2 + 1) < (a1.parts.length:Int)) ((fM (⟨a0.h,a0.asks,a3⟩:aD) (idx a1.parts a2) (idx a1.parts (w64 (a2 + 1))) 8 a1.Ask.Key).bind fun a5=>kP a2 a5.edges) else (iter (nR a0 a1 a6 a2) (a3,0))
def nT (a0:aD) (a1:aI) (a4:List Int):(List Edge×Int)→Option ((List Edge×Int) ⊕ aD)
 | (a3,a2)=>bif decide (a2 < (a1.parts.length:Int)) then must (0≤a2∧a2 < (a1.parts.length:Int)) (bif (a1.kind == 2) then nS a0 a1 a4 a3 a2 (decide (w64 (a2 + 1) < (a1.parts.length:Int))) else (nS a0 a1 a4 a3 a2 false)) else (out (jf a0 a1 a4 a3))
def iB (a0:aD) (a1:aI) (a2:List Edge):Option aD :=
 (dQ a0.h a1.Ask.Key).bind fun a4=>(bE a4 a1 (⟨a0.h,a0.asks,a2⟩:aD)).bind fun a3=>bif a1.made then iter (nT a0 a1 a3) (a2,0) else (jf a0 a1 a3 a2)
def gy (a0:aD) (a1:aI) (a3:Bool):Option aD :=
 bif a3 then must (0≤(0:Int)∧(0:Int) < (a1.sources.length:Int)) ((fM a0 (idx a1.sources (0:Int)) a1.Ask.Txn 4 a1.Ask.Key).bind fun a2=>iB a0 a1 a2.edges) else (iB a0 a1 a0.edges)
def ay (a0:aD) (a1:aI):Option aD :=
 bif ((a1.sources.length:Int) == 1) then must (0≤(0:Int)∧(0:Int) < (a1.sources.length:Int)) (gy a0 a1 (decide (idx a1.sources (0:Int) ≥ 0))) else (gy a0 a1 false)
def xy (a1:Int) (a2:List aI):Option ((List aI×Int) ⊕ (cz×Int)) :=
 some (.inl (a2,w64 (a1 + 1)))
def uh (a4:List Ask×Int) (a1:List aI) (a2:Int) (a7:Int) (a6:List Int×Int) (a3:List Int×Bool×Int) (a5:Bool):Option ((List aI×Int) ⊕ (cz×Int)) :=
 must (((a1.length + 1) + (a1.length + 1) / 4 + 192) * 112≤281474976710656∧a1.length + 1≤9223372036854775807) (xy a2 (a1++([(⟨(idx a4.1 a2),a6.1,a3.1,a5,a7⟩:aI)]:List aI)))
def xz (a0:History) (a2:List Ask×Int) (a6:List aI) (a1:Int) (a5:Int):Option ((List aI×Int) ⊕ (cz×Int)) :=
 (ou a0 (idx a2.1 a1)).bind fun a4=>(rF a0 (idx a2.1 a1)).bind fun a3=>bif a3.2.1 then uh a2 a6 a1 a5 a4 a3 (decide ((((idx a2.1 a1).Base).length:Int) > 0)) else (uh a2 a6 a1 a5 a4 a3 false)
def ui (a0:History) (a2:List aI):(List Edge×Int)→Option ((List Edge×Int) ⊕ ((List aI×Int) ⊕ (cz×Int)))
 | (a3,a1)=>bif decide (a1 < (a2.length:Int)) then must (0≤a1∧a1 < (a2.length:Int)) ((ay (⟨a0,a2,a3⟩:aD) (⟨((idx a2 a1).Ask),(idx a2 a1).sources,(idx a2 a1).parts,(idx a2 a1).made,(idx a2 a1).kind⟩:aI)).bind fun a4=>some (.inl (a4.edges,w64 (a1 + 1)))) else (out (out (some ((⟨(a0.Txns.length:Int),a3⟩:cz),0))))
def xA (a0:History) (a2:List Ask×Int):(List aI×Int)→Option ((List aI×Int) ⊕ (cz×Int))
 | (a3,a1)=>bif decide (a1 < (a2.1.length:Int)) then must (0≤a1∧a1 < (a2.1.length:Int)) ((fI a0 ((idx a2.1 a1).Key)).bind fun a5=>xz a0 a2 a3 a1 a5) else ((aM (⟨a0,a3,([]:List Edge)⟩:aD)).bind fun a6=>(bQ (⟨a0,a3,a6.edges⟩:aD)).bind fun a4=>iter (ui a0 a3) (a4.edges,0))
def dO (a0:History):Option (cz×Int) :=
 (jJ a0).bind fun a1=>bif (a1.2 != 0) then some ((⟨0,([]:List Edge)⟩:cz),a1.2) else (iter (xA a0 a1) ([],0))
def tq (a0:History):Option (List Spot×Int) :=
 (lV a0).bind fun a1=>some (a1.1.bad,a1.2)
def uo (a0:List Spot) (a1:Spot):Int→Option (Int ⊕ Int)
 | a2=>bif decide (a2 < (a0.length:Int)) then must (0≤a2∧a2 < (a0.length:Int)) (bif ((a1.Txn == (idx a0 a2).Txn) && ((a1.Place == (idx a0 a2).Place) && true)) then out (some a2) else (some (.inl (w64 (a2 + 1))))) else (out (some (-1)))
def jg (a0:List Spot) (a1:Spot):Option Int :=
 iter (uo a0 a1) 0
def ow (a0:List Spot) (a1:Spot):Option Bool :=
 (jg a0 a1).bind fun y5=>some (decide (y5 ≥ 0))
def lX (a0:Ask) (a1:History):Option Bool :=
 (aX a1 a0).bind fun y7=>some (decide ((y7.length:Int) > 0))
def gz (a0:List Ask) (a1c0:History):Int→Option (Int ⊕ Int)
 | a1=>bif decide (a1 < (a0.length:Int)) then must (0≤a1∧a1 < (a0.length:Int)) ((lX (idx a0 a1) a1c0).bind fun a2=>bif a2 then out (some a1) else (some (.inl (w64 (a1 + 1))))) else (out (some (-1)))
def bO (a0:List Ask) (a1c0:History):Option Int :=
 iter (gz a0 a1c0) 0
def gm (a0:List Ask) (a1c0:History):List Ask×Int→Option ((List Ask×Int) ⊕ List Ask)
 | (l,x)=>bif decide (x < (a0.length:Int)) then must (0≤x∧x < (a0.length:Int)) ((lX (idx a0 x) a1c0).bind fun y=>bif !y then (some (.inl (l++[idx a0 x],w64 (x + 1)))) else (some (.inl (l,w64 (x + 1))))) else (out (some l))
def bv (a0:List Ask) (a1c0:History):Option (List Ask) :=
 (bO a0 a1c0).bind fun i=>bif i == -1 then some a0 else must (0≤i∧i < (a0.length:Int)) (iter (gm a0 a1c0) (a0.take i.toNat,w64 (i + 1)))
def pq (a0:History):Option (List Ask×Int) :=
 (jJ a0).bind fun y7=>bif (y7.2 != 0) then some (([]:List Ask),y7.2) else ((bv y7.1 a0).bind fun a1=>some (a1,0))
def yn (a0:Ask) (a1:bY):Option Bool :=
 some ((a0.Txn == a1.Spot.Txn) && ((a0.Place == a1.Spot.Place) && true))
def nk (a0:Int) (a1:cz):Option Bool :=
 bif decide (a0 ≥ 0) then some (decide (a0 < a1.N)) else (some false)
def tu (a0:Int):Option Int :=
 must (0≤(1:Int)∧(1:Int) < (far:Int)) (must (0≤(2:Int)∧(2:Int) < (far:Int)) (must (0≤(4:Int)∧(4:Int) < (far:Int)) (must (0≤(8:Int)∧(8:Int) < (far:Int)) (must (0≤(16:Int)∧(16:Int) < (far:Int)) (must (0≤(32:Int)∧(32:Int) < (far:Int)) (some (cK .i64 (w64 (IntKind.wrap .u64 ((IntKind.wrap .u64 ((IntKind.wrap .u64 ((cK .u64 (IntKind.wrap .u64 ((fu .u64 (IntKind.wrap .u64 ((cK .u64 (fu .u64 (IntKind.wrap .u64 ((cK .u64 (fu .u64 a0 (1:Int)) 6148914691236517205) + (cK .u64 a0 6148914691236517205))) (2:Int)) 3689348814741910323) + (cK .u64 (IntKind.wrap .u64 ((cK .u64 (fu .u64 a0 (1:Int)) 6148914691236517205) + (cK .u64 a0 6148914691236517205))) 3689348814741910323))) (4:Int)) + (IntKind.wrap .u64 ((cK .u64 (fu .u64 (IntKind.wrap .u64 ((cK .u64 (fu .u64 a0 (1:Int)) 6148914691236517205) + (cK .u64 a0 6148914691236517205))) (2:Int)) 3689348814741910323) + (cK .u64 (IntKind.wrap .u64 ((cK .u64 (fu .u64 a0 (1:Int)) 6148914691236517205) + (cK .u64 a0 6148914691236517205))) 3689348814741910323))))) 1085102592571150095) + (fu .u64 (cK .u64 (IntKind.wrap .u64 ((fu .u64 (IntKind.wrap .u64 ((cK .u64 (fu .u64 (IntKind.wrap .u64 ((cK .u64 (fu .u64 a0 (1:Int)) 6148914691236517205) + (cK .u64 a0 6148914691236517205))) (2:Int)) 3689348814741910323) + (cK .u64 (IntKind.wrap .u64 ((cK .u64 (fu .u64 a0 (1:Int)) 6148914691236517205) + (cK .u64 a0 6148914691236517205))) 3689348814741910323))) (4:Int)) + (IntKind.wrap .u64 ((cK .u64 (fu .u64 (IntKind.wrap .u64 ((cK .u64 (fu .u64 a0 (1:Int)) 6148914691236517205) + (cK .u64 a0 6148914691236517205))) (2:Int)) 3689348814741910323) + (cK .u64 (IntKind.wrap .u64 ((cK .u64 (fu .u64 a0 (1:Int)) 6148914691236517205) + (cK .u64 a0 6148914691236517205))) 3689348814741910323))))) 1085102592571150095) (8:Int)))) + (fu .u64 (IntKind.wrap .u64 ((cK .u64 (IntKind.wrap .u64 ((fu .u64 (IntKind.wrap .u64 ((cK .u64 (fu .u64 (IntKind.wrap .u64 ((cK .u64 (fu .u64 a0 (1:Int)) 6148914691236517205) + (cK .u64 a0 6148914691236517205))) (2:Int)) 3689348814741910323) + (cK .u64 (IntKind.wrap .u64 ((cK .u64 (fu .u64 a0 (1:Int)) 6148914691236517205) + (cK .u64 a0 6148914691236517205))) 3689348814741910323))) (4:Int)) + (IntKind.wrap .u64 ((cK .u64 (fu .u64 (IntKind.wrap .u64 ((cK .u64 (fu .u64 a0 (1:Int)) 6148914691236517205) + (cK .u64 a0 6148914691236517205))) (2:Int)) 3689348814741910323) + (cK .u64 (IntKind.wrap .u64 ((cK .u64 (fu .u64 a0 (1:Int)) 6148914691236517205) + (cK .u64 a0 6148914691236517205))) 3689348814741910323))))) 1085102592571150095) + (fu .u64 (cK .u64 (IntKind.wrap .u64 ((fu .u64 (IntKind.wrap .u64 ((cK .u64 (fu .u64 (IntKind.wrap .u64 ((cK .u64 (fu .u64 a0 (1:Int)) 6148914691236517205) + (cK .u64 a0 6148914691236517205))) (2:Int)) 3689348814741910323) + (cK .u64 (IntKind.wrap .u64 ((cK .u64 (fu .u64 a0 (1:Int)) 6148914691236517205) + (cK .u64 a0 6148914691236517205))) 3689348814741910323))) (4:Int)) + (IntKind.wrap .u64 ((cK .u64 (fu .u64 (IntKind.wrap .u64 ((cK .u64 (fu .u64 a0 (1:Int)) 6148914691236517205) + (cK .u64 a0 6148914691236517205))) (2:Int)) 3689348814741910323) + (cK .u64 (IntKind.wrap .u64 ((cK .u64 (fu .u64 a0 (1:Int)) 6148914691236517205) + (cK .u64 a0 6148914691236517205))) 3689348814741910323))))) 1085102592571150095) (8:Int)))) (16:Int)))) + (fu .u64 (IntKind.wrap .u64 ((IntKind.wrap .u64 ((cK .u64 (IntKind.wrap .u64 ((fu .u64 (IntKind.wrap .u64 ((cK .u64 (fu .u64 (IntKind.wrap .u64 ((cK .u64 (fu .u64 a0 (1:Int)) 6148914691236517205) + (cK .u64 a0 6148914691236517205))) (2:Int)) 3689348814741910323) + (cK .u64 (IntKind.wrap .u64 ((cK .u64 (fu .u64 a0 (1:Int)) 6148914691236517205) + (cK .u64 a0 6148914691236517205))) 3689348814741910323))) (4:Int)) + (IntKind.wrap .u64 ((cK .u64 (fu .u64 (IntKind.wrap .u64 ((cK .u64 (fu .u64 a0 (1:Int)) 6148914691236517205) + (cK .u64 a0 6148914691236517205))) (2:Int)) 3689348814741910323) + (cK .u64 (IntKind.wrap .u64 ((cK .u64 (fu .u64 a0 (1:Int)) 6148914691236517205) + (cK .u64 a0 6148914691236517205))) 3689348814741910323))))) 1085102592571150095) + (fu .u64 (cK .u64 (IntKind.wrap .u64 ((fu .u64 (IntKind.wrap .u64 ((cK .u64 (fu .u64 (IntKind.wrap .u64 ((cK .u64 (fu .u64 a0 (1:Int)) 6148914691236517205) + (cK .u64 a0 6148914691236517205))) (2:Int)) 3689348814741910323) + (cK .u64 (IntKind.wrap .u64 ((cK .u64 (fu .u64 a0 (1:Int)) 6148914691236517205) + (cK .u64 a0 6148914691236517205))) 3689348814741910323))) (4:Int)) + (IntKind.wrap .u64 ((cK .u64 (fu .u64 (IntKind.wrap .u64 ((cK .u64 (fu .u64 a0 (1:Int)) 6148914691236517205) + (cK .u64 a0 6148914691236517205))) (2:Int)) 3689348814741910323) + (cK .u64 (IntKind.wrap .u64 ((cK .u64 (fu .u64 a0 (1:Int)) 6148914691236517205) + (cK .u64 a0 6148914691236517205))) 3689348814741910323))))) 1085102592571150095) (8:Int)))) + (fu .u64 (IntKind.wrap .u64 ((cK .u64 (IntKind.wrap .u64 ((fu .u64 (IntKind.wrap .u64 ((cK .u64 (fu .u64 (IntKind.wrap .u64 ((cK .u64 (fu .u64 a0 (1:Int)) 6148914691236517205) + (cK .u64 a0 6148914691236517205))) (2:Int)) 3689348814741910323) + (cK .u64 (IntKind.wrap .u64 ((cK .u64 (fu .u64 a0 (1:Int)) 6148914691236517205) + (cK .u64 a0 6148914691236517205))) 3689348814741910323))) (4:Int)) + (IntKind.wrap .u64 ((cK .u64 (fu .u64 (IntKind.wrap .u64 ((cK .u64 (fu .u64 a0 (1:Int)) 6148914691236517205) + (cK .u64 a0 6148914691236517205))) (2:Int)) 3689348814741910323) + (cK .u64 (IntKind.wrap .u64 ((cK .u64 (fu .u64 a0 (1:Int)) 6148914691236517205) + (cK .u64 a0 6148914691236517205))) 3689348814741910323))))) 1085102592571150095) + (fu .u64 (cK .u64 (IntKind.wrap .u64 ((fu .u64 (IntKind.wrap .u64 ((cK .u64 (fu .u64 (IntKind.wrap .u64 ((cK .u64 (fu .u64 a0 (1:Int)) 6148914691236517205) + (cK .u64 a0 6148914691236517205))) (2:Int)) 3689348814741910323) + (cK .u64 (IntKind.wrap .u64 ((cK .u64 (fu .u64 a0 (1:Int)) 6148914691236517205) + (cK .u64 a0 6148914691236517205))) 3689348814741910323))) (4:Int)) + (IntKind.wrap .u64 ((cK .u64 (fu .u64 (IntKind.wrap .u64 ((cK .u64 (fu .u64 a0 (1:Int)) 6148914691236517205) + (cK .u64 a0 6148914691236517205))) (2:Int)) 3689348814741910323) + (cK .u64 (IntKind.wrap .u64 ((cK .u64 (fu .u64 a0 (1:Int)) 6148914691236517205) + (cK .u64 a0 6148914691236517205))) 3689348814741910323))))) 1085102592571150095) (8:Int)))) (16:Int)))) (32:Int))))) 127)))))))
def lY (a0:Int):Option Int :=
 (tu a0).bind fun y3=>some y3
def jb (a1:Int) (a2:Bool):Option (Int ⊕ Int) :=
 bif a2 then out (some 60) else (some (.inl (w64 (a1 + 1))))
def zx (a0:cz):Int→Option (Int ⊕ Int)
 | a1=>bif decide (a1 < (a0.Edges.length:Int)) then must (0≤a1∧a1 < (a0.Edges.length:Int)) ((nk ((idx a0.Edges a1).From) a0).bind fun a2=>bif !a2 then jb a1 true else ((nk ((idx a0.Edges a1).To) a0).bind fun a3=>bif !a3 then jb a1 true else (bif decide ((idx a0.Edges a1).Kind < 1) then jb a1 true else (bif decide ((idx a0.Edges a1).Kind > 16) then jb a1 true else ((lY (IntKind.wrap .u64 ((idx a0.Edges a1).Kind))).bind fun a4=>jb a1 (a4 != 1)))))) else (out (some 0))
def lZ (a0:cz) (b9:Bool):Option Int :=
 bif b9 then some 60 else (iter (zx a0) 0)
def dz (a0:cz):Option Int :=
 bif decide (a0.N < 0) then lZ a0 true else (bif decide (a0.N > 64) then lZ a0 true else (lZ a0 (decide ((a0.Edges.length:Int) > 262144))))
def vN (a0:cz) (a1:Int) (a2:Int):((List (List aR))×Int)→Option (((List (List aR))×Int) ⊕ (((List (List aR))×Int) ⊕ dF))
 | (a4,a3)=>bif decide (a3 < (a0.Edges.length:Int)) then must (0≤a3∧a3 < (a0.Edges.length:Int)) (must (0≤(idx a0.Edges a3).From∧(idx a0.Edges a3).From < (a4.length:Int)) (must (0≤(idx a0.Edges a3).To∧(idx a0.Edges a3).To < ((idx a4 ((idx a0.Edges a3).From)).length:Int)) (bif (cK .i64 ((idx a0.Edges a3).Kind) a1 != 0) then bif ((idx (idx a4 ((idx a0.Edges a3).From)) ((idx a0.Edges a3).To)).tight == 0) then bif (cK .i64 ((idx a0.Edges a3).Kind) a2 != 0) then bif ((idx ((idx a4 ((idx a0.Edges a3).From)).set ((idx a0.Edges a3).To).toNat (⟨w64 (a3 + 1),(idx (idx a4 ((idx a0.Edges a3).From)) ((idx a0.Edges a3).To)).loose⟩:aR)) ((idx a0.Edges a3).To)).loose == 0) then some (.inl (a4.set ((idx a0.Edges a3).From).toNat (((idx a4 ((idx a0.Edges a3).From)).set ((idx a0.Edges a3).To).toNat (⟨w64 (a3 + 1),(idx (idx a4 ((idx a0.Edges a3).From)) ((idx a0.Edges a3).To)).loose⟩:aR)).set ((idx a0.Edges a3).To).toNat (⟨(idx ((idx a4 ((idx a0.Edges a3).From)).set ((idx a0.Edges a3).To).toNat (⟨w64 (a3 + 1),(idx (idx a4 ((idx a0.Edges a3).From)) ((idx a0.Edges a3).To)).loose⟩:aR)) ((idx a0.Edges a3).To)).tight,w64 (a3 + 1)⟩:aR)),w64 (a3 + 1))) else (some (.inl (a4.set ((idx a0.Edges a3).From).toNat ((idx a4 ((idx a0.Edges a3).From)).set ((idx a0.Edges a3).To).toNat (⟨w64 (a3 + 1),(idx (idx a4 ((idx a0.Edges a3).From)) ((idx a0.Edges a3).To)).loose⟩:aR)),w64 (a3 + 1)))) else (some (.inl (a4.set ((idx a0.Edges a3).From).toNat ((idx a4 ((idx a0.Edges a3).From)).set ((idx a0.Edges a3).To).toNat (⟨w64 (a3 + 1),(idx (idx a4 ((idx a0.Edges a3).From)) ((idx a0.Edges a3).To)).loose⟩:aR)),w64 (a3 + 1)))) else (bif (cK .i64 ((idx a0.Edges a3).Kind) a2 != 0) then bif ((idx (idx a4 ((idx a0.Edges a3).From)) ((idx a0.Edges a3).To)).loose == 0) then some (.inl (a4.set ((idx a0.Edges a3).From).toNat ((idx a4 ((idx a0.Edges a3).From)).set ((idx a0.Edges a3).To).toNat (⟨(idx (idx a4 ((idx a0.Edges a3).From)) ((idx a0.Edges a3).To)).tight,w64 (a3 + 1)⟩:aR)),w64 (a3 + 1))) else (some (.inl (a4.set ((idx a0.Edges a3).From).toNat (idx a4 ((idx a0.Edges a3).From)),w64 (a3 + 1)))) else (some (.inl (a4.set ((idx a0.Edges a3).From).toNat (idx a4 ((idx a0.Edges a3).From)),w64 (a3 + 1))))) else (bif (cK .i64 ((idx a0.Edges a3).Kind) a2 != 0) then bif ((idx (idx a4 ((idx a0.Edges a3).From)) ((idx a0.Edges a3).To)).loose == 0) then some (.inl (a4.set ((idx a0.Edges a3).From).toNat ((idx a4 ((idx a0.Edges a3).From)).set ((idx a0.Edges a3).To).toNat (⟨(idx (idx a4 ((idx a0.Edges a3).From)) ((idx a0.Edges a3).To)).tight,w64 (a3 + 1)⟩:aR)),w64 (a3 + 1))) else (some (.inl (a4.set ((idx a0.Edges a3).From).toNat (idx a4 ((idx a0.Edges a3).From)),w64 (a3 + 1)))) else (some (.inl (a4.set ((idx a0.Edges a3).From).toNat (idx a4 ((idx a0.Edges a3).From)),w64 (a3 + 1)))))))) else (out (out (some (⟨a0,a4⟩:dF))))
def vO (a0:cz) (a1:Int) (a2:Int):((List (List aR))×Int)→Option (((List (List aR))×Int) ⊕ dF)
 | (a4,a3)=>bif decide (a3 < (a0.N.toNat:Int)) then must (0≤a0.N∧a0.N≤9223372036854775807∧(16:Int) * a0.N≤281474976710656) (must (0≤a3∧a3 < (a4.length:Int)) (some (.inl (a4.set a3.toNat (List.replicate a0.N.toNat (default:aR)),w64 (a3 + 1))))) else (iter (vN a0 a1 a2) (a4,0))
def gI (a0:cz) (a1:Int) (a2:Int):Option dF :=
 must (0≤a0.N∧a0.N≤9223372036854775807∧(24:Int) * a0.N≤281474976710656) (iter (vO a0 a1 a2) (List.replicate a0.N.toNat (default:List aR),0))
def iU (a3:List (Int×Int)):(List Int×Int)→Option ((List Int×Int) ⊕ (((List (Int×Int))×List Int×Bool×Int) ⊕ (((List (Int×Int))×List Int×Bool) ⊕ (List Int×Bool))))
 | (a1,a2)=>bif decide (a2 ≥ 0) then must (((1 + a1.length) + (1 + a1.length) / 4 + 192) * 8≤281474976710656∧1 + a1.length≤9223372036854775807) (some (.inl (([a2]:List Int)++a1,mat a3 a2))) else (out (out (out (some (a1,false)))))
def ma (a1:Int) (a2:List (Int×Int)) (a4:List Int) (a3:Bool):Option (((List (Int×Int))×List Int×Bool×Int) ⊕ (((List (Int×Int))×List Int×Bool×Int) ⊕ (((List (Int×Int))×List Int×Bool) ⊕ (List Int×Bool)))) :=
 some (.inl (a2,a4,a3,w64 (a1 + 1)))
def jH (a5:List Int) (a6:Int) (a3:List (Int×Int)) (a1:List Int) (a7:Bool) (a2:Int) (a4:Bool):Option (((List (Int×Int))×List Int×Bool×Int) ⊕ (((List (Int×Int))×List Int×Bool×Int) ⊕ (((List (Int×Int))×List Int×Bool) ⊕ (List Int×Bool)))) :=
 bif a4 then must (((a1.length + 1) + (a1.length + 1) / 4 + 192) * 8≤281474976710656∧a1.length + 1≤9223372036854775807) (ma a2 (fC a3 a2 (idx a5 a6)) (a1++([a2]:List Int)) false) else (ma a2 a3 a1 a7)
def tC (a0:dF) (a3:List Int) (a2:Int):((List (Int×Int))×List Int×Bool×Int)→Option (((List (Int×Int))×List Int×Bool×Int) ⊕ (((List (Int×Int))×List Int×Bool×Int) ⊕ (((List (Int×Int))×List Int×Bool) ⊕ (List Int×Bool))))
 | (a4,a5,a6,a1)=>bif decide (a1 < a0.g.N) then bif !(iR a4 a1) then must (0≤idx a3 a2∧idx a3 a2 < (a0.links.length:Int)) (must (0≤a1∧a1 < ((idx a0.links (idx a3 a2)).length:Int)) (jH a3 a2 a4 a5 a6 a1 (decide ((idx (idx a0.links (idx a3 a2)) a1).tight > 0)))) else (jH a3 a2 a4 a5 a6 a1 false) else (out (some (.inl (a4,a5,a6,w64 (a2 + 1)))))
def tF (a0:dF) (a2:Int) (a3:List Int):((List (Int×Int))×List Int×Bool×Int)→Option (((List (Int×Int))×List Int×Bool×Int) ⊕ (((List (Int×Int))×List Int×Bool) ⊕ (List Int×Bool)))
 | (a4,a5,a6,a1)=>bif decide (a1 < (a3.length:Int)) then must (0≤a1∧a1 < (a3.length:Int)) (bif (idx a3 a1 == a2) then iter (iU a4) (([]:List Int),mat a4 (idx a3 a1)) else (iter (tC a0 a3 a1) (a4,a5,a6,0))) else (out (some (.inl (a4,a5,a6))))
def tH (a0:dF) (a2:Int):((List (Int×Int))×List Int×Bool)→Option (((List (Int×Int))×List Int×Bool) ⊕ (List Int×Bool))
 | (a3,a1,a4)=>bif decide ((a1.length:Int) > 0) then iter (tF a0 a2 a1) (a3,[],true,0) else (out (some (([]:List Int),true)))
def aV (a0:dF) (a1:Int) (a2:Int):Option (List Int×Bool) :=
 iter (tH a0 a2) (fC ([]:List (Int×Int)) a1 (-1),([a1]:List Int),false)
def qa (a0:aR) (a1:Int):Option Int :=
 bif (a1 == 0) then some a0.loose else (some a0.tight)
def iH (a0:dF) (a1:List Int):(List Edge×Int)→Option ((List Edge×Int) ⊕ (List Edge))
 | (a3,a2)=>bif decide (a2 < (a1.length:Int)) then must (0≤a2∧a2 < (a1.length:Int)) (must (0≤idx a1 a2∧idx a1 a2 < (a0.links.length:Int)) (must ((a1.length:Int)≠0) (must (0≤(w64 (a2 + 1)).tmod (a1.length:Int)∧(w64 (a2 + 1)).tmod (a1.length:Int) < (a1.length:Int)) (must (0≤idx a1 ((w64 (a2 + 1)).tmod (a1.length:Int))∧idx a1 ((w64 (a2 + 1)).tmod (a1.length:Int)) < ((idx a0.links (idx a1 a2)).length:Int)) ((qa (idx (idx a0.links (idx a1 a2)) (idx a1 ((w64 (a2 + 1)).tmod (a1.length:Int)))) a2).bind fun a4=>must (0≤w64 (a4 - 1)∧w64 (a4 - 1) < (a0.g.Edges.length:Int)) (must (((a3.length + 1) + (a3.length + 1) / 4 + 192) * 32≤281474976710656∧a3.length + 1≤9223372036854775807) (some (.inl (a3++([(idx a0.g.Edges (w64 (a4 - 1)))]:List Edge),w64 (a2 + 1)))))))))) else (out (some a3))
def dB (a0:dF) (a1:List Int):Option (List Edge) :=
 iter (iH a0 a1) ([],0)
def jL (a3:Int) (a2:List Int) (a1:Bool):Option ((List Int×Bool×Int) ⊕ ((List Int×Bool×Int) ⊕ (List Edge×Int))) :=
 some (.inl (a2,a1,w64 (a3 + 1)))
def jc (a4:Int) (a3:List Int) (a5:Bool) (a2:Int) (a1:(List Int×Bool)) (a6:Bool):Option ((List Int×Bool×Int) ⊕ ((List Int×Bool×Int) ⊕ (List Edge×Int))) :=
 bif a6 then must (((1 + a1.1.length) + (1 + a1.1.length) / 4 + 192) * 8≤281474976710656∧1 + a1.1.length≤9223372036854775807) (jL a2 (([a4]:List Int)++a1.1) false) else (jL a2 a3 a5)
def vQ (a0:cz) (a6:dF) (a1:Int):(List Int×Bool×Int)→Option ((List Int×Bool×Int) ⊕ ((List Int×Bool×Int) ⊕ (List Edge×Int)))
 | (a3,a4,a2)=>bif decide (a2 < a0.N) then must (0≤a1∧a1 < (a6.links.length:Int)) (must (0≤a2∧a2 < ((idx a6.links a1).length:Int)) (bif ((idx (idx a6.links a1) a2).loose == 0) then jL a2 a3 a4 else ((aV a6 a2 a1).bind fun a5=>bif !a5.2 then bif a4 then jc a1 a3 a4 a2 a5 true else (jc a1 a3 a4 a2 a5 (decide (w64 ((a5.1.length:Int) + 1) < (a3.length:Int)))) else (jc a1 a3 a4 a2 a5 false)))) else (out (some (.inl (a3,a4,w64 (a1 + 1)))))
def vR (a0:cz) (a3:dF):(List Int×Bool×Int)→Option ((List Int×Bool×Int) ⊕ (List Edge×Int))
 | (a1,a5,a2)=>bif decide (a2 < a0.N) then iter (vQ a0 a3 a2) (a1,a5,0) else ((dB a3 a1).bind fun a4=>out (some (a4,0)))
def cu (a0:cz) (a1:Int) (a2:Int):Option (List Edge×Int) :=
 (dz a0).bind fun y8=>bif (y8 != 0) then some (([]:List Edge),y8) else ((gI a0 a1 a2).bind fun a3=>iter (vR a0 a3) ([],true,0))
def kQ {σ:Type} (a1:Int) (a2:σ):Option ((Int×σ) ⊕ σ) :=
 some (.inl (w64 (a1 + 1),a2))
def fD {σ:Type} (Y:σ→af→Option (Bool×σ)) (a2:dF) (a3:af) (a1:Int) (a5:σ) (a6:Bool):Option ((Int×σ) ⊕ σ) :=
 bif a6 then kQ a1 a5 else ((Y a5 (⟨a1,((idx (idx a2.links a3.node) a1).tight == 0),a3.first_⟩:af)).bind fun a4=>bif !a4.1 then out (some a4.2) else (kQ a1 a4.2))
def oz {σ:Type} (Y:σ→af→Option (Bool×σ)) (a2:dF) (a3:af):(Int×σ)→Option ((Int×σ) ⊕ σ)
 | (a1,a4)=>bif decide (a1 < a2.g.N) then must (0≤a3.node∧a3.node < (a2.links.length:Int)) (must (0≤a1∧a1 < ((idx a2.links a3.node).length:Int)) (bif ((idx (idx a2.links a3.node) a1).tight == 0) then bif ((idx (idx a2.links a3.node) a1).loose == 0) then fD Y a2 a3 a1 a4 true else (fD Y a2 a3 a1 a4 a3.last_) else (fD Y a2 a3 a1 a4 false))) else (out (some a4))
def aY {σ:Type} (Y:σ→af→Option (Bool×σ)) (a1:Int) (a2:dF) (a3:af) (s0:σ):Option σ :=
 iter (oz Y a2 a3) (a1,s0)
def kF (a0:dF) (a1:af) (a2:Int):Option Unit :=
 some ()
def vG (a0:af) (a1:Int):Option Bool :=
 bif (a0.node == a1) then bif a0.last_ then some (!a0.first_) else (some true) else (some false)
def lh (a0:List (af×af)) (a2:Int):(Int×Bool×Bool×List Int)→Option ((Int×Bool×Bool×List Int) ⊕ (List Int×Bool))
 | (a3,a4,a5,a1)=>bif decide (a3 ≥ 0) then must (((1 + a1.length) + (1 + a1.length) / 4 + 192) * 8≤281474976710656∧1 + a1.length≤9223372036854775807) (some (.inl ((mat a0 (⟨a3,a4,a5⟩:af)).node,(mat a0 (⟨a3,a4,a5⟩:af)).last_,(mat a0 (⟨a3,a4,a5⟩:af)).first_,([a3]:List Int)++a1))) else (must (((1 + a1.length) + (1 + a1.length) / 4 + 192) * 8≤281474976710656∧1 + a1.length≤9223372036854775807) (out (some (([a2]:List Int)++a1,false))))
def iV (a0:List (af×af)) (a1:af) (a2:Int):Option (List Int×Bool) :=
 iter (lh a0 a2) (a1.node,a1.last_,a1.first_,([]:List Int))
def rH (a1:List (af×af)) (a2:List af) (a3:Bool):Option (Bool×(((List (af×af))×List af×Bool) ⊕ Unit)) :=
 some (true,.inl (a1,a2,a3))
def kR (a1:Int):(((List (af×af))×List af×Bool) ⊕ Unit)→af→Option (Bool×(((List (af×af))×List af×Bool) ⊕ Unit))
 | .inl (a4,a3,a5),a2=>(vG (⟨a2.node,a2.last_,a2.last_⟩:af) a1).bind fun a6=>bif a6 then some (false,.inr ()) else (bif !(iR a4 (⟨a2.node,a2.last_,a2.last_⟩:af)) then must (((a3.length + 1) + (a3.length + 1) / 4 + 192) * 16≤281474976710656∧a3.length + 1≤9223372036854775807) (rH (fC a4 (⟨a2.node,a2.last_,a2.last_⟩:af) (⟨(-1),false,false⟩:af)) (a3++([(⟨a2.node,a2.last_,a2.last_⟩:af)]:List af)) false) else (rH a4 a3 a5))
 | .inr _,_=>none
def rJ (a2:List (af×af)) (a1:List af) (a3:Bool):Option (Bool×(((List (af×af))×List af×Bool) ⊕ (List Int×Bool))) :=
 some (true,.inl (a2,a1,a3))
def kS (a1:Int) (a7:List af) (a6:Int):(((List (af×af))×List af×Bool) ⊕ (List Int×Bool))→af→Option (Bool×(((List (af×af))×List af×Bool) ⊕ (List Int×Bool)))
 | .inl (a4,a2,a9),a3=>(vG a3 a1).bind fun a8=>bif a8 then (iV a4 (idx a7 a6) a1).bind fun a5=>some (false,.inr (a5.1,a5.2)) else (bif !(iR a4 a3) then must (((a2.length + 1) + (a2.length + 1) / 4 + 192) * 16≤281474976710656∧a2.length + 1≤9223372036854775807) (rJ (fC a4 a3 (idx a7 a6)) (a2++([a3]:List af)) false) else (rJ a4 a2 a9))
 | .inr _,_=>none
def rM (a1:Int):(((List (af×af))×List af×Bool) ⊕ (List Int×Bool))→Option (((List (af×af))×List af×Bool×Int) ⊕ (((List (af×af))×List af×Bool×Int) ⊕ (List Int×Bool)))
 | .inl ((a5,a6,a4))=>some (.inl (a5,a6,a4,w64 (a1 + 1)))
 | .inr ((a2,a3))=>out (out (some (a2,a3)))
def rO (a0:dF) (a1:Int) (a3:List af) (a7:Int):((List (af×af))×List af×Bool×Int)→Option (((List (af×af))×List af×Bool×Int) ⊕ (((List (af×af))×List af×Bool×Int) ⊕ (List Int×Bool)))
 | (a6,a5,a4,a2)=>bif decide (a2 < (a3.length:Int)) then must (0≤a2∧a2 < (a3.length:Int)) ((kF a0 (idx a3 a2) a1).bind fun a9=>(aY (kS a1 a3 a2) a1 a0 (idx a3 a2) (.inl (a6,a5,a4))).bind fun a8=>rM a2 a8) else (out (some (.inl (a6,a5,a4,w64 (a7 + 1)))))
def kT (a0:dF) (a1:Int) (a4:List (af×af)) (a2:List af) (a3:Int) (a5:Bool):Option (((List (af×af))×List af×Bool×Int) ⊕ (List Int×Bool)) :=
 bif a5 then iter (rO a0 a1 a2 a3) (a4,[],true,0) else (out (some (([]:List Int),true)))
def rP (a0:dF) (a1:Int) (a2:Int):((List (af×af))×List af×Bool×Int)→Option (((List (af×af))×List af×Bool×Int) ⊕ (List Int×Bool))
 | (a5,a3,a6,a4)=>bif decide (a4 < a2) then kT a0 a1 a5 a3 a4 (decide ((a3.length:Int) > 0)) else (kT a0 a1 a5 a3 a4 false)
def rQ (a0:dF) (a1:Int) (a2:Int):(((List (af×af))×List af×Bool) ⊕ Unit)→Option (List Int×Bool)
 | .inl ((a4,a5,a3))=>iter (rP a0 a1 a2) (a4,a5,a3,2)
 | .inr _=>some (([a1]:List Int),false)
def aJ (a0:dF) (a1:Int) (a2:Int):Option (List Int×Bool) :=
 (kF a0 (⟨a1,false,false⟩:af) a1).bind fun a4=>(aY (kR a1) a1 a0 (⟨a1,false,false⟩:af) (.inl ([],[],true))).bind fun a3=>rQ a0 a1 a2 a3
def qb (a0:aR) (a1:Int):Option Int :=
 bif decide (a0.tight > 0) then some a0.tight else (some a0.loose)
def iI (a0:dF) (a1:List Int):(List Edge×Int)→Option ((List Edge×Int) ⊕ (List Edge))
 | (a3,a2)=>bif decide (a2 < (a1.length:Int)) then must (0≤a2∧a2 < (a1.length:Int)) (must (0≤idx a1 a2∧idx a1 a2 < (a0.links.length:Int)) (must ((a1.length:Int)≠0) (must (0≤(w64 (a2 + 1)).tmod (a1.length:Int)∧(w64 (a2 + 1)).tmod (a1.length:Int) < (a1.length:Int)) (must (0≤idx a1 ((w64 (a2 + 1)).tmod (a1.length:Int))∧idx a1 ((w64 (a2 + 1)).tmod (a1.length:Int)) < ((idx a0.links (idx a1 a2)).length:Int)) ((qb (idx (idx a0.links (idx a1 a2)) (idx a1 ((w64 (a2 + 1)).tmod (a1.length:Int)))) a2).bind fun a4=>must (0≤w64 (a4 - 1)∧w64 (a4 - 1) < (a0.g.Edges.length:Int)) (must (((a3.length + 1) + (a3.length + 1) / 4 + 192) * 32≤281474976710656∧a3.length + 1≤9223372036854775807) (some (.inl (a3++([(idx a0.g.Edges (w64 (a4 - 1)))]:List Edge),w64 (a2 + 1)))))))))) else (out (some a3))
def dC (a0:dF) (a1:List Int):Option (List Edge) :=
 iter (iI a0 a1) ([],0)
def oC (a3:dF) (a1:List Int):Option (List Edge×Int) :=
 (dC a3 a1).bind fun a2=>some (a2,0)
def oD (a2:Int) (a1:List Int):Option ((List Int×Int) ⊕ (List Edge×Int)) :=
 some (.inl (a1,w64 (a2 + 1)))
def oF (a4:dF) (a3:List Int) (a1:Int) (a5:Int):Option ((List Int×Int) ⊕ (List Edge×Int)) :=
 bif decide (a5 < 2) then out (oC a4 a3) else ((aJ a4 a1 a5).bind fun a2=>bif !a2.2 then oD a1 a2.1 else (oD a1 a3))
def vT (a0:cz) (a3:dF):(List Int×Int)→Option ((List Int×Int) ⊕ (List Edge×Int))
 | (a1,a2)=>bif decide (a2 < a0.N) then bif decide ((a1.length:Int) > 0) then oF a3 a1 a2 (a1.length:Int) else (oF a3 a1 a2 (w64 (a0.N + 1))) else (out (oC a3 a1))
def cB (a0:cz) (a1:Int) (a2:Int):Option (List Edge×Int) :=
 (dz a0).bind fun y8=>bif (y8 != 0) then some (([]:List Edge),y8) else ((gI a0 a1 a2).bind fun a3=>iter (vT a0 a3) ([],0))
def lm (a0:cz) (a1:Int):Option (List Edge×Int) :=
 (cB a0 a1 0).bind fun y7=>some (y7.1,y7.2)
def uq (a0:cz) (a1:Int) (a2:Int):Option (List Edge×Int) :=
 (lm a0 a1).bind fun y7=>some (y7.1,y7.2)
def qQ {σ:Type} (Y:σ→fF→Option (Bool×σ)) (s0:σ):Option σ :=
 (Y s0 (⟨3,1,13,0,1,81⟩:fF)).bind fun y2=>bif !y2.1 then some y2.2 else ((Y y2.2 (⟨4,4,5,16,2,54⟩:fF)).bind fun y6=>bif !y6.1 then some y6.2 else ((Y y6.2 (⟨5,6,13,16,3,55⟩:fF)).bind fun a1=>bif !a1.1 then some a1.2 else ((Y a1.2 (⟨6,7,29,0,1,81⟩:fF)).bind fun a2=>bif !a2.1 then some a2.2 else ((Y a2.2 (⟨7,8,31,0,1,81⟩:fF)).bind fun a3=>bif !a3.1 then some a3.2 else (some a3.2)))))
def uW (a1:List Edge) (a3:List (Int×Unit)) (a2:Int):Option (((List (Int×Unit))×Int) ⊕ (((List (Edge×Unit))×Int) ⊕ Bool)) :=
 some (.inl (fC a3 ((idx a1 a2).From) (),w64 (a2 + 1)))
def pu (a1:List Edge) (a2:List (Int×Unit)) (a3:Int) (a4:Bool):Option (((List (Int×Unit))×Int) ⊕ (((List (Edge×Unit))×Int) ⊕ Bool)) :=
 bif a4 then out (out (some false)) else (uW a1 a2 a3)
def uX (a1:List Edge) (a2:List (Int×Unit)) (a4:Int) (a3:Bool):Option (((List (Int×Unit))×Int) ⊕ (((List (Edge×Unit))×Int) ⊕ Bool)) :=
 bif a3 then out (out (some false)) else (uW a1 a2 a4)
def yo (a1:List Edge) (a2:Int) (a3:Int) (a4:Int) (a6:List (Int×Unit)) (a5:Int) (a7:Bool):Option (((List (Int×Unit))×Int) ⊕ (((List (Edge×Unit))×Int) ⊕ Bool)) :=
 bif a7 then out (out (some false)) else (bif (a4 == 1) then bif !(cK .i64 ((idx a1 a5).Kind) a2 != 0) then out (out (some false)) else (uW a1 a6 a5) else (bif (a4 == 2) then bif (a5 == 0) then bif !(cK .i64 ((idx a1 a5).Kind) a3 != 0) then pu a1 a6 a5 true else (bif decide (a5 > 0) then pu a1 a6 a5 (!(cK .i64 ((idx a1 a5).Kind) a2 != 0)) else (pu a1 a6 a5 false)) else (bif decide (a5 > 0) then pu a1 a6 a5 (!(cK .i64 ((idx a1 a5).Kind) a2 != 0)) else (pu a1 a6 a5 false)) else (bif (a4 == 3) then bif !(cK .i64 ((idx a1 a5).Kind) a2 != 0) then bif !(cK .i64 ((idx a1 a5).Kind) a3 != 0) then uX a1 a6 a5 true else (uX a1 a6 a5 (cK .i64 ((idx a1 ((w64 (a5 + 1)).tmod (a1.length:Int))).Kind) a2 == 0)) else (uX a1 a6 a5 false) else (out (out (some false))))))
def BH (a1:List Edge) (a2:Int) (a3:Int) (a4:Int) (a7:List (Edge×Unit)):((List (Int×Unit))×Int)→Option (((List (Int×Unit))×Int) ⊕ (((List (Edge×Unit))×Int) ⊕ Bool))
 | (a6,a5)=>bif decide (a5 < (a1.length:Int)) then must (0≤a5∧a5 < (a1.length:Int)) (must ((a1.length:Int)≠0) (must (0≤(w64 (a5 + 1)).tmod (a1.length:Int)∧(w64 (a5 + 1)).tmod (a1.length:Int) < (a1.length:Int)) (bif !(iR a7 (idx a1 a5)) then yo a1 a2 a3 a4 a6 a5 true else (yo a1 a2 a3 a4 a6 a5 ((idx a1 a5).To != (idx a1 ((w64 (a5 + 1)).tmod (a1.length:Int))).From))))) else (out (out (some ((a6.length:Int) == (a1.length:Int)))))
def BI (a0:cz) (a1:List Edge) (a2:Int) (a3:Int) (a4:Int):((List (Edge×Unit))×Int)→Option (((List (Edge×Unit))×Int) ⊕ Bool)
 | (a6,a5)=>bif decide (a5 < (a0.Edges.length:Int)) then must (0≤a5∧a5 < (a0.Edges.length:Int)) (some (.inl (fC a6 (idx a0.Edges a5) (),w64 (a5 + 1)))) else (iter (BH a1 a2 a3 a4 a6) ([],0))
def yu (a0:cz) (a1:List Edge) (a2:Int) (a3:Int) (a4:Int) (a5:Bool):Option Bool :=
 bif a5 then some false else (iter (BI a0 a1 a2 a3 a4) ([],0))
def dG (a0:cz) (a1:List Edge) (a2:Int) (a3:Int) (a4:Int):Option Bool :=
 (dz a0).bind fun a5=>bif (a5 != 0) then yu a0 a1 a2 a3 a4 true else (yu a0 a1 a2 a3 a4 ((a1.length:Int) == 0))
def jv (a0:List Ask) (a1c0:bY):Int→Option (Int ⊕ Int)
 | a1=>bif decide (a1 < (a0.length:Int)) then must (0≤a1∧a1 < (a0.length:Int)) ((yn (idx a0 a1) a1c0).bind fun a2=>bif a2 then out (some a1) else (some (.inl (w64 (a1 + 1))))) else (out (some (-1)))
def dS (a0:List Ask) (a1c0:bY):Option Int :=
 iter (jv a0 a1c0) 0
def gH (a0:List Ask) (a1c0:bY):Option Bool :=
 (dS a0 a1c0).bind fun y3=>some (decide (y3 ≥ 0))
def xB (a0:History) (a1:bY):(Unit ⊕ Bool)→fF→Option (Bool×(Unit ⊕ Bool))
 | .inl _,a2=>bif (a2.kind == a1.Kind) then (dO a0).bind fun a3=>bif (a3.2 == 0) then bif (a1.Level == a2.level) then bif ((a1.Spot.Txn == 0) && ((a1.Spot.Place == 0) && true)) then (dG a3.1 a1.Cycle a2.d a2.r a2.rule).bind fun a4=>some (false,.inr a4) else (some (false,.inr false)) else (some (false,.inr false)) else (some (false,.inr false)) else (some (true,.inl ()))
 | .inr _,_=>none
def Gx:(Unit ⊕ Bool)→Option Bool
 | .inl _=>some false
 | .inr a1=>some a1
def mG (a0:History) (a1:bY):Option Bool :=
 (aC a0).bind fun a4=>bif (a4 != 0) then some false else (bif (a1.Kind == 1) then (tq a0).bind fun a5=>bif (a1.Level == 1) then bif ((a1.Cycle.length:Int) == 0) then (ow a5.1 a1.Spot).bind fun a2=>some a2 else (some false) else (some false) else (bif (a1.Kind == 2) then (pq a0).bind fun a3=>bif (a1.Level == 1) then bif ((a1.Cycle.length:Int) == 0) then (gH a3.1 a1).bind fun a6=>some a6 else (some false) else (some false) else ((qQ (xB a0 a1) (.inl ())).bind fun a7=>Gx a7)))
def Il (c:Int) (a0:cz) (a1:Int) (a2:Int):Option (List Edge×Int) :=
 bif c == 54 then cu a0 a1 a2 else (bif c == 55 then cB a0 a1 a2 else (bif c == 81 then uq a0 a1 a2 else none))
def uj (a1:List bY):Option (Bool×((List bY) ⊕ Unit)) :=
 some (true,.inl a1)
def gN (a4:cz×Int):((List bY) ⊕ Unit)→fF→Option (Bool×((List bY) ⊕ Unit))
 | .inl a2,a1=>(Il a1.find a4.1 a1.d a1.r).bind fun a3=>bif decide ((a3.1.length:Int) > 0) then must (((a2.length + 1) + (a2.length + 1) / 4 + 192) * 56≤281474976710656∧a2.length + 1≤9223372036854775807) (uj (a2++([(⟨a1.kind,a1.level,(⟨0,0⟩:Spot),a3.1⟩:bY)]:List bY))) else (uj a2)
 | .inr _,_=>none
def Gy:((List bY) ⊕ Unit)→Option (List bY×Int)
 | .inl a1=>some (a1,0)
 | .inr _=>none
def qc (a0:History) (a2:List bY):Option (List bY×Int) :=
 (dO a0).bind fun a1=>bif (a1.2 != 0) then some (([]:List bY),a1.2) else ((qQ (gN a1) (.inl a2)).bind fun a3=>Gy a3)
def qd (a0:History) (a1:List bY):Option (List bY×Int) :=
 (pq a0).bind fun a2=>bif decide ((a2.1.length:Int) > 0) then must (0≤(0:Int)∧(0:Int) < (a2.1.length:Int)) (must (((a1.length + 1) + (a1.length + 1) / 4 + 192) * 56≤281474976710656∧a1.length + 1≤9223372036854775807) (qc a0 (a1++([(⟨2,1,(⟨(idx a2.1 (0:Int)).Txn,(idx a2.1 (0:Int)).Place⟩:Spot),([]:List Edge)⟩:bY)]:List bY)))) else (qc a0 a1)
def bU (a0:History):Option (List bY×Int) :=
 (tq a0).bind fun y7=>bif (y7.2 != 0) then some (([]:List bY),y7.2) else (bif decide ((y7.1.length:Int) > 0) then must (0≤(0:Int)∧(0:Int) < (y7.1.length:Int)) (must (((0 + 1) + (0 + 1) / 4 + 192) * 56≤281474976710656∧0 + 1≤9223372036854775807) (qd a0 (([]:List bY)++([(⟨1,1,(idx y7.1 (0:Int)),([]:List Edge)⟩:bY)]:List bY)))) else (qd a0 []))
def nU:Option Bool :=
 (bU (⟨([(⟨#[120]⟩:ByteArray)]:List ByteArray),([(⟨0,1,0,1,([(⟨1,0,1,false,([]:List Int)⟩:Op),(⟨5,0,0,true,([2]:List Int)⟩:Op)]:List Op)⟩:Txn)]:List Txn)⟩:History)).bind fun a1=>bif (a1.2 == 0) then bif ((a1.1.length:Int) == 1) then must (0≤(0:Int)∧(0:Int) < (a1.1.length:Int)) (bif ((idx a1.1 (0:Int)).Kind == 1) then bif ((((idx a1.1 (0:Int)).Spot).Txn == 0) && ((((idx a1.1 (0:Int)).Spot).Place == 1) && true)) then (mG (⟨([(⟨#[120]⟩:ByteArray)]:List ByteArray),([(⟨0,1,0,1,([(⟨1,0,1,false,([]:List Int)⟩:Op),(⟨5,0,0,true,([2]:List Int)⟩:Op)]:List Op)⟩:Txn)]:List Txn)⟩:History) (⟨(idx a1.1 (0:Int)).Kind,(idx a1.1 (0:Int)).Level,((idx a1.1 (0:Int)).Spot),(idx a1.1 (0:Int)).Cycle⟩:bY)).bind fun a2=>some a2 else (some false) else (some false)) else (some false) else (some false)
def iX (a2:List bY×Int) (a3:List Int) (a1:Int) (a4:Bool):Option ((List Int×Int) ⊕ Bool) :=
 bif a4 then out (some false) else (must (0≤a1∧a1 < (a2.1.length:Int)) (must (0≤((idx a2.1 a1).Kind)∧((idx a2.1 a1).Kind) < ((8:Nat):Int)) (some (.inl ((IY 8 a3 ((idx a2.1 a1).Kind) (w64 (1 + (((idx a2.1 a1).Cycle).length:Int)))),w64 (a1 + 1))))))
def ed (a1:List Int) (a2:Bool):Option ((List Int×Int) ⊕ Bool) :=
 bif a2 then out (some false) else (bif (idx a1 (5:Int) == 0) then bif (idx a1 (6:Int) == 0) then out (some true) else (out (some (decide (idx a1 (7:Int) > 0)))) else (bif decide (idx a1 (6:Int) > 0) then bif (idx a1 (6:Int) == 0) then out (some true) else (out (some (decide (idx a1 (7:Int) > 0)))) else (out (some false))))
def lq (a3:List bY×Int):(List Int×Int)→Option ((List Int×Int) ⊕ Bool)
 | (a1,a2)=>bif decide (a2 < (a3.1.length:Int)) then must (0≤a2∧a2 < (a3.1.length:Int)) (bif decide ((idx a3.1 a2).Kind < 1) then iX a3 a1 a2 true else (iX a3 a1 a2 (decide ((idx a3.1 a2).Kind > 7)))) else (bif decide (idx a1 (3:Int) > 0) then bif (idx a1 (5:Int) == 0) then ed a1 true else (bif decide (idx a1 (4:Int) > 2) then ed a1 (idx a1 (5:Int) == 0) else (ed a1 false)) else (bif decide (idx a1 (4:Int) > 2) then ed a1 (idx a1 (5:Int) == 0) else (ed a1 false)))
def aU (a0:History):Option Bool :=
 (nU).bind fun y8=>bif !y8 then some false else ((bU a0).bind fun a1=>bif (a1.2 != 0) then some true else (iter (lq a1) (([]:List Int),0)))
def uN (a0:List ByteArray) (a1:ByteArray):Int→Option (Int ⊕ Int)
 | a2=>bif decide (a2 < (a0.length:Int)) then must (0≤a2∧a2 < (a0.length:Int)) (bif sEq (idx a0 a2) a1 then out (some a2) else (some (.inl (w64 (a2 + 1))))) else (out (some (-1)))
def gZ (a0:List ByteArray) (a1:ByteArray):Option Int :=
 iter (uN a0 a1) 0
def kU (a2:Int) (a1:Bool):Option (Int ⊕ Bool) :=
 bif a1 then out (some false) else (some (.inl (w64 (a2 + 1))))
def ut (a0:List ByteArray):Int→Option (Int ⊕ Bool)
 | a1=>bif decide (a1 < (a0.length:Int)) then must (0≤a1∧a1 < (a0.length:Int)) (bif decide (((idx a0 a1).size:Int) < 1) then kU a1 true else (bif decide (((idx a0 a1).size:Int) > 32) then kU a1 true else (must (0≤(0:Int)∧(0:Int)≤a1∧a1≤(a0.length:Int)) ((gZ (kg a0 (0:Int) a1) (idx a0 a1)).bind fun a2=>kU a1 (decide (a2 ≥ 0)))))) else (out (some (decide ((a0.length:Int)≤32))))
def eX (a0:List ByteArray):Option Bool :=
 iter (ut a0) 0
def jV (a2:Int) (a1:Bool):Option (Int ⊕ Bool) :=
 bif a1 then out (some false) else (some (.inl (w64 (a2 + 1))))
def nA (a0:List Txn) (a1:Int):Int→Option (Int ⊕ Bool)
 | a2=>bif decide (a2 < a1) then must (0≤a2∧a2 < (a0.length:Int)) (bif ((idx a0 a2).Proc == (idx a0 a1).Proc) then bif ((idx a0 a2).To == (-1)) then jV a2 true else (jV a2 (decide ((idx a0 a2).To ≥ (idx a0 a1).From))) else (jV a2 false)) else (out (some true))
def nC (a0:List Txn) (a1:Int) (a2:Bool):Option Bool :=
 bif a2 then some false else (iter (nA a0 a1) 0)
def eF (a0:List Txn) (a1:Int) (a2:Bool):Option Bool :=
 bif a2 then some false else (bif decide (a1 > 0) then must (0≤w64 (a1 - 1)∧w64 (a1 - 1) < (a0.length:Int)) (nC a0 a1 (decide ((idx a0 a1).From≤(idx a0 (w64 (a1 - 1))).From))) else (nC a0 a1 false))
def aQ (a0:List Txn) (a1:Int):Option Bool :=
 must (0≤a1∧a1 < (a0.length:Int)) (bif decide ((idx a0 a1).Status < 1) then eF a0 a1 true else (bif decide ((idx a0 a1).Status > 3) then eF a0 a1 true else (bif decide ((idx a0 a1).From < 0) then eF a0 a1 true else (bif ((idx a0 a1).To != (-1)) then bif decide ((idx a0 a1).To≤(idx a0 a1).From) then eF a0 a1 true else (bif ((idx a0 a1).To == (-1)) then eF a0 a1 ((idx a0 a1).Status != 3) else (eF a0 a1 false)) else (bif ((idx a0 a1).To == (-1)) then eF a0 a1 ((idx a0 a1).Status != 3) else (eF a0 a1 false))))))
def lL (a0:Call):Option Bool :=
 some (decide ((a0.Vals.length:Int)≤64))
def pU (a0:Call):Int→Option (Int ⊕ Bool)
 | a1=>bif decide (a1 < (a0.Vals.length:Int)) then must (0≤a1∧a1 < (a0.Vals.length:Int)) (must (0≤w64 (a1 - 1)∧w64 (a1 - 1) < (a0.Vals.length:Int)) (bif decide (idx a0.Vals a1≤idx a0.Vals (w64 (a1 - 1))) then out (some false) else (some (.inl (w64 (a1 + 1)))))) else (out (lL a0))
def jw (a0:Call) (a1:Bool):Option Bool :=
 bif a1 then some false else (bif (a0.Kind == 5) then some (decide ((a0.Vals.length:Int)≤1)) else (bif (a0.Kind == 8) then bif !a0.Got then some true else (some ((a0.Vals.length:Int) == 1)) else (bif (a0.Kind == 7) then iter (pU a0) 1 else (lL a0))))
def jy (a0:Call) (a1:Int) (a2:Bool):Option Bool :=
 bif a2 then some false else (bif decide (a0.Kind≤4) then bif !a0.Got then bif ((a0.Vals.length:Int) == 0) then bif (a0.Kind != 4) then some true else (bif decide (a0.Arg ≥ (-1048576)) then some (decide (a0.Arg≤1048576)) else (some false)) else (some false) else (some false) else (bif (a0.Arg != 0) then jw a0 true else (bif (a0.Got != (a1 == 1)) then jw a0 true else (bif !a0.Got then jw a0 (decide ((a0.Vals.length:Int) > 0)) else (jw a0 false)))))
def bJ (a0:Call) (a1:Int):Option Bool :=
 bif decide (a0.Kind < 1) then jy a0 a1 true else (bif decide (a0.Kind > 8) then jy a0 a1 true else (bif decide ((a0.Key.size:Int) < 1) then jy a0 a1 true else (jy a0 a1 (decide ((a0.Key.size:Int) > 32)))))
def oG (a0:Event):Int→Option (Int ⊕ Bool)
 | a1=>bif decide (a1 < (a0.Calls.length:Int)) then must (0≤a1∧a1 < (a0.Calls.length:Int)) ((bJ (idx a0.Calls a1) a0.Kind).bind fun a2=>bif !a2 then out (some false) else (some (.inl (w64 (a1 + 1))))) else (out (some true))
def kV (a0:Event) (b9:Bool):Option Bool :=
 bif b9 then some false else (iter (oG a0) 0)
def dX (a0:Event):Option Bool :=
 bif decide (a0.Kind < 0) then kV a0 true else (bif decide (a0.Kind > 3) then kV a0 true else (kV a0 (decide ((a0.Calls.length:Int) > 16))))
def uu (a0:List Event):Int→Option (Int ⊕ Int)
 | a1=>bif decide (a1 < (a0.length:Int)) then must (0≤a1∧a1 < (a0.length:Int)) ((dX (idx a0 a1)).bind fun a2=>bif !a2 then out (some 1) else (some (.inl (w64 (a1 + 1))))) else (out (some 0))
def jh (a0:List Event):Option Int :=
 bif decide ((a0.length:Int) > 256) then some 1 else (iter (uu a0) 0)
def rR (a0:Int):Option Int :=
 some (w64 (((w64 (a0 - 1)).tmod (4:Int)) + 1))
def iJ (a3:List ByteArray) (a4:List Int) (a1:List (List Int)) (a5:List Int) (a2:List Int):Option (Int×aL) :=
 some (0,(⟨a3,a4,a1,a5,a2⟩:aL))
def iK (a2:Int) (a6:List ByteArray) (a7:List Int) (a3:List Int) (a4:List Int) (a1:Int) (a5:List (List Int)) (a8:Bool):Option (Int×aL) :=
 bif a8 then must (0≤a1∧a1 < (a4.length:Int)) (must (0≤a1∧a1 < (a3.length:Int)) (bif decide (idx (a3.set a1.toNat (w64 ((idx a3 a1) + 1))) a1 > 8) then some (51,(⟨a6,a7,a5,a3.set a1.toNat (w64 ((idx a3 a1) + 1)),a4.set a1.toNat a2⟩:aL)) else (iJ a6 a7 a5 (a3.set a1.toNat (w64 ((idx a3 a1) + 1))) (a4.set a1.toNat a2)))) else (iJ a6 a7 a5 a3 a4)
def gG (a1:Call) (a2:Int) (a6:List ByteArray) (a8:List Int) (a7:List Int) (a4:List Int) (a3:Int) (a5:List (List Int)):Option (Int×aL) :=
 bif (a1.Kind == 4) then must (0≤a3∧a3 < (a4.length:Int)) (iK a2 a6 a8 a7 a4 a3 a5 (idx a4 a3 != a2)) else (iK a2 a6 a8 a7 a4 a3 a5 false)
def kr (a1:Call) (a2:Int) (a6:List ByteArray) (a9:List Int) (a4:List (List Int)) (a8:List Int) (a7:List Int) (a3:Int):Int→Option (Int ⊕ (Int×aL))
 | a5=>must (0≤a3∧a3 < (a4.length:Int)) (bif decide (a5 < ((idx a4 a3).length:Int)) then must (0≤a5∧a5 < ((idx a4 a3).length:Int)) (bif (idx (idx a4 a3) a5 == a1.Arg) then out (some (3,(⟨a6,a9,a4,a8,a7⟩:aL))) else (some (.inl (w64 (a5 + 1))))) else (must (((((idx a4 a3).length) + 1) + (((idx a4 a3).length) + 1) / 4 + 192) * 8≤281474976710656∧((idx a4 a3).length) + 1≤9223372036854775807) (out (gG a1 a2 a6 a9 a8 a7 a3 (a4.set a3.toNat ((idx a4 a3)++([a1.Arg]:List Int)))))))
def ku (a1:Call) (a2:Int) (a3:List ByteArray) (a7:List Int) (a4:List (List Int)) (a6:List Int) (a5:List Int) (a8:Int) (a9:Bool):Option (Int×aL) :=
 bif a9 then iter (kr a1 a2 a3 a7 a4 a6 a5 a8) 0 else (gG a1 a2 a3 a7 a6 a5 a8 a4)
def fG (a1:Call) (a2:Int) (a5:List ByteArray) (a3:List Int) (a6:List (List Int)) (a8:List Int) (a7:List Int) (a4:Int):Option (Int×aL) :=
 must (0≤a4∧a4 < (a3.length:Int)) ((rR a1.Kind).bind fun a9=>bif (idx a3 a4 != a9) then some (50,(⟨a5,a3,a6,a8,a7⟩:aL)) else (bif (a1.Kind == 2) then ku a1 a2 a5 a3 a6 a8 a7 a4 true else (ku a1 a2 a5 a3 a6 a8 a7 a4 (a1.Kind == 3))))
def kw (a0:aL) (a1:Call) (a2:Int) (a3:List Int):Option (Int×aL) :=
 must (((a0.wrote.length + 1) + (a0.wrote.length + 1) / 4 + 192) * 24≤281474976710656∧a0.wrote.length + 1≤9223372036854775807) (must (((a0.incs.length + 1) + (a0.incs.length + 1) / 4 + 192) * 8≤281474976710656∧a0.incs.length + 1≤9223372036854775807) (must (((a0.last_.length + 1) + (a0.last_.length + 1) / 4 + 192) * 8≤281474976710656∧a0.last_.length + 1≤9223372036854775807) (fG a1 a2 (a0.keys++([a1.Key]:List ByteArray)) a3 (a0.wrote++([([]:List Int)]:List (List Int))) (a0.incs++([0]:List Int)) (a0.last_++([(-1)]:List Int)) (a0.keys.length:Int))))
def ky (a0:aL) (a1:Call) (a2:Int):Option (Int×aL) :=
 (rR a1.Kind).bind fun a3=>must (((a0.types.length + 1) + (a0.types.length + 1) / 4 + 192) * 8≤281474976710656∧a0.types.length + 1≤9223372036854775807) (kw a0 a1 a2 (a0.types++([a3]:List Int)))
def ak (a0:aL) (a1:Call) (a2:Int):Option (Int×aL) :=
 (gZ a0.keys a1.Key).bind fun y5=>bif decide (y5 < 0) then bif decide ((a0.keys.length:Int) ≥ 32) then some (2,a0) else (must (((a0.keys.length + 1) + (a0.keys.length + 1) / 4 + 192) * 16≤281474976710656∧a0.keys.length + 1≤9223372036854775807) (ky a0 a1 a2)) else (fG a1 a2 a0.keys a0.types a0.wrote a0.incs a0.last_ y5)
def uw (a0:History) (a2:Int) (a3:List Call) (a1:Int):Option ((List Call×Int) ⊕ ((List ByteArray×List Int×(List (List Int))×List Int×List Int×Int) ⊕ Int)) :=
 some (.inl (a3++([(⟨(idx ((idx a0.Txns a2).Ops) a1).Kind,idx a0.Keys ((idx ((idx a0.Txns a2).Ops) a1).Key),(idx ((idx a0.Txns a2).Ops) a1).Arg,(idx ((idx a0.Txns a2).Ops) a1).Got,(idx ((idx a0.Txns a2).Ops) a1).Vals⟩:Call)]:List Call),w64 (a1 + 1)))
def oH (a0:History) (a3:Int) (a1:List Call) (a2:Int) (a4:Bool):Option ((List Call×Int) ⊕ ((List ByteArray×List Int×(List (List Int))×List Int×List Int×Int) ⊕ Int)) :=
 bif a4 then out (out (some 1)) else (must (0≤(idx ((idx a0.Txns a3).Ops) a2).Key∧(idx ((idx a0.Txns a3).Ops) a2).Key < (a0.Keys.length:Int)) (must (((a1.length + 1) + (a1.length + 1) / 4 + 192) * 64≤281474976710656∧a1.length + 1≤9223372036854775807) (uw a0 a3 a1 a2)))
def ib (a9:Int) (a3:List Call):(List ByteArray×List Int×(List (List Int))×List Int×List Int×Int)→Option ((List ByteArray×List Int×(List (List Int))×List Int×List Int×Int) ⊕ ((List Call×Int) ⊕ ((List ByteArray×List Int×(List (List Int))×List Int×List Int×Int) ⊕ Int)))
 | (a4,a8,a6,a5,a7,a2)=>bif decide (a2 < (a3.length:Int)) then must (0≤a2∧a2 < (a3.length:Int)) ((ak (⟨a4,a8,a6,a5,a7⟩:aL) (idx a3 a2) a9).bind fun a1=>bif (a1.1 != 0) then out (out (out (some 1))) else (some (.inl (a1.2.keys,a1.2.types,a1.2.wrote,a1.2.incs,a1.2.last_,w64 (a2 + 1))))) else (out (out (some (.inl (a4,a8,a6,a5,a7,w64 (a9 + 1))))))
def ig (a0:History) (a4:List ByteArray) (a5:List Int) (a6:List (List Int)) (a9:List Int) (a8:List Int) (a1:Int):(List Call×Int)→Option ((List Call×Int) ⊕ ((List ByteArray×List Int×(List (List Int))×List Int×List Int×Int) ⊕ Int))
 | (a3,a2)=>bif decide (a2 < (((idx a0.Txns a1).Ops).length:Int)) then must (0≤a2∧a2 < (((idx a0.Txns a1).Ops).length:Int)) (bif decide ((idx ((idx a0.Txns a1).Ops) a2).Key < 0) then oH a0 a1 a3 a2 true else (oH a0 a1 a3 a2 (decide ((idx ((idx a0.Txns a1).Ops) a2).Key ≥ (a0.Keys.length:Int))))) else ((jh ([(⟨0,(idx a0.Txns a1).Status,a3⟩:Event)]:List Event)).bind fun a7=>bif (a7 != 0) then out (out (some 1)) else (iter (ib a1 a3) (a4,a5,a6,a9,a8,0)))
def kW (a0:History) (a1:List ByteArray) (a2:List Int) (a3:List (List Int)) (a7:List Int) (a4:List Int) (a6:Int) (a5:Bool):Option ((List ByteArray×List Int×(List (List Int))×List Int×List Int×Int) ⊕ Int) :=
 bif a5 then out (some 1) else (iter (ig a0 a1 a2 a3 a7 a4 a6) ([],0))
def kX (a0:History):(List ByteArray×List Int×(List (List Int))×List Int×List Int×Int)→Option ((List ByteArray×List Int×(List (List Int))×List Int×List Int×Int) ⊕ Int)
 | (a2,a3,a4,a6,a5,a1)=>bif decide (a1 < (a0.Txns.length:Int)) then must (0≤a1∧a1 < (a0.Txns.length:Int)) ((aQ a0.Txns a1).bind fun a7=>bif !a7 then kW a0 a2 a3 a4 a6 a5 a1 true else (kW a0 a2 a3 a4 a6 a5 a1 (decide ((((idx a0.Txns a1).Ops).length:Int) > 16)))) else (out (some 0))
def jd (a0:History) (a1:Bool):Option Int :=
 bif a1 then some 1 else (iter (kX a0) ([],[],[],[],[],0))
def aF (a0:History):Option Int :=
 (eX a0.Keys).bind fun a1=>bif !a1 then jd a0 true else (jd a0 (decide ((a0.Txns.length:Int) > 32)))
def vU (a0:Int):Option Bool :=
 some (decide (a0≤4))
def pz (a0:History) (a1:Ask):Option Int :=
 must (0≤a1.Txn∧a1.Txn < (a0.Txns.length:Int)) (must (0≤a1.Place∧a1.Place < (((idx a0.Txns a1.Txn).Ops).length:Int)) ((rR ((idx ((idx a0.Txns a1.Txn).Ops) a1.Place).Kind)).bind fun a2=>some a2))
def oI (a1:Int) (a2:List Int):Option ((List Int×Int) ⊕ (List Int)) :=
 some (.inl (a2,w64 (a1 + 1)))
def oJ (a0:History) (a1:Int) (a2:List Int) (a3:Int) (a4:Bool):Option ((List Int×Int) ⊕ (List Int)) :=
 bif a4 then must (((a2.length + 1) + (a2.length + 1) / 4 + 192) * 8≤281474976710656∧a2.length + 1≤9223372036854775807) (oI a3 (a2++([(idx ((idx a0.Txns a1).Ops) a3).Arg]:List Int))) else (oI a3 a2)
def uy (a0:History) (a1:Int) (a2:Int):(List Int×Int)→Option ((List Int×Int) ⊕ (List Int))
 | (a4,a3)=>must (0≤a1∧a1 < (a0.Txns.length:Int)) (bif decide (a3 < (((idx a0.Txns a1).Ops).length:Int)) then must (0≤a3∧a3 < (((idx a0.Txns a1).Ops).length:Int)) (bif ((idx ((idx a0.Txns a1).Ops) a3).Key == a2) then (vU ((idx ((idx a0.Txns a1).Ops) a3).Kind)).bind fun a5=>oJ a0 a1 a4 a3 a5 else (oJ a0 a1 a4 a3 false)) else (out (some a4)))
def aS (a0:History) (a1:Int) (a2:Int):Option (List Int) :=
 iter (uy a0 a1 a2) ([],0)
def nD (a2:Int) (a1:List Int):Option ((List Int×Int) ⊕ (List Int)) :=
 some (.inl (a1,w64 (a2 + 1)))
def jW (a1:List Int) (a2:Int) (a3:Bool):Option ((List Int×Int) ⊕ (List Int)) :=
 bif a3 then must (((a1.length + 1) + (a1.length + 1) / 4 + 192) * 8≤281474976710656∧a1.length + 1≤9223372036854775807) (nD a2 (a1++([a2]:List Int))) else (nD a2 a1)
def sK (a0:History) (a1:Ask):(List Int×Int)→Option ((List Int×Int) ⊕ (List Int))
 | (a3,a2)=>bif decide (a2 < (a0.Txns.length:Int)) then bif (a2 != a1.Txn) then must (0≤a2∧a2 < (a0.Txns.length:Int)) (bif ((idx a0.Txns a2).Status != 2) then (aS a0 a2 a1.Key).bind fun a4=>jW a3 a2 (decide ((a4.length:Int) > 0)) else (jW a3 a2 false)) else (jW a3 a2 false) else (out (some a3))
def aW (a0:History) (a1:Ask):Option (List Int) :=
 iter (sK a0 a1) ([],0)
def vV (y7:List Int):(Int×Int)→Option ((Int×Int) ⊕ Int)
 | (a2,a1)=>bif decide (a1 < (y7.length:Int)) then must (0≤a1∧a1 < (y7.length:Int)) (some (.inl (w64 (a2 + (idx y7 a1)),w64 (a1 + 1)))) else (out (some a2))
def kG (a0:History) (a1:Int) (a2:Int):Option Int :=
 (aS a0 a1 a2).bind fun y7=>iter (vV y7) (0,0)
def nE (a2:Int) (a1:Int):Option ((Int×Int) ⊕ ((List Bool×Int) ⊕ (List Int))) :=
 some (.inl (a1,w64 (a2 + 1)))
def nG (a2:Int) (a1:List Bool):Option ((List Bool×Int) ⊕ ((Int×Int) ⊕ ((List Bool×Int) ⊕ (List Int)))) :=
 some (.inl (a1,w64 (a2 + 1)))
def nH (a3:Int) (a2:List Bool) (a1:Int) (a4:Bool):Option ((List Bool×Int) ⊕ ((Int×Int) ⊕ ((List Bool×Int) ⊕ (List Int)))) :=
 bif a4 then must (0≤a1∧a1 < (a2.length:Int)) (bif idx a2 a1 then nG a1 (a2.set a1.toNat true) else (must (0≤a1∧a1 < (far:Int)) (nG a1 (a2.set a1.toNat (cK .i64 (fu .i64 a3 a1) 1 == 1))))) else (out (out (some (.inl (a2,w64 (a3 + 1))))))
def sM (a1:Ask) (y9:List Int) (a4:Int) (a5:Int):(List Bool×Int)→Option ((List Bool×Int) ⊕ ((Int×Int) ⊕ ((List Bool×Int) ⊕ (List Int))))
 | (a3,a2)=>bif decide (a2 < (y9.length:Int)) then must (0≤(0:Int)∧(0:Int) < (a1.Base.length:Int)) (nH a4 a3 a2 (a5 == idx a1.Base (0:Int))) else (nH a4 a3 a2 false)
def sN (a0:History) (a1:Ask) (y9:List Int) (a5:List Bool) (a4:Int):(Int×Int)→Option ((Int×Int) ⊕ ((List Bool×Int) ⊕ (List Int)))
 | (a3,a2)=>bif decide (a2 < (y9.length:Int)) then must (0≤a2∧a2 < (far:Int)) (bif (cK .i64 (fu .i64 a4 a2) 1 == 1) then must (0≤a2∧a2 < (y9.length:Int)) ((kG a0 (idx y9 a2) a1.Key).bind fun a6=>nE a2 (w64 (a3 + a6))) else (nE a2 a3)) else (iter (sM a1 y9 a4 a3) (a5,0))
def nI (a1:Int) (a2:List Int):Option ((List Int×Int) ⊕ ((List Bool×Int) ⊕ (List Int))) :=
 some (.inl (a2,w64 (a1 + 1)))
def sO (y9:List Int) (a3:List Bool):(List Int×Int)→Option ((List Int×Int) ⊕ ((List Bool×Int) ⊕ (List Int)))
 | (a2,a1)=>bif decide (a1 < (y9.length:Int)) then must (0≤a1∧a1 < (a3.length:Int)) (bif idx a3 a1 then must (0≤a1∧a1 < (y9.length:Int)) (must (((a2.length + 1) + (a2.length + 1) / 4 + 192) * 8≤281474976710656∧a2.length + 1≤9223372036854775807) (nI a1 (a2++([idx y9 a1]:List Int)))) else (nI a1 a2)) else (out (out (some a2)))
def sP (a0:History) (a1:Ask) (y9:List Int):(List Bool×Int)→Option ((List Bool×Int) ⊕ (List Int))
 | (a2,a3)=>must (0≤(y9.length:Int)∧(y9.length:Int) < (far:Int)) (bif decide (a3 < EA .i64 1 (y9.length:Int)) then iter (sN a0 a1 y9 a2 a3) (0,0) else (iter (sO y9 a2) ([],0)))
def aO (a0:History) (a1:Ask):Option (List Int) :=
 (aW a0 a1).bind fun y9=>must (0≤(y9.length:Int)∧(y9.length:Int)≤9223372036854775807∧(1:Int) * (y9.length:Int)≤281474976710656) (iter (sP a0 a1 y9) (List.replicate (y9.length:Int).toNat (default:Bool),1))
def mf (a0:List Int) (a1:List Int):Int→Option (Int ⊕ Bool)
 | a2=>bif decide (a2 < (a0.length:Int)) then must (0≤a2∧a2 < (a0.length:Int)) (must (0≤a2∧a2 < (a1.length:Int)) (bif (idx a0 a2 != idx a1 a2) then out (some false) else (some (.inl (w64 (a2 + 1)))))) else (out (some true))
def eu (a0:List Int) (a1:List Int):Option Bool :=
 bif ((a0.length:Int) != (a1.length:Int)) then some false else (iter (mf a0 a1) 0)
def qF (a0:List Int) (a1:List Int):Option Bool :=
 bif decide ((a1.length:Int) > (a0.length:Int)) then some false else (must (0≤(0:Int)∧(0:Int)≤(a1.length:Int)∧(a1.length:Int)≤(a0.length:Int)) ((eu (kg a0 (0:Int) (a1.length:Int)) a1).bind fun a2=>some a2))
def pV (a2:Int) (a1:Int):Option ((Int×Int) ⊕ ((List Int×List Int) ⊕ (List Int×Bool))) :=
 some (.inl (a1,w64 (a2 + 1)))
def uO (a0:History) (a1:Ask) (a2:List Int) (a3:List Int) (a6:Int):Int→Option (Int ⊕ ((Int×Int) ⊕ ((List Int×List Int) ⊕ (List Int×Bool))))
 | a4=>bif decide (a4 < (a2.length:Int)) then must (0≤a4∧a4 < (a2.length:Int)) (bif (idx a2 a4 == a6) then out (out (out (some (([]:List Int),false)))) else (some (.inl (w64 (a4 + 1))))) else (must (((a2.length + 1) + (a2.length + 1) / 4 + 192) * 8≤281474976710656∧a2.length + 1≤9223372036854775807) ((aS a0 a6 a1.Key).bind fun a5=>must (0≤(a5.length:Int)∧(a5.length:Int)≤(a3.length:Int)∧(a3.length:Int)≤(a3.length:Int)) (out (out (some (.inl (a2++([a6]:List Int),kg a3 (a5.length:Int) (a3.length:Int))))))))
def uP (a0:History) (a1:Ask) (y9:List Int) (a6:List Int) (a4:List Int):(Int×Int)→Option ((Int×Int) ⊕ ((List Int×List Int) ⊕ (List Int×Bool)))
 | (a3,a2)=>bif decide (a2 < (y9.length:Int)) then must (0≤a2∧a2 < (y9.length:Int)) ((aS a0 (idx y9 a2) a1.Key).bind fun a5=>(qF a4 a5).bind fun a7=>bif a7 then pV a2 (idx y9 a2) else (pV a2 a3)) else (bif decide (a3 < 0) then out (out (some (([]:List Int),false))) else (iter (uO a0 a1 a6 a4 a3) 0))
def lM (a0:History) (a1:Ask) (y9:List Int):(List Int×List Int)→Option ((List Int×List Int) ⊕ (List Int×Bool))
 | (a2,a3)=>bif decide ((a3.length:Int) > 0) then iter (uP a0 a1 y9 a2 a3) ((-1),0) else (out (some (a2,true)))
def df (a0:History) (a1:Ask):Option (List Int×Bool) :=
 (aW a0 a1).bind fun y9=>iter (lM a0 a1 y9) ([],a1.Base)
def uz (a0:List Int) (a1:Int):Int→Option (Int ⊕ Bool)
 | a2=>bif decide (a2 < (a0.length:Int)) then must (0≤a2∧a2 < (a0.length:Int)) (bif (idx a0 a2 == a1) then out (some true) else (some (.inl (w64 (a2 + 1))))) else (out (some false))
def ji (a0:List Int) (a1:Int):Option Bool :=
 iter (uz a0 a1) 0
def qG (a3:Int) (a2:List Int) (a1:Int):Option ((List Int×Int×Int) ⊕ (List Int×Bool)) :=
 some (.inl (a2,a1,w64 (a3 + 1)))
def qH (a2:Int) (a1:Int):Option ((Int×Int) ⊕ ((List Int×Int×Int) ⊕ (List Int×Bool))) :=
 some (.inl (a1,w64 (a2 + 1)))
def qI (y9:List Int) (a1:List Int) (a3:Int) (a2:Int) (a4:Int) (a5:Bool):Option ((Int×Int) ⊕ ((List Int×Int×Int) ⊕ (List Int×Bool))) :=
 bif a5 then out (out (some (([]:List Int),false))) else (bif decide (a4 > 0) then must (((a1.length + 1) + (a1.length + 1) / 4 + 192) * 8≤281474976710656∧a1.length + 1≤9223372036854775807) (out (qG a2 (a1++([idx y9 a2]:List Int)) (w64 (a3 + a4)))) else (out (qG a2 a1 a3)))
def vW (a1:Ask) (y9:List Int) (a7:List Int) (a6:Int) (a5:Int) (a4:List Int):(Int×Int)→Option ((Int×Int) ⊕ ((List Int×Int×Int) ⊕ (List Int×Bool)))
 | (a3,a2)=>bif decide (a2 < (a4.length:Int)) then must (0≤a2∧a2 < (a4.length:Int)) ((ji a1.Base (idx a4 a2)).bind fun a8=>bif a8 then qH a2 (w64 (a3 + 1)) else (qH a2 a3)) else (bif decide (a3 > 0) then qI y9 a7 a6 a5 a3 (decide (a3 < (a4.length:Int))) else (qI y9 a7 a6 a5 a3 false))
def vX (a0:History) (a1:Ask) (y9:List Int):(List Int×Int×Int)→Option ((List Int×Int×Int) ⊕ (List Int×Bool))
 | (a4,a3,a2)=>bif decide (a2 < (y9.length:Int)) then must (0≤a2∧a2 < (y9.length:Int)) ((aS a0 (idx y9 a2) a1.Key).bind fun a5=>iter (vW a1 y9 a4 a3 a2 a5) (0,0)) else (bif (a3 != (a1.Base.length:Int)) then out (some (([]:List Int),false)) else (out (some (a4,true))))
def bW (a0:History) (a1:Ask):Option (List Int×Bool) :=
 (aW a0 a1).bind fun y9=>iter (vX a0 a1 y9) ([],0,0)
def rT (a1:List Int):Option (List Int) :=
 some a1
def jk (a1:List Int):Option (List Int) :=
 some a1
def rU (a2:Int) (a1:List Int):Option ((List Int×Int) ⊕ (List Int)) :=
 some (.inl (a1,w64 (a2 + 1)))
def rV (a0:History) (a1:Ask) (a5:List Int):(List Int×Int)→Option ((List Int×Int) ⊕ (List Int))
 | (a3,a2)=>bif decide (a2 < (a5.length:Int)) then must (0≤a2∧a2 < (a5.length:Int)) ((aS a0 (idx a5 a2) a1.Key).bind fun a4=>must (0≤w64 ((a4.length:Int) - 1)∧w64 ((a4.length:Int) - 1) < (a4.length:Int)) (must (0≤(0:Int)∧(0:Int) < (a1.Base.length:Int)) (bif (idx a4 (w64 ((a4.length:Int) - 1)) == idx a1.Base (0:Int)) then must (((a3.length + 1) + (a3.length + 1) / 4 + 192) * 8≤281474976710656∧a3.length + 1≤9223372036854775807) (rU a2 (a3++([idx a5 a2]:List Int))) else (rU a2 a3)))) else (out (jk a3))
def di (a0:History) (a1:Ask):Option (List Int) :=
 (pz a0 a1).bind fun y7=>bif (y7 == 4) then (aO a0 a1).bind fun a3=>must (0≤(0:Int)∧(0:Int) < (a1.Base.length:Int)) (bif (idx a1.Base (0:Int) == 0) then must (((1 + a3.length) + (1 + a3.length) / 4 + 192) * 8≤281474976710656∧1 + a3.length≤9223372036854775807) (rT (([(-1)]:List Int)++a3)) else (rT a3)) else (bif ((a1.Base.length:Int) == 0) then some ([(-1)]:List Int) else (bif (y7 == 1) then (aW a0 a1).bind fun a5=>iter (rV a0 a1 a5) ([],0) else (bif (y7 == 2) then (df a0 a1).bind fun a2=>bif a2.2 then must (0≤w64 ((a2.1.length:Int) - 1)∧w64 ((a2.1.length:Int) - 1) < (a2.1.length:Int)) (must (((0 + 1) + (0 + 1) / 4 + 192) * 8≤281474976710656∧0 + 1≤9223372036854775807) (jk (([]:List Int)++([idx a2.1 (w64 ((a2.1.length:Int) - 1))]:List Int)))) else (jk []) else ((bW a0 a1).bind fun a4=>bif a4.2 then jk a4.1 else (jk [])))))
def tJ (a0:History) (a1:Ask):Option (List Int×Bool) :=
 (pz a0 a1).bind fun a2=>bif (a2 == 2) then (df a0 a1).bind fun a3=>some (a3.1,a3.2) else (bif (a2 == 3) then (bW a0 a1).bind fun a4=>some (a4.1,a4.2) else (some (([]:List Int),false)))
end
end Go.Proofs.YtfpeabnehpclnaaGreatT
