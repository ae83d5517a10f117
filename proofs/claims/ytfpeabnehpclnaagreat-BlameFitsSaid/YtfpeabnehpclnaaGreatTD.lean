import Derived.Test.YtfpeabnehpclnaaGreatXA
namespace Go.Proofs.YtfpeabnehpclnaaGreatT
noncomputable section
open Go Go.Proofs Go.Proofs.YtfpeabnehpclnaaGreatE
set_option linter.unusedVariables false
set_option linter.unusedSimpArgs false
set_option maxHeartbeats 0
set_option maxRecDepth 4096
structure eu where
 key:ByteArray
 arg:Int
 deriving Inhabited,DecidableEq
def eu.enc (x:eu):List Value:=[.string x.key,.int .i64 x.arg]
abbrev NI:Ty eu:=Ty.flat 2 eu.enc (fun _=>rfl) (fun _=>Gu rfl)
instance : Flat NI eu.enc:=⟨Iff.rfl,Iff.rfl⟩
structure bT where
 keys:List ByteArray
 at_:List (ByteArray×Int)
 types:List Int
 facts:List (eu×Unit)
 incs:List (ByteArray×(List Int))
 deriving Inhabited
structure Call where
 Kind:Int
 Key:ByteArray
 Arg:Int
 Got:Bool
 Vals:List Int
 deriving Inhabited
abbrev Ea:Ty Call:=Ty.iso (cK (aG .i64) (cK gJ (cK (aG .i64) (cK rH (bH 2 (aG .i64)))))) (fun g:Call=>(g.Kind,g.Key,g.Arg,g.Got,g.Vals))
abbrev uB (N:BM):Ty Call:=Ty.iso (cK (aG .i64) (cK gJ (cK (aG .i64) (cK rH (Ny N (aG .i64)))))) (fun g:Call=>(g.Kind,g.Key,g.Arg,g.Got,g.Vals))
theorem Ke (N:BM):wL N (uB N) Ea:=DC (jM lw (jM lw (jM lw (jM lw Ez))))
structure Event where
 Proc:Int
 Kind:Int
 Calls:List Call
 deriving Inhabited
abbrev Io:Ty Event:=Ty.iso (cK (aG .i64) (cK (aG .i64) (bH 129 Ea))) (fun g:Event=>(g.Proc,g.Kind,g.Calls))
structure Op where
 Kind:Int
 Key:Int
 Arg:Int
 Got:Bool
 Vals:List Int
 deriving Inhabited
abbrev kOp:Ty Op:=Ty.iso (cK (aG .i64) (cK (aG .i64) (cK (aG .i64) (cK rH (bH 2 (aG .i64)))))) (fun g:Op=>(g.Kind,g.Key,g.Arg,g.Got,g.Vals))
structure Txn where
 Proc:Int
 Status:Int
 From:Int
 To:Int
 Ops:List Op
 deriving Inhabited
abbrev jm:Ty Txn:=Ty.iso (cK (aG .i64) (cK (aG .i64) (cK (aG .i64) (cK (aG .i64) (bH 70 kOp))))) (fun g:Txn=>(g.Proc,g.Status,g.From,g.To,g.Ops))
structure History where
 Keys:List ByteArray
 Txns:List Txn
 deriving Inhabited
structure Ask where
 Txn:Int
 Place:Int
 Key:Int
 Base:List Int
 deriving Inhabited
abbrev rM:Ty Ask:=Ty.iso (cK (aG .i64) (cK (aG .i64) (cK (aG .i64) (bH 2 (aG .i64))))) (fun g:Ask=>(g.Txn,g.Place,g.Key,g.Base))
abbrev OB (N:BM):Ty Ask:=Ty.iso (cK (aG .i64) (cK (aG .i64) (cK (aG .i64) (Ny N (aG .i64))))) (fun g:Ask=>(g.Txn,g.Place,g.Key,g.Base))
theorem Qs (N:BM):wL N (OB N) rM:=DC (jM lw (jM lw (jM lw Ez)))
structure Spot where
 Txn:Int
 Place:Int
 deriving Inhabited,DecidableEq
def Spot.enc (x:Spot):List Value:=[.int .i64 x.Txn,.int .i64 x.Place]
abbrev yu:Ty Spot:=Ty.flat 2 Spot.enc (fun _=>rfl) (fun _=>Gu rfl)
instance : Flat yu Spot.enc:=⟨Iff.rfl,Iff.rfl⟩
structure gu where
 asks:List Ask
 bad:List Spot
 deriving Inhabited
structure bu where
 txn:Int
 args:List Int
 deriving Inhabited
abbrev jd:Ty bu:=Ty.iso (cK (aG .i64) (bH 2 (aG .i64))) (fun g:bu=>(g.txn,g.args))
structure aV where
 Ask:Ask
 sources:List Int
 parts:List Int
 made:Bool
 kind:Int
 deriving Inhabited
abbrev kC:Ty aV:=Ty.iso (cK rM (cK (bH 3 (aG .i64)) (cK (bH 3 (aG .i64)) (cK rH (aG .i64))))) (fun g:aV=>(g.Ask,g.sources,g.parts,g.made,g.kind))
structure Edge where
 From:Int
 To:Int
 Kind:Int
 Key:Int
 deriving Inhabited,DecidableEq
def Edge.enc (x:Edge):List Value:=[.int .i64 x.From,.int .i64 x.To,.int .i64 x.Kind,.int .i64 x.Key]
abbrev fH:Ty Edge:=Ty.flat 4 Edge.enc (fun _=>rfl) (fun _=>Gu rfl)
instance : Flat fH Edge.enc:=⟨Iff.rfl,Iff.rfl⟩
structure aL where
 h:History
 asks:List aV
 edges:List Edge
 deriving Inhabited
structure dU where
 N:Int
 Edges:List Edge
 deriving Inhabited
structure dz where
 Kind:Int
 Level:Int
 Spot:Spot
 Cycle:List Edge
 deriving Inhabited
abbrev zK:Ty dz:=Ty.iso (cK (aG .i64) (cK (aG .i64) (cK yu (bH 43 fH)))) (fun g:dz=>(g.Kind,g.Level,g.Spot,g.Cycle))
structure bJ where
 tight:Int
 loose:Int
 deriving Inhabited,DecidableEq
def bJ.enc (x:bJ):List Value:=[.int .i64 x.tight,.int .i64 x.loose]
abbrev gL:Ty bJ:=Ty.flat 2 bJ.enc (fun _=>rfl) (fun _=>Gu rfl)
instance : Flat gL bJ.enc:=⟨Iff.rfl,Iff.rfl⟩
structure fI where
 g:dU
 links:List (List bJ)
 deriving Inhabited
structure ax where
 node:Int
 last_:Bool
 first_:Bool
 deriving Inhabited,DecidableEq
def ax.enc (x:ax):List Value:=[.int .i64 x.node,.bool x.last_,.bool x.first_]
abbrev yn:Ty ax:=Ty.flat 3 ax.enc (fun _=>rfl) (fun _=>Gu rfl)
instance : Flat yn ax.enc:=⟨Iff.rfl,Iff.rfl⟩
structure fU where
 kind:Int
 level:Int
 d:Int
 r:Int
 rule:Int
 find:Int
 deriving Inhabited
def fU.enc (x:fU):List Value:=[.int .i64 x.kind,.int .i64 x.level,.int .i64 x.d,.int .i64 x.r,.int .i64 x.rule,fnV x.find]
abbrev NJ:Ty fU:=Ty.flat 6 fU.enc (fun _=>rfl) (fun _=>Gu rfl)
instance : Flat NJ fU.enc:=⟨Iff.rfl,Iff.rfl⟩
structure aR where
 keys:List ByteArray
 types:List Int
 wrote:List (List Int)
 incs:List Int
 last_:List Int
 deriving Inhabited
structure sM where
 n:Int
 d:List (List Bool)
 r:List (List Bool)
 deriving Inhabited
abbrev ny (N:BM):Ty aV:=(Ty.iso (cK (Ty.iso (cK (aG .i64) (cK (aG .i64) (cK (aG .i64) (Ny N (aG .i64))))) (fun g:Ask=>(g.Txn,g.Place,g.Key,g.Base))) (cK (Nj (aG .i64)) (cK (Nj (aG .i64)) (cK rH (aG .i64))))) (fun g:aV=>(g.Ask,g.sources,g.parts,g.made,g.kind)))
theorem DT (N:BM):wL N (ny N) kC:=(DC (jM (DC (jM lw (jM lw (jM lw Ez)))) (jM Jo (jM Jo (jM lw lw)))))
abbrev Rw2 (A:Option Addr) (c:Nat) (l:List Int):bY := .row (aG .i64) 2 A l.length c l
abbrev Rn2 (A:Option Addr) (n c:Nat) (l:List Int):bY := .row (aG .i64) 2 A n c l
abbrev Rw3 (A:Option Addr) (c:Nat) (l:List Int):bY := .row (aG .i64) 3 A l.length c l
abbrev Rw4 (A:Option Addr) (c:Nat) (l:List Bool):bY := .row rH 4 A l.length c l
abbrev Rw9 (A:Option Addr) (c:Nat) (l:List ByteArray):bY := .row gJ 9 A l.length c l
abbrev Rn9 (A:Option Addr) (n c:Nat) (l:List ByteArray):bY := .row gJ 9 A n c l
abbrev uU (A:Option Addr) (c:Nat) (l:List Spot):bY := .row yu 27 A l.length c l
abbrev Ip (A:Option Addr) (c:Nat) (l:List dz):bY := .row zK 30 A l.length c l
abbrev gN (A:Option Addr) (c:Nat) (l:List Edge):bY := .row fH 43 A l.length c l
abbrev Vv (A:Option Addr) (c:Nat) (l:List Txn):bY := .row jm 65 A l.length c l
abbrev Md (A:Option Addr) (c:Nat) (l:List (List Int)):bY := .row (bH 2 (aG .i64)) 66 A l.length c l
abbrev Vw (A:Option Addr) (n c:Nat) (l:List Op):bY := .row kOp 70 A n c l
abbrev ze (A:Option Addr) (c:Nat) (l:List Ask):bY := .row rM 81 A l.length c l
abbrev OC (A:Option Addr) (c:Nat) (l:List bJ):bY := .row gL 169 A l.length c l
abbrev Kg (A:Option Addr) (n c:Nat) (l:List bJ):bY := .row gL 169 A n c l
abbrev Al (A:Option Addr) (c:Nat) (l:List (List bJ)):bY := .row (bH 169 gL) 170 A l.length c l
abbrev Me (A:Option Addr) (c:Nat) (l:List bu):bY := .row jd 209 A l.length c l
abbrev oq (A:Option Addr) (c:Nat) (l:List ax):bY := .row yn 225 A l.length c l
abbrev Or3 (A:Option Addr) (c:Nat) (l:List Int):bY:=orA noM (aG .i64) 3 A l.length c l
abbrev SS (A:Option Addr) (c:Nat) (l:List Ask):bY:=orA noM rM 81 A l.length c l
abbrev Kh (b:Nat) (m:List (Edge×Unit)):bY:=FO (fun x:Edge => .agg #[.int .i64 x.From,.int .i64 x.To,.int .i64 x.Kind,.int .i64 x.Key]) (fun _:Unit => .agg #[]) b m
abbrev Mf (b:Nat) (m:List (Int×Unit)):bY:=FO (fun x:Int => .int .i64 x) (fun _:Unit => .agg #[]) b m
abbrev Qt (b:Nat) (m:List (Int×Int)):bY:=FO (fun x:Int => .int .i64 x) (fun x:Int => .int .i64 x) b m
abbrev Eb (b:Nat) (m:List (Int×Int)):bY:=FO (fun x:Int => .int .i64 x) (fun x:Int => .int .i64 x) b m
abbrev ED (b:Nat) (m:List (ByteArray×Int)):bY:=FO (fun x:ByteArray => .string x) (fun x:Int => .int .i64 x) b m
abbrev EE (b:Nat) (m:List (eu×Unit)):bY:=FO (fun x:eu => .agg #[.string x.key,.int .i64 x.arg]) (fun _:Unit => .agg #[]) b m
abbrev Ki (b:Nat) (m:List (ByteArray×(List Int))):bY:=zo (fun x:ByteArray => .string x) (bH 3 (aG .i64)) b m
abbrev rO (b:Nat) (m:List (ax×ax)):bY:=FO (fun x:ax => .agg #[.int .i64 x.node,.bool x.last_,.bool x.first_]) (fun x:ax => .agg #[.int .i64 x.node,.bool x.last_,.bool x.first_]) b m
abbrev Kj (b:Nat) (m:List (Int×(List Int))):bY:=zo (fun x:Int => .int .i64 x) (bH 2 (aG .i64)) b m
abbrev Iq (b:Nat) (m:List (Int×Unit)):bY:=FO (fun x:Int => .int .i64 x) (fun _:Unit => .agg #[]) b m
abbrev nZ (x:History) (A0:Option Addr) (c0:Nat) (A1:Option Addr) (c1:Nat):List Value:=[vS A0 x.Keys.length c0,vS A1 x.Txns.length c1]
abbrev lK (x:History) (A0:Option Addr) (c0:Nat) (A1:Option Addr) (c1:Nat):Value := .agg (nZ x A0 c0 A1 c1).toArray
abbrev dw (b:Nat) (x:History) (A0:Option Addr) (c0:Nat) (A1:Option Addr) (c1:Nat):bY := .blk b 25 (nZ x A0 c0 A1 c1)
abbrev SV (x:Spot):List Value:=[vI x.Txn,vI x.Place]
abbrev Vf (x:Spot):Value := .agg (SV x).toArray
abbrev Vx (b:Nat) (x:Spot):bY := .blk b 27 (SV x)
abbrev NK (x:dz) (A4:Option Addr) (c4:Nat):List Value:=[vI x.Kind,vI x.Level,vI x.Spot.Txn,vI x.Spot.Place,vS A4 x.Cycle.length c4]
abbrev Qu (x:dz) (A4:Option Addr) (c4:Nat):Value := .agg (NK x A4 c4).toArray
abbrev BV (b:Nat) (x:dz) (A4:Option Addr) (c4:Nat):bY := .blk b 30 (NK x A4 c4)
abbrev EF (x:dU) (A1:Option Addr) (c1:Nat):List Value:=[vI x.N,vS A1 x.Edges.length c1]
abbrev Hd (x:dU) (A1:Option Addr) (c1:Nat):Value := .agg (EF x A1 c1).toArray
abbrev uV (b:Nat) (x:dU) (A1:Option Addr) (c1:Nat):bY := .blk b 38 (EF x A1 c1)
abbrev JM (x:Edge):List Value:=[vI x.From,vI x.To,vI x.Kind,vI x.Key]
abbrev Ej (b:Nat) (x:Edge):bY := .blk b 43 (JM x)
abbrev El (x:Txn) (A4:Option Addr) (c4:Nat):List Value:=[vI x.Proc,vI x.Status,vI x.From,vI x.To,vS A4 x.Ops.length c4]
abbrev PQ (x:Txn) (A4:Option Addr) (c4:Nat):Value := .agg (El x A4 c4).toArray
abbrev wB (b:Nat) (x:Txn) (A4:Option Addr) (c4:Nat):bY := .blk b 65 (El x A4 c4)
abbrev KQ (x:Op) (A4:Option Addr) (c4:Nat):List Value:=[vI x.Kind,vI x.Key,vI x.Arg,vB x.Got,vS A4 x.Vals.length c4]
abbrev wM (b:Nat) (x:Op) (A4:Option Addr) (c4:Nat):bY := .blk b 70 (KQ x A4 c4)
abbrev yw (x:Ask) (A3:Option Addr) (c3:Nat):List Value:=[vI x.Txn,vI x.Place,vI x.Key,vS A3 x.Base.length c3]
abbrev xx (x:Ask) (A3:Option Addr) (c3:Nat):Value := .agg (yw x A3 c3).toArray
abbrev jD (b:Nat) (x:Ask) (A3:Option Addr) (c3:Nat):bY := .blk b 81 (yw x A3 c3)
abbrev Vy (x:aL) (A0:Option Addr) (c0:Nat) (A1:Option Addr) (c1:Nat) (A2:Option Addr) (c2:Nat) (A3:Option Addr) (c3:Nat):List Value:=[vS A0 x.h.Keys.length c0,vS A1 x.h.Txns.length c1,vS A2 x.asks.length c2,vS A3 x.edges.length c3]
abbrev JN (b:Nat) (x:aL) (A0:Option Addr) (c0:Nat) (A1:Option Addr) (c1:Nat) (A2:Option Addr) (c2:Nat) (A3:Option Addr) (c3:Nat):bY := .blk b 93 (Vy x A0 c0 A1 c1 A2 c2 A3 c3)
abbrev NL (x:aV) (A3:Option Addr) (c3:Nat) (A4:Option Addr) (c4:Nat) (A5:Option Addr) (c5:Nat):List Value:=[vI x.Ask.Txn,vI x.Ask.Place,vI x.Ask.Key,vS A3 x.Ask.Base.length c3,vS A4 x.sources.length c4,vS A5 x.parts.length c5,vB x.made,vI x.kind]
abbrev SX (x:aV) (A3:Option Addr) (c3:Nat) (A4:Option Addr) (c4:Nat) (A5:Option Addr) (c5:Nat):Value := .agg (NL x A3 c3 A4 c4 A5 c5).toArray
abbrev DU (b:Nat) (x:aV) (A3:Option Addr) (c3:Nat) (A4:Option Addr) (c4:Nat) (A5:Option Addr) (c5:Nat):bY := .blk b 96 (NL x A3 c3 A4 c4 A5 c5)
abbrev Kk (x:Event) (A2:Option Addr) (c2:Nat):List Value:=[vI x.Proc,vI x.Kind,vS A2 x.Calls.length c2]
abbrev UD (x:Event) (A2:Option Addr) (c2:Nat):Value := .agg (Kk x A2 c2).toArray
abbrev OD (b:Nat) (x:Event) (A2:Option Addr) (c2:Nat):bY := .blk b 124 (Kk x A2 c2)
abbrev EG (x:Call) (A4:Option Addr) (c4:Nat):List Value:=[vI x.Kind,.string x.Key,vI x.Arg,vB x.Got,vS A4 x.Vals.length c4]
abbrev Ir (x:Call) (A4:Option Addr) (c4:Nat):Value := .agg (EG x A4 c4).toArray
abbrev jC (b:Nat) (x:Call) (A4:Option Addr) (c4:Nat):bY := .blk b 129 (EG x A4 c4)
abbrev Qv (x:gu) (A0:Option Addr) (c0:Nat) (A1:Option Addr) (c1:Nat):List Value:=[vS A0 x.asks.length c0,vS A1 x.bad.length c1]
abbrev Vg (x:gu) (A0:Option Addr) (c0:Nat) (A1:Option Addr) (c1:Nat):Value := .agg (Qv x A0 c0 A1 c1).toArray
abbrev Vh (x:aR) (A0:Option Addr) (c0:Nat) (A1:Option Addr) (c1:Nat) (A2:Option Addr) (c2:Nat) (A3:Option Addr) (c3:Nat) (A4:Option Addr) (c4:Nat):List Value:=[vS A0 x.keys.length c0,vS A1 x.types.length c1,vS A2 x.wrote.length c2,vS A3 x.incs.length c3,vS A4 x.last_.length c4]
abbrev UE (b:Nat) (x:aR) (A0:Option Addr) (c0:Nat) (A1:Option Addr) (c1:Nat) (A2:Option Addr) (c2:Nat) (A3:Option Addr) (c3:Nat) (A4:Option Addr) (c4:Nat):bY := .blk b 149 (Vh x A0 c0 A1 c1 A2 c2 A3 c3 A4 c4)
abbrev Iu (x:bJ):List Value:=[vI x.tight,vI x.loose]
abbrev UF (x:bJ):Value := .agg (Iu x).toArray
abbrev OE (b:Nat) (x:bJ):bY := .blk b 169 (Iu x)
abbrev Vi (x:fI) (A1:Option Addr) (c1:Nat) (A2:Option Addr) (c2:Nat):List Value:=[vI x.g.N,vS A1 x.g.Edges.length c1,vS A2 x.links.length c2]
abbrev Cf (b:Nat) (x:fI) (A1:Option Addr) (c1:Nat) (A2:Option Addr) (c2:Nat):bY := .blk b 173 (Vi x A1 c1 A2 c2)
abbrev Iw (x:bu) (A1:Option Addr) (c1:Nat):List Value:=[vI x.txn,vS A1 x.args.length c1]
abbrev Qw (x:bu) (A1:Option Addr) (c1:Nat):Value := .agg (Iw x A1 c1).toArray
abbrev Kl (b:Nat) (x:bu) (A1:Option Addr) (c1:Nat):bY := .blk b 209 (Iw x A1 c1)
abbrev Ec (x:ax):List Value:=[vI x.node,vB x.last_,vB x.first_]
abbrev GG (x:ax):Value := .agg (Ec x).toArray
abbrev zq (b:Nat) (x:ax):bY := .blk b 225 (Ec x)
abbrev Qx (b:Nat) (x0:Int) (A1:Option Addr) (c1:Nat) (x1:List Edge):List bY:=[.blk b 38 [vI x0,vS A1 x1.length c1],gN A1 c1 x1]
abbrev PR (b:Nat) (x:dU) (A1:Option Addr) (c1:Nat):List bY:=Qx b x.N A1 c1 x.Edges
abbrev Cg (b:Nat) (A0:Option Addr) (c0:Nat) (x0:List Ask) (A1:Option Addr) (c1:Nat) (x1:List Spot):List bY:=[.blk b 132 [vS A0 x0.length c0,vS A1 x1.length c1],ze A0 c0 x0,uU A1 c1 x1]
abbrev UG (b:Nat) (x:gu) (A0:Option Addr) (c0:Nat) (A1:Option Addr) (c1:Nat):List bY:=Cg b A0 c0 x.asks A1 c1 x.bad
abbrev wD (b:Nat) (A0:Option Addr) (c0:Nat) (x0:List ByteArray) (A1:Option Addr) (c1:Nat) (x1:List Int) (A2:Option Addr) (c2:Nat) (x2:List (List Int)) (A3:Option Addr) (c3:Nat) (x3:List Int) (A4:Option Addr) (c4:Nat) (x4:List Int):List bY:=[.blk b 149 [vS A0 x0.length c0,vS A1 x1.length c1,vS A2 x2.length c2,vS A3 x3.length c3,vS A4 x4.length c4],Rw9 A0 c0 x0,Rw3 A1 c1 x1,Md A2 c2 x2,Rw3 A3 c3 x3,Rw3 A4 c4 x4]
abbrev UH (b:Nat) (x:aR) (A0:Option Addr) (c0:Nat) (A1:Option Addr) (c1:Nat) (A2:Option Addr) (c2:Nat) (A3:Option Addr) (c3:Nat) (A4:Option Addr) (c4:Nat):List bY:=wD b A0 c0 x.keys A1 c1 x.types A2 c2 x.wrote A3 c3 x.incs A4 c4 x.last_
abbrev Ch (b:Nat) (A0:Option Addr) (c0:Nat) (x0:List ByteArray) (b1:Nat) (x1:List (ByteArray×Int)) (A2:Option Addr) (c2:Nat) (x2:List Int) (b3:Nat) (x3:List (eu×Unit)) (b4:Nat) (x4:List (ByteArray×(List Int))):List bY:=[.blk b 199 [vS A0 x0.length c0,.map (some b1),vS A2 x2.length c2,.map (some b3),.map (some b4)],Rw9 A0 c0 x0,ED b1 x1,Rw3 A2 c2 x2,EE b3 x3,Ki b4 x4]
abbrev Qy (b:Nat) (x:bT) (A0:Option Addr) (c0:Nat) (b1:Nat) (A2:Option Addr) (c2:Nat) (b3:Nat) (b4:Nat):List bY:=Ch b A0 c0 x.keys b1 x.at_ A2 c2 x.types b3 x.facts b4 x.incs
theorem KR {H:BM} {x:dz} {cs:List Value} (h:zK.rd H x cs):∃ A4 c4,cs=NK x A4 c4∧x.Cycle.length≤c4∧rdS fH H A4 x.Cycle:=by
 obtain ⟨_,_,rfl,rfl,⟨_,_,rfl,rfl,⟨_,_,rfl,rfl,⟨A0,c0,rfl,l0,r0⟩⟩⟩⟩:=h;exact ⟨A0,c0,rfl,l0,r0⟩
theorem lc {H:BM} {x:Txn} {cs:List Value} (h:jm.rd H x cs):∃ A4 c4,cs=El x A4 c4∧x.Ops.length≤c4∧rdS kOp H A4 x.Ops:=by
 obtain ⟨_,_,rfl,rfl,⟨_,_,rfl,rfl,⟨_,_,rfl,rfl,⟨_,_,rfl,rfl,⟨A0,c0,rfl,l0,r0⟩⟩⟩⟩⟩:=h;exact ⟨A0,c0,rfl,l0,r0⟩
theorem He {H:BM} {x:Op} {cs:List Value} (h:kOp.rd H x cs):∃ A4 c4,cs=KQ x A4 c4∧x.Vals.length≤c4∧rdS (aG .i64) H A4 x.Vals:=by
 obtain ⟨_,_,rfl,rfl,⟨_,_,rfl,rfl,⟨_,_,rfl,rfl,⟨_,_,rfl,rfl,⟨A0,c0,rfl,l0,r0⟩⟩⟩⟩⟩:=h;exact ⟨A0,c0,rfl,l0,r0⟩
theorem zt {H:BM} {x:Ask} {cs:List Value} (h:rM.rd H x cs):∃ A3 c3,cs=yw x A3 c3∧x.Base.length≤c3∧rdS (aG .i64) H A3 x.Base:=by
 obtain ⟨_,_,rfl,rfl,⟨_,_,rfl,rfl,⟨_,_,rfl,rfl,⟨A0,c0,rfl,l0,r0⟩⟩⟩⟩:=h;exact ⟨A0,c0,rfl,l0,r0⟩
theorem GH {H:BM} {x:aV} {cs:List Value} (h:kC.rd H x cs):∃ A3 c3 A4 c4 A5 c5,cs=NL x A3 c3 A4 c4 A5 c5∧x.Ask.Base.length≤c3∧rdS (aG .i64) H A3 x.Ask.Base∧x.sources.length≤c4∧rdS (aG .i64) H A4 x.sources∧x.parts.length≤c5∧rdS (aG .i64) H A5 x.parts:=by
 obtain ⟨_,_,rfl,⟨_,_,rfl,rfl,⟨_,_,rfl,rfl,⟨_,_,rfl,rfl,⟨A0,c0,rfl,l0,r0⟩⟩⟩⟩,⟨_,_,rfl,⟨A1,c1,rfl,l1,r1⟩,⟨_,_,rfl,⟨A2,c2,rfl,l2,r2⟩,⟨_,_,rfl,rfl,rfl⟩⟩⟩⟩:=h;exact ⟨A0,c0,A1,c1,A2,c2,rfl,l0,r0,l1,r1,l2,r2⟩
theorem OH {H:BM} {x:Event} {cs:List Value} (h:Io.rd H x cs):∃ A2 c2,cs=Kk x A2 c2∧x.Calls.length≤c2∧rdS Ea H A2 x.Calls:=by
 obtain ⟨_,_,rfl,rfl,⟨_,_,rfl,rfl,⟨A0,c0,rfl,l0,r0⟩⟩⟩:=h;exact ⟨A0,c0,rfl,l0,r0⟩
theorem Qz {H:BM} {x:Call} {cs:List Value} (h:Ea.rd H x cs):∃ A4 c4,cs=EG x A4 c4∧x.Vals.length≤c4∧rdS (aG .i64) H A4 x.Vals:=by
 obtain ⟨_,_,rfl,rfl,⟨_,_,rfl,rfl,⟨_,_,rfl,rfl,⟨_,_,rfl,rfl,⟨A0,c0,rfl,l0,r0⟩⟩⟩⟩⟩:=h;exact ⟨A0,c0,rfl,l0,r0⟩
theorem ja {H:BM} {x:bu} {cs:List Value} (h:jd.rd H x cs):∃ A1 c1,cs=Iw x A1 c1∧x.args.length≤c1∧rdS (aG .i64) H A1 x.args:=by
 obtain ⟨_,_,rfl,rfl,⟨A0,c0,rfl,l0,r0⟩⟩:=h;exact ⟨A0,c0,rfl,l0,r0⟩
theorem EH (x:dz) {R3:List bY} {c3:List Value} (h3:Mk (bH 43 fH) R3 x.Cycle c3):Mk zK ([]++([]++([]++R3))) x ([vI x.Kind]++([vI x.Level]++([vI x.Spot.Txn,vI x.Spot.Place]++c3))):=wy (g:=fun g:dz=>(g.Kind,g.Level,g.Spot,g.Cycle)) (x:=x) (dP (oP _ _ rfl) (dP (oP _ _ rfl) (dP (oP _ _ rfl) h3)))
theorem Vj (x:Txn) {R4:List bY} {c4:List Value} (h4:Mk (bH 70 kOp) R4 x.Ops c4):Mk jm ([]++([]++([]++([]++R4)))) x ([vI x.Proc]++([vI x.Status]++([vI x.From]++([vI x.To]++c4)))):=wy (g:=fun g:Txn=>(g.Proc,g.Status,g.From,g.To,g.Ops)) (x:=x) (dP (oP _ _ rfl) (dP (oP _ _ rfl) (dP (oP _ _ rfl) (dP (oP _ _ rfl) h4))))
theorem Vk (x:Op) {R4:List bY} {c4:List Value} (h4:Mk (bH 2 (aG .i64)) R4 x.Vals c4):Mk kOp ([]++([]++([]++([]++R4)))) x ([vI x.Kind]++([vI x.Key]++([vI x.Arg]++([vB x.Got]++c4)))):=wy (g:=fun g:Op=>(g.Kind,g.Key,g.Arg,g.Got,g.Vals)) (x:=x) (dP (oP _ _ rfl) (dP (oP _ _ rfl) (dP (oP _ _ rfl) (dP (oP _ _ rfl) h4))))
theorem QA (x:Ask) {R3:List bY} {c3:List Value} (h3:Mk (bH 2 (aG .i64)) R3 x.Base c3):Mk rM ([]++([]++([]++R3))) x ([vI x.Txn]++([vI x.Place]++([vI x.Key]++c3))):=wy (g:=fun g:Ask=>(g.Txn,g.Place,g.Key,g.Base)) (x:=x) (dP (oP _ _ rfl) (dP (oP _ _ rfl) (dP (oP _ _ rfl) h3)))
theorem JO (x:bu) {R1:List bY} {c1:List Value} (h1:Mk (bH 2 (aG .i64)) R1 x.args c1):Mk jd ([]++R1) x ([vI x.txn]++c1):=wy (g:=fun g:bu=>(g.txn,g.args)) (x:=x) (dP (oP _ _ rfl) h1)
def pR (a0:List ByteArray) (a1:ByteArray):Int→Option (Int ⊕ Int)
 | a2=>bif decide (a2 < (a0.length:Int)) then must (0≤a2∧a2 < (a0.length:Int)) (bif sEq a1 (idx a0 a2) then out (some a2) else (some (.inl (w64 (a2 + 1))))) else (out (some (-1)))
def slices_Index_string (a0:List ByteArray) (a1:ByteArray):Option Int :=
 iter (pR a0 a1) 0
def slices_Contains_string (a0:List ByteArray) (a1:ByteArray):Option Bool :=
 (slices_Index_string a0 a1).bind fun y3=>some (decide (y3 ≥ 0))
def uo:Option bT :=
 some (⟨([]:List ByteArray),([]:List (ByteArray×Int)),([]:List Int),([]:List (eu×Unit)),([]:List (ByteArray×(List Int)))⟩:bT)
def Bd (a0:Int):Option (Int×Int) :=
 bif (a0 == 5) then some (0,1) else (bif (a0 == 8) then some (1,1) else (some (0,64)))
def wY (a0:Call) (a1:Int) (a2:Bool):Option (Int ⊕ Bool) :=
 bif a2 then must (0≤w64 (a1 - 1)∧w64 (a1 - 1) < (a0.Vals.length:Int)) (must (0≤a1∧a1 < (a0.Vals.length:Int)) (bif decide (idx a0.Vals (w64 (a1 - 1)) ≥ idx a0.Vals a1) then out (some false) else (some (.inl (w64 (a1 + 1)))))) else (out (some true))
def wZ (a0:Call):Int→Option (Int ⊕ Bool)
 | a1=>bif (a0.Kind == 7) then wY a0 a1 (decide (a1 < (a0.Vals.length:Int))) else (wY a0 a1 false)
def xc (a0:Call) (a1:Bool):Option Bool :=
 bif a1 then some false else (iter (wZ a0) 1)
def xe (a0:Call) (a2:Bool):Option Bool :=
 bif a2 then some false else (bif !a0.Got then some ((a0.Vals.length:Int) == 0) else ((Bd a0.Kind).bind fun a1=>bif decide ((a0.Vals.length:Int) < a1.1) then xc a0 true else (xc a0 (decide ((a0.Vals.length:Int) > a1.2)))))
def qE (a0:Call) (a1:Int) (a2:Bool):Option Bool :=
 bif a2 then some false else (bif decide (a0.Kind≤4) then bif !a0.Got then bif ((a0.Vals.length:Int) == 0) then bif (a0.Kind != 4) then some true else (bif decide ((-1048576)≤a0.Arg) then some (decide (a0.Arg≤1048576)) else (some false)) else (some false) else (some false) else (bif (a0.Arg != 0) then xe a0 true else (xe a0 (a0.Got != (a1 == 1)))))
def dG (a0:Call) (a1:Int):Option Bool :=
 bif decide (a0.Kind < 1) then qE a0 a1 true else (bif decide (a0.Kind > 8) then qE a0 a1 true else (bif sEq a0.Key (⟨#[]⟩:ByteArray) then qE a0 a1 true else (qE a0 a1 (decide ((a0.Key.size:Int) > 32)))))
def xR (a0:Call) (a1:Event):Option Bool :=
 (dG a0 a1.Kind).bind fun y5=>some (!y5)
def iM (a0:List Call) (a1c0:Event):Int→Option (Int ⊕ Int)
 | a1=>bif decide (a1 < (a0.length:Int)) then must (0≤a1∧a1 < (a0.length:Int)) ((xR (idx a0 a1) a1c0).bind fun a2=>bif a2 then out (some a1) else (some (.inl (w64 (a1 + 1))))) else (out (some (-1)))
def dh (a0:List Call) (a1c0:Event):Option Int :=
 iter (iM a0 a1c0) 0
def eY (a0:List Call) (a1c0:Event):Option Bool :=
 (dh a0 a1c0).bind fun y3=>some (decide (y3 ≥ 0))
def ug (a0:List Event) (a1:Int) (a2:Bool):Option (Int ⊕ Int) :=
 bif a2 then out (some 1) else ((eY ((idx a0 a1).Calls) (idx a0 a1)).bind fun a3=>bif a3 then out (some 1) else (some (.inl (w64 (a1 + 1)))))
def zL (a0:List Event):Int→Option (Int ⊕ Int)
 | a1=>bif decide (a1 < (a0.length:Int)) then must (0≤a1∧a1 < (a0.length:Int)) (bif decide ((idx a0 a1).Kind < 0) then ug a0 a1 true else (bif decide ((idx a0 a1).Kind > 3) then ug a0 a1 true else (ug a0 a1 (decide ((((idx a0 a1).Calls).length:Int) > 16))))) else (out (some 0))
def ji (a0:List Event):Option Int :=
 bif decide ((a0.length:Int) > 256) then some 1 else (iter (zL a0) 0)
def yx (a0:History) (a1:Txn) (a3:List Call) (a2:Int):Option ((List Call×Int) ⊕ (Event×Bool)) :=
 some (.inl (a3++([(⟨(idx a1.Ops a2).Kind,idx a0.Keys ((idx a1.Ops a2).Key),(idx a1.Ops a2).Arg,(idx a1.Ops a2).Got,(idx a1.Ops a2).Vals⟩:Call)]:List Call),w64 (a2 + 1)))
def uW (a0:History) (a1:Txn) (a2:List Call) (a3:Int) (a4:Bool):Option ((List Call×Int) ⊕ (Event×Bool)) :=
 bif a4 then out (some ((⟨0,a1.Status,a2⟩:Event),false)) else (must (0≤(idx a1.Ops a3).Key∧(idx a1.Ops a3).Key < (a0.Keys.length:Int)) (must (((a2.length + 1) + (a2.length + 1) / 4 + 192) * 64≤281474976710656∧a2.length + 1≤9223372036854775807) (yx a0 a1 a2 a3)))
def yz (a0:History) (a1:Txn):(List Call×Int)→Option ((List Call×Int) ⊕ (Event×Bool))
 | (a3,a2)=>bif decide (a2 < (a1.Ops.length:Int)) then must (0≤a2∧a2 < (a1.Ops.length:Int)) (bif decide ((idx a1.Ops a2).Key < 0) then uW a0 a1 a3 a2 true else (uW a0 a1 a3 a2 (decide ((idx a1.Ops a2).Key ≥ (a0.Keys.length:Int))))) else ((ji ([(⟨0,a1.Status,a3⟩:Event)]:List Event)).bind fun a4=>out (some ((⟨0,a1.Status,a3⟩:Event),(a4 == 0))))
def fZ (a0:History) (a1:Txn):Option (Event×Bool) :=
 iter (yz a0 a1) ([],0)
def uX (a0:Txn) (a1:Txn):Option Bool :=
 bif (a0.Proc == a1.Proc) then bif (a0.To == (-1)) then some true else (some (decide (a0.To ≥ a1.From))) else (some false)
def iD (a0:List Txn) (a1c0:Txn):Int→Option (Int ⊕ Int)
 | a1=>bif decide (a1 < (a0.length:Int)) then must (0≤a1∧a1 < (a0.length:Int)) ((uX (idx a0 a1) a1c0).bind fun a2=>bif a2 then out (some a1) else (some (.inl (w64 (a1 + 1))))) else (out (some (-1)))
def cu (a0:List Txn) (a1c0:Txn):Option Int :=
 iter (iD a0 a1c0) 0
def eP (a0:List Txn) (a1c0:Txn):Option Bool :=
 (cu a0 a1c0).bind fun y3=>some (decide (y3 ≥ 0))
def qx (a0:List Txn) (a1:Txn) (a3:Bool):Option Bool :=
 bif a3 then some false else ((eP a0 a1).bind fun a2=>some (!a2))
def uq (a0:List Txn) (a1:Txn):Option Bool :=
 bif decide (a1.From < 0) then qx a0 a1 true else (bif decide ((a0.length:Int) > 0) then must (0≤w64 ((a0.length:Int) - 1)∧w64 ((a0.length:Int) - 1) < (a0.length:Int)) (qx a0 a1 (decide ((idx a0 (w64 ((a0.length:Int) - 1))).From ≥ a1.From))) else (qx a0 a1 false))
def ut (a0:List Txn) (a1:Txn) (a2:Bool):Option Bool :=
 bif a2 then some false else (uq a0 a1)
def uu (a0:List Txn) (a1:Txn) (a2:Bool):Option Bool :=
 bif a2 then bif decide (a1.To≤a1.From) then some false else (uq a0 a1) else (bif (a1.Status == 3) then bif (a1.To != (-1)) then ut a0 a1 (decide (a1.To≤a1.From)) else (ut a0 a1 false) else (some false))
def dE (a0:List Txn) (a1:Txn):Option Bool :=
 bif (a1.Status == 1) then uu a0 a1 (a1.Status == 1) else (uu a0 a1 (a1.Status == 2))
def sN (a0:Int):Option Int :=
 some (w64 ((dm .i64 (w64 (a0 - 1)) 3) + 1))
def kg (a1:List ByteArray) (a5:List (ByteArray×Int)) (a3:List Int) (a4:List (eu×Unit)) (a2:List (ByteArray×(List Int))):Option (Int×bT) :=
 some (0,(⟨a1,a5,a3,a4,a2⟩:bT))
def qI (a0:bT) (a1:Call) (a2:List ByteArray) (a4:List (ByteArray×Int)) (a3:List Int):Option (Int×bT) :=
 bif kZ a0.facts (⟨a1.Key,a1.Arg⟩:eu) then some (3,(⟨a2,a4,a3,a0.facts,a0.incs⟩:bT)) else (kg a2 a4 a3 (iB a0.facts (⟨a1.Key,a1.Arg⟩:eu) ()) a0.incs)
def mF (a0:bT) (a1:Call) (a3:List ByteArray) (a5:List (ByteArray×Int)) (a4:List Int) (a2:List (ByteArray×(List Int))):Option (Int×bT) :=
 bif decide (((mat a2 a1.Key).length:Int) > 8) then some (51,(⟨a3,a5,a4,a0.facts,a2⟩:bT)) else (kg a3 a5 a4 a0.facts a2)
def mG (a0:bT) (a1:Call) (a2:Int) (a3:List ByteArray) (a5:List (ByteArray×Int)) (a4:List Int) (a6:Bool):Option (Int×bT) :=
 bif a6 then must (((((mat a0.incs a1.Key).length) + 1) + (((mat a0.incs a1.Key).length) + 1) / 4 + 192) * 8≤281474976710656∧((mat a0.incs a1.Key).length) + 1≤9223372036854775807) (mF a0 a1 a3 a5 a4 (iB a0.incs a1.Key ((mat a0.incs a1.Key)++([a2]:List Int)))) else (mF a0 a1 a3 a5 a4 a0.incs)
def mH (a0:bT) (a1:Call) (a2:Int) (a3:List ByteArray) (a5:List (ByteArray×Int)) (a4:List Int) (a6:Bool):Option (Int×bT) :=
 bif a6 then qI a0 a1 a3 a5 a4 else (bif (a1.Kind == 4) then bif (((mat a0.incs a1.Key).length:Int) == 0) then mG a0 a1 a2 a3 a5 a4 true else (must (0≤w64 (((mat a0.incs a1.Key).length:Int) - 1)∧w64 (((mat a0.incs a1.Key).length:Int) - 1) < ((mat a0.incs a1.Key).length:Int)) (mG a0 a1 a2 a3 a5 a4 (idx (mat a0.incs a1.Key) (w64 (((mat a0.incs a1.Key).length:Int) - 1)) != a2))) else (kg a3 a5 a4 a0.facts a0.incs))
def ko (a0:bT) (a1:Call) (a2:Int) (a4:List ByteArray) (a5:List (ByteArray×Int)) (a3:List Int) (a6:Int):Option (Int×bT) :=
 must (0≤a6∧a6 < (a3.length:Int)) ((sN a1.Kind).bind fun a7=>bif (idx a3 a6 != a7) then some (50,(⟨a4,a5,a3,a0.facts,a0.incs⟩:bT)) else (bif (a1.Kind == 2) then mH a0 a1 a2 a4 a5 a3 (a1.Kind == 2) else (mH a0 a1 a2 a4 a5 a3 (a1.Kind == 3))))
def qJ (a0:bT) (a1:Call) (a2:Int):Option (Int×bT) :=
 (sN a1.Kind).bind fun a3=>must (((a0.types.length + 1) + (a0.types.length + 1) / 4 + 192) * 8≤281474976710656∧a0.types.length + 1≤9223372036854775807) (ko a0 a1 a2 (a0.keys++([a1.Key]:List ByteArray)) (iB a0.at_ a1.Key (a0.keys.length:Int)) (a0.types++([a3]:List Int)) (a0.keys.length:Int))
def aN (a0:bT) (a1:Call) (a2:Int):Option (Int×bT) :=
 bif !(kZ a0.at_ a1.Key) then bif ((a0.keys.length:Int) == 32) then some (2,a0) else (must (((a0.keys.length + 1) + (a0.keys.length + 1) / 4 + 192) * 16≤281474976710656∧a0.keys.length + 1≤9223372036854775807) (qJ a0 a1 a2)) else (ko a0 a1 a2 a0.keys a0.at_ a0.types (mat a0.at_ a1.Key))
def rP (a2:Int) (a1:Bool):Option (Int ⊕ Int) :=
 bif a1 then out (some 1) else (some (.inl (w64 (a2 + 1))))
def uY (a6:Int) (a3:Event×Bool):(List ByteArray×(List (ByteArray×Int))×List Int×(List (eu×Unit))×(List (ByteArray×(List Int)))×Int)→Option ((List ByteArray×(List (ByteArray×Int))×List Int×(List (eu×Unit))×(List (ByteArray×(List Int)))×Int) ⊕ ((List ByteArray×(List (ByteArray×Int))×List Int×(List (eu×Unit))×(List (ByteArray×(List Int)))×Int) ⊕ (Int ⊕ Int)))
 | (a8,a5,a9,a4,a7,a2)=>bif decide (a2 < (a3.1.Calls.length:Int)) then must (0≤a2∧a2 < (a3.1.Calls.length:Int)) ((aN (⟨a8,a5,a9,a4,a7⟩:bT) (idx a3.1.Calls a2) a6).bind fun a1=>bif (a1.1 != 0) then out (out (out (some 1))) else (some (.inl (a1.2.keys,a1.2.at_,a1.2.types,a1.2.facts,a1.2.incs,w64 (a2 + 1))))) else (out (some (.inl (a8,a5,a9,a4,a7,w64 (a6 + 1)))))
def uZ (a8:List ByteArray) (a7:List (ByteArray×Int)) (a5:List Int) (a2:List (eu×Unit)) (a6:List (ByteArray×(List Int))) (a1:Int) (a3:Event×Bool) (a4:Bool):Option ((List ByteArray×(List (ByteArray×Int))×List Int×(List (eu×Unit))×(List (ByteArray×(List Int)))×Int) ⊕ (Int ⊕ Int)) :=
 bif a4 then out (out (some 1)) else (iter (uY a1 a3) (a8,a7,a5,a2,a6,0))
def rQ (a0:History):(List ByteArray×(List (ByteArray×Int))×List Int×(List (eu×Unit))×(List (ByteArray×(List Int)))×Int)→Option ((List ByteArray×(List (ByteArray×Int))×List Int×(List (eu×Unit))×(List (ByteArray×(List Int)))×Int) ⊕ (Int ⊕ Int))
 | (a7,a6,a4,a3,a5,a1)=>bif decide (a1 < (a0.Txns.length:Int)) then must (0≤a1∧a1 < (a0.Txns.length:Int)) ((fZ a0 (idx a0.Txns a1)).bind fun a2=>bif !a2.2 then uZ a7 a6 a4 a3 a5 a1 a2 true else (must (0≤(0:Int)∧(0:Int)≤a1∧a1≤(a0.Txns.length:Int)) ((dE (jT a0.Txns (0:Int) a1) (idx a0.Txns a1)).bind fun a8=>uZ a7 a6 a4 a3 a5 a1 a2 (!a8)))) else (out (out (some 0)))
def yA (a0:History):Int→Option (Int ⊕ Int)
 | a1=>bif decide (a1 < (a0.Keys.length:Int)) then must (0≤a1∧a1 < (a0.Keys.length:Int)) (bif sEq (idx a0.Keys a1) (⟨#[]⟩:ByteArray) then rP a1 true else (bif decide (((idx a0.Keys a1).size:Int) > 32) then rP a1 true else (must (0≤(0:Int)∧(0:Int)≤a1∧a1≤(a0.Keys.length:Int)) ((slices_Contains_string (jT a0.Keys (0:Int) a1) (idx a0.Keys a1)).bind fun a3=>rP a1 a3)))) else ((uo).bind fun a2=>iter (rQ a0) (a2.keys,a2.at_,a2.types,a2.facts,a2.incs,0))
def ve (a0:History) (b7:Bool):Option Int :=
 bif b7 then some 1 else (iter (yA a0) 0)
def aJ (a0:History):Option Int :=
 bif decide ((a0.Keys.length:Int) > 32) then ve a0 true else (ve a0 (decide ((a0.Txns.length:Int) > 32)))
def iE (a0:List Int):Option (List Int) :=
 must (a0.length * 8≤140737488355328) (some a0)
def nC (a0:Int):Option Int :=
 bif (a0 == 1) then some 280 else (bif (a0 == 2) then some 281 else (bif (a0 == 3) then some 282 else (bif (a0 == 4) then some 283 else (some (-1)))))
def nD (a0:Unit) (a1:List Int):Option Bool :=
 some (decide ((a1.length:Int)≤1))
def sO (a0:Unit) (a1:List Int):Option Bool :=
 some (decide ((a1.length:Int)≤64))
def uC (a1:List Int):Int→Option (Int ⊕ Bool)
 | a2=>bif decide (a2 < (a1.length:Int)) then must (0≤w64 (a2 - 1)∧w64 (a2 - 1) < (a1.length:Int)) (must (0≤a2∧a2 < (a1.length:Int)) (bif decide (idx a1 (w64 (a2 - 1)) ≥ idx a1 a2) then out (some false) else (some (.inl (w64 (a2 + 1)))))) else (out (some (decide ((a1.length:Int)≤64))))
def je (a0:Unit) (a1:List Int):Option Bool :=
 iter (uC a1) 1
def oz (a0:Unit) (a1:List Int):Option Bool :=
 some ((a1.length:Int) == 1)
def nE (a0:Int) (a1:List Int):Option Int :=
 (nC a0).bind fun y8=>bif (y8 == (280:Int)) then (nD () a1).bind fun a2=>bif !a2 then some 80 else (some 0) else (bif (y8 == (281:Int)) then (sO () a1).bind fun a5=>bif !a5 then some 80 else (some 0) else (bif (y8 == (282:Int)) then (je () a1).bind fun a4=>bif !a4 then some 80 else (some 0) else (bif (y8 == (283:Int)) then (oz () a1).bind fun a3=>bif !a3 then some 80 else (some 0) else (bif (y8 == ((-1):Int)) then some 1 else none))))
def jE (a0:Unit) (a1:List Int) (a2:List Int):Option (List Int×Bool) :=
 bif ((a1.length:Int) == 1) then must (0≤(0:Int)∧(0:Int) < (a1.length:Int)) (must (0≤w64 ((a2.length:Int) - 1)∧w64 ((a2.length:Int) - 1) < (a2.length:Int)) (some (([]:List Int),(idx a1 (0:Int) == idx a2 (w64 ((a2.length:Int) - 1)))))) else (some (([]:List Int),false))
def wE (a0:List Int) (a1:List Int):Int→Option (Int ⊕ Bool)
 | a2=>bif decide (a2 < (a0.length:Int)) then must (0≤a2∧a2 < (a0.length:Int)) (must (0≤a2∧a2 < (a1.length:Int)) (bif (idx a0 a2 != idx a1 a2) then out (some false) else (some (.inl (w64 (a2 + 1)))))) else (out (some true))
def gP (a0:List Int) (a1:List Int):Option Bool :=
 bif ((a0.length:Int) != (a1.length:Int)) then some false else (iter (wE a0 a1) 0)
def kr (a1:List Int) (a2:List Int) (a4:Bool):Option (List Int×Bool) :=
 bif a4 then some (([]:List Int),false) else (must (0≤(0:Int)∧(0:Int)≤(w64 ((a1.length:Int) - (a2.length:Int)))∧(w64 ((a1.length:Int) - (a2.length:Int)))≤(a1.length:Int)) ((iE (jT a1 (0:Int) (w64 ((a1.length:Int) - (a2.length:Int))))).bind fun a3=>some (a3,true)))
def fu (a0:Unit) (a1:List Int) (a2:List Int):Option (List Int×Bool) :=
 bif decide (w64 ((a1.length:Int) - (a2.length:Int)) < 0) then kr a1 a2 true else (must (0≤(w64 ((a1.length:Int) - (a2.length:Int)))∧(w64 ((a1.length:Int) - (a2.length:Int)))≤(a1.length:Int)∧(a1.length:Int)≤(a1.length:Int)) ((gP (jT a1 (w64 ((a1.length:Int) - (a2.length:Int))) (a1.length:Int)) a2).bind fun a3=>kr a1 a2 (!a3)))
def qy (a0:Int):Option Bool :=
 some (a0 != a0)
def rR (a0:Int) (a1:Int):Option Bool :=
 (qy a0).bind fun y7=>bif y7 then (qy a1).bind fun a2=>bif !a2 then some true else (some (decide (a0 < a1))) else (some (decide (a0 < a1)))
def mg (a0:Int):Option Bool :=
 some (a0 != a0)
def lq (a1:Int) (a2:Int):Option ((Int×Int) ⊕ (Int×Bool)) :=
 some (.inl (a1,a2))
def lu (a0:List Int) (a1:Int):(Int×Int)→Option ((Int×Int) ⊕ (Int×Bool))
 | (a2,a3)=>bif decide (a2 < a3) then must (0≤(1:Int)∧(1:Int) < (far:Int)) (must (0≤w64 (fV .u64 (IntKind.wrap .u64 (w64 (a2 + a3))) (1:Int))∧w64 (fV .u64 (IntKind.wrap .u64 (w64 (a2 + a3))) (1:Int)) < (a0.length:Int)) ((rR (idx a0 (w64 (fV .u64 (IntKind.wrap .u64 (w64 (a2 + a3))) (1:Int)))) a1).bind fun a5=>bif a5 then lq (w64 ((w64 (fV .u64 (IntKind.wrap .u64 (w64 (a2 + a3))) (1:Int))) + 1)) a3 else (lq a2 (w64 (fV .u64 (IntKind.wrap .u64 (w64 (a2 + a3))) (1:Int)))))) else (bif decide (a2 < (a0.length:Int)) then must (0≤a2∧a2 < (a0.length:Int)) (bif (idx a0 a2 == a1) then out (some (a2,true)) else ((mg (idx a0 a2)).bind fun a4=>bif a4 then (mg a1).bind fun a6=>out (some (a2,a6)) else (out (some (a2,false))))) else (out (some (a2,false))))
def df (a0:List Int) (a1:Int):Option (Int×Bool) :=
 iter (lu a0 a1) (0,(a0.length:Int))
def lD (a0:List Int) (a1 a2:Int):Option (List Int) :=
 must (0≤a1∧a1≤a2∧a2≤(a0.length:Int)) (some (a0.take a1.toNat++a0.drop a2.toNat))
def nG (a2:List Int):(List Int×Int)→Option ((List Int×Int) ⊕ (List Int×Bool))
 | (a3,a1)=>bif decide (a1 < (a2.length:Int)) then must (0≤a1∧a1 < (a2.length:Int)) ((df a3 (idx a2 a1)).bind fun a4=>bif !a4.2 then out (some (([]:List Int),false)) else ((lD a3 a4.1 (w64 (a4.1 + 1))).bind fun a5=>some (.inl (a5,w64 (a1 + 1))))) else (out (some (a3,true)))
def gH (a0:Unit) (a1:List Int) (a2:List Int):Option (List Int×Bool) :=
 (iE a1).bind fun y7=>iter (nG a2) (y7,0)
def kG (a2:List Int):(Int×Int)→Option ((Int×Int) ⊕ (List Int×Bool))
 | (a3,a1)=>bif decide (a1 < (a2.length:Int)) then must (0≤a1∧a1 < (a2.length:Int)) (some (.inl (w64 (a3 - (idx a2 a1)),w64 (a1 + 1)))) else (out (some (([a3]:List Int),true)))
def fw (a0:Unit) (a1:List Int) (a2:List Int):Option (List Int×Bool) :=
 must (0≤(0:Int)∧(0:Int) < (a1.length:Int)) (iter (kG a2) (idx a1 (0:Int),0))
def nz (a0:Int) (a1:List Int) (a2:List Int) (b9:Bool):Option (List Int×Bool) :=
 bif b9 then some (([]:List Int),false) else ((nC a0).bind fun a3=>bif (a3 == (280:Int)) then (jE () a1 a2).bind fun a4=>some (a4.1,a4.2) else (bif (a3 == (281:Int)) then (fu () a1 a2).bind fun a6=>some (a6.1,a6.2) else (bif (a3 == (282:Int)) then (gH () a1 a2).bind fun a7=>some (a7.1,a7.2) else (bif (a3 == (283:Int)) then (fw () a1 a2).bind fun a5=>some (a5.1,a5.2) else (bif (a3 == ((-1):Int)) then none else none)))))
def jf (a0:Int) (a1:List Int) (a2:List Int):Option (List Int×Bool) :=
 (nE a0 a1).bind fun a3=>bif (a3 != 0) then nz a0 a1 a2 true else (nz a0 a1 a2 ((a2.length:Int) == 0))
def jO (a1:Int) (a2:List Ask) (a3:List Spot) (a4:List (Int×(List Int))):Option ((List Ask×List Spot×(List (Int×(List Int)))×Int) ⊕ gu) :=
 some (.inl (a2,a3,a4,w64 (a1 + 1)))
def oC (a1:History) (a2:Int) (a3:List Ask) (a4:List Spot) (a6:List (Int×(List Int))) (a5:Int) (a8:List Int) (a7:Bool):Option ((List Ask×List Spot×(List (Int×(List Int)))×Int) ⊕ gu) :=
 bif !a7 then must (((a4.length + 1) + (a4.length + 1) / 4 + 192) * 16≤281474976710656∧a4.length + 1≤9223372036854775807) (jO a5 a3 (a4++([(⟨a2,a5⟩:Spot)]:List Spot)) a6) else (must (((a3.length + 1) + (a3.length + 1) / 4 + 192) * 48≤281474976710656∧a3.length + 1≤9223372036854775807) (jO a5 (a3++([(⟨a2,a5,(idx ((idx a1.Txns a2).Ops) a5).Key,a8⟩:Ask)]:List Ask)) a4 a6))
def oD (a1:History) (a2:Int) (a3:List Ask) (a5:List Spot) (a6:List (Int×(List Int))) (a7:Int) (a4:List Int×Bool) (a8:Bool):Option ((List Ask×List Spot×(List (Int×(List Int)))×Int) ⊕ gu) :=
 bif a8 then jO a7 a3 a5 a6 else (oC a1 a2 a3 a5 a6 a7 a4.1 a4.2)
def tN (a1:History) (a2:Int):(List Ask×List Spot×(List (Int×(List Int)))×Int)→Option ((List Ask×List Spot×(List (Int×(List Int)))×Int) ⊕ gu)
 | (a5,a6,a4,a3)=>bif decide (a3 < (((idx a1.Txns a2).Ops).length:Int)) then must (0≤a3∧a3 < (((idx a1.Txns a2).Ops).length:Int)) (bif decide ((idx ((idx a1.Txns a2).Ops) a3).Kind≤4) then must (((((mat a4 ((idx ((idx a1.Txns a2).Ops) a3).Key)).length) + 1) + (((mat a4 ((idx ((idx a1.Txns a2).Ops) a3).Key)).length) + 1) / 4 + 192) * 8≤281474976710656∧((mat a4 ((idx ((idx a1.Txns a2).Ops) a3).Key)).length) + 1≤9223372036854775807) (jO a3 a5 a6 (iB a4 ((idx ((idx a1.Txns a2).Ops) a3).Key) ((mat a4 ((idx ((idx a1.Txns a2).Ops) a3).Key))++([(idx ((idx a1.Txns a2).Ops) a3).Arg]:List Int)))) else ((iE ((idx ((idx a1.Txns a2).Ops) a3).Vals)).bind fun a8=>bif decide (((mat a4 ((idx ((idx a1.Txns a2).Ops) a3).Key)).length:Int) > 0) then (jf (w64 (((idx ((idx a1.Txns a2).Ops) a3).Kind) - 4)) ((idx ((idx a1.Txns a2).Ops) a3).Vals) (mat a4 ((idx ((idx a1.Txns a2).Ops) a3).Key))).bind fun a7=>bif a7.2 then oD a1 a2 a5 a6 a4 a3 a7 ((idx ((idx a1.Txns a2).Ops) a3).Kind == 5) else (oD a1 a2 a5 a6 a4 a3 a7 false) else (oC a1 a2 a5 a6 a4 a3 a8 true))) else (out (some (⟨a5,a6⟩:gu)))
def bL (a0:gu) (a1:History) (a2:Int):Option gu :=
 must (0≤a2∧a2 < (a1.Txns.length:Int)) (bif ((idx a1.Txns a2).Status != 1) then some a0 else (iter (tN a1 a2) (a0.asks,a0.bad,[],0)))
def Be (a0:History):(List Ask×List Spot×Int)→Option ((List Ask×List Spot×Int) ⊕ (gu×Int))
 | (a4,a2,a1)=>bif decide (a1 < (a0.Txns.length:Int)) then (bL (⟨a4,a2⟩:gu) a0 a1).bind fun a3=>some (.inl (a3.asks,a3.bad,w64 (a1 + 1))) else (out (some ((⟨a4,a2⟩:gu),0)))
def qF (a0:History):Option (gu×Int) :=
 (aJ a0).bind fun a1=>bif (a1 != 0) then some ((⟨([]:List Ask),([]:List Spot)⟩:gu),a1) else (iter (Be a0) ([],[],0))
def mh (a0:History):Option (List Ask×Int) :=
 (qF a0).bind fun a1=>some (a1.1.asks,a1.2)
def zM (a0:History) (a1:Int) (a3:Int):Int→Option (Int ⊕ (Int ⊕ Int))
 | a2=>bif decide (a2 < (((idx a0.Txns a3).Ops).length:Int)) then must (0≤a2∧a2 < (((idx a0.Txns a3).Ops).length:Int)) (bif ((idx ((idx a0.Txns a3).Ops) a2).Key == a1) then (sN ((idx ((idx a0.Txns a3).Ops) a2).Kind)).bind fun a4=>out (out (some a4)) else (some (.inl (w64 (a2 + 1))))) else (out (some (.inl (w64 (a3 + 1)))))
def zN (a0:History) (a1:Int):Int→Option (Int ⊕ Int)
 | a2=>bif decide (a2 < (a0.Txns.length:Int)) then must (0≤a2∧a2 < (a0.Txns.length:Int)) (iter (zM a0 a1 a2) 0) else (out (some 0))
def gQ (a0:History) (a1:Int):Option Int :=
 (aJ a0).bind fun y8=>bif (y8 != 0) then some 0 else (iter (zN a0 a1) 0)
def vg (a2:Int) (a1:List Int):Option ((List Int×Int) ⊕ (List Int)) :=
 some (.inl (a1,w64 (a2 + 1)))
def vk (a0:Txn) (a1:List Int) (a2:Int) (a3:Bool):Option ((List Int×Int) ⊕ (List Int)) :=
 bif a3 then must (((a1.length + 1) + (a1.length + 1) / 4 + 192) * 8≤281474976710656∧a1.length + 1≤9223372036854775807) (vg a2 (a1++([(idx a0.Ops a2).Arg]:List Int))) else (vg a2 a1)
def yB (a0:Txn) (a1:Int):(List Int×Int)→Option ((List Int×Int) ⊕ (List Int))
 | (a3,a2)=>bif decide (a2 < (a0.Ops.length:Int)) then must (0≤a2∧a2 < (a0.Ops.length:Int)) (bif ((idx a0.Ops a2).Key == a1) then vk a0 a3 a2 (decide ((idx a0.Ops a2).Kind≤4)) else (vk a0 a3 a2 false)) else (out (some a3))
def fA (a0:Txn) (a1:Int):Option (List Int) :=
 iter (yB a0 a1) ([],0)
def rT (a0:History) (a1:Int) (a2:Int) (a4:Bool):Option (List Int×Bool) :=
 bif a4 then some (([]:List Int),false) else (must (0≤a1∧a1 < (a0.Txns.length:Int)) ((fA (idx a0.Txns a1) a2).bind fun a3=>some (a3,decide ((a3.length:Int) > 0))))
def kN (a0:History) (a1:Int) (a2:Int):Option (List Int×Bool) :=
 bif decide (a1 < 0) then rT a0 a1 a2 true else (bif decide (a1 ≥ (a0.Txns.length:Int)) then rT a0 a1 a2 true else ((aJ a0).bind fun a3=>rT a0 a1 a2 (a3 != 0)))
def sP (a1:Int) (a2:List Int):Option ((List Int×Int) ⊕ (List Int)) :=
 some (.inl (a2,w64 (a1 + 1)))
def sQ (a1:List Int) (a2:Int) (a3:Bool):Option ((List Int×Int) ⊕ (List Int)) :=
 bif a3 then must (((a1.length + 1) + (a1.length + 1) / 4 + 192) * 8≤281474976710656∧a1.length + 1≤9223372036854775807) (sP a2 (a1++([a2]:List Int))) else (sP a2 a1)
def wN (a0:History) (a1:Int):(List Int×Int)→Option ((List Int×Int) ⊕ (List Int))
 | (a3,a2)=>bif decide (a2 < (a0.Txns.length:Int)) then must (0≤a2∧a2 < (a0.Txns.length:Int)) (bif ((idx a0.Txns a2).Status != 2) then (fA (idx a0.Txns a2) a1).bind fun a4=>sQ a3 a2 (decide ((a4.length:Int) > 0)) else (sQ a3 a2 false)) else (out (some a3))
def eB (a0:History) (a1:Int):Option (List Int) :=
 (aJ a0).bind fun y8=>bif (y8 != 0) then some ([]:List Int) else (iter (wN a0 a1) ([],0))
def sS (a2:Int) (a1:List bu):Option ((List bu×Int) ⊕ (List bu)) :=
 some (.inl (a1,w64 (a2 + 1)))
def sU (a3:List Int) (a1:List bu) (a2:Int) (a5:List Int×Bool) (a4:Bool):Option ((List bu×Int) ⊕ (List bu)) :=
 bif a4 then must (((a1.length + 1) + (a1.length + 1) / 4 + 192) * 32≤281474976710656∧a1.length + 1≤9223372036854775807) (sS a2 (a1++([(⟨idx a3 a2,a5.1⟩:bu)]:List bu))) else (sS a2 a1)
def wO (a0:History) (a1:Ask) (a3:List Int):(List bu×Int)→Option ((List bu×Int) ⊕ (List bu))
 | (a4,a2)=>bif decide (a2 < (a3.length:Int)) then must (0≤a2∧a2 < (a3.length:Int)) ((kN a0 (idx a3 a2) a1.Key).bind fun a5=>bif a5.2 then sU a3 a4 a2 a5 (idx a3 a2 != a1.Txn) else (sU a3 a4 a2 a5 false)) else (out (some a4))
def dB (a0:History) (a1:Ask):Option (List bu) :=
 (eB a0 a1.Key).bind fun a2=>iter (wO a0 a1 a2) ([],0)
def tO (a0:List Int) (a1:Int):Int→Option (Int ⊕ Int)
 | a2=>bif decide (a2 < (a0.length:Int)) then must (0≤a2∧a2 < (a0.length:Int)) (bif (a1 == idx a0 a2) then out (some a2) else (some (.inl (w64 (a2 + 1))))) else (out (some (-1)))
def slices_Index_int (a0:List Int) (a1:Int):Option Int :=
 iter (tO a0 a1) 0
def slices_Contains_int (a0:List Int) (a1:Int):Option Bool :=
 (slices_Index_int a0 a1).bind fun y3=>some (decide (y3 ≥ 0))
def xg (a0:bu) (a1:List Int):Option Bool :=
 must (0≤(0:Int)∧(0:Int) < (a0.args.length:Int)) (must (0≤(0:Int)∧(0:Int) < (a1.length:Int)) (some (idx a0.args (0:Int) == idx a1 (0:Int))))
def iy (a0:List bu) (a1c0:List Int):Int→Option (Int ⊕ Int)
 | a1=>bif decide (a1 < (a0.length:Int)) then must (0≤a1∧a1 < (a0.length:Int)) ((xg (idx a0 a1) a1c0).bind fun a2=>bif a2 then out (some a1) else (some (.inl (w64 (a1 + 1))))) else (out (some (-1)))
def bW (a0:List bu) (a1c0:List Int):Option Int :=
 iter (iy a0 a1c0) 0
def oV (a1:List bu) (a3:List Int) (a4:List Int) (a2:Int) (a5:Bool):Option ((List Int×List Int) ⊕ (List Int×Bool)) :=
 bif a5 then out (some (([]:List Int),false)) else (must (0≤a2∧a2 < (a1.length:Int)) (must (((a4.length + 1) + (a4.length + 1) / 4 + 192) * 8≤281474976710656∧a4.length + 1≤9223372036854775807) (must (0≤(((idx a1 a2).args).length:Int)∧(((idx a1 a2).args).length:Int)≤(a3.length:Int)∧(a3.length:Int)≤(a3.length:Int)) (some (.inl (jT a3 (((idx a1 a2).args).length:Int) (a3.length:Int),a4++([(idx a1 a2).txn]:List Int)))))))
def vo (a1:List bu):(List Int×List Int)→Option ((List Int×List Int) ⊕ (List Int×Bool))
 | (a3,a4)=>bif decide ((a3.length:Int) > 0) then (bW a1 a3).bind fun a2=>bif decide (a2 < 0) then oV a1 a3 a4 a2 true else (must (0≤a2∧a2 < (a1.length:Int)) (bif decide ((((idx a1 a2).args).length:Int) > (a3.length:Int)) then oV a1 a3 a4 a2 true else (must (0≤(0:Int)∧(0:Int)≤(((idx a1 a2).args).length:Int)∧(((idx a1 a2).args).length:Int)≤(a3.length:Int)) ((gP ((idx a1 a2).args) (jT a3 (0:Int) (((idx a1 a2).args).length:Int))).bind fun a6=>bif !a6 then oV a1 a3 a4 a2 true else ((slices_Contains_int a4 ((idx a1 a2).txn)).bind fun a5=>oV a1 a3 a4 a2 a5))))) else (out (some (a4,true)))
def gm (a0:List Int) (a1:List bu):Option (List Int×Bool) :=
 iter (vo a1) (a0,[])
def xh (a3:Int) (a2:List Int) (a1:List (Int×Unit)):Option ((List Int×(List (Int×Unit))×Int) ⊕ (((List (Int×Unit))×Int) ⊕ (List Int×Bool))) :=
 some (.inl (a2,a1,w64 (a3 + 1)))
def xk (a3:Int) (a2:List (Int×Unit)) (a1:Int):Option (((List (Int×Unit))×Int×Int) ⊕ ((List Int×(List (Int×Unit))×Int) ⊕ (((List (Int×Unit))×Int) ⊕ (List Int×Bool)))) :=
 some (.inl (a2,a1,w64 (a3 + 1)))
def xm (a1:List bu) (a2:List Int) (a3:Int) (a4:List (Int×Unit)) (a5:Int) (a6:Bool):Option (((List (Int×Unit))×Int×Int) ⊕ ((List Int×(List (Int×Unit))×Int) ⊕ (((List (Int×Unit))×Int) ⊕ (List Int×Bool)))) :=
 bif a6 then out (out (out (some (([]:List Int),false)))) else (bif decide (a5 > 0) then must (((a2.length + 1) + (a2.length + 1) / 4 + 192) * 8≤281474976710656∧a2.length + 1≤9223372036854775807) (out (xh a3 (a2++([(idx a1 a3).txn]:List Int)) a4)) else (out (xh a3 a2 a4)))
def zO (a1:List bu) (a6:List Int) (a3:Int):((List (Int×Unit))×Int×Int)→Option (((List (Int×Unit))×Int×Int) ⊕ ((List Int×(List (Int×Unit))×Int) ⊕ (((List (Int×Unit))×Int) ⊕ (List Int×Bool))))
 | (a5,a4,a2)=>bif decide (a2 < (((idx a1 a3).args).length:Int)) then must (0≤a2∧a2 < (((idx a1 a3).args).length:Int)) (bif kZ a5 (idx ((idx a1 a3).args) a2) then xk a2 (Hy a5 (idx ((idx a1 a3).args) a2)) (w64 (a4 + 1)) else (xk a2 a5 a4)) else (bif decide (a4 > 0) then xm a1 a6 a3 a5 a4 (decide (a4 < (((idx a1 a3).args).length:Int))) else (xm a1 a6 a3 a5 a4 false))
def zP (a1:List bu):(List Int×(List (Int×Unit))×Int)→Option ((List Int×(List (Int×Unit))×Int) ⊕ (((List (Int×Unit))×Int) ⊕ (List Int×Bool)))
 | (a3,a4,a2)=>bif decide (a2 < (a1.length:Int)) then must (0≤a2∧a2 < (a1.length:Int)) (iter (zO a1 a3 a2) (a4,0,0)) else (bif decide ((a4.length:Int) > 0) then out (out (some (([]:List Int),false))) else (out (out (some (a3,true)))))
def zQ (a0:List Int) (a1:List bu):((List (Int×Unit))×Int)→Option (((List (Int×Unit))×Int) ⊕ (List Int×Bool))
 | (a3,a2)=>bif decide (a2 < (a0.length:Int)) then must (0≤a2∧a2 < (a0.length:Int)) (some (.inl (iB a3 (idx a0 a2) (),w64 (a2 + 1)))) else (iter (zP a1) ([],a3,0))
def dD (a0:List Int) (a1:List bu):Option (List Int×Bool) :=
 iter (zQ a0 a1) ([],0)
def jg (a0:History) (a1:Ask):Option (List Int×Bool) :=
 (gQ a0 a1.Key).bind fun a3=>bif (a3 == 2) then (dB a0 a1).bind fun a5=>(gm a1.Base a5).bind fun a2=>some (a2.1,a2.2) else (bif (a3 == 3) then (dB a0 a1).bind fun a6=>(dD a1.Base a6).bind fun a4=>some (a4.1,a4.2) else (some (([]:List Int),false)))
def tQ (a0:Int) (a2:Int) (a3:List bu) (a4:Int) (rec:Int→Int→Int→(List bu)→Int→Int→Option Int) (a6:Int):(Int×Int)→Option ((Int×Int) ⊕ Int)
 | (a5,a1)=>bif decide (a1 < (((idx a3 a0).args).length:Int)) then must (0≤a1∧a1 < (((idx a3 a0).args).length:Int)) (some (.inl (w64 (a5 + (idx ((idx a3 a0).args) a1)),w64 (a1 + 1)))) else (must (0≤a0∧a0 < (far:Int)) ((rec (w64 (a0 + 1)) a5 (bOr .u64 a2 (Hu .u64 1 a0)) a3 a4 a6).bind fun a7=>out (some a7)))
def mI (rec:Int→Int→Int→(List bu)→Int→Int→Option Int) (a0:Int) (a1:Int) (a2:Int) (a3:List bu) (a4:Int) (a5:Int):Option Int :=
 bif (a0 == (a3.length:Int)) then bif (a1 == a4) then some (bOr .u64 a5 a2) else (some a5) else ((rec (w64 (a0 + 1)) a1 a2 a3 a4 a5).bind fun a6=>must (0≤a0∧a0 < (a3.length:Int)) (iter (tQ a0 a2 a3 a4 rec a6) (a1,0)))
def iY:Nat→Int→Int→Int→(List bu)→Int→Int→Option Int
 | 0=>fun _ _ _ _ _ _=>none
 | k + 1=>mI (iY k)
def bU (a0:Int) (a1:Int) (a2:Int) (a3:List bu) (a4:Int) (a5:Int):Option Int:=iY 64 a0 a1 a2 a3 a4 a5
def qU (a1:Int) (a2:List Int):Option ((List Int×Int) ⊕ (List Int)) :=
 some (.inl (a2,w64 (a1 + 1)))
def vv (a1:List bu) (a4:Int):(List Int×Int)→Option ((List Int×Int) ⊕ (List Int))
 | (a3,a2)=>bif decide (a2 < (a1.length:Int)) then must (0≤a2∧a2 < (a1.length:Int)) (must (0≤a2∧a2 < (far:Int)) (bif (dm .u64 (fV .u64 a4 a2) 1 == 1) then must (((a3.length + 1) + (a3.length + 1) / 4 + 192) * 8≤281474976710656∧a3.length + 1≤9223372036854775807) (qU a2 (a3++([(idx a1 a2).txn]:List Int))) else (qU a2 a3))) else (out (some a3))
def fJ (a0:Int) (a1:List bu):Option (List Int) :=
 (bU 0 0 0 a1 a0 0).bind fun a2=>iter (vv a1 a2) ([],0)
def ig (a1:List Int):Option (List Int) :=
 some a1
def qV (a0:History) (a1:Ask) (a3:List Int):Option (List Int) :=
 must (0≤(0:Int)∧(0:Int) < (a1.Base.length:Int)) ((dB a0 a1).bind fun a4=>(fJ (idx a1.Base (0:Int)) a4).bind fun a2=>must (((a3.length + a2.length) + (a3.length + a2.length) / 4 + 192) * 8≤281474976710656∧a3.length + a2.length≤9223372036854775807) (ig (a3++a2)))
def qW (a2:Int) (a1:List Int):Option ((List Int×Int) ⊕ (List Int)) :=
 some (.inl (a1,w64 (a2 + 1)))
def qX (a1:Ask) (a3:List bu):(List Int×Int)→Option ((List Int×Int) ⊕ (List Int))
 | (a4,a2)=>bif decide (a2 < (a3.length:Int)) then must (0≤a2∧a2 < (a3.length:Int)) (must (0≤w64 ((((idx a3 a2).args).length:Int) - 1)∧w64 ((((idx a3 a2).args).length:Int) - 1) < (((idx a3 a2).args).length:Int)) (must (0≤(0:Int)∧(0:Int) < (a1.Base.length:Int)) (bif (idx ((idx a3 a2).args) (w64 ((((idx a3 a2).args).length:Int) - 1)) == idx a1.Base (0:Int)) then must (((a4.length + 1) + (a4.length + 1) / 4 + 192) * 8≤281474976710656∧a4.length + 1≤9223372036854775807) (qW a2 (a4++([(idx a3 a2).txn]:List Int))) else (qW a2 a4)))) else (out (ig a4))
def bF (a0:History) (a1:Ask):Option (List Int) :=
 (gQ a0 a1.Key).bind fun a3=>bif (a3 == 4) then must (0≤(0:Int)∧(0:Int) < (a1.Base.length:Int)) (bif (idx a1.Base (0:Int) == 0) then must (((0 + 1) + (0 + 1) / 4 + 192) * 8≤281474976710656∧0 + 1≤9223372036854775807) (qV a0 a1 (([]:List Int)++([(-1)]:List Int))) else (qV a0 a1 [])) else (bif ((a1.Base.length:Int) == 0) then ig ([(-1)]:List Int) else (bif (a3 == 1) then (dB a0 a1).bind fun a5=>iter (qX a1 a5) ([],0) else (bif (a3 == 2) then (jg a0 a1).bind fun a2=>bif a2.2 then must (0≤(w64 ((a2.1.length:Int) - 1))∧(w64 ((a2.1.length:Int) - 1))≤(a2.1.length:Int)∧(a2.1.length:Int)≤(a2.1.length:Int)) (ig (jT a2.1 (w64 ((a2.1.length:Int) - 1)) (a2.1.length:Int))) else (ig []) else ((jg a0 a1).bind fun a4=>ig a4.1))))
def rU (a0:Ask) (a1:Ask):Option Bool :=
 bif (a1.Txn == a0.Txn) then bif (a1.Place == a0.Place) then bif (a1.Key == a0.Key) then (gP a1.Base a0.Base).bind fun a2=>some a2 else (some false) else (some false) else (some false)
def iF (a0:List Ask) (a1c0:Ask):Int→Option (Int ⊕ Int)
 | a1=>bif decide (a1 < (a0.length:Int)) then must (0≤a1∧a1 < (a0.length:Int)) ((rU (idx a0 a1) a1c0).bind fun a2=>bif a2 then out (some a1) else (some (.inl (w64 (a1 + 1))))) else (out (some (-1)))
def cz (a0:List Ask) (a1c0:Ask):Option Int :=
 iter (iF a0 a1c0) 0
def eQ (a0:List Ask) (a1c0:Ask):Option Bool :=
 (cz a0 a1c0).bind fun y3=>some (decide (y3 ≥ 0))
def sV (a0:History) (a1:Ask):Option Int :=
 (mh a0).bind fun y9=>bif (y9.2 != 0) then some y9.2 else ((eQ y9.1 a1).bind fun a2=>bif a2 then some 0 else (some 1))
def rV (a0:History) (a1:Ask):Option (List Int×Int) :=
 (sV a0 a1).bind fun a2=>bif (a2 != 0) then some (([]:List Int),a2) else ((bF a0 a1).bind fun a3=>some (a3,0))
def vw (a0:History) (a1:Ask):Option (List Int×Bool×Int) :=
 (sV a0 a1).bind fun a2=>bif (a2 != 0) then some (([]:List Int),false,a2) else ((jg a0 a1).bind fun a3=>some (a3.1,a3.2,0))
def jU (a0:aL) (a1:Int):Option Bool :=
 must (0≤a1∧a1 < (a0.h.Txns.length:Int)) (some ((idx a0.h.Txns a1).Status == 1))
def gU (a0:aL) (a1:Int) (a2:Int) (a3:Int) (a4:Int):Option aL :=
 must (((a0.edges.length + 1) + (a0.edges.length + 1) / 4 + 192) * 32≤281474976710656∧a0.edges.length + 1≤9223372036854775807) (some (⟨a0.h,a0.asks,a0.edges++([(⟨a1,a2,a3,a4⟩:Edge)]:List Edge)⟩:aL))
def lL (a3:Int) (a1:List Int) (a2:List (Int×Int)):Option ((List Int×(List (Int×Int))×Int) ⊕ aL) :=
 some (.inl (a1,a2,w64 (a3 - 1)))
def lM (a0:aL) (a3:List (Int×Int)) (a1:Int) (a2:List Int):Option ((List Int×(List (Int×Int))×Int) ⊕ aL) :=
 must (0≤a1∧a1 < (a0.h.Txns.length:Int)) (lL a1 a2 (iB a3 ((idx a0.h.Txns a1).Proc) a1))
def lN (a2:Int) (a1:List Edge):Option ((List Edge×Int) ⊕ ((List Int×(List (Int×Int))×Int) ⊕ aL)) :=
 some (.inl (a1,w64 (a2 + 1)))
def lQ (a0:aL) (a2:List Int):(List Edge×Int)→Option ((List Edge×Int) ⊕ ((List Int×(List (Int×Int))×Int) ⊕ aL))
 | (a3,a1)=>bif decide (a1 < (a2.length:Int)) then must (0≤a1∧a1 < (a2.length:Int)) (bif decide (idx a2 a1 ≥ 0) then (gU (⟨a0.h,a0.asks,a3⟩:aL) a1 (idx a2 a1) 1 (-1)).bind fun a4=>lN a1 a4.edges else (lN a1 a3)) else (out (out (some (⟨a0.h,a0.asks,a3⟩:aL))))
def lS (a0:aL):(List Int×(List (Int×Int))×Int)→Option ((List Int×(List (Int×Int))×Int) ⊕ aL)
 | (a2,a3,a1)=>bif decide (a1 ≥ 0) then must (0≤a1∧a1 < (a2.length:Int)) ((jU a0 a1).bind fun a4=>bif !a4 then lL a1 (a2.set a1.toNat (-1)) a3 else (must (0≤a1∧a1 < (a0.h.Txns.length:Int)) (bif kZ a3 ((idx a0.h.Txns a1).Proc) then must (0≤a1∧a1 < ((a2.set a1.toNat (-1)).length:Int)) (lM a0 a3 a1 ((a2.set a1.toNat (-1)).set a1.toNat (mat a3 ((idx a0.h.Txns a1).Proc)))) else (lM a0 a3 a1 (a2.set a1.toNat (-1)))))) else (iter (lQ a0 a2) (a0.edges,0))
def bq (a0:aL):Option aL :=
 must (0≤(a0.h.Txns.length:Int)∧(a0.h.Txns.length:Int)≤9223372036854775807∧(8:Int) * (a0.h.Txns.length:Int)≤281474976710656) (iter (lS a0) (List.replicate (a0.h.Txns.length:Int).toNat (default:Int),[],w64 (((a0.h.Txns.length:Int).toNat:Int) - 1)))
def pU (a2:Int) (a1:List Edge):Option ((List Edge×Int) ⊕ ((List Edge×Int) ⊕ aL)) :=
 some (.inl (a1,w64 (a2 + 1)))
def mi (a0:aL) (a5:Int) (a2:List Edge) (a1:Int) (a4:Bool):Option ((List Edge×Int) ⊕ ((List Edge×Int) ⊕ aL)) :=
 bif a4 then (gU (⟨a0.h,a0.asks,a2⟩:aL) a5 a1 2 (-1)).bind fun a3=>pU a1 a3.edges else (pU a1 a2)
def uD (a0:aL) (a3:Int):(List Edge×Int)→Option ((List Edge×Int) ⊕ ((List Edge×Int) ⊕ aL))
 | (a2,a1)=>bif decide (a1 < (a0.h.Txns.length:Int)) then must (0≤a1∧a1 < (a0.h.Txns.length:Int)) ((jU (⟨a0.h,a0.asks,a2⟩:aL) a3).bind fun a5=>bif a5 then (jU (⟨a0.h,a0.asks,a2⟩:aL) a1).bind fun a4=>bif a4 then mi a0 a3 a2 a1 (decide ((idx a0.h.Txns a3).To < (idx a0.h.Txns a1).From)) else (mi a0 a3 a2 a1 false) else (mi a0 a3 a2 a1 false)) else (out (some (.inl (a2,w64 (a3 + 1)))))
def uE (a0:aL):(List Edge×Int)→Option ((List Edge×Int) ⊕ aL)
 | (a2,a1)=>bif decide (a1 < (a0.h.Txns.length:Int)) then must (0≤a1∧a1 < (a0.h.Txns.length:Int)) (iter (uD a0 a1) (a2,0)) else (out (some (⟨a0.h,a0.asks,a2⟩:aL)))
def cO (a0:aL):Option aL :=
 iter (uE a0) (a0.edges,0)
def lY (a0:Int) (a1:aV) (a2:aL):Option Bool :=
 bif (a0 == a1.Ask.Txn) then some true else ((jU a2 a0).bind fun y5=>some (!y5))
def nA (a0:aV) (a1:Int):Option Bool :=
 bif ((a0.sources.length:Int) == 1) then must (0≤(0:Int)∧(0:Int) < (a0.sources.length:Int)) (some (idx a0.sources (0:Int) == a1)) else (some false)
def nH (a0:aV) (a1:Int) (a2:aV):Option Bool :=
 bif (a0.Ask.Txn == a1) then bif (a0.Ask.Key == a2.Ask.Key) then must (0≤(0:Int)∧(0:Int) < (a2.sources.length:Int)) ((nA a0 (idx a2.sources (0:Int))).bind fun a3=>some a3) else (some false) else (some false)
def gI (a0:List aV) (a1c0:Int) (a1c1:aV):Int→Option (Int ⊕ Int)
 | a1=>bif decide (a1 < (a0.length:Int)) then must (0≤a1∧a1 < (a0.length:Int)) ((nH (⟨((idx a0 a1).Ask),(idx a0 a1).sources,(idx a0 a1).parts,(idx a0 a1).made,(idx a0 a1).kind⟩:aV) a1c0 a1c1).bind fun a2=>bif a2 then out (some a1) else (some (.inl (w64 (a1 + 1))))) else (out (some (-1)))
def bK (a0:List aV) (a1c0:Int) (a1c1:aV):Option Int :=
 iter (gI a0 a1c0 a1c1) 0
def dO (a0:List aV) (a1c0:Int) (a1c1:aV):Option Bool :=
 (bK a0 a1c0 a1c1).bind fun y3=>some (decide (y3 ≥ 0))
def jk (a0:aL) (a1:aV) (a2:Int) (a4:Bool):Option Bool :=
 bif a4 then some false else ((dO a0.asks a2 a1).bind fun a3=>some a3)
def fE (a0:aL) (a1:aV) (a2:Int):Option Bool :=
 (nA a1 (-1)).bind fun a3=>bif a3 then some true else (bif a1.made then (slices_Contains_int a1.parts a2).bind fun a4=>some (!a4) else (bif (a1.kind != 1) then jk a0 a1 a2 true else (bif ((a1.sources.length:Int) != 1) then jk a0 a1 a2 true else (must (0≤(0:Int)∧(0:Int) < (a1.sources.length:Int)) (jk a0 a1 a2 (idx a1.sources (0:Int) == a2))))))
def gZ (a0:List Int) (a1c0:aV) (a1c1:aL):Int→Option (Int ⊕ Int)
 | a1=>bif decide (a1 < (a0.length:Int)) then must (0≤a1∧a1 < (a0.length:Int)) ((lY (idx a0 a1) a1c0 a1c1).bind fun a2=>bif a2 then out (some a1) else (some (.inl (w64 (a1 + 1))))) else (out (some (-1)))
def bV (a0:List Int) (a1c0:aV) (a1c1:aL):Option Int :=
 iter (gZ a0 a1c0 a1c1) 0
def gV (a0:List Int) (a1c0:aV) (a1c1:aL):List Int×Int→Option ((List Int×Int) ⊕ List Int)
 | (l,x)=>bif decide (x < (a0.length:Int)) then must (0≤x∧x < (a0.length:Int)) ((lY (idx a0 x) a1c0 a1c1).bind fun y=>bif !y then (some (.inl (l++[idx a0 x],w64 (x + 1)))) else (some (.inl (l,w64 (x + 1))))) else (out (some l))
def bR (a0:List Int) (a1c0:aV) (a1c1:aL):Option (List Int) :=
 (bV a0 a1c0 a1c1).bind fun i=>bif i == -1 then some a0 else must (0≤i∧i < (a0.length:Int)) (iter (gV a0 a1c0 a1c1) (a0.take i.toNat,w64 (i + 1)))
def qY (a2:Int) (a1:List Edge):Option ((List Edge×Int) ⊕ aL) :=
 some (.inl (a1,w64 (a2 + 1)))
def vz (a0:aL) (a1:aV) (a4:List Int):(List Edge×Int)→Option ((List Edge×Int) ⊕ aL)
 | (a3,a2)=>bif decide (a2 < (a4.length:Int)) then must (0≤a2∧a2 < (a4.length:Int)) ((fE (⟨a0.h,a0.asks,a3⟩:aL) a1 (idx a4 a2)).bind fun a5=>bif a5 then (gU (⟨a0.h,a0.asks,a3⟩:aL) a1.Ask.Txn (idx a4 a2) 16 a1.Ask.Key).bind fun a6=>qY a2 a6.edges else (qY a2 a3)) else (out (some (⟨a0.h,a0.asks,a3⟩:aL)))
def lg (a0:aL) (a1:aV) (a3:List Int) (a2:List Edge):Option aL :=
 iter (vz a0 a1 a3) (a2,0)
def nI (a2:Int) (a1:List Edge):Option ((List Edge×Int) ⊕ aL) :=
 some (.inl (a1,w64 (a2 + 1)))
def qZ (a1:Int) (a2:List Edge):Option ((List Edge×Int) ⊕ ((List Edge×Int) ⊕ aL)) :=
 some (.inl (a2,w64 (a1 + 1)))
def rf (a0:aL) (a1:aV) (a3:List Int) (a5:Int):(List Edge×Int)→Option ((List Edge×Int) ⊕ ((List Edge×Int) ⊕ aL))
 | (a4,a2)=>bif decide (a2 < (a3.length:Int)) then must (0≤a2∧a2 < (a3.length:Int)) ((slices_Contains_int a1.parts (idx a3 a2)).bind fun a6=>bif !a6 then (gU (⟨a0.h,a0.asks,a4⟩:aL) (idx a1.parts a5) (idx a3 a2) 8 a1.Ask.Key).bind fun a7=>qZ a2 a7.edges else (qZ a2 a4)) else (out (nI a5 a4))
def rq (a0:aL) (a1:aV) (a5:List Int) (a3:List Edge) (a2:Int) (a4:Bool):Option ((List Edge×Int) ⊕ aL) :=
 bif a4 then must (0≤w64 (a2 + 1)∧w64 (a2 + 1) < (a1.parts.length:Int)) ((gU (⟨a0.h,a0.asks,a3⟩:aL) (idx a1.parts a2) (idx a1.parts (w64 (a2 + 1))) 8 a1.Ask.Key).bind fun a6=>nI a2 a6.edges) else (iter (rf a0 a1 a5 a2) (a3,0))
def ru (a0:aL) (a1:aV) (a4:List Int):(List Edge×Int)→Option ((List Edge×Int) ⊕ aL)
 | (a3,a2)=>bif decide (a2 < (a1.parts.length:Int)) then must (0≤a2∧a2 < (a1.parts.length:Int)) (bif (a1.kind == 2) then rq a0 a1 a4 a3 a2 (decide (w64 (a2 + 1) < (a1.parts.length:Int))) else (rq a0 a1 a4 a3 a2 false)) else (out (lg a0 a1 a4 a3))
def jF (a0:aL) (a1:aV) (a2:List Edge):Option aL :=
 (eB a0.h a1.Ask.Key).bind fun a4=>(bR a4 a1 (⟨a0.h,a0.asks,a2⟩:aL)).bind fun a3=>bif a1.made then iter (ru a0 a1 a3) (a2,0) else (lg a0 a1 a3 a2)
def iG (a0:aL) (a1:aV) (a3:Bool):Option aL :=
 bif a3 then must (0≤(0:Int)∧(0:Int) < (a1.sources.length:Int)) ((gU a0 (idx a1.sources (0:Int)) a1.Ask.Txn 4 a1.Ask.Key).bind fun a2=>jF a0 a1 a2.edges) else (jF a0 a1 a0.edges)
def aI (a0:aL) (a1:aV):Option aL :=
 bif ((a1.sources.length:Int) == 1) then must (0≤(0:Int)∧(0:Int) < (a1.sources.length:Int)) (iG a0 a1 (decide (idx a1.sources (0:Int) ≥ 0))) else (iG a0 a1 false)
def zR (a1:Int) (a2:List aV):Option ((List aV×Int) ⊕ (dU×Int)) :=
 some (.inl (a2,w64 (a1 + 1)))
def xn (a7:List Ask×Int) (a1:List aV) (a2:Int) (a6:Int) (a4:List Int×Int) (a5:List Int×Bool×Int) (a3:Bool):Option ((List aV×Int) ⊕ (dU×Int)) :=
 must (((a1.length + 1) + (a1.length + 1) / 4 + 192) * 112≤281474976710656∧a1.length + 1≤9223372036854775807) (zR a2 (a1++([(⟨(idx a7.1 a2),a4.1,a5.1,a3,a6⟩:aV)]:List aV)))
def zS (a0:History) (a2:List Ask×Int) (a4:List aV) (a1:Int) (a6:Int):Option ((List aV×Int) ⊕ (dU×Int)) :=
 (rV a0 (idx a2.1 a1)).bind fun a5=>(vw a0 (idx a2.1 a1)).bind fun a3=>bif a3.2.1 then xn a2 a4 a1 a6 a5 a3 (decide ((((idx a2.1 a1).Base).length:Int) > 0)) else (xn a2 a4 a1 a6 a5 a3 false)
def xq (a0:History) (a2:List aV):(List Edge×Int)→Option ((List Edge×Int) ⊕ ((List aV×Int) ⊕ (dU×Int)))
 | (a3,a1)=>bif decide (a1 < (a2.length:Int)) then must (0≤a1∧a1 < (a2.length:Int)) ((aI (⟨a0,a2,a3⟩:aL) (⟨((idx a2 a1).Ask),(idx a2 a1).sources,(idx a2 a1).parts,(idx a2 a1).made,(idx a2 a1).kind⟩:aV)).bind fun a4=>some (.inl (a4.edges,w64 (a1 + 1)))) else (out (out (some ((⟨(a0.Txns.length:Int),a3⟩:dU),0))))
def zT (a0:History) (a3:List Ask×Int):(List aV×Int)→Option ((List aV×Int) ⊕ (dU×Int))
 | (a2,a1)=>bif decide (a1 < (a3.1.length:Int)) then must (0≤a1∧a1 < (a3.1.length:Int)) ((gQ a0 ((idx a3.1 a1).Key)).bind fun a6=>zS a0 a3 a2 a1 a6) else ((bq (⟨a0,a2,([]:List Edge)⟩:aL)).bind fun a4=>(cO (⟨a0,a2,a4.edges⟩:aL)).bind fun a5=>iter (xq a0 a2) (a5.edges,0))
def ed (a0:History):Option (dU×Int) :=
 (mh a0).bind fun a1=>bif (a1.2 != 0) then some ((⟨0,([]:List Edge)⟩:dU),a1.2) else (iter (zT a0 a1) ([],0))
def yo (a0:History):Option (List Spot×Int) :=
 (qF a0).bind fun a1=>some (a1.1.bad,a1.2)
def rW (a0:List Spot) (a1:Spot):Int→Option (Int ⊕ Int)
 | a2=>bif decide (a2 < (a0.length:Int)) then must (0≤a2∧a2 < (a0.length:Int)) (bif ((a1.Txn == (idx a0 a2).Txn) && ((a1.Place == (idx a0 a2).Place) && true)) then out (some a2) else (some (.inl (w64 (a2 + 1))))) else (out (some (-1)))
def ik (a0:List Spot) (a1:Spot):Option Int :=
 iter (rW a0 a1) 0
def kP (a0:List Spot) (a1:Spot):Option Bool :=
 (ik a0 a1).bind fun y5=>some (decide (y5 ≥ 0))
def oW (a0:Ask) (a1:History):Option Bool :=
 (bF a1 a0).bind fun y7=>some (decide ((y7.length:Int) > 0))
def iH (a0:List Ask) (a1c0:History):Int→Option (Int ⊕ Int)
 | a1=>bif decide (a1 < (a0.length:Int)) then must (0≤a1∧a1 < (a0.length:Int)) ((oW (idx a0 a1) a1c0).bind fun a2=>bif a2 then out (some a1) else (some (.inl (w64 (a1 + 1))))) else (out (some (-1)))
def cB (a0:List Ask) (a1c0:History):Option Int :=
 iter (iH a0 a1c0) 0
def iA (a0:List Ask) (a1c0:History):List Ask×Int→Option ((List Ask×Int) ⊕ List Ask)
 | (l,x)=>bif decide (x < (a0.length:Int)) then must (0≤x∧x < (a0.length:Int)) ((oW (idx a0 x) a1c0).bind fun y=>bif !y then (some (.inl (l++[idx a0 x],w64 (x + 1)))) else (some (.inl (l,w64 (x + 1))))) else (out (some l))
def bM (a0:List Ask) (a1c0:History):Option (List Ask) :=
 (cB a0 a1c0).bind fun i=>bif i == -1 then some a0 else must (0≤i∧i < (a0.length:Int)) (iter (iA a0 a1c0) (a0.take i.toNat,w64 (i + 1)))
def sW (a0:History):Option (List Ask×Int) :=
 (mh a0).bind fun y7=>bif (y7.2 != 0) then some (([]:List Ask),y7.2) else ((bM y7.1 a0).bind fun a1=>some (a1,0))
def xS (a0:Ask) (a1:dz):Option Bool :=
 some ((a0.Txn == a1.Spot.Txn) && ((a0.Place == a1.Spot.Place) && true))
def qG (a0:Int) (a1:dU):Option Bool :=
 bif decide (a0 ≥ 0) then some (decide (a0 < a1.N)) else (some false)
def wP (a0:Int):Option Int :=
 must (0≤(1:Int)∧(1:Int) < (far:Int)) (must (0≤(2:Int)∧(2:Int) < (far:Int)) (must (0≤(4:Int)∧(4:Int) < (far:Int)) (must (0≤(8:Int)∧(8:Int) < (far:Int)) (must (0≤(16:Int)∧(16:Int) < (far:Int)) (must (0≤(32:Int)∧(32:Int) < (far:Int)) (some (dm .i64 (w64 (IntKind.wrap .u64 ((IntKind.wrap .u64 ((IntKind.wrap .u64 ((dm .u64 (IntKind.wrap .u64 ((fV .u64 (IntKind.wrap .u64 ((dm .u64 (fV .u64 (IntKind.wrap .u64 ((dm .u64 (fV .u64 a0 (1:Int)) 6148914691236517205) + (dm .u64 a0 6148914691236517205))) (2:Int)) 3689348814741910323) + (dm .u64 (IntKind.wrap .u64 ((dm .u64 (fV .u64 a0 (1:Int)) 6148914691236517205) + (dm .u64 a0 6148914691236517205))) 3689348814741910323))) (4:Int)) + (IntKind.wrap .u64 ((dm .u64 (fV .u64 (IntKind.wrap .u64 ((dm .u64 (fV .u64 a0 (1:Int)) 6148914691236517205) + (dm .u64 a0 6148914691236517205))) (2:Int)) 3689348814741910323) + (dm .u64 (IntKind.wrap .u64 ((dm .u64 (fV .u64 a0 (1:Int)) 6148914691236517205) + (dm .u64 a0 6148914691236517205))) 3689348814741910323))))) 1085102592571150095) + (fV .u64 (dm .u64 (IntKind.wrap .u64 ((fV .u64 (IntKind.wrap .u64 ((dm .u64 (fV .u64 (IntKind.wrap .u64 ((dm .u64 (fV .u64 a0 (1:Int)) 6148914691236517205) + (dm .u64 a0 6148914691236517205))) (2:Int)) 3689348814741910323) + (dm .u64 (IntKind.wrap .u64 ((dm .u64 (fV .u64 a0 (1:Int)) 6148914691236517205) + (dm .u64 a0 6148914691236517205))) 3689348814741910323))) (4:Int)) + (IntKind.wrap .u64 ((dm .u64 (fV .u64 (IntKind.wrap .u64 ((dm .u64 (fV .u64 a0 (1:Int)) 6148914691236517205) + (dm .u64 a0 6148914691236517205))) (2:Int)) 3689348814741910323) + (dm .u64 (IntKind.wrap .u64 ((dm .u64 (fV .u64 a0 (1:Int)) 6148914691236517205) + (dm .u64 a0 6148914691236517205))) 3689348814741910323))))) 1085102592571150095) (8:Int)))) + (fV .u64 (IntKind.wrap .u64 ((dm .u64 (IntKind.wrap .u64 ((fV .u64 (IntKind.wrap .u64 ((dm .u64 (fV .u64 (IntKind.wrap .u64 ((dm .u64 (fV .u64 a0 (1:Int)) 6148914691236517205) + (dm .u64 a0 6148914691236517205))) (2:Int)) 3689348814741910323) + (dm .u64 (IntKind.wrap .u64 ((dm .u64 (fV .u64 a0 (1:Int)) 6148914691236517205) + (dm .u64 a0 6148914691236517205))) 3689348814741910323))) (4:Int)) + (IntKind.wrap .u64 ((dm .u64 (fV .u64 (IntKind.wrap .u64 ((dm .u64 (fV .u64 a0 (1:Int)) 6148914691236517205) + (dm .u64 a0 6148914691236517205))) (2:Int)) 3689348814741910323) + (dm .u64 (IntKind.wrap .u64 ((dm .u64 (fV .u64 a0 (1:Int)) 6148914691236517205) + (dm .u64 a0 6148914691236517205))) 3689348814741910323))))) 1085102592571150095) + (fV .u64 (dm .u64 (IntKind.wrap .u64 ((fV .u64 (IntKind.wrap .u64 ((dm .u64 (fV .u64 (IntKind.wrap .u64 ((dm .u64 (fV .u64 a0 (1:Int)) 6148914691236517205) + (dm .u64 a0 6148914691236517205))) (2:Int)) 3689348814741910323) + (dm .u64 (IntKind.wrap .u64 ((dm .u64 (fV .u64 a0 (1:Int)) 6148914691236517205) + (dm .u64 a0 6148914691236517205))) 3689348814741910323))) (4:Int)) + (IntKind.wrap .u64 ((dm .u64 (fV .u64 (IntKind.wrap .u64 ((dm .u64 (fV .u64 a0 (1:Int)) 6148914691236517205) + (dm .u64 a0 6148914691236517205))) (2:Int)) 3689348814741910323) + (dm .u64 (IntKind.wrap .u64 ((dm .u64 (fV .u64 a0 (1:Int)) 6148914691236517205) + (dm .u64 a0 6148914691236517205))) 3689348814741910323))))) 1085102592571150095) (8:Int)))) (16:Int)))) + (fV .u64 (IntKind.wrap .u64 ((IntKind.wrap .u64 ((dm .u64 (IntKind.wrap .u64 ((fV .u64 (IntKind.wrap .u64 ((dm .u64 (fV .u64 (IntKind.wrap .u64 ((dm .u64 (fV .u64 a0 (1:Int)) 6148914691236517205) + (dm .u64 a0 6148914691236517205))) (2:Int)) 3689348814741910323) + (dm .u64 (IntKind.wrap .u64 ((dm .u64 (fV .u64 a0 (1:Int)) 6148914691236517205) + (dm .u64 a0 6148914691236517205))) 3689348814741910323))) (4:Int)) + (IntKind.wrap .u64 ((dm .u64 (fV .u64 (IntKind.wrap .u64 ((dm .u64 (fV .u64 a0 (1:Int)) 6148914691236517205) + (dm .u64 a0 6148914691236517205))) (2:Int)) 3689348814741910323) + (dm .u64 (IntKind.wrap .u64 ((dm .u64 (fV .u64 a0 (1:Int)) 6148914691236517205) + (dm .u64 a0 6148914691236517205))) 3689348814741910323))))) 1085102592571150095) + (fV .u64 (dm .u64 (IntKind.wrap .u64 ((fV .u64 (IntKind.wrap .u64 ((dm .u64 (fV .u64 (IntKind.wrap .u64 ((dm .u64 (fV .u64 a0 (1:Int)) 6148914691236517205) + (dm .u64 a0 6148914691236517205))) (2:Int)) 3689348814741910323) + (dm .u64 (IntKind.wrap .u64 ((dm .u64 (fV .u64 a0 (1:Int)) 6148914691236517205) + (dm .u64 a0 6148914691236517205))) 3689348814741910323))) (4:Int)) + (IntKind.wrap .u64 ((dm .u64 (fV .u64 (IntKind.wrap .u64 ((dm .u64 (fV .u64 a0 (1:Int)) 6148914691236517205) + (dm .u64 a0 6148914691236517205))) (2:Int)) 3689348814741910323) + (dm .u64 (IntKind.wrap .u64 ((dm .u64 (fV .u64 a0 (1:Int)) 6148914691236517205) + (dm .u64 a0 6148914691236517205))) 3689348814741910323))))) 1085102592571150095) (8:Int)))) + (fV .u64 (IntKind.wrap .u64 ((dm .u64 (IntKind.wrap .u64 ((fV .u64 (IntKind.wrap .u64 ((dm .u64 (fV .u64 (IntKind.wrap .u64 ((dm .u64 (fV .u64 a0 (1:Int)) 6148914691236517205) + (dm .u64 a0 6148914691236517205))) (2:Int)) 3689348814741910323) + (dm .u64 (IntKind.wrap .u64 ((dm .u64 (fV .u64 a0 (1:Int)) 6148914691236517205) + (dm .u64 a0 6148914691236517205))) 3689348814741910323))) (4:Int)) + (IntKind.wrap .u64 ((dm .u64 (fV .u64 (IntKind.wrap .u64 ((dm .u64 (fV .u64 a0 (1:Int)) 6148914691236517205) + (dm .u64 a0 6148914691236517205))) (2:Int)) 3689348814741910323) + (dm .u64 (IntKind.wrap .u64 ((dm .u64 (fV .u64 a0 (1:Int)) 6148914691236517205) + (dm .u64 a0 6148914691236517205))) 3689348814741910323))))) 1085102592571150095) + (fV .u64 (dm .u64 (IntKind.wrap .u64 ((fV .u64 (IntKind.wrap .u64 ((dm .u64 (fV .u64 (IntKind.wrap .u64 ((dm .u64 (fV .u64 a0 (1:Int)) 6148914691236517205) + (dm .u64 a0 6148914691236517205))) (2:Int)) 3689348814741910323) + (dm .u64 (IntKind.wrap .u64 ((dm .u64 (fV .u64 a0 (1:Int)) 6148914691236517205) + (dm .u64 a0 6148914691236517205))) 3689348814741910323))) (4:Int)) + (IntKind.wrap .u64 ((dm .u64 (fV .u64 (IntKind.wrap .u64 ((dm .u64 (fV .u64 a0 (1:Int)) 6148914691236517205) + (dm .u64 a0 6148914691236517205))) (2:Int)) 3689348814741910323) + (dm .u64 (IntKind.wrap .u64 ((dm .u64 (fV .u64 a0 (1:Int)) 6148914691236517205) + (dm .u64 a0 6148914691236517205))) 3689348814741910323))))) 1085102592571150095) (8:Int)))) (16:Int)))) (32:Int))))) 127)))))))
def oZ (a0:Int):Option Int :=
 (wP a0).bind fun y3=>some y3
def kQ (a1:Int) (a2:Bool):Option (Int ⊕ Int) :=
 bif a2 then out (some 60) else (some (.inl (w64 (a1 + 1))))
def Ci (a0:dU):Int→Option (Int ⊕ Int)
 | a1=>bif decide (a1 < (a0.Edges.length:Int)) then must (0≤a1∧a1 < (a0.Edges.length:Int)) ((qG ((idx a0.Edges a1).From) a0).bind fun a2=>bif !a2 then kQ a1 true else ((qG ((idx a0.Edges a1).To) a0).bind fun a4=>bif !a4 then kQ a1 true else (bif decide ((idx a0.Edges a1).Kind < 1) then kQ a1 true else (bif decide ((idx a0.Edges a1).Kind > 16) then kQ a1 true else ((oZ (IntKind.wrap .u64 ((idx a0.Edges a1).Kind))).bind fun a3=>kQ a1 (a3 != 1)))))) else (out (some 0))
def pg (a0:dU) (b9:Bool):Option Int :=
 bif b9 then some 60 else (iter (Ci a0) 0)
def dI (a0:dU):Option Int :=
 bif decide (a0.N < 0) then pg a0 true else (bif decide (a0.N > 64) then pg a0 true else (pg a0 (decide ((a0.Edges.length:Int) > 262144))))
def Cj (a0:dU) (a1:Int) (a2:Int):((List (List bJ))×Int)→Option (((List (List bJ))×Int) ⊕ (((List (List bJ))×Int) ⊕ fI))
 | (a4,a3)=>bif decide (a3 < (a0.Edges.length:Int)) then must (0≤a3∧a3 < (a0.Edges.length:Int)) (must (0≤(idx a0.Edges a3).From∧(idx a0.Edges a3).From < (a4.length:Int)) (must (0≤(idx a0.Edges a3).To∧(idx a0.Edges a3).To < ((idx a4 ((idx a0.Edges a3).From)).length:Int)) (bif (dm .i64 ((idx a0.Edges a3).Kind) a1 != 0) then bif ((idx (idx a4 ((idx a0.Edges a3).From)) ((idx a0.Edges a3).To)).tight == 0) then bif (dm .i64 ((idx a0.Edges a3).Kind) a2 != 0) then bif ((idx ((idx a4 ((idx a0.Edges a3).From)).set ((idx a0.Edges a3).To).toNat (⟨w64 (a3 + 1),(idx (idx a4 ((idx a0.Edges a3).From)) ((idx a0.Edges a3).To)).loose⟩:bJ)) ((idx a0.Edges a3).To)).loose == 0) then some (.inl (a4.set ((idx a0.Edges a3).From).toNat (((idx a4 ((idx a0.Edges a3).From)).set ((idx a0.Edges a3).To).toNat (⟨w64 (a3 + 1),(idx (idx a4 ((idx a0.Edges a3).From)) ((idx a0.Edges a3).To)).loose⟩:bJ)).set ((idx a0.Edges a3).To).toNat (⟨(idx ((idx a4 ((idx a0.Edges a3).From)).set ((idx a0.Edges a3).To).toNat (⟨w64 (a3 + 1),(idx (idx a4 ((idx a0.Edges a3).From)) ((idx a0.Edges a3).To)).loose⟩:bJ)) ((idx a0.Edges a3).To)).tight,w64 (a3 + 1)⟩:bJ)),w64 (a3 + 1))) else (some (.inl (a4.set ((idx a0.Edges a3).From).toNat ((idx a4 ((idx a0.Edges a3).From)).set ((idx a0.Edges a3).To).toNat (⟨w64 (a3 + 1),(idx (idx a4 ((idx a0.Edges a3).From)) ((idx a0.Edges a3).To)).loose⟩:bJ)),w64 (a3 + 1)))) else (some (.inl (a4.set ((idx a0.Edges a3).From).toNat ((idx a4 ((idx a0.Edges a3).From)).set ((idx a0.Edges a3).To).toNat (⟨w64 (a3 + 1),(idx (idx a4 ((idx a0.Edges a3).From)) ((idx a0.Edges a3).To)).loose⟩:bJ)),w64 (a3 + 1)))) else (bif (dm .i64 ((idx a0.Edges a3).Kind) a2 != 0) then bif ((idx (idx a4 ((idx a0.Edges a3).From)) ((idx a0.Edges a3).To)).loose == 0) then some (.inl (a4.set ((idx a0.Edges a3).From).toNat ((idx a4 ((idx a0.Edges a3).From)).set ((idx a0.Edges a3).To).toNat (⟨(idx (idx a4 ((idx a0.Edges a3).From)) ((idx a0.Edges a3).To)).tight,w64 (a3 + 1)⟩:bJ)),w64 (a3 + 1))) else (some (.inl (a4.set ((idx a0.Edges a3).From).toNat (idx a4 ((idx a0.Edges a3).From)),w64 (a3 + 1)))) else (some (.inl (a4.set ((idx a0.Edges a3).From).toNat (idx a4 ((idx a0.Edges a3).From)),w64 (a3 + 1))))) else (bif (dm .i64 ((idx a0.Edges a3).Kind) a2 != 0) then bif ((idx (idx a4 ((idx a0.Edges a3).From)) ((idx a0.Edges a3).To)).loose == 0) then some (.inl (a4.set ((idx a0.Edges a3).From).toNat ((idx a4 ((idx a0.Edges a3).From)).set ((idx a0.Edges a3).To).toNat (⟨(idx (idx a4 ((idx a0.Edges a3).From)) ((idx a0.Edges a3).To)).tight,w64 (a3 + 1)⟩:bJ)),w64 (a3 + 1))) else (some (.inl (a4.set ((idx a0.Edges a3).From).toNat (idx a4 ((idx a0.Edges a3).From)),w64 (a3 + 1)))) else (some (.inl (a4.set ((idx a0.Edges a3).From).toNat (idx a4 ((idx a0.Edges a3).From)),w64 (a3 + 1)))))))) else (out (out (some (⟨a0,a4⟩:fI))))
def Ck (a0:dU) (a1:Int) (a2:Int):((List (List bJ))×Int)→Option (((List (List bJ))×Int) ⊕ fI)
 | (a4,a3)=>bif decide (a3 < (a0.N.toNat:Int)) then must (0≤a0.N∧a0.N≤9223372036854775807∧(16:Int) * a0.N≤281474976710656) (must (0≤a3∧a3 < (a4.length:Int)) (some (.inl (a4.set a3.toNat (List.replicate a0.N.toNat (default:bJ)),w64 (a3 + 1))))) else (iter (Cj a0 a1 a2) (a4,0))
def lX (a0:dU) (a1:Int) (a2:Int):Option fI :=
 must (0≤a0.N∧a0.N≤9223372036854775807∧(24:Int) * a0.N≤281474976710656) (iter (Ck a0 a1 a2) (List.replicate a0.N.toNat (default:List bJ),0))
def Am (a3:List (Int×Int)):(List Int×Int)→Option ((List Int×Int) ⊕ (((List (Int×Int))×List Int×Bool×Int) ⊕ (((List (Int×Int))×List Int×Bool) ⊕ (List Int×Bool))))
 | (a1,a2)=>bif decide (a2 ≥ 0) then must (((1 + a1.length) + (1 + a1.length) / 4 + 192) * 8≤281474976710656∧1 + a1.length≤9223372036854775807) (some (.inl (([a2]:List Int)++a1,mat a3 a2))) else (out (out (out (some (a1,false)))))
def wQ (a1:Int) (a2:List (Int×Int)) (a3:List Int) (a4:Bool):Option (((List (Int×Int))×List Int×Bool×Int) ⊕ (((List (Int×Int))×List Int×Bool×Int) ⊕ (((List (Int×Int))×List Int×Bool) ⊕ (List Int×Bool)))) :=
 some (.inl (a2,a3,a4,w64 (a1 + 1)))
def wR (a4:List Int) (a7:Int) (a3:List (Int×Int)) (a1:List Int) (a5:Bool) (a2:Int) (a6:Bool):Option (((List (Int×Int))×List Int×Bool×Int) ⊕ (((List (Int×Int))×List Int×Bool×Int) ⊕ (((List (Int×Int))×List Int×Bool) ⊕ (List Int×Bool)))) :=
 bif a6 then must (((a1.length + 1) + (a1.length + 1) / 4 + 192) * 8≤281474976710656∧a1.length + 1≤9223372036854775807) (wQ a2 (iB a3 a2 (idx a4 a7)) (a1++([a2]:List Int)) false) else (wQ a2 a3 a1 a5)
def Ao (a0:fI) (a3:List Int) (a2:Int):((List (Int×Int))×List Int×Bool×Int)→Option (((List (Int×Int))×List Int×Bool×Int) ⊕ (((List (Int×Int))×List Int×Bool×Int) ⊕ (((List (Int×Int))×List Int×Bool) ⊕ (List Int×Bool))))
 | (a4,a5,a6,a1)=>bif decide (a1 < a0.g.N) then bif !(kZ a4 a1) then must (0≤idx a3 a2∧idx a3 a2 < (a0.links.length:Int)) (must (0≤a1∧a1 < ((idx a0.links (idx a3 a2)).length:Int)) (wR a3 a2 a4 a5 a6 a1 (decide ((idx (idx a0.links (idx a3 a2)) a1).tight > 0)))) else (wR a3 a2 a4 a5 a6 a1 false) else (out (some (.inl (a4,a5,a6,w64 (a2 + 1)))))
def Ap (a0:fI) (a2:Int) (a3:List Int):((List (Int×Int))×List Int×Bool×Int)→Option (((List (Int×Int))×List Int×Bool×Int) ⊕ (((List (Int×Int))×List Int×Bool) ⊕ (List Int×Bool)))
 | (a4,a5,a6,a1)=>bif decide (a1 < (a3.length:Int)) then must (0≤a1∧a1 < (a3.length:Int)) (bif (idx a3 a1 == a2) then iter (Am a4) (([]:List Int),mat a4 (idx a3 a1)) else (iter (Ao a0 a3 a1) (a4,a5,a6,0))) else (out (some (.inl (a4,a5,a6))))
def Aq (a0:fI) (a2:Int):((List (Int×Int))×List Int×Bool)→Option (((List (Int×Int))×List Int×Bool) ⊕ (List Int×Bool))
 | (a3,a1,a4)=>bif decide ((a1.length:Int) > 0) then iter (Ap a0 a2 a1) (a3,[],true,0) else (out (some (([]:List Int),true)))
def dH (a0:fI) (a1:Int) (a2:Int):Option (List Int×Bool) :=
 iter (Aq a0 a2) (iB ([]:List (Int×Int)) a1 (-1),([a1]:List Int),false)
def zU (a0:bJ) (a1:Int):Option Int :=
 bif (a1 == 0) then some a0.loose else (some a0.tight)
def ou (a0:fI) (a1:List Int):(List Edge×Int)→Option ((List Edge×Int) ⊕ (List Edge))
 | (a3,a2)=>bif decide (a2 < (a1.length:Int)) then must (0≤a2∧a2 < (a1.length:Int)) (must (0≤idx a1 a2∧idx a1 a2 < (a0.links.length:Int)) (must ((a1.length:Int)≠0) (must (0≤(w64 (a2 + 1)).tmod (a1.length:Int)∧(w64 (a2 + 1)).tmod (a1.length:Int) < (a1.length:Int)) (must (0≤idx a1 ((w64 (a2 + 1)).tmod (a1.length:Int))∧idx a1 ((w64 (a2 + 1)).tmod (a1.length:Int)) < ((idx a0.links (idx a1 a2)).length:Int)) ((zU (idx (idx a0.links (idx a1 a2)) (idx a1 ((w64 (a2 + 1)).tmod (a1.length:Int)))) a2).bind fun a4=>must (0≤w64 (a4 - 1)∧w64 (a4 - 1) < (a0.g.Edges.length:Int)) (must (((a3.length + 1) + (a3.length + 1) / 4 + 192) * 32≤281474976710656∧a3.length + 1≤9223372036854775807) (some (.inl (a3++([(idx a0.g.Edges (w64 (a4 - 1)))]:List Edge),w64 (a2 + 1)))))))))) else (out (some a3))
def fF (a0:fI) (a1:List Int):Option (List Edge) :=
 iter (ou a0 a1) ([],0)
def vC (a2:Int) (a1:List Int) (a3:Bool):Option ((List Int×Bool×Int) ⊕ ((List Int×Bool×Int) ⊕ (List Edge×Int))) :=
 some (.inl (a1,a3,w64 (a2 + 1)))
def vD (a6:Int) (a4:List Int) (a3:Bool) (a2:Int) (a1:(List Int×Bool)) (a5:Bool):Option ((List Int×Bool×Int) ⊕ ((List Int×Bool×Int) ⊕ (List Edge×Int))) :=
 bif a5 then must (((1 + a1.1.length) + (1 + a1.1.length) / 4 + 192) * 8≤281474976710656∧1 + a1.1.length≤9223372036854775807) (vC a2 (([a6]:List Int)++a1.1) false) else (vC a2 a4 a3)
def Cm (a0:dU) (a6:fI) (a1:Int):(List Int×Bool×Int)→Option ((List Int×Bool×Int) ⊕ ((List Int×Bool×Int) ⊕ (List Edge×Int)))
 | (a4,a3,a2)=>bif decide (a2 < a0.N) then must (0≤a1∧a1 < (a6.links.length:Int)) (must (0≤a2∧a2 < ((idx a6.links a1).length:Int)) (bif ((idx (idx a6.links a1) a2).loose == 0) then vC a2 a4 a3 else ((dH a6 a2 a1).bind fun a5=>bif !a5.2 then bif a3 then vD a1 a4 a3 a2 a5 true else (vD a1 a4 a3 a2 a5 (decide (w64 ((a5.1.length:Int) + 1) < (a4.length:Int)))) else (vD a1 a4 a3 a2 a5 false)))) else (out (some (.inl (a4,a3,w64 (a1 + 1)))))
def Cn (a0:dU) (a1:fI):(List Int×Bool×Int)→Option ((List Int×Bool×Int) ⊕ (List Edge×Int))
 | (a2,a4,a3)=>bif decide (a3 < a0.N) then iter (Cm a0 a1 a3) (a2,a4,0) else ((fF a1 a2).bind fun a5=>out (some (a5,0)))
def fK (a0:dU) (a1:Int) (a2:Int):Option (List Edge×Int) :=
 (dI a0).bind fun y8=>bif (y8 != 0) then some (([]:List Edge),y8) else ((lX a0 a1 a2).bind fun a3=>iter (Cn a0 a3) ([],true,0))
def rX {σ:Type} (a2:Int) (a1:σ):Option ((Int×σ) ⊕ σ) :=
 some (.inl (w64 (a2 + 1),a1))
def nJ {σ:Type} (Y:σ→ax→Option (Bool×σ)) (a2:fI) (a3:ax) (a1:Int) (a5:σ) (a6:Bool):Option ((Int×σ) ⊕ σ) :=
 bif a6 then rX a1 a5 else ((Y a5 (⟨a1,((idx (idx a2.links a3.node) a1).tight == 0),a3.first_⟩:ax)).bind fun a4=>bif !a4.1 then out (some a4.2) else (rX a1 a4.2))
def xy {σ:Type} (Y:σ→ax→Option (Bool×σ)) (a2:fI) (a3:ax):(Int×σ)→Option ((Int×σ) ⊕ σ)
 | (a1,a4)=>bif decide (a1 < a2.g.N) then must (0≤a3.node∧a3.node < (a2.links.length:Int)) (must (0≤a1∧a1 < ((idx a2.links a3.node).length:Int)) (bif ((idx (idx a2.links a3.node) a1).tight == 0) then bif ((idx (idx a2.links a3.node) a1).loose == 0) then nJ Y a2 a3 a1 a4 true else (nJ Y a2 a3 a1 a4 a3.last_) else (nJ Y a2 a3 a1 a4 false))) else (out (some a4))
def dM {σ:Type} (Y:σ→ax→Option (Bool×σ)) (a1:Int) (a2:fI) (a3:ax) (s0:σ):Option σ :=
 iter (xy Y a2 a3) (a1,s0)
def uw (a0:fI) (a1:ax) (a2:Int):Option Unit :=
 some ()
def Dk (a0:ax) (a1:Int):Option Bool :=
 bif (a0.node == a1) then bif a0.last_ then some (!a0.first_) else (some true) else (some false)
def Ed (a0:List (ax×ax)) (a2:Int):(Int×Bool×Bool×List Int)→Option ((Int×Bool×Bool×List Int) ⊕ (List Int×Bool))
 | (a3,a5,a4,a1)=>bif decide (a3 ≥ 0) then must (((1 + a1.length) + (1 + a1.length) / 4 + 192) * 8≤281474976710656∧1 + a1.length≤9223372036854775807) (some (.inl ((mat a0 (⟨a3,a5,a4⟩:ax)).node,(mat a0 (⟨a3,a5,a4⟩:ax)).last_,(mat a0 (⟨a3,a5,a4⟩:ax)).first_,([a3]:List Int)++a1))) else (must (((1 + a1.length) + (1 + a1.length) / 4 + 192) * 8≤281474976710656∧1 + a1.length≤9223372036854775807) (out (some (([a2]:List Int)++a1,false))))
def wS (a0:List (ax×ax)) (a1:ax) (a2:Int):Option (List Int×Bool) :=
 iter (Ed a0 a2) (a1.node,a1.last_,a1.first_,([]:List Int))
def vE (a3:List (ax×ax)) (a1:List ax) (a2:Bool):Option (Bool×(((List (ax×ax))×List ax×Bool) ⊕ Unit)) :=
 some (true,.inl (a3,a1,a2))
def vF (a1:Int):(((List (ax×ax))×List ax×Bool) ⊕ Unit)→ax→Option (Bool×(((List (ax×ax))×List ax×Bool) ⊕ Unit))
 | .inl (a4,a3,a5),a2=>(Dk (⟨a2.node,a2.last_,a2.last_⟩:ax) a1).bind fun a6=>bif a6 then some (false,.inr ()) else (bif !(kZ a4 (⟨a2.node,a2.last_,a2.last_⟩:ax)) then must (((a3.length + 1) + (a3.length + 1) / 4 + 192) * 16≤281474976710656∧a3.length + 1≤9223372036854775807) (vE (iB a4 (⟨a2.node,a2.last_,a2.last_⟩:ax) (⟨(-1),false,false⟩:ax)) (a3++([(⟨a2.node,a2.last_,a2.last_⟩:ax)]:List ax)) false) else (vE a4 a3 a5))
 | .inr _,_=>none
def vG (a3:List (ax×ax)) (a2:List ax) (a1:Bool):Option (Bool×(((List (ax×ax))×List ax×Bool) ⊕ (List Int×Bool))) :=
 some (true,.inl (a3,a2,a1))
def vH (a1:Int) (a5:List ax) (a7:Int):(((List (ax×ax))×List ax×Bool) ⊕ (List Int×Bool))→ax→Option (Bool×(((List (ax×ax))×List ax×Bool) ⊕ (List Int×Bool)))
 | .inl (a4,a2,a9),a3=>(Dk a3 a1).bind fun a8=>bif a8 then (wS a4 (idx a5 a7) a1).bind fun a6=>some (false,.inr (a6.1,a6.2)) else (bif !(kZ a4 a3) then must (((a2.length + 1) + (a2.length + 1) / 4 + 192) * 16≤281474976710656∧a2.length + 1≤9223372036854775807) (vG (iB a4 a3 (idx a5 a7)) (a2++([a3]:List ax)) false) else (vG a4 a2 a9))
 | .inr _,_=>none
def EI (a3:Int):(((List (ax×ax))×List ax×Bool) ⊕ (List Int×Bool))→Option (((List (ax×ax))×List ax×Bool×Int) ⊕ (((List (ax×ax))×List ax×Bool×Int) ⊕ (List Int×Bool)))
 | .inl ((a4,a6,a5))=>some (.inl (a4,a6,a5,w64 (a3 + 1)))
 | .inr ((a2,a1))=>out (out (some (a2,a1)))
def zu (a0:fI) (a1:Int) (a3:List ax) (a7:Int):((List (ax×ax))×List ax×Bool×Int)→Option (((List (ax×ax))×List ax×Bool×Int) ⊕ (((List (ax×ax))×List ax×Bool×Int) ⊕ (List Int×Bool)))
 | (a5,a6,a4,a2)=>bif decide (a2 < (a3.length:Int)) then must (0≤a2∧a2 < (a3.length:Int)) ((uw a0 (idx a3 a2) a1).bind fun a9=>(dM (vH a1 a3 a2) a1 a0 (idx a3 a2) (.inl (a5,a6,a4))).bind fun a8=>EI a2 a8) else (out (some (.inl (a5,a6,a4,w64 (a7 + 1)))))
def vJ (a0:fI) (a1:Int) (a3:List (ax×ax)) (a4:List ax) (a5:Int) (a2:Bool):Option (((List (ax×ax))×List ax×Bool×Int) ⊕ (List Int×Bool)) :=
 bif a2 then iter (zu a0 a1 a4 a5) (a3,[],true,0) else (out (some (([]:List Int),true)))
def zw (a0:fI) (a1:Int) (a2:Int):((List (ax×ax))×List ax×Bool×Int)→Option (((List (ax×ax))×List ax×Bool×Int) ⊕ (List Int×Bool))
 | (a5,a3,a6,a4)=>bif decide (a4 < a2) then vJ a0 a1 a5 a3 a4 (decide ((a3.length:Int) > 0)) else (vJ a0 a1 a5 a3 a4 false)
def EJ (a0:fI) (a1:Int) (a2:Int):(((List (ax×ax))×List ax×Bool) ⊕ Unit)→Option (List Int×Bool)
 | .inl ((a4,a5,a3))=>iter (zw a0 a1 a2) (a4,a5,a3,2)
 | .inr _=>some (([a1]:List Int),false)
def bG (a0:fI) (a1:Int) (a2:Int):Option (List Int×Bool) :=
 (uw a0 (⟨a1,false,false⟩:ax) a1).bind fun a4=>(dM (vF a1) a1 a0 (⟨a1,false,false⟩:ax) (.inl ([],[],true))).bind fun a3=>EJ a0 a1 a2 a3
def zV (a0:bJ) (a1:Int):Option Int :=
 bif decide (a0.tight > 0) then some a0.tight else (some a0.loose)
def ow (a0:fI) (a1:List Int):(List Edge×Int)→Option ((List Edge×Int) ⊕ (List Edge))
 | (a3,a2)=>bif decide (a2 < (a1.length:Int)) then must (0≤a2∧a2 < (a1.length:Int)) (must (0≤idx a1 a2∧idx a1 a2 < (a0.links.length:Int)) (must ((a1.length:Int)≠0) (must (0≤(w64 (a2 + 1)).tmod (a1.length:Int)∧(w64 (a2 + 1)).tmod (a1.length:Int) < (a1.length:Int)) (must (0≤idx a1 ((w64 (a2 + 1)).tmod (a1.length:Int))∧idx a1 ((w64 (a2 + 1)).tmod (a1.length:Int)) < ((idx a0.links (idx a1 a2)).length:Int)) ((zV (idx (idx a0.links (idx a1 a2)) (idx a1 ((w64 (a2 + 1)).tmod (a1.length:Int)))) a2).bind fun a4=>must (0≤w64 (a4 - 1)∧w64 (a4 - 1) < (a0.g.Edges.length:Int)) (must (((a3.length + 1) + (a3.length + 1) / 4 + 192) * 32≤281474976710656∧a3.length + 1≤9223372036854775807) (some (.inl (a3++([(idx a0.g.Edges (w64 (a4 - 1)))]:List Edge),w64 (a2 + 1)))))))))) else (out (some a3))
def fG (a0:fI) (a1:List Int):Option (List Edge) :=
 iter (ow a0 a1) ([],0)
def yC (a2:fI) (a1:List Int):Option (List Edge×Int) :=
 (fG a2 a1).bind fun a3=>some (a3,0)
def yD (a2:Int) (a1:List Int):Option ((List Int×Int) ⊕ (List Edge×Int)) :=
 some (.inl (a1,w64 (a2 + 1)))
def yE (a2:fI) (a5:List Int) (a1:Int) (a3:Int):Option ((List Int×Int) ⊕ (List Edge×Int)) :=
 bif decide (a3 < 2) then out (yC a2 a5) else ((bG a2 a1 a3).bind fun a4=>bif !a4.2 then yD a1 a4.1 else (yD a1 a5))
def Co (a0:dU) (a3:fI):(List Int×Int)→Option ((List Int×Int) ⊕ (List Edge×Int))
 | (a1,a2)=>bif decide (a2 < a0.N) then bif decide ((a1.length:Int) > 0) then yE a3 a1 a2 (a1.length:Int) else (yE a3 a1 a2 (w64 (a0.N + 1))) else (out (yC a3 a1))
def fM (a0:dU) (a1:Int) (a2:Int):Option (List Edge×Int) :=
 (dI a0).bind fun y8=>bif (y8 != 0) then some (([]:List Edge),y8) else ((lX a0 a1 a2).bind fun a3=>iter (Co a0 a3) ([],0))
def Em (a0:dU) (a1:Int):Option (List Edge×Int) :=
 (fM a0 a1 0).bind fun y7=>some (y7.1,y7.2)
def Cq (a0:dU) (a1:Int) (a2:Int):Option (List Edge×Int) :=
 (Em a0 a1).bind fun y7=>some (y7.1,y7.2)
def kR {σ:Type} (Y:σ→fU→Option (Bool×σ)) (s0:σ):Option σ :=
 (Y s0 (⟨3,1,13,0,1,81⟩:fU)).bind fun y2=>bif !y2.1 then some y2.2 else ((Y y2.2 (⟨4,4,5,16,2,54⟩:fU)).bind fun y6=>bif !y6.1 then some y6.2 else ((Y y6.2 (⟨5,6,13,16,3,55⟩:fU)).bind fun a1=>bif !a1.1 then some a1.2 else ((Y a1.2 (⟨6,7,29,0,1,81⟩:fU)).bind fun a2=>bif !a2.1 then some a2.2 else ((Y a2.2 (⟨7,8,31,0,1,81⟩:fU)).bind fun a3=>bif !a3.1 then some a3.2 else (some a3.2)))))
def sZ (a1:List Edge) (a3:List (Int×Unit)) (a2:Int):Option (((List (Int×Unit))×Int) ⊕ (((List (Edge×Unit))×Int) ⊕ Bool)) :=
 some (.inl (iB a3 ((idx a1 a2).From) (),w64 (a2 + 1)))
def pV (a1:List Edge) (a4:List (Int×Unit)) (a2:Int) (a3:Bool):Option (((List (Int×Unit))×Int) ⊕ (((List (Edge×Unit))×Int) ⊕ Bool)) :=
 bif a3 then out (out (some false)) else (sZ a1 a4 a2)
def vK (a1:List Edge) (a4:List (Int×Unit)) (a2:Int) (a3:Bool):Option (((List (Int×Unit))×Int) ⊕ (((List (Edge×Unit))×Int) ⊕ Bool)) :=
 bif a3 then out (out (some false)) else (sZ a1 a4 a2)
def xU (a1:List Edge) (a2:Int) (a3:Int) (a4:Int) (a6:List (Int×Unit)) (a5:Int) (a7:Bool):Option (((List (Int×Unit))×Int) ⊕ (((List (Edge×Unit))×Int) ⊕ Bool)) :=
 bif a7 then out (out (some false)) else (bif (a4 == 1) then bif !(dm .i64 ((idx a1 a5).Kind) a2 != 0) then out (out (some false)) else (sZ a1 a6 a5) else (bif (a4 == 2) then bif (a5 == 0) then bif !(dm .i64 ((idx a1 a5).Kind) a3 != 0) then pV a1 a6 a5 true else (bif decide (a5 > 0) then pV a1 a6 a5 (!(dm .i64 ((idx a1 a5).Kind) a2 != 0)) else (pV a1 a6 a5 false)) else (bif decide (a5 > 0) then pV a1 a6 a5 (!(dm .i64 ((idx a1 a5).Kind) a2 != 0)) else (pV a1 a6 a5 false)) else (bif (a4 == 3) then bif !(dm .i64 ((idx a1 a5).Kind) a2 != 0) then bif !(dm .i64 ((idx a1 a5).Kind) a3 != 0) then vK a1 a6 a5 true else (vK a1 a6 a5 (dm .i64 ((idx a1 ((w64 (a5 + 1)).tmod (a1.length:Int))).Kind) a2 == 0)) else (vK a1 a6 a5 false) else (out (out (some false))))))
def Bf (a1:List Edge) (a2:Int) (a3:Int) (a4:Int) (a7:List (Edge×Unit)):((List (Int×Unit))×Int)→Option (((List (Int×Unit))×Int) ⊕ (((List (Edge×Unit))×Int) ⊕ Bool))
 | (a6,a5)=>bif decide (a5 < (a1.length:Int)) then must (0≤a5∧a5 < (a1.length:Int)) (must ((a1.length:Int)≠0) (must (0≤(w64 (a5 + 1)).tmod (a1.length:Int)∧(w64 (a5 + 1)).tmod (a1.length:Int) < (a1.length:Int)) (bif !(kZ a7 (idx a1 a5)) then xU a1 a2 a3 a4 a6 a5 true else (xU a1 a2 a3 a4 a6 a5 ((idx a1 a5).To != (idx a1 ((w64 (a5 + 1)).tmod (a1.length:Int))).From))))) else (out (out (some ((a6.length:Int) == (a1.length:Int)))))
def Bg (a0:dU) (a1:List Edge) (a2:Int) (a3:Int) (a4:Int):((List (Edge×Unit))×Int)→Option (((List (Edge×Unit))×Int) ⊕ Bool)
 | (a6,a5)=>bif decide (a5 < (a0.Edges.length:Int)) then must (0≤a5∧a5 < (a0.Edges.length:Int)) (some (.inl (iB a6 (idx a0.Edges a5) (),w64 (a5 + 1)))) else (iter (Bf a1 a2 a3 a4 a6) ([],0))
def xV (a0:dU) (a1:List Edge) (a2:Int) (a3:Int) (a4:Int) (a5:Bool):Option Bool :=
 bif a5 then some false else (iter (Bg a0 a1 a2 a3 a4) ([],0))
def di (a0:dU) (a1:List Edge) (a2:Int) (a3:Int) (a4:Int):Option Bool :=
 (dI a0).bind fun a5=>bif (a5 != 0) then xV a0 a1 a2 a3 a4 true else (xV a0 a1 a2 a3 a4 ((a1.length:Int) == 0))
def iT (a0:List Ask) (a1c0:dz):Int→Option (Int ⊕ Int)
 | a1=>bif decide (a1 < (a0.length:Int)) then must (0≤a1∧a1 < (a0.length:Int)) ((xS (idx a0 a1) a1c0).bind fun a2=>bif a2 then out (some a1) else (some (.inl (w64 (a1 + 1))))) else (out (some (-1)))
def dn (a0:List Ask) (a1c0:dz):Option Int :=
 iter (iT a0 a1c0) 0
def fe (a0:List Ask) (a1c0:dz):Option Bool :=
 (dn a0 a1c0).bind fun y3=>some (decide (y3 ≥ 0))
def kH (a0:History) (a1:dz):(Unit ⊕ Bool)→fU→Option (Bool×(Unit ⊕ Bool))
 | .inl _,a2=>bif (a2.kind == a1.Kind) then (ed a0).bind fun a3=>bif (a3.2 == 0) then bif (a1.Level == a2.level) then bif ((a1.Spot.Txn == 0) && ((a1.Spot.Place == 0) && true)) then (di a3.1 a1.Cycle a2.d a2.r a2.rule).bind fun a4=>some (false,.inr a4) else (some (false,.inr false)) else (some (false,.inr false)) else (some (false,.inr false)) else (some (true,.inl ()))
 | .inr _,_=>none
def Ee:(Unit ⊕ Bool)→Option Bool
 | .inl _=>some false
 | .inr a1=>some a1
def fQ (a0:History) (a1:dz):Option Bool :=
 (aJ a0).bind fun a2=>bif (a2 != 0) then some false else (bif (a1.Kind == 1) then (yo a0).bind fun a3=>bif (a1.Level == 1) then bif ((a1.Cycle.length:Int) == 0) then (kP a3.1 a1.Spot).bind fun a6=>some a6 else (some false) else (some false) else (bif (a1.Kind == 2) then (sW a0).bind fun a4=>bif (a1.Level == 1) then bif ((a1.Cycle.length:Int) == 0) then (fe a4.1 a1).bind fun a5=>some a5 else (some false) else (some false) else ((kR (kH a0 a1) (.inl ())).bind fun a7=>Ee a7)))
def QB (c:Int) (a0:dU) (a1:Int) (a2:Int):Option (List Edge×Int) :=
 bif c == 54 then fK a0 a1 a2 else (bif c == 55 then fM a0 a1 a2 else (bif c == 81 then Cq a0 a1 a2 else none))
def zW (a1:List dz):Option (Bool×((List dz) ⊕ Unit)) :=
 some (true,.inl a1)
def zX (a4:dU×Int):((List dz) ⊕ Unit)→fU→Option (Bool×((List dz) ⊕ Unit))
 | .inl a1,a2=>(QB a2.find a4.1 a2.d a2.r).bind fun a3=>bif decide ((a3.1.length:Int) > 0) then must (((a1.length + 1) + (a1.length + 1) / 4 + 192) * 56≤281474976710656∧a1.length + 1≤9223372036854775807) (zW (a1++([(⟨a2.kind,a2.level,(⟨0,0⟩:Spot),a3.1⟩:dz)]:List dz))) else (zW a1)
 | .inr _,_=>none
def JP:((List dz) ⊕ Unit)→Option (List dz×Int)
 | .inl a1=>some (a1,0)
 | .inr _=>none
def zY (a0:History) (a2:List dz):Option (List dz×Int) :=
 (ed a0).bind fun a1=>bif (a1.2 != 0) then some (([]:List dz),a1.2) else ((kR (zX a1) (.inl a2)).bind fun a3=>JP a3)
def zZ (a0:History) (a1:List dz):Option (List dz×Int) :=
 (sW a0).bind fun a2=>bif decide ((a2.1.length:Int) > 0) then must (0≤(0:Int)∧(0:Int) < (a2.1.length:Int)) (must (((a1.length + 1) + (a1.length + 1) / 4 + 192) * 56≤281474976710656∧a1.length + 1≤9223372036854775807) (zY a0 (a1++([(⟨2,1,(⟨(idx a2.1 (0:Int)).Txn,(idx a2.1 (0:Int)).Place⟩:Spot),([]:List Edge)⟩:dz)]:List dz)))) else (zY a0 a1)
def fT (a0:History):Option (List dz×Int) :=
 (yo a0).bind fun y7=>bif (y7.2 != 0) then some (([]:List dz),y7.2) else (bif decide ((y7.1.length:Int) > 0) then must (0≤(0:Int)∧(0:Int) < (y7.1.length:Int)) (must (((0 + 1) + (0 + 1) / 4 + 192) * 56≤281474976710656∧0 + 1≤9223372036854775807) (zZ a0 (([]:List dz)++([(⟨1,1,(idx y7.1 (0:Int)),([]:List Edge)⟩:dz)]:List dz)))) else (zZ a0 []))
def ry:Option Bool :=
 (fT (⟨([(⟨#[120]⟩:ByteArray)]:List ByteArray),([(⟨0,1,0,1,([(⟨1,0,1,false,([]:List Int)⟩:Op),(⟨5,0,0,true,([2]:List Int)⟩:Op)]:List Op)⟩:Txn)]:List Txn)⟩:History)).bind fun a1=>bif (a1.2 == 0) then bif ((a1.1.length:Int) == 1) then must (0≤(0:Int)∧(0:Int) < (a1.1.length:Int)) (bif ((idx a1.1 (0:Int)).Kind == 1) then bif ((((idx a1.1 (0:Int)).Spot).Txn == 0) && ((((idx a1.1 (0:Int)).Spot).Place == 1) && true)) then (fQ (⟨([(⟨#[120]⟩:ByteArray)]:List ByteArray),([(⟨0,1,0,1,([(⟨1,0,1,false,([]:List Int)⟩:Op),(⟨5,0,0,true,([2]:List Int)⟩:Op)]:List Op)⟩:Txn)]:List Txn)⟩:History) (⟨(idx a1.1 (0:Int)).Kind,(idx a1.1 (0:Int)).Level,((idx a1.1 (0:Int)).Spot),(idx a1.1 (0:Int)).Cycle⟩:dz)).bind fun a2=>some a2 else (some false) else (some false)) else (some false) else (some false)
def tT (a0:List ByteArray) (a1:ByteArray):Int→Option (Int ⊕ Int)
 | a2=>bif decide (a2 < (a0.length:Int)) then must (0≤a2∧a2 < (a0.length:Int)) (bif sEq (idx a0 a2) a1 then out (some a2) else (some (.inl (w64 (a2 + 1))))) else (out (some (-1)))
def gy (a0:List ByteArray) (a1:ByteArray):Option Int :=
 iter (tT a0 a1) 0
def kS (a1:Int) (a2:Bool):Option (Int ⊕ Bool) :=
 bif a2 then out (some false) else (some (.inl (w64 (a1 + 1))))
def rY (a0:List ByteArray):Int→Option (Int ⊕ Bool)
 | a1=>bif decide (a1 < (a0.length:Int)) then must (0≤a1∧a1 < (a0.length:Int)) (bif decide (((idx a0 a1).size:Int) < 1) then kS a1 true else (bif decide (((idx a0 a1).size:Int) > 32) then kS a1 true else (must (0≤(0:Int)∧(0:Int)≤a1∧a1≤(a0.length:Int)) ((gy (jT a0 (0:Int) a1) (idx a0 a1)).bind fun a2=>kS a1 (decide (a2 ≥ 0)))))) else (out (some (decide ((a0.length:Int)≤32))))
def dV (a0:List ByteArray):Option Bool :=
 iter (rY a0) 0
def ku (a1:Int) (a2:Bool):Option (Int ⊕ Bool) :=
 bif a2 then out (some false) else (some (.inl (w64 (a1 + 1))))
def mJ (a0:List Txn) (a1:Int):Int→Option (Int ⊕ Bool)
 | a2=>bif decide (a2 < a1) then must (0≤a2∧a2 < (a0.length:Int)) (bif ((idx a0 a2).Proc == (idx a0 a1).Proc) then bif ((idx a0 a2).To == (-1)) then ku a2 true else (ku a2 (decide ((idx a0 a2).To ≥ (idx a0 a1).From))) else (ku a2 false)) else (out (some true))
def mK (a0:List Txn) (a1:Int) (a2:Bool):Option Bool :=
 bif a2 then some false else (iter (mJ a0 a1) 0)
def eZ (a0:List Txn) (a1:Int) (a2:Bool):Option Bool :=
 bif a2 then some false else (bif decide (a1 > 0) then must (0≤w64 (a1 - 1)∧w64 (a1 - 1) < (a0.length:Int)) (mK a0 a1 (decide ((idx a0 a1).From≤(idx a0 (w64 (a1 - 1))).From))) else (mK a0 a1 false))
def aY (a0:List Txn) (a1:Int):Option Bool :=
 must (0≤a1∧a1 < (a0.length:Int)) (bif decide ((idx a0 a1).Status < 1) then eZ a0 a1 true else (bif decide ((idx a0 a1).Status > 3) then eZ a0 a1 true else (bif decide ((idx a0 a1).From < 0) then eZ a0 a1 true else (bif ((idx a0 a1).To != (-1)) then bif decide ((idx a0 a1).To≤(idx a0 a1).From) then eZ a0 a1 true else (bif ((idx a0 a1).To == (-1)) then eZ a0 a1 ((idx a0 a1).Status != 3) else (eZ a0 a1 false)) else (bif ((idx a0 a1).To == (-1)) then eZ a0 a1 ((idx a0 a1).Status != 3) else (eZ a0 a1 false))))))
def lF (a0:Call):Option Bool :=
 some (decide ((a0.Vals.length:Int)≤64))
def oF (a0:Call):Int→Option (Int ⊕ Bool)
 | a1=>bif decide (a1 < (a0.Vals.length:Int)) then must (0≤a1∧a1 < (a0.Vals.length:Int)) (must (0≤w64 (a1 - 1)∧w64 (a1 - 1) < (a0.Vals.length:Int)) (bif decide (idx a0.Vals a1≤idx a0.Vals (w64 (a1 - 1))) then out (some false) else (some (.inl (w64 (a1 + 1)))))) else (out (lF a0))
def jP (a0:Call) (a1:Bool):Option Bool :=
 bif a1 then some false else (bif (a0.Kind == 5) then some (decide ((a0.Vals.length:Int)≤1)) else (bif (a0.Kind == 8) then bif !a0.Got then some true else (some ((a0.Vals.length:Int) == 1)) else (bif (a0.Kind == 7) then iter (oF a0) 1 else (lF a0))))
def jQ (a0:Call) (a1:Int) (a2:Bool):Option Bool :=
 bif a2 then some false else (bif decide (a0.Kind≤4) then bif !a0.Got then bif ((a0.Vals.length:Int) == 0) then bif (a0.Kind != 4) then some true else (bif decide (a0.Arg ≥ (-1048576)) then some (decide (a0.Arg≤1048576)) else (some false)) else (some false) else (some false) else (bif (a0.Arg != 0) then jP a0 true else (bif (a0.Got != (a1 == 1)) then jP a0 true else (bif !a0.Got then jP a0 (decide ((a0.Vals.length:Int) > 0)) else (jP a0 false)))))
def bE (a0:Call) (a1:Int):Option Bool :=
 bif decide (a0.Kind < 1) then jQ a0 a1 true else (bif decide (a0.Kind > 8) then jQ a0 a1 true else (bif decide ((a0.Key.size:Int) < 1) then jQ a0 a1 true else (jQ a0 a1 (decide ((a0.Key.size:Int) > 32)))))
def nK (a0:Event):Int→Option (Int ⊕ Bool)
 | a1=>bif decide (a1 < (a0.Calls.length:Int)) then must (0≤a1∧a1 < (a0.Calls.length:Int)) ((bE (idx a0.Calls a1) a0.Kind).bind fun a2=>bif !a2 then out (some false) else (some (.inl (w64 (a1 + 1))))) else (out (some true))
def kT (a0:Event) (b9:Bool):Option Bool :=
 bif b9 then some false else (iter (nK a0) 0)
def dF (a0:Event):Option Bool :=
 bif decide (a0.Kind < 0) then kT a0 true else (bif decide (a0.Kind > 3) then kT a0 true else (kT a0 (decide ((a0.Calls.length:Int) > 16))))
def rZ (a0:List Event):Int→Option (Int ⊕ Int)
 | a1=>bif decide (a1 < (a0.length:Int)) then must (0≤a1∧a1 < (a0.length:Int)) ((dF (idx a0 a1)).bind fun a2=>bif !a2 then out (some 1) else (some (.inl (w64 (a1 + 1))))) else (out (some 0))
def iq (a0:List Event):Option Int :=
 bif decide ((a0.length:Int) > 256) then some 1 else (iter (rZ a0) 0)
def jG (a0:Int):Option Int :=
 some (w64 (((w64 (a0 - 1)).tmod (4:Int)) + 1))
def iQ (a1:List ByteArray) (a5:List Int) (a2:List (List Int)) (a4:List Int) (a3:List Int):Option (Int×aR) :=
 some (0,(⟨a1,a5,a2,a4,a3⟩:aR))
def iR (a2:Int) (a5:List ByteArray) (a7:List Int) (a3:List Int) (a4:List Int) (a1:Int) (a6:List (List Int)) (a8:Bool):Option (Int×aR) :=
 bif a8 then must (0≤a1∧a1 < (a4.length:Int)) (must (0≤a1∧a1 < (a3.length:Int)) (bif decide (idx (a3.set a1.toNat (w64 ((idx a3 a1) + 1))) a1 > 8) then some (51,(⟨a5,a7,a6,a3.set a1.toNat (w64 ((idx a3 a1) + 1)),a4.set a1.toNat a2⟩:aR)) else (iQ a5 a7 a6 (a3.set a1.toNat (w64 ((idx a3 a1) + 1))) (a4.set a1.toNat a2)))) else (iQ a5 a7 a6 a3 a4)
def gM (a1:Call) (a2:Int) (a6:List ByteArray) (a8:List Int) (a5:List Int) (a4:List Int) (a3:Int) (a7:List (List Int)):Option (Int×aR) :=
 bif (a1.Kind == 4) then must (0≤a3∧a3 < (a4.length:Int)) (iR a2 a6 a8 a5 a4 a3 a7 (idx a4 a3 != a2)) else (iR a2 a6 a8 a5 a4 a3 a7 false)
def jW (a1:Call) (a2:Int) (a7:List ByteArray) (a8:List Int) (a4:List (List Int)) (a6:List Int) (a9:List Int) (a3:Int):Int→Option (Int ⊕ (Int×aR))
 | a5=>must (0≤a3∧a3 < (a4.length:Int)) (bif decide (a5 < ((idx a4 a3).length:Int)) then must (0≤a5∧a5 < ((idx a4 a3).length:Int)) (bif (idx (idx a4 a3) a5 == a1.Arg) then out (some (3,(⟨a7,a8,a4,a6,a9⟩:aR))) else (some (.inl (w64 (a5 + 1))))) else (must (((((idx a4 a3).length) + 1) + (((idx a4 a3).length) + 1) / 4 + 192) * 8≤281474976710656∧((idx a4 a3).length) + 1≤9223372036854775807) (out (gM a1 a2 a7 a8 a6 a9 a3 (a4.set a3.toNat ((idx a4 a3)++([a1.Arg]:List Int)))))))
def jX (a1:Call) (a2:Int) (a4:List ByteArray) (a7:List Int) (a5:List (List Int)) (a3:List Int) (a8:List Int) (a6:Int) (a9:Bool):Option (Int×aR) :=
 bif a9 then iter (jW a1 a2 a4 a7 a5 a3 a8 a6) 0 else (gM a1 a2 a4 a7 a3 a8 a6 a5)
def fD (a1:Call) (a2:Int) (a6:List ByteArray) (a4:List Int) (a7:List (List Int)) (a5:List Int) (a8:List Int) (a3:Int):Option (Int×aR) :=
 must (0≤a3∧a3 < (a4.length:Int)) ((jG a1.Kind).bind fun a9=>bif (idx a4 a3 != a9) then some (50,(⟨a6,a4,a7,a5,a8⟩:aR)) else (bif (a1.Kind == 2) then jX a1 a2 a6 a4 a7 a5 a8 a3 true else (jX a1 a2 a6 a4 a7 a5 a8 a3 (a1.Kind == 3))))
def jY (a0:aR) (a1:Call) (a2:Int) (a3:List Int):Option (Int×aR) :=
 must (((a0.wrote.length + 1) + (a0.wrote.length + 1) / 4 + 192) * 24≤281474976710656∧a0.wrote.length + 1≤9223372036854775807) (must (((a0.incs.length + 1) + (a0.incs.length + 1) / 4 + 192) * 8≤281474976710656∧a0.incs.length + 1≤9223372036854775807) (must (((a0.last_.length + 1) + (a0.last_.length + 1) / 4 + 192) * 8≤281474976710656∧a0.last_.length + 1≤9223372036854775807) (fD a1 a2 (a0.keys++([a1.Key]:List ByteArray)) a3 (a0.wrote++([([]:List Int)]:List (List Int))) (a0.incs++([0]:List Int)) (a0.last_++([(-1)]:List Int)) (a0.keys.length:Int))))
def jZ (a0:aR) (a1:Call) (a2:Int):Option (Int×aR) :=
 (jG a1.Kind).bind fun a3=>must (((a0.types.length + 1) + (a0.types.length + 1) / 4 + 192) * 8≤281474976710656∧a0.types.length + 1≤9223372036854775807) (jY a0 a1 a2 (a0.types++([a3]:List Int)))
def az (a0:aR) (a1:Call) (a2:Int):Option (Int×aR) :=
 (gy a0.keys a1.Key).bind fun y5=>bif decide (y5 < 0) then bif decide ((a0.keys.length:Int) ≥ 32) then some (2,a0) else (must (((a0.keys.length + 1) + (a0.keys.length + 1) / 4 + 192) * 16≤281474976710656∧a0.keys.length + 1≤9223372036854775807) (jZ a0 a1 a2)) else (fD a1 a2 a0.keys a0.types a0.wrote a0.incs a0.last_ y5)
def si (a0:History) (a2:Int) (a3:List Call) (a1:Int):Option ((List Call×Int) ⊕ ((List ByteArray×List Int×(List (List Int))×List Int×List Int×Int) ⊕ Int)) :=
 some (.inl (a3++([(⟨(idx ((idx a0.Txns a2).Ops) a1).Kind,idx a0.Keys ((idx ((idx a0.Txns a2).Ops) a1).Key),(idx ((idx a0.Txns a2).Ops) a1).Arg,(idx ((idx a0.Txns a2).Ops) a1).Got,(idx ((idx a0.Txns a2).Ops) a1).Vals⟩:Call)]:List Call),w64 (a1 + 1)))
def nL (a0:History) (a3:Int) (a1:List Call) (a2:Int) (a4:Bool):Option ((List Call×Int) ⊕ ((List ByteArray×List Int×(List (List Int))×List Int×List Int×Int) ⊕ Int)) :=
 bif a4 then out (out (some 1)) else (must (0≤(idx ((idx a0.Txns a3).Ops) a2).Key∧(idx ((idx a0.Txns a3).Ops) a2).Key < (a0.Keys.length:Int)) (must (((a1.length + 1) + (a1.length + 1) / 4 + 192) * 64≤281474976710656∧a1.length + 1≤9223372036854775807) (si a0 a3 a1 a2)))
def iI (a4:Int) (a3:List Call):(List ByteArray×List Int×(List (List Int))×List Int×List Int×Int)→Option ((List ByteArray×List Int×(List (List Int))×List Int×List Int×Int) ⊕ ((List Call×Int) ⊕ ((List ByteArray×List Int×(List (List Int))×List Int×List Int×Int) ⊕ Int)))
 | (a5,a9,a6,a8,a7,a2)=>bif decide (a2 < (a3.length:Int)) then must (0≤a2∧a2 < (a3.length:Int)) ((az (⟨a5,a9,a6,a8,a7⟩:aR) (idx a3 a2) a4).bind fun a1=>bif (a1.1 != 0) then out (out (out (some 1))) else (some (.inl (a1.2.keys,a1.2.types,a1.2.wrote,a1.2.incs,a1.2.last_,w64 (a2 + 1))))) else (out (out (some (.inl (a5,a9,a6,a8,a7,w64 (a4 + 1))))))
def iJ (a0:History) (a7:List ByteArray) (a4:List Int) (a8:List (List Int)) (a9:List Int) (a6:List Int) (a1:Int):(List Call×Int)→Option ((List Call×Int) ⊕ ((List ByteArray×List Int×(List (List Int))×List Int×List Int×Int) ⊕ Int))
 | (a3,a2)=>bif decide (a2 < (((idx a0.Txns a1).Ops).length:Int)) then must (0≤a2∧a2 < (((idx a0.Txns a1).Ops).length:Int)) (bif decide ((idx ((idx a0.Txns a1).Ops) a2).Key < 0) then nL a0 a1 a3 a2 true else (nL a0 a1 a3 a2 (decide ((idx ((idx a0.Txns a1).Ops) a2).Key ≥ (a0.Keys.length:Int))))) else ((iq ([(⟨0,(idx a0.Txns a1).Status,a3⟩:Event)]:List Event)).bind fun a5=>bif (a5 != 0) then out (out (some 1)) else (iter (iI a1 a3) (a7,a4,a8,a9,a6,0)))
def kU (a0:History) (a5:List ByteArray) (a1:List Int) (a6:List (List Int)) (a7:List Int) (a4:List Int) (a2:Int) (a3:Bool):Option ((List ByteArray×List Int×(List (List Int))×List Int×List Int×Int) ⊕ Int) :=
 bif a3 then out (some 1) else (iter (iJ a0 a5 a1 a6 a7 a4 a2) ([],0))
def kV (a0:History):(List ByteArray×List Int×(List (List Int))×List Int×List Int×Int)→Option ((List ByteArray×List Int×(List (List Int))×List Int×List Int×Int) ⊕ Int)
 | (a4,a2,a5,a6,a3,a1)=>bif decide (a1 < (a0.Txns.length:Int)) then must (0≤a1∧a1 < (a0.Txns.length:Int)) ((aY a0.Txns a1).bind fun a7=>bif !a7 then kU a0 a4 a2 a5 a6 a3 a1 true else (kU a0 a4 a2 a5 a6 a3 a1 (decide ((((idx a0.Txns a1).Ops).length:Int) > 16)))) else (out (some 0))
def jo (a0:History) (a1:Bool):Option Int :=
 bif a1 then some 1 else (iter (kV a0) ([],[],[],[],[],0))
def aF (a0:History):Option Int :=
 (dV a0.Keys).bind fun a1=>bif !a1 then jo a0 true else (jo a0 (decide ((a0.Txns.length:Int) > 32)))
def kW (a0:Int) (a1:Bool):Option Int :=
 bif a1 then some 1 else (bif (a0 == 4) then some 4 else (bif (a0 == 5) then some 6 else (bif (a0 == 6) then some 7 else (bif (a0 == 7) then some 8 else (some 0)))))
def fq (a0:Int):Option Int :=
 bif (a0 == 1) then kW a0 (a0 == 1) else (bif (a0 == 2) then kW a0 (a0 == 2) else (kW a0 (a0 == 3)))
def iK (a0:Int):Option Bool :=
 some (decide (a0≤4))
def fO (a1:Bool):Option Int :=
 bif !a1 then some 80 else (some 0)
def sj (a1:Int) (a2:Bool):Option ((Bool×Int) ⊕ Int) :=
 some (.inl (a2,w64 (a1 + 1)))
def nM (a1:List Int):(Bool×Int)→Option ((Bool×Int) ⊕ Int)
 | (a3,a2)=>bif decide (a2 < (a1.length:Int)) then bif a3 then must (0≤w64 (a2 - 1)∧w64 (a2 - 1) < (a1.length:Int)) (must (0≤a2∧a2 < (a1.length:Int)) (sj a2 (decide (idx a1 (w64 (a2 - 1)) < idx a1 a2)))) else (sj a2 false) else (out (fO a3))
def fP (a0:Int) (a1:List Int) (b5:Bool):Option Int :=
 bif b5 then some 1 else (bif (a0 == 1) then fO (decide ((a1.length:Int)≤1)) else (bif (a0 == 4) then fO ((a1.length:Int) == 1) else (bif (a0 == 3) then iter (nM a1) (decide ((a1.length:Int)≤64),1) else (fO (decide ((a1.length:Int)≤64))))))
def aU (a0:Int) (a1:List Int):Option Int :=
 bif decide (a0 < 1) then fP a0 a1 true else (fP a0 a1 (decide (a0 > 4)))
def vL (a0:List Int) (a1:Int):Int→Option (Int ⊕ Bool)
 | a2=>bif decide (a2 < (a0.length:Int)) then must (0≤a2∧a2 < (a0.length:Int)) (bif (idx a0 a2 == a1) then out (some true) else (some (.inl (w64 (a2 + 1))))) else (out (some false))
def iL (a0:List Int) (a1:Int):Option Bool :=
 iter (vL a0 a1) 0
def wF (a2:List Int):(Int×Int)→Option ((Int×Int) ⊕ (List Int×Bool))
 | (a3,a1)=>bif decide (a1 < (a2.length:Int)) then must (0≤a1∧a1 < (a2.length:Int)) (some (.inl (w64 (a3 - (idx a2 a1)),w64 (a1 + 1)))) else (out (some (([a3]:List Int),true)))
def mM (a1:List Int) (a2:List Int):Int→Option (Int ⊕ (List Int×Bool))
 | a3=>bif decide (a3 < (a2.length:Int)) then must (0≤w64 ((w64 ((a1.length:Int) - (a2.length:Int))) + a3)∧w64 ((w64 ((a1.length:Int) - (a2.length:Int))) + a3) < (a1.length:Int)) (must (0≤a3∧a3 < (a2.length:Int)) (bif (idx a1 (w64 ((w64 ((a1.length:Int) - (a2.length:Int))) + a3)) != idx a2 a3) then out (some (([]:List Int),false)) else (some (.inl (w64 (a3 + 1)))))) else (must (0≤(0:Int)∧(0:Int)≤(w64 ((a1.length:Int) - (a2.length:Int)))∧(w64 ((a1.length:Int) - (a2.length:Int)))≤(a1.length:Int)) (must (((0 + ((jT a1 (0:Int) (w64 ((a1.length:Int) - (a2.length:Int)))).length)) + (0 + ((jT a1 (0:Int) (w64 ((a1.length:Int) - (a2.length:Int)))).length)) / 4 + 192) * 8≤281474976710656∧0 + ((jT a1 (0:Int) (w64 ((a1.length:Int) - (a2.length:Int)))).length)≤9223372036854775807) (out (some (([]:List Int)++(jT a1 (0:Int) (w64 ((a1.length:Int) - (a2.length:Int)))),true)))))
def kw (a1:Int) (a2:Bool):Option (Int ⊕ (List Int×Bool)) :=
 bif a2 then out (some (([]:List Int),false)) else (some (.inl (w64 (a1 + 1))))
def qK (a2:Int) (a1:List Int):Option ((List Int×Int) ⊕ (Int ⊕ (List Int×Bool))) :=
 some (.inl (a1,w64 (a2 + 1)))
def mO (a1:List Int) (a2:List Int):(List Int×Int)→Option ((List Int×Int) ⊕ (Int ⊕ (List Int×Bool)))
 | (a4,a3)=>bif decide (a3 < (a1.length:Int)) then must (0≤a3∧a3 < (a1.length:Int)) ((iL a2 (idx a1 a3)).bind fun a5=>bif !a5 then must (((a4.length + 1) + (a4.length + 1) / 4 + 192) * 8≤281474976710656∧a4.length + 1≤9223372036854775807) (qK a3 (a4++([idx a1 a3]:List Int))) else (qK a3 a4)) else (out (out (some (a4,true))))
def mP (a1:List Int) (a2:List Int):Int→Option (Int ⊕ (List Int×Bool))
 | a3=>bif decide (a3 < (a2.length:Int)) then must (0≤a3∧a3 < (a2.length:Int)) ((iL a1 (idx a2 a3)).bind fun a5=>bif !a5 then kw a3 true else (must (0≤(0:Int)∧(0:Int)≤a3∧a3≤(a2.length:Int)) ((iL (jT a2 (0:Int) a3) (idx a2 a3)).bind fun a4=>kw a3 a4))) else (iter (mO a1 a2) ([],0))
def iZ (a0:Int) (a1:List Int) (a2:List Int) (b9:Bool):Option (List Int×Bool) :=
 bif b9 then some (([]:List Int),false) else (bif (a0 == 1) then bif ((a1.length:Int) == 1) then must (0≤(0:Int)∧(0:Int) < (a1.length:Int)) (must (0≤w64 ((a2.length:Int) - 1)∧w64 ((a2.length:Int) - 1) < (a2.length:Int)) (some (([]:List Int),(idx a1 (0:Int) == idx a2 (w64 ((a2.length:Int) - 1)))))) else (some (([]:List Int),false)) else (bif (a0 == 4) then must (0≤(0:Int)∧(0:Int) < (a1.length:Int)) (iter (wF a2) (idx a1 (0:Int),0)) else (bif (a0 == 2) then bif decide ((a2.length:Int) > (a1.length:Int)) then some (([]:List Int),false) else (iter (mM a1 a2) 0) else (iter (mP a1 a2) 0))))
def aQ (a0:Int) (a1:List Int) (a2:List Int):Option (List Int×Bool) :=
 (aU a0 a1).bind fun a3=>bif (a3 != 0) then iZ a0 a1 a2 true else (iZ a0 a1 a2 ((a2.length:Int) == 0))
def jH (a1:Int) (a3:List Ask) (a2:List Spot):Option ((List Ask×List Spot×Int) ⊕ (List Ask×List Spot)) :=
 some (.inl (a3,a2,w64 (a1 + 1)))
def rz (a2:Int) (a1:List Int):Option ((List Int×Int) ⊕ ((List Ask×List Spot×Int) ⊕ (List Ask×List Spot))) :=
 some (.inl (a1,w64 (a2 + 1)))
def rA (a0:History) (a1:Int) (a2:List Int) (a3:Int) (a4:Bool):Option ((List Int×Int) ⊕ ((List Ask×List Spot×Int) ⊕ (List Ask×List Spot))) :=
 bif a4 then must (0≤a3∧a3 < (((idx a0.Txns a1).Ops).length:Int)) (must (((a2.length + 1) + (a2.length + 1) / 4 + 192) * 8≤281474976710656∧a2.length + 1≤9223372036854775807) (rz a3 (a2++([(idx ((idx a0.Txns a1).Ops) a3).Arg]:List Int)))) else (rz a3 a2)
def rC (a0:History) (a1:Int) (a2:List Ask) (a5:List Spot) (a3:Int) (a4:List Int):Option ((List Int×Int) ⊕ ((List Ask×List Spot×Int) ⊕ (List Ask×List Spot))) :=
 must (((a2.length + 1) + (a2.length + 1) / 4 + 192) * 48≤281474976710656∧a2.length + 1≤9223372036854775807) (out (jH a3 (a2++([(⟨a1,a3,(idx ((idx a0.Txns a1).Ops) a3).Key,a4⟩:Ask)]:List Ask)) a5))
def vM (a0:History) (a1:Int) (a5:List Ask) (a3:List Spot) (a2:Int):(List Int×Int)→Option ((List Int×Int) ⊕ ((List Ask×List Spot×Int) ⊕ (List Ask×List Spot)))
 | (a6,a4)=>bif decide (a4 < a2) then must (0≤a4∧a4 < (((idx a0.Txns a1).Ops).length:Int)) (bif ((idx ((idx a0.Txns a1).Ops) a4).Key == (idx ((idx a0.Txns a1).Ops) a2).Key) then (iK ((idx ((idx a0.Txns a1).Ops) a4).Kind)).bind fun a9=>rA a0 a1 a6 a4 a9 else (rA a0 a1 a6 a4 false)) else (must (((0 + (((idx ((idx a0.Txns a1).Ops) a2).Vals).length)) + (0 + (((idx ((idx a0.Txns a1).Ops) a2).Vals).length)) / 4 + 192) * 8≤281474976710656∧0 + (((idx ((idx a0.Txns a1).Ops) a2).Vals).length)≤9223372036854775807) (bif decide ((a6.length:Int) > 0) then (jG ((idx ((idx a0.Txns a1).Ops) a2).Kind)).bind fun a8=>(aQ a8 ((idx ((idx a0.Txns a1).Ops) a2).Vals) a6).bind fun a7=>bif !a7.2 then must (((a3.length + 1) + (a3.length + 1) / 4 + 192) * 16≤281474976710656∧a3.length + 1≤9223372036854775807) (out (jH a2 a5 (a3++([(⟨a1,a2⟩:Spot)]:List Spot)))) else (bif ((idx ((idx a0.Txns a1).Ops) a2).Kind == 5) then out (jH a2 a5 a3) else (rC a0 a1 a5 a3 a2 a7.1)) else (rC a0 a1 a5 a3 a2 (([]:List Int)++((idx ((idx a0.Txns a1).Ops) a2).Vals)))))
def vN (a0:History) (a1:Int):(List Ask×List Spot×Int)→Option ((List Ask×List Spot×Int) ⊕ (List Ask×List Spot))
 | (a3,a4,a2)=>bif decide (a2 < (((idx a0.Txns a1).Ops).length:Int)) then must (0≤a2∧a2 < (((idx a0.Txns a1).Ops).length:Int)) ((iK ((idx ((idx a0.Txns a1).Ops) a2).Kind)).bind fun a5=>bif a5 then jH a2 a3 a4 else (iter (vM a0 a1 a3 a4 a2) ([],0))) else (out (some (a3,a4)))
def bD (a0:History) (a1:Int):Option (List Ask×List Spot) :=
 must (0≤a1∧a1 < (a0.Txns.length:Int)) (bif ((idx a0.Txns a1).Status != 1) then some (([]:List Ask),([]:List Spot)) else (iter (vN a0 a1) ([],[],0)))
def uF (a0:History):(List Ask×List Spot×Int)→Option ((List Ask×List Spot×Int) ⊕ (List Ask×List Spot))
 | (a2,a3,a4)=>bif decide (a4 < (a0.Txns.length:Int)) then (bD a0 a4).bind fun a1=>must (((a2.length + a1.1.length) + (a2.length + a1.1.length) / 4 + 192) * 48≤281474976710656∧a2.length + a1.1.length≤9223372036854775807) (must (((a3.length + a1.2.length) + (a3.length + a1.2.length) / 4 + 192) * 16≤281474976710656∧a3.length + a1.2.length≤9223372036854775807) (some (.inl (a2++a1.1,a3++a1.2,w64 (a4 + 1))))) else (out (some (a2,a3)))
def gq (a0:History):Option (List Ask×List Spot) :=
 iter (uF a0) ([],[],0)
def lZ (a0:History) (a1:Ask):Option Int :=
 must (0≤a1.Txn∧a1.Txn < (a0.Txns.length:Int)) (must (0≤a1.Place∧a1.Place < (((idx a0.Txns a1.Txn).Ops).length:Int)) ((jG ((idx ((idx a0.Txns a1.Txn).Ops) a1.Place).Kind)).bind fun a2=>some a2))
def nN (a2:Int) (a1:List Int):Option ((List Int×Int) ⊕ (List Int)) :=
 some (.inl (a1,w64 (a2 + 1)))
def nO (a0:History) (a1:Int) (a2:List Int) (a3:Int) (a4:Bool):Option ((List Int×Int) ⊕ (List Int)) :=
 bif a4 then must (((a2.length + 1) + (a2.length + 1) / 4 + 192) * 8≤281474976710656∧a2.length + 1≤9223372036854775807) (nN a3 (a2++([(idx ((idx a0.Txns a1).Ops) a3).Arg]:List Int))) else (nN a3 a2)
def su (a0:History) (a1:Int) (a2:Int):(List Int×Int)→Option ((List Int×Int) ⊕ (List Int))
 | (a4,a3)=>must (0≤a1∧a1 < (a0.Txns.length:Int)) (bif decide (a3 < (((idx a0.Txns a1).Ops).length:Int)) then must (0≤a3∧a3 < (((idx a0.Txns a1).Ops).length:Int)) (bif ((idx ((idx a0.Txns a1).Ops) a3).Key == a2) then (iK ((idx ((idx a0.Txns a1).Ops) a3).Kind)).bind fun a5=>nO a0 a1 a4 a3 a5 else (nO a0 a1 a4 a3 false)) else (out (some a4)))
def bf (a0:History) (a1:Int) (a2:Int):Option (List Int) :=
 iter (su a0 a1 a2) ([],0)
def mQ (a2:Int) (a1:List Int):Option ((List Int×Int) ⊕ (List Int)) :=
 some (.inl (a1,w64 (a2 + 1)))
def ky (a1:List Int) (a2:Int) (a3:Bool):Option ((List Int×Int) ⊕ (List Int)) :=
 bif a3 then must (((a1.length + 1) + (a1.length + 1) / 4 + 192) * 8≤281474976710656∧a1.length + 1≤9223372036854775807) (mQ a2 (a1++([a2]:List Int))) else (mQ a2 a1)
def qL (a0:History) (a1:Ask):(List Int×Int)→Option ((List Int×Int) ⊕ (List Int))
 | (a3,a2)=>bif decide (a2 < (a0.Txns.length:Int)) then bif (a2 != a1.Txn) then must (0≤a2∧a2 < (a0.Txns.length:Int)) (bif ((idx a0.Txns a2).Status != 2) then (bf a0 a2 a1.Key).bind fun a4=>ky a3 a2 (decide ((a4.length:Int) > 0)) else (ky a3 a2 false)) else (ky a3 a2 false) else (out (some a3))
def bv (a0:History) (a1:Ask):Option (List Int) :=
 iter (qL a0 a1) ([],0)
def uG (y7:List Int):(Int×Int)→Option ((Int×Int) ⊕ Int)
 | (a2,a1)=>bif decide (a1 < (y7.length:Int)) then must (0≤a1∧a1 < (y7.length:Int)) (some (.inl (w64 (a2 + (idx y7 a1)),w64 (a1 + 1)))) else (out (some a2))
def jh (a0:History) (a1:Int) (a2:Int):Option Int :=
 (bf a0 a1 a2).bind fun y7=>iter (uG y7) (0,0)
def mR (a2:Int) (a1:Int):Option ((Int×Int) ⊕ ((List Bool×Int) ⊕ (List Int))) :=
 some (.inl (a1,w64 (a2 + 1)))
def mU (a1:Int) (a2:List Bool):Option ((List Bool×Int) ⊕ ((Int×Int) ⊕ ((List Bool×Int) ⊕ (List Int)))) :=
 some (.inl (a2,w64 (a1 + 1)))
def mV (a3:Int) (a2:List Bool) (a1:Int) (a4:Bool):Option ((List Bool×Int) ⊕ ((Int×Int) ⊕ ((List Bool×Int) ⊕ (List Int)))) :=
 bif a4 then must (0≤a1∧a1 < (a2.length:Int)) (bif idx a2 a1 then mU a1 (a2.set a1.toNat true) else (must (0≤a1∧a1 < (far:Int)) (mU a1 (a2.set a1.toNat (dm .i64 (fV .i64 a3 a1) 1 == 1))))) else (out (out (some (.inl (a2,w64 (a3 + 1))))))
def qM (a1:Ask) (y9:List Int) (a4:Int) (a5:Int):(List Bool×Int)→Option ((List Bool×Int) ⊕ ((Int×Int) ⊕ ((List Bool×Int) ⊕ (List Int))))
 | (a3,a2)=>bif decide (a2 < (y9.length:Int)) then must (0≤(0:Int)∧(0:Int) < (a1.Base.length:Int)) (mV a4 a3 a2 (a5 == idx a1.Base (0:Int))) else (mV a4 a3 a2 false)
def qN (a0:History) (a1:Ask) (y9:List Int) (a5:List Bool) (a4:Int):(Int×Int)→Option ((Int×Int) ⊕ ((List Bool×Int) ⊕ (List Int)))
 | (a3,a2)=>bif decide (a2 < (y9.length:Int)) then must (0≤a2∧a2 < (far:Int)) (bif (dm .i64 (fV .i64 a4 a2) 1 == 1) then must (0≤a2∧a2 < (y9.length:Int)) ((jh a0 (idx y9 a2) a1.Key).bind fun a6=>mR a2 (w64 (a3 + a6))) else (mR a2 a3)) else (iter (qM a1 y9 a4 a3) (a5,0))
def mW (a2:Int) (a1:List Int):Option ((List Int×Int) ⊕ ((List Bool×Int) ⊕ (List Int))) :=
 some (.inl (a1,w64 (a2 + 1)))
def qO (y9:List Int) (a3:List Bool):(List Int×Int)→Option ((List Int×Int) ⊕ ((List Bool×Int) ⊕ (List Int)))
 | (a2,a1)=>bif decide (a1 < (y9.length:Int)) then must (0≤a1∧a1 < (a3.length:Int)) (bif idx a3 a1 then must (0≤a1∧a1 < (y9.length:Int)) (must (((a2.length + 1) + (a2.length + 1) / 4 + 192) * 8≤281474976710656∧a2.length + 1≤9223372036854775807) (mW a1 (a2++([idx y9 a1]:List Int)))) else (mW a1 a2)) else (out (out (some a2)))
def qP (a0:History) (a1:Ask) (y9:List Int):(List Bool×Int)→Option ((List Bool×Int) ⊕ (List Int))
 | (a2,a3)=>must (0≤(y9.length:Int)∧(y9.length:Int) < (far:Int)) (bif decide (a3 < Hu .i64 1 (y9.length:Int)) then iter (qN a0 a1 y9 a2 a3) (0,0) else (iter (qO y9 a2) ([],0)))
def aO (a0:History) (a1:Ask):Option (List Int) :=
 (bv a0 a1).bind fun y9=>must (0≤(y9.length:Int)∧(y9.length:Int)≤9223372036854775807∧(1:Int) * (y9.length:Int)≤281474976710656) (iter (qP a0 a1 y9) (List.replicate (y9.length:Int).toNat (default:Bool),1))
def lh (a0:List Int) (a1:List Int):Int→Option (Int ⊕ Bool)
 | a2=>bif decide (a2 < (a0.length:Int)) then must (0≤a2∧a2 < (a0.length:Int)) (must (0≤a2∧a2 < (a1.length:Int)) (bif (idx a0 a2 != idx a1 a2) then out (some false) else (some (.inl (w64 (a2 + 1)))))) else (out (some true))
def dN (a0:List Int) (a1:List Int):Option Bool :=
 bif ((a0.length:Int) != (a1.length:Int)) then some false else (iter (lh a0 a1) 0)
def mo (a0:List Int) (a1:List Int):Option Bool :=
 bif decide ((a1.length:Int) > (a0.length:Int)) then some false else (must (0≤(0:Int)∧(0:Int)≤(a1.length:Int)∧(a1.length:Int)≤(a0.length:Int)) ((dN (jT a0 (0:Int) (a1.length:Int)) a1).bind fun a2=>some a2))
def oG (a2:Int) (a1:Int):Option ((Int×Int) ⊕ ((List Int×List Int) ⊕ (List Int×Bool))) :=
 some (.inl (a1,w64 (a2 + 1)))
def tV (a0:History) (a1:Ask) (a2:List Int) (a4:List Int) (a6:Int):Int→Option (Int ⊕ ((Int×Int) ⊕ ((List Int×List Int) ⊕ (List Int×Bool))))
 | a3=>bif decide (a3 < (a2.length:Int)) then must (0≤a3∧a3 < (a2.length:Int)) (bif (idx a2 a3 == a6) then out (out (out (some (([]:List Int),false)))) else (some (.inl (w64 (a3 + 1))))) else (must (((a2.length + 1) + (a2.length + 1) / 4 + 192) * 8≤281474976710656∧a2.length + 1≤9223372036854775807) ((bf a0 a6 a1.Key).bind fun a5=>must (0≤(a5.length:Int)∧(a5.length:Int)≤(a4.length:Int)∧(a4.length:Int)≤(a4.length:Int)) (out (out (some (.inl (a2++([a6]:List Int),jT a4 (a5.length:Int) (a4.length:Int))))))))
def tX (a0:History) (a1:Ask) (y9:List Int) (a6:List Int) (a4:List Int):(Int×Int)→Option ((Int×Int) ⊕ ((List Int×List Int) ⊕ (List Int×Bool)))
 | (a3,a2)=>bif decide (a2 < (y9.length:Int)) then must (0≤a2∧a2 < (y9.length:Int)) ((bf a0 (idx y9 a2) a1.Key).bind fun a5=>(mo a4 a5).bind fun a7=>bif a7 then oG a2 (idx y9 a2) else (oG a2 a3)) else (bif decide (a3 < 0) then out (out (some (([]:List Int),false))) else (iter (tV a0 a1 a6 a4 a3) 0))
def lG (a0:History) (a1:Ask) (y9:List Int):(List Int×List Int)→Option ((List Int×List Int) ⊕ (List Int×Bool))
 | (a2,a3)=>bif decide ((a3.length:Int) > 0) then iter (tX a0 a1 y9 a2 a3) ((-1),0) else (out (some (a2,true)))
def bO (a0:History) (a1:Ask):Option (List Int×Bool) :=
 (bv a0 a1).bind fun y9=>iter (lG a0 a1 y9) ([],a1.Base)
def sw (a0:List Int) (a1:Int):Int→Option (Int ⊕ Bool)
 | a2=>bif decide (a2 < (a0.length:Int)) then must (0≤a2∧a2 < (a0.length:Int)) (bif (idx a0 a2 == a1) then out (some true) else (some (.inl (w64 (a2 + 1))))) else (out (some false))
def iw (a0:List Int) (a1:Int):Option Bool :=
 iter (sw a0 a1) 0
def pW (a3:Int) (a1:List Int) (a2:Int):Option ((List Int×Int×Int) ⊕ (List Int×Bool)) :=
 some (.inl (a1,a2,w64 (a3 + 1)))
def pX (a2:Int) (a1:Int):Option ((Int×Int) ⊕ ((List Int×Int×Int) ⊕ (List Int×Bool))) :=
 some (.inl (a1,w64 (a2 + 1)))
def pY (y9:List Int) (a1:List Int) (a4:Int) (a2:Int) (a3:Int) (a5:Bool):Option ((Int×Int) ⊕ ((List Int×Int×Int) ⊕ (List Int×Bool))) :=
 bif a5 then out (out (some (([]:List Int),false))) else (bif decide (a3 > 0) then must (((a1.length + 1) + (a1.length + 1) / 4 + 192) * 8≤281474976710656∧a1.length + 1≤9223372036854775807) (out (pW a2 (a1++([idx y9 a2]:List Int)) (w64 (a4 + a3)))) else (out (pW a2 a1 a4)))
def uH (a1:Ask) (y9:List Int) (a6:List Int) (a5:Int) (a7:Int) (a4:List Int):(Int×Int)→Option ((Int×Int) ⊕ ((List Int×Int×Int) ⊕ (List Int×Bool)))
 | (a2,a3)=>bif decide (a3 < (a4.length:Int)) then must (0≤a3∧a3 < (a4.length:Int)) ((iw a1.Base (idx a4 a3)).bind fun a8=>bif a8 then pX a3 (w64 (a2 + 1)) else (pX a3 a2)) else (bif decide (a2 > 0) then pY y9 a6 a5 a7 a2 (decide (a2 < (a4.length:Int))) else (pY y9 a6 a5 a7 a2 false))
def uI (a0:History) (a1:Ask) (y9:List Int):(List Int×Int×Int)→Option ((List Int×Int×Int) ⊕ (List Int×Bool))
 | (a4,a3,a2)=>bif decide (a2 < (y9.length:Int)) then must (0≤a2∧a2 < (y9.length:Int)) ((bf a0 (idx y9 a2) a1.Key).bind fun a5=>iter (uH a1 y9 a4 a3 a2 a5) (0,0)) else (bif (a3 != (a1.Base.length:Int)) then out (some (([]:List Int),false)) else (out (some (a4,true))))
def bI (a0:History) (a1:Ask):Option (List Int×Bool) :=
 (bv a0 a1).bind fun y9=>iter (uI a0 a1 y9) ([],0,0)
def rD (a1:List Int):Option (List Int) :=
 some a1
def jI (a1:List Int):Option (List Int) :=
 some a1
def rE (a2:Int) (a1:List Int):Option ((List Int×Int) ⊕ (List Int)) :=
 some (.inl (a1,w64 (a2 + 1)))
def rF (a0:History) (a1:Ask) (a5:List Int):(List Int×Int)→Option ((List Int×Int) ⊕ (List Int))
 | (a3,a2)=>bif decide (a2 < (a5.length:Int)) then must (0≤a2∧a2 < (a5.length:Int)) ((bf a0 (idx a5 a2) a1.Key).bind fun a4=>must (0≤w64 ((a4.length:Int) - 1)∧w64 ((a4.length:Int) - 1) < (a4.length:Int)) (must (0≤(0:Int)∧(0:Int) < (a1.Base.length:Int)) (bif (idx a4 (w64 ((a4.length:Int) - 1)) == idx a1.Base (0:Int)) then must (((a3.length + 1) + (a3.length + 1) / 4 + 192) * 8≤281474976710656∧a3.length + 1≤9223372036854775807) (rE a2 (a3++([idx a5 a2]:List Int))) else (rE a2 a3)))) else (out (jI a3))
def bN (a0:History) (a1:Ask):Option (List Int) :=
 (lZ a0 a1).bind fun y7=>bif (y7 == 4) then (aO a0 a1).bind fun a3=>must (0≤(0:Int)∧(0:Int) < (a1.Base.length:Int)) (bif (idx a1.Base (0:Int) == 0) then must (((1 + a3.length) + (1 + a3.length) / 4 + 192) * 8≤281474976710656∧1 + a3.length≤9223372036854775807) (rD (([(-1)]:List Int)++a3)) else (rD a3)) else (bif ((a1.Base.length:Int) == 0) then some ([(-1)]:List Int) else (bif (y7 == 1) then (bv a0 a1).bind fun a5=>iter (rF a0 a1 a5) ([],0) else (bif (y7 == 2) then (bO a0 a1).bind fun a2=>bif a2.2 then must (0≤w64 ((a2.1.length:Int) - 1)∧w64 ((a2.1.length:Int) - 1) < (a2.1.length:Int)) (must (((0 + 1) + (0 + 1) / 4 + 192) * 8≤281474976710656∧0 + 1≤9223372036854775807) (jI (([]:List Int)++([idx a2.1 (w64 ((a2.1.length:Int) - 1))]:List Int)))) else (jI []) else ((bI a0 a1).bind fun a4=>bif a4.2 then jI a4.1 else (jI [])))))
def nP (a2:Int) (a1:List Ask):Option ((List Ask×Int) ⊕ (List Ask×Int)) :=
 some (.inl (a1,w64 (a2 + 1)))
def nQ (a0:History) (a3:List Ask×List Spot):(List Ask×Int)→Option ((List Ask×Int) ⊕ (List Ask×Int))
 | (a2,a1)=>bif decide (a1 < (a3.1.length:Int)) then must (0≤a1∧a1 < (a3.1.length:Int)) ((bN a0 (idx a3.1 a1)).bind fun a4=>bif ((a4.length:Int) == 0) then must (((a2.length + 1) + (a2.length + 1) / 4 + 192) * 48≤281474976710656∧a2.length + 1≤9223372036854775807) (nP a1 (a2++([(idx a3.1 a1)]:List Ask))) else (nP a1 a2)) else (out (some (a2,0)))
def dW (a0:History):Option (List Ask×Int) :=
 (aF a0).bind fun y8=>bif (y8 != 0) then some (([]:List Ask),1) else ((gq a0).bind fun a1=>iter (nQ a0 a1) ([],0))
def lT (a2:Int) (a1:Bool):Option (Int ⊕ (Int ⊕ Bool)) :=
 bif a1 then out (out (some true)) else (some (.inl (w64 (a2 + 1))))
def iN (a1:dz) (a3:List Ask×Int) (a2:Int) (a4:Bool):Option (Int ⊕ (Int ⊕ Bool)) :=
 bif a4 then must (0≤a2∧a2 < (a3.1.length:Int)) (bif ((idx a3.1 a2).Txn == a1.Spot.Txn) then lT a2 ((idx a3.1 a2).Place == a1.Spot.Place) else (lT a2 false)) else (out (out (some false)))
def lU (a1:dz) (a2:List Ask×Int):Int→Option (Int ⊕ (Int ⊕ Bool))
 | a3=>bif decide (a3 < (a2.1.length:Int)) then iN a1 a2 a3 (a1.Kind == 2) else (iN a1 a2 a3 false)
def iO (a0:History) (a1:dz) (a3:List Ask×List Spot) (a2:Int) (a5:Bool):Option (Int ⊕ Bool) :=
 bif a5 then must (0≤a2∧a2 < (a3.2.length:Int)) (bif (((idx a3.2 a2).Txn == a1.Spot.Txn) && (((idx a3.2 a2).Place == a1.Spot.Place) && true)) then out (some true) else (some (.inl (w64 (a2 + 1))))) else ((dW a0).bind fun a4=>iter (lU a1 a4) 0)
def qa (a0:History) (a1:dz) (a2:List Ask×List Spot):Int→Option (Int ⊕ Bool)
 | a3=>bif decide (a3 < (a2.2.length:Int)) then iO a0 a1 a2 a3 (a1.Kind == 1) else (iO a0 a1 a2 a3 false)
def aW (a0:History) (a1:dz):Option Bool :=
 (gq a0).bind fun a2=>iter (qa a0 a1 a2) 0
def kX (a2:Int) (a1:List Edge):Option ((List Edge×Int) ⊕ (List Edge)) :=
 some (.inl (a1,w64 (a2 + 1)))
def nR (a2:Int) (a1:List Edge):Option ((List Edge×Int) ⊕ (List Edge)) :=
 kX a2 a1
def nS (a1:List Edge) (a3:Int) (a2:Int) (a4:Bool):Option (Int ⊕ ((List Edge×Int) ⊕ (List Edge))) :=
 bif a4 then must (((a1.length + 1) + (a1.length + 1) / 4 + 192) * 32≤281474976710656∧a1.length + 1≤9223372036854775807) (out (nR a3 (a1++([(⟨a3,a2,1,(-1)⟩:Edge)]:List Edge)))) else (some (.inl (w64 (a2 + 1))))
def sD (a0:History) (a3:List Edge) (a2:Int):Int→Option (Int ⊕ ((List Edge×Int) ⊕ (List Edge)))
 | a1=>bif decide (a1 < (a0.Txns.length:Int)) then must (0≤a1∧a1 < (a0.Txns.length:Int)) (bif ((idx a0.Txns a1).Status == 1) then nS a3 a2 a1 ((idx a0.Txns a1).Proc == (idx a0.Txns a2).Proc) else (nS a3 a2 a1 false)) else (out (nR a2 a3))
def nT (a2:Int) (a1:List Edge):Option ((List Edge×Int) ⊕ ((List Edge×Int) ⊕ ((List Edge×Int) ⊕ (List Edge)))) :=
 some (.inl (a1,w64 (a2 + 1)))
def kY (a3:Int) (a1:List Edge) (a2:Int) (a4:Bool):Option ((List Edge×Int) ⊕ ((List Edge×Int) ⊕ ((List Edge×Int) ⊕ (List Edge)))) :=
 bif a4 then must (((a1.length + 1) + (a1.length + 1) / 4 + 192) * 32≤281474976710656∧a1.length + 1≤9223372036854775807) (nT a2 (a1++([(⟨a3,a2,2,(-1)⟩:Edge)]:List Edge))) else (nT a2 a1)
def sF (a0:History) (a1:Int):(List Edge×Int)→Option ((List Edge×Int) ⊕ ((List Edge×Int) ⊕ ((List Edge×Int) ⊕ (List Edge))))
 | (a3,a2)=>bif decide (a2 < (a0.Txns.length:Int)) then must (0≤a1∧a1 < (a0.Txns.length:Int)) (bif ((idx a0.Txns a1).Status == 1) then must (0≤a2∧a2 < (a0.Txns.length:Int)) (bif ((idx a0.Txns a2).Status == 1) then kY a1 a3 a2 (decide ((idx a0.Txns a1).To < (idx a0.Txns a2).From)) else (kY a1 a3 a2 false)) else (kY a1 a3 a2 false)) else (out (some (.inl (a3,w64 (a1 + 1)))))
def nU (a0:History):(List Edge×Int)→Option ((List Edge×Int) ⊕ ((List Edge×Int) ⊕ (List Edge)))
 | (a2,a1)=>bif decide (a1 < (a0.Txns.length:Int)) then iter (sF a0 a1) (a2,0) else (out (out (some a2)))
def sG (a0:History):(List Edge×Int)→Option ((List Edge×Int) ⊕ (List Edge))
 | (a2,a1)=>bif decide (a1 < (a0.Txns.length:Int)) then must (0≤a1∧a1 < (a0.Txns.length:Int)) (bif ((idx a0.Txns a1).Status != 1) then kX a1 a2 else (iter (sD a0 a2 a1) (w64 (a1 + 1)))) else (iter (nU a0) (a2,0))
def aK (a0:History):Option (List Edge) :=
 iter (sG a0) ([],0)
def ma (a0:History) (a1:Ask):Option (Int×Bool) :=
 (bN a0 a1).bind fun y9=>bif ((y9.length:Int) != 1) then some (0,false) else (must (0≤(0:Int)∧(0:Int) < (y9.length:Int)) (some (idx y9 (0:Int),true)))
def mf (a0:History) (a1:Ask):Option (List Int×Bool) :=
 (lZ a0 a1).bind fun a2=>bif (a2 == 2) then (bO a0 a1).bind fun a4=>some (a4.1,a4.2) else (bif (a2 == 3) then (bI a0 a1).bind fun a3=>some (a3.1,a3.2) else (some (([]:List Int),false)))
def lV (a2:Int) (a1:List Int):Option ((List Int×Int) ⊕ (List Int)) :=
 some (.inl (a1,w64 (a2 + 1)))
def jJ (a1:List Int) (a2:Int) (a3:Bool):Option ((List Int×Int) ⊕ (List Int)) :=
 bif a3 then must (((a1.length + 1) + (a1.length + 1) / 4 + 192) * 8≤281474976710656∧a1.length + 1≤9223372036854775807) (lV a2 (a1++([a2]:List Int))) else (lV a2 a1)
def qb (a0:History) (a1:Int) (a2:Int):(List Int×Int)→Option ((List Int×Int) ⊕ (List Int))
 | (a4,a3)=>bif decide (a3 < (a0.Txns.length:Int)) then bif (a3 != a2) then must (0≤a3∧a3 < (a0.Txns.length:Int)) (bif ((idx a0.Txns a3).Status == 1) then (bf a0 a3 a1).bind fun a5=>jJ a4 a3 (decide ((a5.length:Int) > 0)) else (jJ a4 a3 false)) else (jJ a4 a3 false) else (out (some a4))
def bS (a0:History) (a1:Int) (a2:Int):Option (List Int) :=
 iter (qb a0 a1 a2) ([],0)
def vO (a0:List Int) (a1:Int):Int→Option (Int ⊕ Bool)
 | a2=>bif decide (a2 < (a0.length:Int)) then must (0≤a2∧a2 < (a0.length:Int)) (bif (idx a0 a2 == a1) then out (some true) else (some (.inl (w64 (a2 + 1))))) else (out (some false))
def gW (a0:List Int) (a1:Int):Option Bool :=
 iter (vO a0 a1) 0
def oH (a1:Int):Option (Int ⊕ Bool) :=
 some (.inl (w64 (a1 + 1)))
def oI (a1:Int) (a2:Bool):Option (Int ⊕ Bool) :=
 bif a2 then out (some true) else (oH a1)
def oJ (a0:History) (a1:List Ask) (a4:Int) (a2:Int) (a5:Bool):Option (Int ⊕ Bool) :=
 bif a5 then must (0≤a2∧a2 < (a1.length:Int)) ((ma a0 (idx a1 a2)).bind fun a3=>bif a3.2 then oI a2 (a3.1 == a4) else (oI a2 false)) else (oH a2)
def tY (a0:History) (a1:List Ask) (a2:Int) (a3:Int) (a4:Int):Int→Option (Int ⊕ Bool)
 | a5=>bif decide (a5 < (a1.length:Int)) then must (0≤a5∧a5 < (a1.length:Int)) (bif ((idx a1 a5).Txn == a2) then oJ a0 a1 a4 a5 ((idx a1 a5).Key == a3) else (oJ a0 a1 a4 a5 false)) else (out (some false))
def bP (a0:History) (a1:List Ask) (a2:Int) (a3:Int) (a4:Int):Option Bool :=
 iter (tY a0 a1 a2 a3 a4) 0
def mq (a1:Int) (a2:List Edge):Option ((List Edge×Int) ⊕ (List Edge)) :=
 some (.inl (a2,w64 (a1 + 1)))
def qc (a1:Int) (a2:List Edge):Option ((List Edge×Int) ⊕ ((List Edge×Int) ⊕ (List Edge))) :=
 some (.inl (a2,w64 (a1 + 1)))
def qd (a2:Ask) (a6:List Int×Bool) (a4:List Int) (a5:Int):(List Edge×Int)→Option ((List Edge×Int) ⊕ ((List Edge×Int) ⊕ (List Edge)))
 | (a3,a1)=>bif decide (a1 < (a4.length:Int)) then must (0≤a1∧a1 < (a4.length:Int)) ((gW a6.1 (idx a4 a1)).bind fun a7=>bif !a7 then must (0≤a5∧a5 < (a6.1.length:Int)) (must (((a3.length + 1) + (a3.length + 1) / 4 + 192) * 32≤281474976710656∧a3.length + 1≤9223372036854775807) (qc a1 (a3++([(⟨idx a6.1 a5,idx a4 a1,8,a2.Key⟩:Edge)]:List Edge)))) else (qc a1 a3)) else (out (mq a5 a3))
def qf (a2:Ask) (a4:List Int×Bool) (a5:List Int) (a3:List Edge) (a1:Int) (a6:Bool):Option ((List Edge×Int) ⊕ (List Edge)) :=
 bif a6 then must (0≤a1∧a1 < (a4.1.length:Int)) (must (0≤w64 (a1 + 1)∧w64 (a1 + 1) < (a4.1.length:Int)) (must (((a3.length + 1) + (a3.length + 1) / 4 + 192) * 32≤281474976710656∧a3.length + 1≤9223372036854775807) (mq a1 (a3++([(⟨idx a4.1 a1,idx a4.1 (w64 (a1 + 1)),8,a2.Key⟩:Edge)]:List Edge))))) else (iter (qd a2 a4 a5 a1) (a3,0))
def oK (a1:Int) (a2:List Edge):Option ((List Edge×Int) ⊕ ((List Edge×Int) ⊕ (List Edge))) :=
 some (.inl (a2,w64 (a1 + 1)))
def iU (a2:Ask) (a4:List Int) (a3:List Edge) (a1:Int) (a5:Bool):Option ((List Edge×Int) ⊕ ((List Edge×Int) ⊕ (List Edge))) :=
 bif a5 then must (0≤a1∧a1 < (a4.length:Int)) (must (((a3.length + 1) + (a3.length + 1) / 4 + 192) * 32≤281474976710656∧a3.length + 1≤9223372036854775807) (oK a1 (a3++([(⟨a2.Txn,idx a4 a1,16,a2.Key⟩:Edge)]:List Edge)))) else (oK a1 a3)
def jR (a0:History) (a1:List Ask) (a2:Ask) (a7:Int×Bool) (a4:List Int) (a5:List Edge) (a3:Int) (a6:Bool) (a8:Bool):Option ((List Edge×Int) ⊕ ((List Edge×Int) ⊕ (List Edge))) :=
 bif a8 then must (0≤a3∧a3 < (a4.length:Int)) ((bP a0 a1 (idx a4 a3) a2.Key a7.1).bind fun a9=>iU a2 a4 a5 a3 a9) else (iU a2 a4 a5 a3 a6)
def fB (a0:History) (a1:List Ask) (a2:Ask) (a8:Int) (a4:Int×Bool) (a5:List Int) (a6:List Edge) (a3:Int) (a7:Bool):Option ((List Edge×Int) ⊕ ((List Edge×Int) ⊕ (List Edge))) :=
 bif (a8 == 1) then bif a4.2 then bif (a4.1 != (-1)) then must (0≤a3∧a3 < (a5.length:Int)) (jR a0 a1 a2 a4 a5 a6 a3 a7 (idx a5 a3 != a4.1)) else (jR a0 a1 a2 a4 a5 a6 a3 a7 false) else (jR a0 a1 a2 a4 a5 a6 a3 a7 false) else (jR a0 a1 a2 a4 a5 a6 a3 a7 false)
def qg (a0:History) (a1:List Ask) (a2:Ask) (a7:Int) (a5:Int×Bool) (a9:List Int×Bool) (a8:Bool) (a4:List Int):(List Edge×Int)→Option ((List Edge×Int) ⊕ ((List Edge×Int) ⊕ (List Edge)))
 | (a6,a3)=>bif decide (a3 < (a4.length:Int)) then bif a5.2 then bif (a5.1 == (-1)) then fB a0 a1 a2 a7 a5 a4 a6 a3 true else (bif a8 then must (0≤a3∧a3 < (a4.length:Int)) ((gW a9.1 (idx a4 a3)).bind fun b1=>fB a0 a1 a2 a7 a5 a4 a6 a3 (!b1)) else (fB a0 a1 a2 a7 a5 a4 a6 a3 false)) else (bif a8 then must (0≤a3∧a3 < (a4.length:Int)) ((gW a9.1 (idx a4 a3)).bind fun b0=>fB a0 a1 a2 a7 a5 a4 a6 a3 (!b0)) else (fB a0 a1 a2 a7 a5 a4 a6 a3 false)) else (out (out (some a6)))
def jl (a0:History) (a1:List Ask) (a2:Ask) (a7:Int) (b0:Int×Bool) (a3:List Int×Bool) (a8:Bool) (a5:List Int) (a4:List Edge) (a6:Int) (a9:Bool):Option ((List Edge×Int) ⊕ (List Edge)) :=
 bif a9 then bif (a7 == 2) then qf a2 a3 a5 a4 a6 (decide (w64 (a6 + 1) < (a3.1.length:Int))) else (qf a2 a3 a5 a4 a6 false) else (iter (qg a0 a1 a2 a7 b0 a3 a8 a5) (a4,0))
def qh (a0:History) (a1:List Ask) (a2:Ask) (a8:Int) (a7:Int×Bool) (a5:List Int×Bool) (a3:Bool) (a9:List Int):(List Edge×Int)→Option ((List Edge×Int) ⊕ (List Edge))
 | (a6,a4)=>bif decide (a4 < (a5.1.length:Int)) then jl a0 a1 a2 a8 a7 a5 a3 a9 a6 a4 a3 else (jl a0 a1 a2 a8 a7 a5 a3 a9 a6 a4 false)
def mr (a0:History) (a1:List Ask) (a2:Ask) (a5:Int) (a4:Int×Bool) (a8:List Edge) (a7:List Int×Bool) (a3:Bool):Option (List Edge) :=
 (bS a0 a2.Key a2.Txn).bind fun a6=>iter (qh a0 a1 a2 a5 a4 a7 a3 a6) (a8,0)
def kD (a0:History) (a1:List Ask) (a2:Ask) (a5:Int) (a4:Int×Bool) (a6:List Edge):Option (List Edge) :=
 (mf a0 a2).bind fun a3=>bif a3.2 then mr a0 a1 a2 a5 a4 a6 a3 (decide ((a2.Base.length:Int) > 0)) else (mr a0 a1 a2 a5 a4 a6 a3 false)
def oL (a0:History) (a1:List Ask) (a2:Ask) (a4:Int) (a3:Int×Bool) (a5:Bool):Option (List Edge) :=
 bif a5 then must (((0 + 1) + (0 + 1) / 4 + 192) * 32≤281474976710656∧0 + 1≤9223372036854775807) (kD a0 a1 a2 a4 a3 (([]:List Edge)++([(⟨a3.1,a2.Txn,4,a2.Key⟩:Edge)]:List Edge))) else (kD a0 a1 a2 a4 a3 [])
def av (a0:History) (a1:List Ask) (a2:Ask):Option (List Edge) :=
 must (0≤a2.Txn∧a2.Txn < (a0.Txns.length:Int)) (must (0≤a2.Place∧a2.Place < (((idx a0.Txns a2.Txn).Ops).length:Int)) ((jG ((idx ((idx a0.Txns a2.Txn).Ops) a2.Place).Kind)).bind fun a4=>(ma a0 a2).bind fun a3=>bif a3.2 then oL a0 a1 a2 a4 a3 (a3.1 != (-1)) else (oL a0 a1 a2 a4 a3 false)))
def vQ (a1:Int) (a2:List Edge):Option ((List Edge×Int) ⊕ dU) :=
 some (.inl (a2,w64 (a1 + 1)))
def vR (a0:History) (a4:List Ask×List Spot):(List Edge×Int)→Option ((List Edge×Int) ⊕ dU)
 | (a1,a2)=>bif decide (a2 < (a4.1.length:Int)) then must (0≤a2∧a2 < (a4.1.length:Int)) ((av a0 a4.1 (idx a4.1 a2)).bind fun a3=>must (((a1.length + a3.length) + (a1.length + a3.length) / 4 + 192) * 32≤281474976710656∧a1.length + a3.length≤9223372036854775807) (vQ a2 (a1++a3))) else (out (some (⟨(a0.Txns.length:Int),a1⟩:dU)))
def vT (a0:History) (a1:List Edge):Option dU :=
 (gq a0).bind fun a2=>iter (vR a0 a2) (a1,0)
def eT (a0:History):Option dU :=
 (aK a0).bind fun a1=>vT a0 a1
def eU (a1:Int) (a2:Bool):Option (Int ⊕ Int) :=
 bif a2 then out (some 60) else (some (.inl (w64 (a1 + 1))))
def xz (a0:dU):Int→Option (Int ⊕ Int)
 | a1=>bif decide (a1 < (a0.Edges.length:Int)) then must (0≤a1∧a1 < (a0.Edges.length:Int)) (bif decide ((idx a0.Edges a1).From < 0) then eU a1 true else (bif decide ((idx a0.Edges a1).From ≥ a0.N) then eU a1 true else (bif decide ((idx a0.Edges a1).To < 0) then eU a1 true else (bif decide ((idx a0.Edges a1).To ≥ a0.N) then eU a1 true else (bif decide ((idx a0.Edges a1).Kind < 1) then eU a1 true else (bif decide ((idx a0.Edges a1).Kind > 16) then eU a1 true else (eU a1 (dm .i64 ((idx a0.Edges a1).Kind) (w64 (((idx a0.Edges a1).Kind) - 1)) != 0)))))))) else (out (some 0))
def jq (a0:dU) (b9:Bool):Option Int :=
 bif b9 then some 60 else (iter (xz a0) 0)
def bB (a0:dU):Option Int :=
 bif decide (a0.N < 0) then jq a0 true else (bif decide (a0.N > 64) then jq a0 true else (jq a0 (decide ((a0.Edges.length:Int) > 262144))))
def gp (a1:List Edge) (a4:List Bool) (a2:Int) (a3:Bool):Option ((Bool×Int) ⊕ ((List Bool×Int) ⊕ Bool)) :=
 bif a3 then out (out (some false)) else (out (some (.inl (a4.set ((idx a1 a2).From).toNat true,w64 (a2 + 1)))))
def iV (a1:List Edge) (a2:Int) (a3:Int) (a4:Int) (a6:List Bool) (a5:Int) (a7:Bool):Option ((Bool×Int) ⊕ ((List Bool×Int) ⊕ Bool)) :=
 bif a7 then out (out (some false)) else (bif (a4 == 3) then bif !(dm .i64 ((idx a1 a5).Kind) a2 != 0) then bif !(dm .i64 ((idx a1 a5).Kind) a3 != 0) then gp a1 a6 a5 true else (gp a1 a6 a5 (dm .i64 ((idx a1 ((w64 (a5 + 1)).tmod (a1.length:Int))).Kind) a2 == 0)) else (gp a1 a6 a5 false) else (gp a1 a6 a5 false))
def lH (a1:List Edge) (a2:Int) (a3:Int) (a4:Int) (a6:List Bool) (a5:Int) (a7:Bool):Option ((Bool×Int) ⊕ ((List Bool×Int) ⊕ Bool)) :=
 bif a7 then iV a1 a2 a3 a4 a6 a5 a7 else (bif (a4 == 2) then bif decide (a5 > 0) then iV a1 a2 a3 a4 a6 a5 (!(dm .i64 ((idx a1 a5).Kind) a2 != 0)) else (iV a1 a2 a3 a4 a6 a5 false) else (iV a1 a2 a3 a4 a6 a5 false))
def oM (a1:List Edge) (a2:Int) (a3:Int) (a4:Int) (a6:List Bool) (a5:Int) (a7:Bool):Option ((Bool×Int) ⊕ ((List Bool×Int) ⊕ Bool)) :=
 bif a7 then iV a1 a2 a3 a4 a6 a5 a7 else (bif (a4 == 2) then bif (a5 == 0) then lH a1 a2 a3 a4 a6 a5 (!(dm .i64 ((idx a1 a5).Kind) a3 != 0)) else (lH a1 a2 a3 a4 a6 a5 false) else (lH a1 a2 a3 a4 a6 a5 false))
def lI (a1:List Edge) (a2:Int) (a3:Int) (a4:Int) (a6:List Bool) (a5:Int) (a7:Bool):Option ((Bool×Int) ⊕ ((List Bool×Int) ⊕ Bool)) :=
 bif a7 then out (out (some false)) else (must (0≤a5∧a5 < (a1.length:Int)) (must (0≤(idx a1 a5).From∧(idx a1 a5).From < (a6.length:Int)) (bif (a4 == 1) then oM a1 a2 a3 a4 a6 a5 (!(dm .i64 ((idx a1 a5).Kind) a2 != 0)) else (oM a1 a2 a3 a4 a6 a5 false))))
def jS (a0:dU) (a1:List Edge) (a2:Int) (a3:Int) (a4:Int) (a7:List Bool) (a5:Int) (a9:Bool) (a6:Int) (a8:Bool):Option ((Bool×Int) ⊕ ((List Bool×Int) ⊕ Bool)) :=
 bif a8 then must (0≤a6∧a6 < (a0.Edges.length:Int)) (must (0≤a5∧a5 < (a1.length:Int)) (some (.inl ((((idx a0.Edges a6).From == (idx a1 a5).From) && (((idx a0.Edges a6).To == (idx a1 a5).To) && (((idx a0.Edges a6).Kind == (idx a1 a5).Kind) && (((idx a0.Edges a6).Key == (idx a1 a5).Key) && true)))),w64 (a6 + 1))))) else (must ((a1.length:Int)≠0) (must (0≤(w64 (a5 + 1)).tmod (a1.length:Int)∧(w64 (a5 + 1)).tmod (a1.length:Int) < (a1.length:Int)) (bif !a9 then lI a1 a2 a3 a4 a7 a5 true else (must (0≤a5∧a5 < (a1.length:Int)) (must (0≤(idx a1 a5).From∧(idx a1 a5).From < (a7.length:Int)) (bif idx a7 ((idx a1 a5).From) then lI a1 a2 a3 a4 a7 a5 true else (lI a1 a2 a3 a4 a7 a5 ((idx a1 a5).To != (idx a1 ((w64 (a5 + 1)).tmod (a1.length:Int))).From))))))))
def tZ (a0:dU) (a1:List Edge) (a2:Int) (a3:Int) (a4:Int) (a7:List Bool) (a8:Int):(Bool×Int)→Option ((Bool×Int) ⊕ ((List Bool×Int) ⊕ Bool))
 | (a6,a5)=>bif decide (a5 < (a0.Edges.length:Int)) then jS a0 a1 a2 a3 a4 a7 a8 a6 a5 (!a6) else (jS a0 a1 a2 a3 a4 a7 a8 a6 a5 false)
def uf (a0:dU) (a1:List Edge) (a2:Int) (a3:Int) (a4:Int):(List Bool×Int)→Option ((List Bool×Int) ⊕ Bool)
 | (a6,a5)=>bif decide (a5 < (a1.length:Int)) then iter (tZ a0 a1 a2 a3 a4 a6 a5) (false,0) else (out (some true))
def iW (a0:dU) (a1:List Edge) (a2:Int) (a3:Int) (a4:Int) (a5:Bool):Option Bool :=
 bif a5 then some false else (must (0≤a0.N∧a0.N≤9223372036854775807∧(1:Int) * a0.N≤281474976710656) (iter (uf a0 a1 a2 a3 a4) (List.replicate a0.N.toNat (default:Bool),0)))
def aB (a0:dU) (a1:List Edge) (a2:Int) (a3:Int) (a4:Int):Option Bool :=
 (bB a0).bind fun a5=>bif (a5 != 0) then iW a0 a1 a2 a3 a4 true else (bif ((a1.length:Int) == 0) then iW a0 a1 a2 a3 a4 true else (bif decide (a4 < 1) then iW a0 a1 a2 a3 a4 true else (iW a0 a1 a2 a3 a4 (decide (a4 > 3)))))
def iX (a0:History) (a1:dz) (a6:Bool):Option Bool :=
 bif a6 then some false else (bif decide (a1.Kind≤2) then bif ((a1.Cycle.length:Int) == 0) then (aW a0 a1).bind fun a9=>some a9 else (some false) else (bif !((a1.Spot.Txn == 0) && ((a1.Spot.Place == 0) && true)) then some false else ((eT a0).bind fun a2=>bif (a1.Kind == 3) then (aB a2 a1.Cycle 13 0 1).bind fun a7=>some a7 else (bif (a1.Kind == 4) then (aB a2 a1.Cycle 5 16 2).bind fun a8=>some a8 else (bif (a1.Kind == 5) then (aB a2 a1.Cycle 13 16 3).bind fun a3=>some a3 else (bif (a1.Kind == 6) then (aB a2 a1.Cycle 29 0 1).bind fun a4=>some a4 else ((aB a2 a1.Cycle 31 0 1).bind fun a5=>some a5)))))))
def eG (a0:History) (a1:dz):Option Bool :=
 (aF a0).bind fun a2=>bif (a2 != 0) then iX a0 a1 true else ((fq a1.Kind).bind fun a3=>bif (a3 == 0) then iX a0 a1 true else ((fq a1.Kind).bind fun a4=>iX a0 a1 (a1.Level != a4)))
def mX (a0:History) (a1:dz):Option Bool :=
 (ry).bind fun a3=>bif !a3 then some false else ((fQ a0 a1).bind fun a4=>(eG a0 a1).bind fun a2=>some (a4 == a2))
end
end Go.Proofs.YtfpeabnehpclnaaGreatT
