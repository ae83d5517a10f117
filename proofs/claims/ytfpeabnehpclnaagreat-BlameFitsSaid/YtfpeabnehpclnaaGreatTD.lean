import Derived.Test.YtfpeabnehpclnaaGreatXA
namespace Go.Proofs.YtfpeabnehpclnaaGreatT
noncomputable section
open Go Go.Proofs Go.Proofs.YtfpeabnehpclnaaGreatE
set_option linter.unusedVariables false
set_option linter.unusedSimpArgs false
set_option maxHeartbeats 0
set_option maxRecDepth 4096
structure eB where
 key:ByteArray
 arg:Int
 deriving Inhabited,DecidableEq
def eB.enc (x:eB):List Value:=[.string x.key,.int .i64 x.arg]
abbrev NM:Ty eB:=Ty.flat 2 eB.enc (fun _=>rfl) (fun _=>Gz rfl)
instance : Flat NM eB.enc:=⟨Iff.rfl,Iff.rfl⟩
structure bT where
 keys:List ByteArray
 at_:List (ByteArray×Int)
 types:List Int
 facts:List (eB×Unit)
 incs:List (ByteArray×(List Int))
 deriving Inhabited
structure Call where
 Kind:Int
 Key:ByteArray
 Arg:Int
 Got:Bool
 Vals:List Int
 deriving Inhabited
abbrev Ed:Ty Call:=Ty.iso (cK (aG .i64) (cK gN (cK (aG .i64) (cK rP (bH 2 (aG .i64)))))) (fun g:Call=>(g.Kind,g.Key,g.Arg,g.Got,g.Vals))
abbrev uE (N:BM):Ty Call:=Ty.iso (cK (aG .i64) (cK gN (cK (aG .i64) (cK rP (NE N (aG .i64)))))) (fun g:Call=>(g.Kind,g.Key,g.Arg,g.Got,g.Vals))
theorem Ki (N:BM):wO N (uE N) Ed:=DI (jP lG (jP lG (jP lG (jP lG EC))))
structure Event where
 Proc:Int
 Kind:Int
 Calls:List Call
 deriving Inhabited
abbrev Ir:Ty Event:=Ty.iso (cK (aG .i64) (cK (aG .i64) (bH 129 Ed))) (fun g:Event=>(g.Proc,g.Kind,g.Calls))
structure Op where
 Kind:Int
 Key:Int
 Arg:Int
 Got:Bool
 Vals:List Int
 deriving Inhabited
abbrev kOp:Ty Op:=Ty.iso (cK (aG .i64) (cK (aG .i64) (cK (aG .i64) (cK rP (bH 2 (aG .i64)))))) (fun g:Op=>(g.Kind,g.Key,g.Arg,g.Got,g.Vals))
structure Txn where
 Proc:Int
 Status:Int
 From:Int
 To:Int
 Ops:List Op
 deriving Inhabited
abbrev jr:Ty Txn:=Ty.iso (cK (aG .i64) (cK (aG .i64) (cK (aG .i64) (cK (aG .i64) (bH 70 kOp))))) (fun g:Txn=>(g.Proc,g.Status,g.From,g.To,g.Ops))
structure History where
 Keys:List ByteArray
 Txns:List Txn
 deriving Inhabited
structure Ask where
 Txn:Int
 Place:Int
 Key:Int
 Base:List Int
 deriving Inhabited
abbrev rR:Ty Ask:=Ty.iso (cK (aG .i64) (cK (aG .i64) (cK (aG .i64) (bH 2 (aG .i64))))) (fun g:Ask=>(g.Txn,g.Place,g.Key,g.Base))
abbrev OH (N:BM):Ty Ask:=Ty.iso (cK (aG .i64) (cK (aG .i64) (cK (aG .i64) (NE N (aG .i64))))) (fun g:Ask=>(g.Txn,g.Place,g.Key,g.Base))
theorem Qw (N:BM):wO N (OH N) rR:=DI (jP lG (jP lG (jP lG EC)))
structure Spot where
 Txn:Int
 Place:Int
 deriving Inhabited,DecidableEq
def Spot.enc (x:Spot):List Value:=[.int .i64 x.Txn,.int .i64 x.Place]
abbrev yz:Ty Spot:=Ty.flat 2 Spot.enc (fun _=>rfl) (fun _=>Gz rfl)
instance : Flat yz Spot.enc:=⟨Iff.rfl,Iff.rfl⟩
structure gF where
 asks:List Ask
 bad:List Spot
 deriving Inhabited
structure bu where
 txn:Int
 args:List Int
 deriving Inhabited
abbrev jg:Ty bu:=Ty.iso (cK (aG .i64) (bH 2 (aG .i64))) (fun g:bu=>(g.txn,g.args))
structure aV where
 Ask:Ask
 sources:List Int
 parts:List Int
 made:Bool
 kind:Int
 deriving Inhabited
abbrev kG:Ty aV:=Ty.iso (cK rR (cK (bH 3 (aG .i64)) (cK (bH 3 (aG .i64)) (cK rP (aG .i64))))) (fun g:aV=>(g.Ask,g.sources,g.parts,g.made,g.kind))
structure Edge where
 From:Int
 To:Int
 Kind:Int
 Key:Int
 deriving Inhabited,DecidableEq
def Edge.enc (x:Edge):List Value:=[.int .i64 x.From,.int .i64 x.To,.int .i64 x.Kind,.int .i64 x.Key]
abbrev fM:Ty Edge:=Ty.flat 4 Edge.enc (fun _=>rfl) (fun _=>Gz rfl)
instance : Flat fM Edge.enc:=⟨Iff.rfl,Iff.rfl⟩
structure aL where
 h:History
 asks:List aV
 edges:List Edge
 deriving Inhabited
structure dP where
 N:Int
 Edges:List Edge
 deriving Inhabited
structure dA where
 Kind:Int
 Level:Int
 Spot:Spot
 Cycle:List Edge
 deriving Inhabited
abbrev zN:Ty dA:=Ty.iso (cK (aG .i64) (cK (aG .i64) (cK yz (bH 43 fM)))) (fun g:dA=>(g.Kind,g.Level,g.Spot,g.Cycle))
structure bJ where
 tight:Int
 loose:Int
 deriving Inhabited,DecidableEq
def bJ.enc (x:bJ):List Value:=[.int .i64 x.tight,.int .i64 x.loose]
abbrev gP:Ty bJ:=Ty.flat 2 bJ.enc (fun _=>rfl) (fun _=>Gz rfl)
instance : Flat gP bJ.enc:=⟨Iff.rfl,Iff.rfl⟩
structure fG where
 g:dP
 links:List (List bJ)
 deriving Inhabited
structure av where
 node:Int
 last_:Bool
 first_:Bool
 deriving Inhabited,DecidableEq
def av.enc (x:av):List Value:=[.int .i64 x.node,.bool x.last_,.bool x.first_]
abbrev yw:Ty av:=Ty.flat 3 av.enc (fun _=>rfl) (fun _=>Gz rfl)
instance : Flat yw av.enc:=⟨Iff.rfl,Iff.rfl⟩
structure gm where
 kind:Int
 level:Int
 d:Int
 r:Int
 rule:Int
 find:Int
 deriving Inhabited
def gm.enc (x:gm):List Value:=[.int .i64 x.kind,.int .i64 x.level,.int .i64 x.d,.int .i64 x.r,.int .i64 x.rule,fnV x.find]
abbrev NN:Ty gm:=Ty.flat 6 gm.enc (fun _=>rfl) (fun _=>Gz rfl)
instance : Flat NN gm.enc:=⟨Iff.rfl,Iff.rfl⟩
structure aR where
 keys:List ByteArray
 types:List Int
 wrote:List (List Int)
 incs:List Int
 last_:List Int
 deriving Inhabited
structure pg where
 n:Int
 d:List (List Bool)
 r:List (List Bool)
 deriving Inhabited
abbrev nC (N:BM):Ty aV:=(Ty.iso (cK (Ty.iso (cK (aG .i64) (cK (aG .i64) (cK (aG .i64) (NE N (aG .i64))))) (fun g:Ask=>(g.Txn,g.Place,g.Key,g.Base))) (cK (Nl (aG .i64)) (cK (Nl (aG .i64)) (cK rP (aG .i64))))) (fun g:aV=>(g.Ask,g.sources,g.parts,g.made,g.kind)))
theorem DW (N:BM):wO N (nC N) kG:=(DI (jP (DI (jP lG (jP lG (jP lG EC)))) (jP Jq (jP Jq (jP lG lG)))))
abbrev Rw2 (A:Option Addr) (c:Nat) (l:List Int):bY := .row (aG .i64) 2 A l.length c l
abbrev Rn2 (A:Option Addr) (n c:Nat) (l:List Int):bY := .row (aG .i64) 2 A n c l
abbrev Rw3 (A:Option Addr) (c:Nat) (l:List Int):bY := .row (aG .i64) 3 A l.length c l
abbrev Rw4 (A:Option Addr) (c:Nat) (l:List Bool):bY := .row rP 4 A l.length c l
abbrev Rw9 (A:Option Addr) (c:Nat) (l:List ByteArray):bY := .row gN 9 A l.length c l
abbrev Rn9 (A:Option Addr) (n c:Nat) (l:List ByteArray):bY := .row gN 9 A n c l
abbrev uX (A:Option Addr) (c:Nat) (l:List Spot):bY := .row yz 27 A l.length c l
abbrev Iu (A:Option Addr) (c:Nat) (l:List dA):bY := .row zN 30 A l.length c l
abbrev gT (A:Option Addr) (c:Nat) (l:List Edge):bY := .row fM 43 A l.length c l
abbrev VF (A:Option Addr) (c:Nat) (l:List Txn):bY := .row jr 65 A l.length c l
abbrev Mh (A:Option Addr) (c:Nat) (l:List (List Int)):bY := .row (bH 2 (aG .i64)) 66 A l.length c l
abbrev VG (A:Option Addr) (n c:Nat) (l:List Op):bY := .row kOp 70 A n c l
abbrev zh (A:Option Addr) (c:Nat) (l:List Ask):bY := .row rR 81 A l.length c l
abbrev OI (A:Option Addr) (c:Nat) (l:List bJ):bY := .row gP 169 A l.length c l
abbrev Kj (A:Option Addr) (n c:Nat) (l:List bJ):bY := .row gP 169 A n c l
abbrev Ap (A:Option Addr) (c:Nat) (l:List (List bJ)):bY := .row (bH 169 gP) 170 A l.length c l
abbrev Mi (A:Option Addr) (c:Nat) (l:List bu):bY := .row jg 209 A l.length c l
abbrev oz (A:Option Addr) (c:Nat) (l:List av):bY := .row yw 225 A l.length c l
abbrev Or3 (A:Option Addr) (c:Nat) (l:List Int):bY:=orA noM (aG .i64) 3 A l.length c l
abbrev Tc (A:Option Addr) (c:Nat) (l:List Ask):bY:=orA noM rR 81 A l.length c l
abbrev Kk (b:Nat) (m:List (Edge×Unit)):bY:=FP (fun x:Edge => .agg #[.int .i64 x.From,.int .i64 x.To,.int .i64 x.Kind,.int .i64 x.Key]) (fun _:Unit => .agg #[]) b m
abbrev Mj (b:Nat) (m:List (Int×Unit)):bY:=FP (fun x:Int => .int .i64 x) (fun _:Unit => .agg #[]) b m
abbrev Qx (b:Nat) (m:List (Int×Int)):bY:=FP (fun x:Int => .int .i64 x) (fun x:Int => .int .i64 x) b m
abbrev Ee (b:Nat) (m:List (Int×Int)):bY:=FP (fun x:Int => .int .i64 x) (fun x:Int => .int .i64 x) b m
abbrev EG (b:Nat) (m:List (ByteArray×Int)):bY:=FP (fun x:ByteArray => .string x) (fun x:Int => .int .i64 x) b m
abbrev EH (b:Nat) (m:List (eB×Unit)):bY:=FP (fun x:eB => .agg #[.string x.key,.int .i64 x.arg]) (fun _:Unit => .agg #[]) b m
abbrev Kl (b:Nat) (m:List (ByteArray×(List Int))):bY:=zu (fun x:ByteArray => .string x) (bH 3 (aG .i64)) b m
abbrev rT (b:Nat) (m:List (av×av)):bY:=FP (fun x:av => .agg #[.int .i64 x.node,.bool x.last_,.bool x.first_]) (fun x:av => .agg #[.int .i64 x.node,.bool x.last_,.bool x.first_]) b m
abbrev Km (b:Nat) (m:List (Int×(List Int))):bY:=zu (fun x:Int => .int .i64 x) (bH 2 (aG .i64)) b m
abbrev Iw (b:Nat) (m:List (Int×Unit)):bY:=FP (fun x:Int => .int .i64 x) (fun _:Unit => .agg #[]) b m
abbrev om (x:History) (A0:Option Addr) (c0:Nat) (A1:Option Addr) (c1:Nat):List Value:=[vS A0 x.Keys.length c0,vS A1 x.Txns.length c1]
abbrev lN (x:History) (A0:Option Addr) (c0:Nat) (A1:Option Addr) (c1:Nat):Value := .agg (om x A0 c0 A1 c1).toArray
abbrev dz (b:Nat) (x:History) (A0:Option Addr) (c0:Nat) (A1:Option Addr) (c1:Nat):bY := .blk b 25 (om x A0 c0 A1 c1)
abbrev Td (x:Spot):List Value:=[vI x.Txn,vI x.Place]
abbrev Vl (x:Spot):Value := .agg (Td x).toArray
abbrev VH (b:Nat) (x:Spot):bY := .blk b 27 (Td x)
abbrev NP (x:dA) (A4:Option Addr) (c4:Nat):List Value:=[vI x.Kind,vI x.Level,vI x.Spot.Txn,vI x.Spot.Place,vS A4 x.Cycle.length c4]
abbrev Qy (x:dA) (A4:Option Addr) (c4:Nat):Value := .agg (NP x A4 c4).toArray
abbrev Ca (b:Nat) (x:dA) (A4:Option Addr) (c4:Nat):bY := .blk b 30 (NP x A4 c4)
abbrev EI (x:dP) (A1:Option Addr) (c1:Nat):List Value:=[vI x.N,vS A1 x.Edges.length c1]
abbrev Hg (x:dP) (A1:Option Addr) (c1:Nat):Value := .agg (EI x A1 c1).toArray
abbrev uY (b:Nat) (x:dP) (A1:Option Addr) (c1:Nat):bY := .blk b 38 (EI x A1 c1)
abbrev JP (x:Edge):List Value:=[vI x.From,vI x.To,vI x.Kind,vI x.Key]
abbrev En (b:Nat) (x:Edge):bY := .blk b 43 (JP x)
abbrev Eo (x:Txn) (A4:Option Addr) (c4:Nat):List Value:=[vI x.Proc,vI x.Status,vI x.From,vI x.To,vS A4 x.Ops.length c4]
abbrev PU (x:Txn) (A4:Option Addr) (c4:Nat):Value := .agg (Eo x A4 c4).toArray
abbrev wE (b:Nat) (x:Txn) (A4:Option Addr) (c4:Nat):bY := .blk b 65 (Eo x A4 c4)
abbrev KT (x:Op) (A4:Option Addr) (c4:Nat):List Value:=[vI x.Kind,vI x.Key,vI x.Arg,vB x.Got,vS A4 x.Vals.length c4]
abbrev wP (b:Nat) (x:Op) (A4:Option Addr) (c4:Nat):bY := .blk b 70 (KT x A4 c4)
abbrev yA (x:Ask) (A3:Option Addr) (c3:Nat):List Value:=[vI x.Txn,vI x.Place,vI x.Key,vS A3 x.Base.length c3]
abbrev xA (x:Ask) (A3:Option Addr) (c3:Nat):Value := .agg (yA x A3 c3).toArray
abbrev jG (b:Nat) (x:Ask) (A3:Option Addr) (c3:Nat):bY := .blk b 81 (yA x A3 c3)
abbrev VI (x:aL) (A0:Option Addr) (c0:Nat) (A1:Option Addr) (c1:Nat) (A2:Option Addr) (c2:Nat) (A3:Option Addr) (c3:Nat):List Value:=[vS A0 x.h.Keys.length c0,vS A1 x.h.Txns.length c1,vS A2 x.asks.length c2,vS A3 x.edges.length c3]
abbrev JQ (b:Nat) (x:aL) (A0:Option Addr) (c0:Nat) (A1:Option Addr) (c1:Nat) (A2:Option Addr) (c2:Nat) (A3:Option Addr) (c3:Nat):bY := .blk b 93 (VI x A0 c0 A1 c1 A2 c2 A3 c3)
abbrev NQ (x:aV) (A3:Option Addr) (c3:Nat) (A4:Option Addr) (c4:Nat) (A5:Option Addr) (c5:Nat):List Value:=[vI x.Ask.Txn,vI x.Ask.Place,vI x.Ask.Key,vS A3 x.Ask.Base.length c3,vS A4 x.sources.length c4,vS A5 x.parts.length c5,vB x.made,vI x.kind]
abbrev Te (x:aV) (A3:Option Addr) (c3:Nat) (A4:Option Addr) (c4:Nat) (A5:Option Addr) (c5:Nat):Value := .agg (NQ x A3 c3 A4 c4 A5 c5).toArray
abbrev DX (b:Nat) (x:aV) (A3:Option Addr) (c3:Nat) (A4:Option Addr) (c4:Nat) (A5:Option Addr) (c5:Nat):bY := .blk b 96 (NQ x A3 c3 A4 c4 A5 c5)
abbrev Kn (x:Event) (A2:Option Addr) (c2:Nat):List Value:=[vI x.Proc,vI x.Kind,vS A2 x.Calls.length c2]
abbrev UJ (x:Event) (A2:Option Addr) (c2:Nat):Value := .agg (Kn x A2 c2).toArray
abbrev OJ (b:Nat) (x:Event) (A2:Option Addr) (c2:Nat):bY := .blk b 124 (Kn x A2 c2)
abbrev EJ (x:Call) (A4:Option Addr) (c4:Nat):List Value:=[vI x.Kind,.string x.Key,vI x.Arg,vB x.Got,vS A4 x.Vals.length c4]
abbrev Iy (x:Call) (A4:Option Addr) (c4:Nat):Value := .agg (EJ x A4 c4).toArray
abbrev jF (b:Nat) (x:Call) (A4:Option Addr) (c4:Nat):bY := .blk b 129 (EJ x A4 c4)
abbrev Qz (x:gF) (A0:Option Addr) (c0:Nat) (A1:Option Addr) (c1:Nat):List Value:=[vS A0 x.asks.length c0,vS A1 x.bad.length c1]
abbrev Vm (x:gF) (A0:Option Addr) (c0:Nat) (A1:Option Addr) (c1:Nat):Value := .agg (Qz x A0 c0 A1 c1).toArray
abbrev Vn (x:aR) (A0:Option Addr) (c0:Nat) (A1:Option Addr) (c1:Nat) (A2:Option Addr) (c2:Nat) (A3:Option Addr) (c3:Nat) (A4:Option Addr) (c4:Nat):List Value:=[vS A0 x.keys.length c0,vS A1 x.types.length c1,vS A2 x.wrote.length c2,vS A3 x.incs.length c3,vS A4 x.last_.length c4]
abbrev UK (b:Nat) (x:aR) (A0:Option Addr) (c0:Nat) (A1:Option Addr) (c1:Nat) (A2:Option Addr) (c2:Nat) (A3:Option Addr) (c3:Nat) (A4:Option Addr) (c4:Nat):bY := .blk b 149 (Vn x A0 c0 A1 c1 A2 c2 A3 c3 A4 c4)
abbrev Iz (x:bJ):List Value:=[vI x.tight,vI x.loose]
abbrev UL (x:bJ):Value := .agg (Iz x).toArray
abbrev OL (b:Nat) (x:bJ):bY := .blk b 169 (Iz x)
abbrev Vo (x:fG) (A1:Option Addr) (c1:Nat) (A2:Option Addr) (c2:Nat):List Value:=[vI x.g.N,vS A1 x.g.Edges.length c1,vS A2 x.links.length c2]
abbrev Ci (b:Nat) (x:fG) (A1:Option Addr) (c1:Nat) (A2:Option Addr) (c2:Nat):bY := .blk b 173 (Vo x A1 c1 A2 c2)
abbrev IA (x:bu) (A1:Option Addr) (c1:Nat):List Value:=[vI x.txn,vS A1 x.args.length c1]
abbrev QA (x:bu) (A1:Option Addr) (c1:Nat):Value := .agg (IA x A1 c1).toArray
abbrev Ko (b:Nat) (x:bu) (A1:Option Addr) (c1:Nat):bY := .blk b 209 (IA x A1 c1)
abbrev Ef (x:av):List Value:=[vI x.node,vB x.last_,vB x.first_]
abbrev GJ (x:av):Value := .agg (Ef x).toArray
abbrev zw (b:Nat) (x:av):bY := .blk b 225 (Ef x)
abbrev QB (b:Nat) (x0:Int) (A1:Option Addr) (c1:Nat) (x1:List Edge):List bY:=[.blk b 38 [vI x0,vS A1 x1.length c1],gT A1 c1 x1]
abbrev PV (b:Nat) (x:dP) (A1:Option Addr) (c1:Nat):List bY:=QB b x.N A1 c1 x.Edges
abbrev Cj (b:Nat) (A0:Option Addr) (c0:Nat) (x0:List Ask) (A1:Option Addr) (c1:Nat) (x1:List Spot):List bY:=[.blk b 132 [vS A0 x0.length c0,vS A1 x1.length c1],zh A0 c0 x0,uX A1 c1 x1]
abbrev UM (b:Nat) (x:gF) (A0:Option Addr) (c0:Nat) (A1:Option Addr) (c1:Nat):List bY:=Cj b A0 c0 x.asks A1 c1 x.bad
abbrev wG (b:Nat) (A0:Option Addr) (c0:Nat) (x0:List ByteArray) (A1:Option Addr) (c1:Nat) (x1:List Int) (A2:Option Addr) (c2:Nat) (x2:List (List Int)) (A3:Option Addr) (c3:Nat) (x3:List Int) (A4:Option Addr) (c4:Nat) (x4:List Int):List bY:=[.blk b 149 [vS A0 x0.length c0,vS A1 x1.length c1,vS A2 x2.length c2,vS A3 x3.length c3,vS A4 x4.length c4],Rw9 A0 c0 x0,Rw3 A1 c1 x1,Mh A2 c2 x2,Rw3 A3 c3 x3,Rw3 A4 c4 x4]
abbrev UN (b:Nat) (x:aR) (A0:Option Addr) (c0:Nat) (A1:Option Addr) (c1:Nat) (A2:Option Addr) (c2:Nat) (A3:Option Addr) (c3:Nat) (A4:Option Addr) (c4:Nat):List bY:=wG b A0 c0 x.keys A1 c1 x.types A2 c2 x.wrote A3 c3 x.incs A4 c4 x.last_
abbrev Ck (b:Nat) (A0:Option Addr) (c0:Nat) (x0:List ByteArray) (b1:Nat) (x1:List (ByteArray×Int)) (A2:Option Addr) (c2:Nat) (x2:List Int) (b3:Nat) (x3:List (eB×Unit)) (b4:Nat) (x4:List (ByteArray×(List Int))):List bY:=[.blk b 199 [vS A0 x0.length c0,.map (some b1),vS A2 x2.length c2,.map (some b3),.map (some b4)],Rw9 A0 c0 x0,EG b1 x1,Rw3 A2 c2 x2,EH b3 x3,Kl b4 x4]
abbrev QC (b:Nat) (x:bT) (A0:Option Addr) (c0:Nat) (b1:Nat) (A2:Option Addr) (c2:Nat) (b3:Nat) (b4:Nat):List bY:=Ck b A0 c0 x.keys b1 x.at_ A2 c2 x.types b3 x.facts b4 x.incs
theorem KU {H:BM} {x:dA} {cs:List Value} (h:zN.rd H x cs):∃ A4 c4,cs=NP x A4 c4∧x.Cycle.length≤c4∧rdS fM H A4 x.Cycle:=by
 obtain ⟨_,_,rfl,rfl,⟨_,_,rfl,rfl,⟨_,_,rfl,rfl,⟨A0,c0,rfl,l0,r0⟩⟩⟩⟩:=h;exact ⟨A0,c0,rfl,l0,r0⟩
theorem lm {H:BM} {x:Txn} {cs:List Value} (h:jr.rd H x cs):∃ A4 c4,cs=Eo x A4 c4∧x.Ops.length≤c4∧rdS kOp H A4 x.Ops:=by
 obtain ⟨_,_,rfl,rfl,⟨_,_,rfl,rfl,⟨_,_,rfl,rfl,⟨_,_,rfl,rfl,⟨A0,c0,rfl,l0,r0⟩⟩⟩⟩⟩:=h;exact ⟨A0,c0,rfl,l0,r0⟩
theorem Hl {H:BM} {x:Op} {cs:List Value} (h:kOp.rd H x cs):∃ A4 c4,cs=KT x A4 c4∧x.Vals.length≤c4∧rdS (aG .i64) H A4 x.Vals:=by
 obtain ⟨_,_,rfl,rfl,⟨_,_,rfl,rfl,⟨_,_,rfl,rfl,⟨_,_,rfl,rfl,⟨A0,c0,rfl,l0,r0⟩⟩⟩⟩⟩:=h;exact ⟨A0,c0,rfl,l0,r0⟩
theorem zx {H:BM} {x:Ask} {cs:List Value} (h:rR.rd H x cs):∃ A3 c3,cs=yA x A3 c3∧x.Base.length≤c3∧rdS (aG .i64) H A3 x.Base:=by
 obtain ⟨_,_,rfl,rfl,⟨_,_,rfl,rfl,⟨_,_,rfl,rfl,⟨A0,c0,rfl,l0,r0⟩⟩⟩⟩:=h;exact ⟨A0,c0,rfl,l0,r0⟩
theorem GK {H:BM} {x:aV} {cs:List Value} (h:kG.rd H x cs):∃ A3 c3 A4 c4 A5 c5,cs=NQ x A3 c3 A4 c4 A5 c5∧x.Ask.Base.length≤c3∧rdS (aG .i64) H A3 x.Ask.Base∧x.sources.length≤c4∧rdS (aG .i64) H A4 x.sources∧x.parts.length≤c5∧rdS (aG .i64) H A5 x.parts:=by
 obtain ⟨_,_,rfl,⟨_,_,rfl,rfl,⟨_,_,rfl,rfl,⟨_,_,rfl,rfl,⟨A0,c0,rfl,l0,r0⟩⟩⟩⟩,⟨_,_,rfl,⟨A1,c1,rfl,l1,r1⟩,⟨_,_,rfl,⟨A2,c2,rfl,l2,r2⟩,⟨_,_,rfl,rfl,rfl⟩⟩⟩⟩:=h;exact ⟨A0,c0,A1,c1,A2,c2,rfl,l0,r0,l1,r1,l2,r2⟩
theorem OM {H:BM} {x:Event} {cs:List Value} (h:Ir.rd H x cs):∃ A2 c2,cs=Kn x A2 c2∧x.Calls.length≤c2∧rdS Ed H A2 x.Calls:=by
 obtain ⟨_,_,rfl,rfl,⟨_,_,rfl,rfl,⟨A0,c0,rfl,l0,r0⟩⟩⟩:=h;exact ⟨A0,c0,rfl,l0,r0⟩
theorem QD {H:BM} {x:Call} {cs:List Value} (h:Ed.rd H x cs):∃ A4 c4,cs=EJ x A4 c4∧x.Vals.length≤c4∧rdS (aG .i64) H A4 x.Vals:=by
 obtain ⟨_,_,rfl,rfl,⟨_,_,rfl,rfl,⟨_,_,rfl,rfl,⟨_,_,rfl,rfl,⟨A0,c0,rfl,l0,r0⟩⟩⟩⟩⟩:=h;exact ⟨A0,c0,rfl,l0,r0⟩
theorem jd {H:BM} {x:bu} {cs:List Value} (h:jg.rd H x cs):∃ A1 c1,cs=IA x A1 c1∧x.args.length≤c1∧rdS (aG .i64) H A1 x.args:=by
 obtain ⟨_,_,rfl,rfl,⟨A0,c0,rfl,l0,r0⟩⟩:=h;exact ⟨A0,c0,rfl,l0,r0⟩
theorem EK (x:dA) {R3:List bY} {c3:List Value} (h3:Mk (bH 43 fM) R3 x.Cycle c3):Mk zN ([]++([]++([]++R3))) x ([vI x.Kind]++([vI x.Level]++([vI x.Spot.Txn,vI x.Spot.Place]++c3))):=wB (g:=fun g:dA=>(g.Kind,g.Level,g.Spot,g.Cycle)) (x:=x) (dR (oV _ _ rfl) (dR (oV _ _ rfl) (dR (oV _ _ rfl) h3)))
theorem Vp (x:Txn) {R4:List bY} {c4:List Value} (h4:Mk (bH 70 kOp) R4 x.Ops c4):Mk jr ([]++([]++([]++([]++R4)))) x ([vI x.Proc]++([vI x.Status]++([vI x.From]++([vI x.To]++c4)))):=wB (g:=fun g:Txn=>(g.Proc,g.Status,g.From,g.To,g.Ops)) (x:=x) (dR (oV _ _ rfl) (dR (oV _ _ rfl) (dR (oV _ _ rfl) (dR (oV _ _ rfl) h4))))
theorem Vq (x:Op) {R4:List bY} {c4:List Value} (h4:Mk (bH 2 (aG .i64)) R4 x.Vals c4):Mk kOp ([]++([]++([]++([]++R4)))) x ([vI x.Kind]++([vI x.Key]++([vI x.Arg]++([vB x.Got]++c4)))):=wB (g:=fun g:Op=>(g.Kind,g.Key,g.Arg,g.Got,g.Vals)) (x:=x) (dR (oV _ _ rfl) (dR (oV _ _ rfl) (dR (oV _ _ rfl) (dR (oV _ _ rfl) h4))))
theorem QE (x:Ask) {R3:List bY} {c3:List Value} (h3:Mk (bH 2 (aG .i64)) R3 x.Base c3):Mk rR ([]++([]++([]++R3))) x ([vI x.Txn]++([vI x.Place]++([vI x.Key]++c3))):=wB (g:=fun g:Ask=>(g.Txn,g.Place,g.Key,g.Base)) (x:=x) (dR (oV _ _ rfl) (dR (oV _ _ rfl) (dR (oV _ _ rfl) h3)))
theorem JR (x:bu) {R1:List bY} {c1:List Value} (h1:Mk (bH 2 (aG .i64)) R1 x.args c1):Mk jg ([]++R1) x ([vI x.txn]++c1):=wB (g:=fun g:bu=>(g.txn,g.args)) (x:=x) (dR (oV _ _ rfl) h1)
def pX (a0:List ByteArray) (a1:ByteArray):Int→Option (Int ⊕ Int)
 | a2=>bif decide (a2 < (a0.length:Int)) then must (0≤a2∧a2 < (a0.length:Int)) (bif sEq a1 (idx a0 a2) then out (some a2) else (some (.inl (w64 (a2 + 1))))) else (out (some (-1)))
def slices_Index_string (a0:List ByteArray) (a1:ByteArray):Option Int :=
 iter (pX a0 a1) 0
def slices_Contains_string (a0:List ByteArray) (a1:ByteArray):Option Bool :=
 (slices_Index_string a0 a1).bind fun y3=>some (decide (y3 ≥ 0))
def uu:Option bT :=
 some (⟨([]:List ByteArray),([]:List (ByteArray×Int)),([]:List Int),([]:List (eB×Unit)),([]:List (ByteArray×(List Int)))⟩:bT)
def Bg (a0:Int):Option (Int×Int) :=
 bif (a0 == 5) then some (0,1) else (bif (a0 == 8) then some (1,1) else (some (0,64)))
def xe (a0:Call) (a1:Int) (a2:Bool):Option (Int ⊕ Bool) :=
 bif a2 then must (0≤w64 (a1 - 1)∧w64 (a1 - 1) < (a0.Vals.length:Int)) (must (0≤a1∧a1 < (a0.Vals.length:Int)) (bif decide (idx a0.Vals (w64 (a1 - 1)) ≥ idx a0.Vals a1) then out (some false) else (some (.inl (w64 (a1 + 1)))))) else (out (some true))
def xg (a0:Call):Int→Option (Int ⊕ Bool)
 | a1=>bif (a0.Kind == 7) then xe a0 a1 (decide (a1 < (a0.Vals.length:Int))) else (xe a0 a1 false)
def xh (a0:Call) (a1:Bool):Option Bool :=
 bif a1 then some false else (iter (xg a0) 1)
def xk (a0:Call) (a2:Bool):Option Bool :=
 bif a2 then some false else (bif !a0.Got then some ((a0.Vals.length:Int) == 0) else ((Bg a0.Kind).bind fun a1=>bif decide ((a0.Vals.length:Int) < a1.1) then xh a0 true else (xh a0 (decide ((a0.Vals.length:Int) > a1.2)))))
def qI (a0:Call) (a1:Int) (a2:Bool):Option Bool :=
 bif a2 then some false else (bif decide (a0.Kind≤4) then bif !a0.Got then bif ((a0.Vals.length:Int) == 0) then bif (a0.Kind != 4) then some true else (bif decide ((-1048576)≤a0.Arg) then some (decide (a0.Arg≤1048576)) else (some false)) else (some false) else (some false) else (bif (a0.Arg != 0) then xk a0 true else (xk a0 (a0.Got != (a1 == 1)))))
def dH (a0:Call) (a1:Int):Option Bool :=
 bif decide (a0.Kind < 1) then qI a0 a1 true else (bif decide (a0.Kind > 8) then qI a0 a1 true else (bif sEq a0.Key (⟨#[]⟩:ByteArray) then qI a0 a1 true else (qI a0 a1 (decide ((a0.Key.size:Int) > 32)))))
def xV (a0:Call) (a1:Event):Option Bool :=
 (dH a0 a1.Kind).bind fun y5=>some (!y5)
def iP (a0:List Call) (a1c0:Event):Int→Option (Int ⊕ Int)
 | a1=>bif decide (a1 < (a0.length:Int)) then must (0≤a1∧a1 < (a0.length:Int)) ((xV (idx a0 a1) a1c0).bind fun a2=>bif a2 then out (some a1) else (some (.inl (w64 (a1 + 1))))) else (out (some (-1)))
def dh (a0:List Call) (a1c0:Event):Option Int :=
 iter (iP a0 a1c0) 0
def eZ (a0:List Call) (a1c0:Event):Option Bool :=
 (dh a0 a1c0).bind fun y3=>some (decide (y3 ≥ 0))
def uj (a0:List Event) (a1:Int) (a2:Bool):Option (Int ⊕ Int) :=
 bif a2 then out (some 1) else ((eZ ((idx a0 a1).Calls) (idx a0 a1)).bind fun a3=>bif a3 then out (some 1) else (some (.inl (w64 (a1 + 1)))))
def zO (a0:List Event):Int→Option (Int ⊕ Int)
 | a1=>bif decide (a1 < (a0.length:Int)) then must (0≤a1∧a1 < (a0.length:Int)) (bif decide ((idx a0 a1).Kind < 0) then uj a0 a1 true else (bif decide ((idx a0 a1).Kind > 3) then uj a0 a1 true else (uj a0 a1 (decide ((((idx a0 a1).Calls).length:Int) > 16))))) else (out (some 0))
def jm (a0:List Event):Option Int :=
 bif decide ((a0.length:Int) > 256) then some 1 else (iter (zO a0) 0)
def yB (a0:History) (a1:Txn) (a3:List Call) (a2:Int):Option ((List Call×Int) ⊕ (Event×Bool)) :=
 some (.inl (a3++([(⟨(idx a1.Ops a2).Kind,idx a0.Keys ((idx a1.Ops a2).Key),(idx a1.Ops a2).Arg,(idx a1.Ops a2).Got,(idx a1.Ops a2).Vals⟩:Call)]:List Call),w64 (a2 + 1)))
def uZ (a0:History) (a1:Txn) (a2:List Call) (a3:Int) (a4:Bool):Option ((List Call×Int) ⊕ (Event×Bool)) :=
 bif a4 then out (some ((⟨0,a1.Status,a2⟩:Event),false)) else (must (0≤(idx a1.Ops a3).Key∧(idx a1.Ops a3).Key < (a0.Keys.length:Int)) (must (((a2.length + 1) + (a2.length + 1) / 4 + 192) * 64≤281474976710656∧a2.length + 1≤9223372036854775807) (yB a0 a1 a2 a3)))
def yC (a0:History) (a1:Txn):(List Call×Int)→Option ((List Call×Int) ⊕ (Event×Bool))
 | (a3,a2)=>bif decide (a2 < (a1.Ops.length:Int)) then must (0≤a2∧a2 < (a1.Ops.length:Int)) (bif decide ((idx a1.Ops a2).Key < 0) then uZ a0 a1 a3 a2 true else (uZ a0 a1 a3 a2 (decide ((idx a1.Ops a2).Key ≥ (a0.Keys.length:Int))))) else ((jm ([(⟨0,a1.Status,a3⟩:Event)]:List Event)).bind fun a4=>out (some ((⟨0,a1.Status,a3⟩:Event),(a4 == 0))))
def gq (a0:History) (a1:Txn):Option (Event×Bool) :=
 iter (yC a0 a1) ([],0)
def ve (a0:Txn) (a1:Txn):Option Bool :=
 bif (a0.Proc == a1.Proc) then bif (a0.To == (-1)) then some true else (some (decide (a0.To ≥ a1.From))) else (some false)
def iG (a0:List Txn) (a1c0:Txn):Int→Option (Int ⊕ Int)
 | a1=>bif decide (a1 < (a0.length:Int)) then must (0≤a1∧a1 < (a0.length:Int)) ((ve (idx a0 a1) a1c0).bind fun a2=>bif a2 then out (some a1) else (some (.inl (w64 (a1 + 1))))) else (out (some (-1)))
def cu (a0:List Txn) (a1c0:Txn):Option Int :=
 iter (iG a0 a1c0) 0
def eT (a0:List Txn) (a1c0:Txn):Option Bool :=
 (cu a0 a1c0).bind fun y3=>some (decide (y3 ≥ 0))
def qB (a0:List Txn) (a1:Txn) (a3:Bool):Option Bool :=
 bif a3 then some false else ((eT a0 a1).bind fun a2=>some (!a2))
def uw (a0:List Txn) (a1:Txn):Option Bool :=
 bif decide (a1.From < 0) then qB a0 a1 true else (bif decide ((a0.length:Int) > 0) then must (0≤w64 ((a0.length:Int) - 1)∧w64 ((a0.length:Int) - 1) < (a0.length:Int)) (qB a0 a1 (decide ((idx a0 (w64 ((a0.length:Int) - 1))).From ≥ a1.From))) else (qB a0 a1 false))
def uy (a0:List Txn) (a1:Txn) (a2:Bool):Option Bool :=
 bif a2 then some false else (uw a0 a1)
def uz (a0:List Txn) (a1:Txn) (a2:Bool):Option Bool :=
 bif a2 then bif decide (a1.To≤a1.From) then some false else (uw a0 a1) else (bif (a1.Status == 3) then bif (a1.To != (-1)) then uy a0 a1 (decide (a1.To≤a1.From)) else (uy a0 a1 false) else (some false))
def dF (a0:List Txn) (a1:Txn):Option Bool :=
 bif (a1.Status == 1) then uz a0 a1 (a1.Status == 1) else (uz a0 a1 (a1.Status == 2))
def sQ (a0:Int):Option Int :=
 some (w64 ((dm .i64 (w64 (a0 - 1)) 3) + 1))
def kw (a5:List ByteArray) (a2:List (ByteArray×Int)) (a3:List Int) (a4:List (eB×Unit)) (a1:List (ByteArray×(List Int))):Option (Int×bT) :=
 some (0,(⟨a5,a2,a3,a4,a1⟩:bT))
def qM (a0:bT) (a1:Call) (a2:List ByteArray) (a3:List (ByteArray×Int)) (a4:List Int):Option (Int×bT) :=
 bif jX a0.facts (⟨a1.Key,a1.Arg⟩:eB) then some (3,(⟨a2,a3,a4,a0.facts,a0.incs⟩:bT)) else (kw a2 a3 a4 (iE a0.facts (⟨a1.Key,a1.Arg⟩:eB) ()) a0.incs)
def mI (a0:bT) (a1:Call) (a3:List ByteArray) (a4:List (ByteArray×Int)) (a5:List Int) (a2:List (ByteArray×(List Int))):Option (Int×bT) :=
 bif decide (((mat a2 a1.Key).length:Int) > 8) then some (51,(⟨a3,a4,a5,a0.facts,a2⟩:bT)) else (kw a3 a4 a5 a0.facts a2)
def mJ (a0:bT) (a1:Call) (a2:Int) (a3:List ByteArray) (a4:List (ByteArray×Int)) (a5:List Int) (a6:Bool):Option (Int×bT) :=
 bif a6 then must (((((mat a0.incs a1.Key).length) + 1) + (((mat a0.incs a1.Key).length) + 1) / 4 + 192) * 8≤281474976710656∧((mat a0.incs a1.Key).length) + 1≤9223372036854775807) (mI a0 a1 a3 a4 a5 (iE a0.incs a1.Key ((mat a0.incs a1.Key)++([a2]:List Int)))) else (mI a0 a1 a3 a4 a5 a0.incs)
def mK (a0:bT) (a1:Call) (a2:Int) (a3:List ByteArray) (a4:List (ByteArray×Int)) (a5:List Int) (a6:Bool):Option (Int×bT) :=
 bif a6 then qM a0 a1 a3 a4 a5 else (bif (a1.Kind == 4) then bif (((mat a0.incs a1.Key).length:Int) == 0) then mJ a0 a1 a2 a3 a4 a5 true else (must (0≤w64 (((mat a0.incs a1.Key).length:Int) - 1)∧w64 (((mat a0.incs a1.Key).length:Int) - 1) < ((mat a0.incs a1.Key).length:Int)) (mJ a0 a1 a2 a3 a4 a5 (idx (mat a0.incs a1.Key) (w64 (((mat a0.incs a1.Key).length:Int) - 1)) != a2))) else (kw a3 a4 a5 a0.facts a0.incs))
def ky (a0:bT) (a1:Call) (a2:Int) (a6:List ByteArray) (a4:List (ByteArray×Int)) (a3:List Int) (a5:Int):Option (Int×bT) :=
 must (0≤a5∧a5 < (a3.length:Int)) ((sQ a1.Kind).bind fun a7=>bif (idx a3 a5 != a7) then some (50,(⟨a6,a4,a3,a0.facts,a0.incs⟩:bT)) else (bif (a1.Kind == 2) then mK a0 a1 a2 a6 a4 a3 (a1.Kind == 2) else (mK a0 a1 a2 a6 a4 a3 (a1.Kind == 3))))
def qN (a0:bT) (a1:Call) (a2:Int):Option (Int×bT) :=
 (sQ a1.Kind).bind fun a3=>must (((a0.types.length + 1) + (a0.types.length + 1) / 4 + 192) * 8≤281474976710656∧a0.types.length + 1≤9223372036854775807) (ky a0 a1 a2 (a0.keys++([a1.Key]:List ByteArray)) (iE a0.at_ a1.Key (a0.keys.length:Int)) (a0.types++([a3]:List Int)) (a0.keys.length:Int))
def aN (a0:bT) (a1:Call) (a2:Int):Option (Int×bT) :=
 bif !(jX a0.at_ a1.Key) then bif ((a0.keys.length:Int) == 32) then some (2,a0) else (must (((a0.keys.length + 1) + (a0.keys.length + 1) / 4 + 192) * 16≤281474976710656∧a0.keys.length + 1≤9223372036854775807) (qN a0 a1 a2)) else (ky a0 a1 a2 a0.keys a0.at_ a0.types (mat a0.at_ a1.Key))
def rU (a2:Int) (a1:Bool):Option (Int ⊕ Int) :=
 bif a1 then out (some 1) else (some (.inl (w64 (a2 + 1))))
def vg (a4:Int) (a3:Event×Bool):(List ByteArray×(List (ByteArray×Int))×List Int×(List (eB×Unit))×(List (ByteArray×(List Int)))×Int)→Option ((List ByteArray×(List (ByteArray×Int))×List Int×(List (eB×Unit))×(List (ByteArray×(List Int)))×Int) ⊕ ((List ByteArray×(List (ByteArray×Int))×List Int×(List (eB×Unit))×(List (ByteArray×(List Int)))×Int) ⊕ (Int ⊕ Int)))
 | (a5,a6,a7,a9,a8,a2)=>bif decide (a2 < (a3.1.Calls.length:Int)) then must (0≤a2∧a2 < (a3.1.Calls.length:Int)) ((aN (⟨a5,a6,a7,a9,a8⟩:bT) (idx a3.1.Calls a2) a4).bind fun a1=>bif (a1.1 != 0) then out (out (out (some 1))) else (some (.inl (a1.2.keys,a1.2.at_,a1.2.types,a1.2.facts,a1.2.incs,w64 (a2 + 1))))) else (out (some (.inl (a5,a6,a7,a9,a8,w64 (a4 + 1)))))
def vk (a6:List ByteArray) (a4:List (ByteArray×Int)) (a3:List Int) (a7:List (eB×Unit)) (a8:List (ByteArray×(List Int))) (a2:Int) (a5:Event×Bool) (a1:Bool):Option ((List ByteArray×(List (ByteArray×Int))×List Int×(List (eB×Unit))×(List (ByteArray×(List Int)))×Int) ⊕ (Int ⊕ Int)) :=
 bif a1 then out (out (some 1)) else (iter (vg a2 a5) (a6,a4,a3,a7,a8,0))
def rV (a0:History):(List ByteArray×(List (ByteArray×Int))×List Int×(List (eB×Unit))×(List (ByteArray×(List Int)))×Int)→Option ((List ByteArray×(List (ByteArray×Int))×List Int×(List (eB×Unit))×(List (ByteArray×(List Int)))×Int) ⊕ (Int ⊕ Int))
 | (a5,a4,a3,a6,a7,a1)=>bif decide (a1 < (a0.Txns.length:Int)) then must (0≤a1∧a1 < (a0.Txns.length:Int)) ((gq a0 (idx a0.Txns a1)).bind fun a2=>bif !a2.2 then vk a5 a4 a3 a6 a7 a1 a2 true else (must (0≤(0:Int)∧(0:Int)≤a1∧a1≤(a0.Txns.length:Int)) ((dF (jW a0.Txns (0:Int) a1) (idx a0.Txns a1)).bind fun a8=>vk a5 a4 a3 a6 a7 a1 a2 (!a8)))) else (out (out (some 0)))
def yD (a0:History):Int→Option (Int ⊕ Int)
 | a1=>bif decide (a1 < (a0.Keys.length:Int)) then must (0≤a1∧a1 < (a0.Keys.length:Int)) (bif sEq (idx a0.Keys a1) (⟨#[]⟩:ByteArray) then rU a1 true else (bif decide (((idx a0.Keys a1).size:Int) > 32) then rU a1 true else (must (0≤(0:Int)∧(0:Int)≤a1∧a1≤(a0.Keys.length:Int)) ((slices_Contains_string (jW a0.Keys (0:Int) a1) (idx a0.Keys a1)).bind fun a3=>rU a1 a3)))) else ((uu).bind fun a2=>iter (rV a0) (a2.keys,a2.at_,a2.types,a2.facts,a2.incs,0))
def vo (a0:History) (b7:Bool):Option Int :=
 bif b7 then some 1 else (iter (yD a0) 0)
def aJ (a0:History):Option Int :=
 bif decide ((a0.Keys.length:Int) > 32) then vo a0 true else (vo a0 (decide ((a0.Txns.length:Int) > 32)))
def iH (a0:List Int):Option (List Int) :=
 must (a0.length * 8≤140737488355328) (some a0)
def nG (a0:Int):Option Int :=
 bif (a0 == 1) then some 280 else (bif (a0 == 2) then some 281 else (bif (a0 == 3) then some 282 else (bif (a0 == 4) then some 283 else (some (-1)))))
def nH (a0:Unit) (a1:List Int):Option Bool :=
 some (decide ((a1.length:Int)≤1))
def sS (a0:Unit) (a1:List Int):Option Bool :=
 some (decide ((a1.length:Int)≤64))
def uF (a1:List Int):Int→Option (Int ⊕ Bool)
 | a2=>bif decide (a2 < (a1.length:Int)) then must (0≤w64 (a2 - 1)∧w64 (a2 - 1) < (a1.length:Int)) (must (0≤a2∧a2 < (a1.length:Int)) (bif decide (idx a1 (w64 (a2 - 1)) ≥ idx a1 a2) then out (some false) else (some (.inl (w64 (a2 + 1)))))) else (out (some (decide ((a1.length:Int)≤64))))
def jh (a0:Unit) (a1:List Int):Option Bool :=
 iter (uF a1) 1
def oF (a0:Unit) (a1:List Int):Option Bool :=
 some ((a1.length:Int) == 1)
def nI (a0:Int) (a1:List Int):Option Int :=
 (nG a0).bind fun y8=>bif (y8 == (280:Int)) then (nH () a1).bind fun a4=>bif !a4 then some 80 else (some 0) else (bif (y8 == (281:Int)) then (sS () a1).bind fun a5=>bif !a5 then some 80 else (some 0) else (bif (y8 == (282:Int)) then (jh () a1).bind fun a3=>bif !a3 then some 80 else (some 0) else (bif (y8 == (283:Int)) then (oF () a1).bind fun a2=>bif !a2 then some 80 else (some 0) else (bif (y8 == ((-1):Int)) then some 1 else none))))
def jH (a0:Unit) (a1:List Int) (a2:List Int):Option (List Int×Bool) :=
 bif ((a1.length:Int) == 1) then must (0≤(0:Int)∧(0:Int) < (a1.length:Int)) (must (0≤w64 ((a2.length:Int) - 1)∧w64 ((a2.length:Int) - 1) < (a2.length:Int)) (some (([]:List Int),(idx a1 (0:Int) == idx a2 (w64 ((a2.length:Int) - 1)))))) else (some (([]:List Int),false))
def wH (a0:List Int) (a1:List Int):Int→Option (Int ⊕ Bool)
 | a2=>bif decide (a2 < (a0.length:Int)) then must (0≤a2∧a2 < (a0.length:Int)) (must (0≤a2∧a2 < (a1.length:Int)) (bif (idx a0 a2 != idx a1 a2) then out (some false) else (some (.inl (w64 (a2 + 1)))))) else (out (some true))
def gU (a0:List Int) (a1:List Int):Option Bool :=
 bif ((a0.length:Int) != (a1.length:Int)) then some false else (iter (wH a0 a1) 0)
def kz (a1:List Int) (a2:List Int) (a3:Bool):Option (List Int×Bool) :=
 bif a3 then some (([]:List Int),false) else (must (0≤(0:Int)∧(0:Int)≤(w64 ((a1.length:Int) - (a2.length:Int)))∧(w64 ((a1.length:Int) - (a2.length:Int)))≤(a1.length:Int)) ((iH (jW a1 (0:Int) (w64 ((a1.length:Int) - (a2.length:Int))))).bind fun a4=>some (a4,true)))
def fB (a0:Unit) (a1:List Int) (a2:List Int):Option (List Int×Bool) :=
 bif decide (w64 ((a1.length:Int) - (a2.length:Int)) < 0) then kz a1 a2 true else (must (0≤(w64 ((a1.length:Int) - (a2.length:Int)))∧(w64 ((a1.length:Int) - (a2.length:Int)))≤(a1.length:Int)∧(a1.length:Int)≤(a1.length:Int)) ((gU (jW a1 (w64 ((a1.length:Int) - (a2.length:Int))) (a1.length:Int)) a2).bind fun a3=>kz a1 a2 (!a3)))
def qC (a0:Int):Option Bool :=
 some (a0 != a0)
def rW (a0:Int) (a1:Int):Option Bool :=
 (qC a0).bind fun y7=>bif y7 then (qC a1).bind fun a2=>bif !a2 then some true else (some (decide (a0 < a1))) else (some (decide (a0 < a1)))
def mo (a0:Int):Option Bool :=
 some (a0 != a0)
def lC (a1:Int) (a2:Int):Option ((Int×Int) ⊕ (Int×Bool)) :=
 some (.inl (a1,a2))
def lD (a0:List Int) (a1:Int):(Int×Int)→Option ((Int×Int) ⊕ (Int×Bool))
 | (a2,a3)=>bif decide (a2 < a3) then must (0≤(1:Int)∧(1:Int) < (far:Int)) (must (0≤w64 (gp .u64 (IntKind.wrap .u64 (w64 (a2 + a3))) (1:Int))∧w64 (gp .u64 (IntKind.wrap .u64 (w64 (a2 + a3))) (1:Int)) < (a0.length:Int)) ((rW (idx a0 (w64 (gp .u64 (IntKind.wrap .u64 (w64 (a2 + a3))) (1:Int)))) a1).bind fun a6=>bif a6 then lC (w64 ((w64 (gp .u64 (IntKind.wrap .u64 (w64 (a2 + a3))) (1:Int))) + 1)) a3 else (lC a2 (w64 (gp .u64 (IntKind.wrap .u64 (w64 (a2 + a3))) (1:Int)))))) else (bif decide (a2 < (a0.length:Int)) then must (0≤a2∧a2 < (a0.length:Int)) (bif (idx a0 a2 == a1) then out (some (a2,true)) else ((mo (idx a0 a2)).bind fun a4=>bif a4 then (mo a1).bind fun a5=>out (some (a2,a5)) else (out (some (a2,false))))) else (out (some (a2,false))))
def df (a0:List Int) (a1:Int):Option (Int×Bool) :=
 iter (lD a0 a1) (0,(a0.length:Int))
def lH (a0:List Int) (a1 a2:Int):Option (List Int) :=
 must (0≤a1∧a1≤a2∧a2≤(a0.length:Int)) (some (a0.take a1.toNat++a0.drop a2.toNat))
def nJ (a2:List Int):(List Int×Int)→Option ((List Int×Int) ⊕ (List Int×Bool))
 | (a4,a1)=>bif decide (a1 < (a2.length:Int)) then must (0≤a1∧a1 < (a2.length:Int)) ((df a4 (idx a2 a1)).bind fun a3=>bif !a3.2 then out (some (([]:List Int),false)) else ((lH a4 a3.1 (w64 (a3.1 + 1))).bind fun a5=>some (.inl (a5,w64 (a1 + 1))))) else (out (some (a4,true)))
def gL (a0:Unit) (a1:List Int) (a2:List Int):Option (List Int×Bool) :=
 (iH a1).bind fun y7=>iter (nJ a2) (y7,0)
def kK (a2:List Int):(Int×Int)→Option ((Int×Int) ⊕ (List Int×Bool))
 | (a3,a1)=>bif decide (a1 < (a2.length:Int)) then must (0≤a1∧a1 < (a2.length:Int)) (some (.inl (w64 (a3 - (idx a2 a1)),w64 (a1 + 1)))) else (out (some (([a3]:List Int),true)))
def fC (a0:Unit) (a1:List Int) (a2:List Int):Option (List Int×Bool) :=
 must (0≤(0:Int)∧(0:Int) < (a1.length:Int)) (iter (kK a2) (idx a1 (0:Int),0))
def nD (a0:Int) (a1:List Int) (a2:List Int) (b9:Bool):Option (List Int×Bool) :=
 bif b9 then some (([]:List Int),false) else ((nG a0).bind fun a3=>bif (a3 == (280:Int)) then (jH () a1 a2).bind fun a6=>some (a6.1,a6.2) else (bif (a3 == (281:Int)) then (fB () a1 a2).bind fun a7=>some (a7.1,a7.2) else (bif (a3 == (282:Int)) then (gL () a1 a2).bind fun a5=>some (a5.1,a5.2) else (bif (a3 == (283:Int)) then (fC () a1 a2).bind fun a4=>some (a4.1,a4.2) else (bif (a3 == ((-1):Int)) then none else none)))))
def ji (a0:Int) (a1:List Int) (a2:List Int):Option (List Int×Bool) :=
 (nI a0 a1).bind fun a3=>bif (a3 != 0) then nD a0 a1 a2 true else (nD a0 a1 a2 ((a2.length:Int) == 0))
def jR (a1:Int) (a2:List Ask) (a4:List Spot) (a3:List (Int×(List Int))):Option ((List Ask×List Spot×(List (Int×(List Int)))×Int) ⊕ gF) :=
 some (.inl (a2,a4,a3,w64 (a1 + 1)))
def oG (a1:History) (a2:Int) (a5:List Ask) (a4:List Spot) (a6:List (Int×(List Int))) (a3:Int) (a8:List Int) (a7:Bool):Option ((List Ask×List Spot×(List (Int×(List Int)))×Int) ⊕ gF) :=
 bif !a7 then must (((a4.length + 1) + (a4.length + 1) / 4 + 192) * 16≤281474976710656∧a4.length + 1≤9223372036854775807) (jR a3 a5 (a4++([(⟨a2,a3⟩:Spot)]:List Spot)) a6) else (must (((a5.length + 1) + (a5.length + 1) / 4 + 192) * 48≤281474976710656∧a5.length + 1≤9223372036854775807) (jR a3 (a5++([(⟨a2,a3,(idx ((idx a1.Txns a2).Ops) a3).Key,a8⟩:Ask)]:List Ask)) a4 a6))
def oH (a1:History) (a2:Int) (a6:List Ask) (a4:List Spot) (a5:List (Int×(List Int))) (a3:Int) (a7:List Int×Bool) (a8:Bool):Option ((List Ask×List Spot×(List (Int×(List Int)))×Int) ⊕ gF) :=
 bif a8 then jR a3 a6 a4 a5 else (oG a1 a2 a6 a4 a5 a3 a7.1 a7.2)
def tT (a1:History) (a2:Int):(List Ask×List Spot×(List (Int×(List Int)))×Int)→Option ((List Ask×List Spot×(List (Int×(List Int)))×Int) ⊕ gF)
 | (a6,a5,a4,a3)=>bif decide (a3 < (((idx a1.Txns a2).Ops).length:Int)) then must (0≤a3∧a3 < (((idx a1.Txns a2).Ops).length:Int)) (bif decide ((idx ((idx a1.Txns a2).Ops) a3).Kind≤4) then must (((((mat a4 ((idx ((idx a1.Txns a2).Ops) a3).Key)).length) + 1) + (((mat a4 ((idx ((idx a1.Txns a2).Ops) a3).Key)).length) + 1) / 4 + 192) * 8≤281474976710656∧((mat a4 ((idx ((idx a1.Txns a2).Ops) a3).Key)).length) + 1≤9223372036854775807) (jR a3 a6 a5 (iE a4 ((idx ((idx a1.Txns a2).Ops) a3).Key) ((mat a4 ((idx ((idx a1.Txns a2).Ops) a3).Key))++([(idx ((idx a1.Txns a2).Ops) a3).Arg]:List Int)))) else ((iH ((idx ((idx a1.Txns a2).Ops) a3).Vals)).bind fun a8=>bif decide (((mat a4 ((idx ((idx a1.Txns a2).Ops) a3).Key)).length:Int) > 0) then (ji (w64 (((idx ((idx a1.Txns a2).Ops) a3).Kind) - 4)) ((idx ((idx a1.Txns a2).Ops) a3).Vals) (mat a4 ((idx ((idx a1.Txns a2).Ops) a3).Key))).bind fun a7=>bif a7.2 then oH a1 a2 a6 a5 a4 a3 a7 ((idx ((idx a1.Txns a2).Ops) a3).Kind == 5) else (oH a1 a2 a6 a5 a4 a3 a7 false) else (oG a1 a2 a6 a5 a4 a3 a8 true))) else (out (some (⟨a6,a5⟩:gF)))
def bL (a0:gF) (a1:History) (a2:Int):Option gF :=
 must (0≤a2∧a2 < (a1.Txns.length:Int)) (bif ((idx a1.Txns a2).Status != 1) then some a0 else (iter (tT a1 a2) (a0.asks,a0.bad,[],0)))
def Bh (a0:History):(List Ask×List Spot×Int)→Option ((List Ask×List Spot×Int) ⊕ (gF×Int))
 | (a2,a4,a1)=>bif decide (a1 < (a0.Txns.length:Int)) then (bL (⟨a2,a4⟩:gF) a0 a1).bind fun a3=>some (.inl (a3.asks,a3.bad,w64 (a1 + 1))) else (out (some ((⟨a2,a4⟩:gF),0)))
def qJ (a0:History):Option (gF×Int) :=
 (aJ a0).bind fun a1=>bif (a1 != 0) then some ((⟨([]:List Ask),([]:List Spot)⟩:gF),a1) else (iter (Bh a0) ([],[],0))
def mq (a0:History):Option (List Ask×Int) :=
 (qJ a0).bind fun a1=>some (a1.1.asks,a1.2)
def zP (a0:History) (a1:Int) (a3:Int):Int→Option (Int ⊕ (Int ⊕ Int))
 | a2=>bif decide (a2 < (((idx a0.Txns a3).Ops).length:Int)) then must (0≤a2∧a2 < (((idx a0.Txns a3).Ops).length:Int)) (bif ((idx ((idx a0.Txns a3).Ops) a2).Key == a1) then (sQ ((idx ((idx a0.Txns a3).Ops) a2).Kind)).bind fun a4=>out (out (some a4)) else (some (.inl (w64 (a2 + 1))))) else (out (some (.inl (w64 (a3 + 1)))))
def zQ (a0:History) (a1:Int):Int→Option (Int ⊕ Int)
 | a2=>bif decide (a2 < (a0.Txns.length:Int)) then must (0≤a2∧a2 < (a0.Txns.length:Int)) (iter (zP a0 a1 a2) 0) else (out (some 0))
def gV (a0:History) (a1:Int):Option Int :=
 (aJ a0).bind fun y8=>bif (y8 != 0) then some 0 else (iter (zQ a0 a1) 0)
def vv (a2:Int) (a1:List Int):Option ((List Int×Int) ⊕ (List Int)) :=
 some (.inl (a1,w64 (a2 + 1)))
def vw (a0:Txn) (a1:List Int) (a2:Int) (a3:Bool):Option ((List Int×Int) ⊕ (List Int)) :=
 bif a3 then must (((a1.length + 1) + (a1.length + 1) / 4 + 192) * 8≤281474976710656∧a1.length + 1≤9223372036854775807) (vv a2 (a1++([(idx a0.Ops a2).Arg]:List Int))) else (vv a2 a1)
def yE (a0:Txn) (a1:Int):(List Int×Int)→Option ((List Int×Int) ⊕ (List Int))
 | (a3,a2)=>bif decide (a2 < (a0.Ops.length:Int)) then must (0≤a2∧a2 < (a0.Ops.length:Int)) (bif ((idx a0.Ops a2).Key == a1) then vw a0 a3 a2 (decide ((idx a0.Ops a2).Kind≤4)) else (vw a0 a3 a2 false)) else (out (some a3))
def fD (a0:Txn) (a1:Int):Option (List Int) :=
 iter (yE a0 a1) ([],0)
def rX (a0:History) (a1:Int) (a2:Int) (a4:Bool):Option (List Int×Bool) :=
 bif a4 then some (([]:List Int),false) else (must (0≤a1∧a1 < (a0.Txns.length:Int)) ((fD (idx a0.Txns a1) a2).bind fun a3=>some (a3,decide ((a3.length:Int) > 0))))
def kS (a0:History) (a1:Int) (a2:Int):Option (List Int×Bool) :=
 bif decide (a1 < 0) then rX a0 a1 a2 true else (bif decide (a1 ≥ (a0.Txns.length:Int)) then rX a0 a1 a2 true else ((aJ a0).bind fun a3=>rX a0 a1 a2 (a3 != 0)))
def sU (a2:Int) (a1:List Int):Option ((List Int×Int) ⊕ (List Int)) :=
 some (.inl (a1,w64 (a2 + 1)))
def sV (a1:List Int) (a2:Int) (a3:Bool):Option ((List Int×Int) ⊕ (List Int)) :=
 bif a3 then must (((a1.length + 1) + (a1.length + 1) / 4 + 192) * 8≤281474976710656∧a1.length + 1≤9223372036854775807) (sU a2 (a1++([a2]:List Int))) else (sU a2 a1)
def wQ (a0:History) (a1:Int):(List Int×Int)→Option ((List Int×Int) ⊕ (List Int))
 | (a3,a2)=>bif decide (a2 < (a0.Txns.length:Int)) then must (0≤a2∧a2 < (a0.Txns.length:Int)) (bif ((idx a0.Txns a2).Status != 2) then (fD (idx a0.Txns a2) a1).bind fun a4=>sV a3 a2 (decide ((a4.length:Int) > 0)) else (sV a3 a2 false)) else (out (some a3))
def eD (a0:History) (a1:Int):Option (List Int) :=
 (aJ a0).bind fun y8=>bif (y8 != 0) then some ([]:List Int) else (iter (wQ a0 a1) ([],0))
def sW (a1:Int) (a2:List bu):Option ((List bu×Int) ⊕ (List bu)) :=
 some (.inl (a2,w64 (a1 + 1)))
def sZ (a5:List Int) (a1:List bu) (a2:Int) (a4:List Int×Bool) (a3:Bool):Option ((List bu×Int) ⊕ (List bu)) :=
 bif a3 then must (((a1.length + 1) + (a1.length + 1) / 4 + 192) * 32≤281474976710656∧a1.length + 1≤9223372036854775807) (sW a2 (a1++([(⟨idx a5 a2,a4.1⟩:bu)]:List bu))) else (sW a2 a1)
def wR (a0:History) (a1:Ask) (a3:List Int):(List bu×Int)→Option ((List bu×Int) ⊕ (List bu))
 | (a5,a2)=>bif decide (a2 < (a3.length:Int)) then must (0≤a2∧a2 < (a3.length:Int)) ((kS a0 (idx a3 a2) a1.Key).bind fun a4=>bif a4.2 then sZ a3 a5 a2 a4 (idx a3 a2 != a1.Txn) else (sZ a3 a5 a2 a4 false)) else (out (some a5))
def dC (a0:History) (a1:Ask):Option (List bu) :=
 (eD a0 a1.Key).bind fun a2=>iter (wR a0 a1 a2) ([],0)
def tV (a0:List Int) (a1:Int):Int→Option (Int ⊕ Int)
 | a2=>bif decide (a2 < (a0.length:Int)) then must (0≤a2∧a2 < (a0.length:Int)) (bif (a1 == idx a0 a2) then out (some a2) else (some (.inl (w64 (a2 + 1))))) else (out (some (-1)))
def slices_Index_int (a0:List Int) (a1:Int):Option Int :=
 iter (tV a0 a1) 0
def slices_Contains_int (a0:List Int) (a1:Int):Option Bool :=
 (slices_Index_int a0 a1).bind fun y3=>some (decide (y3 ≥ 0))
def xm (a0:bu) (a1:List Int):Option Bool :=
 must (0≤(0:Int)∧(0:Int) < (a0.args.length:Int)) (must (0≤(0:Int)∧(0:Int) < (a1.length:Int)) (some (idx a0.args (0:Int) == idx a1 (0:Int))))
def iC (a0:List bu) (a1c0:List Int):Int→Option (Int ⊕ Int)
 | a1=>bif decide (a1 < (a0.length:Int)) then must (0≤a1∧a1 < (a0.length:Int)) ((xm (idx a0 a1) a1c0).bind fun a2=>bif a2 then out (some a1) else (some (.inl (w64 (a1 + 1))))) else (out (some (-1)))
def bW (a0:List bu) (a1c0:List Int):Option Int :=
 iter (iC a0 a1c0) 0
def pq (a1:List bu) (a3:List Int) (a4:List Int) (a2:Int) (a5:Bool):Option ((List Int×List Int) ⊕ (List Int×Bool)) :=
 bif a5 then out (some (([]:List Int),false)) else (must (0≤a2∧a2 < (a1.length:Int)) (must (((a4.length + 1) + (a4.length + 1) / 4 + 192) * 8≤281474976710656∧a4.length + 1≤9223372036854775807) (must (0≤(((idx a1 a2).args).length:Int)∧(((idx a1 a2).args).length:Int)≤(a3.length:Int)∧(a3.length:Int)≤(a3.length:Int)) (some (.inl (jW a3 (((idx a1 a2).args).length:Int) (a3.length:Int),a4++([(idx a1 a2).txn]:List Int)))))))
def vz (a1:List bu):(List Int×List Int)→Option ((List Int×List Int) ⊕ (List Int×Bool))
 | (a3,a4)=>bif decide ((a3.length:Int) > 0) then (bW a1 a3).bind fun a2=>bif decide (a2 < 0) then pq a1 a3 a4 a2 true else (must (0≤a2∧a2 < (a1.length:Int)) (bif decide ((((idx a1 a2).args).length:Int) > (a3.length:Int)) then pq a1 a3 a4 a2 true else (must (0≤(0:Int)∧(0:Int)≤(((idx a1 a2).args).length:Int)∧(((idx a1 a2).args).length:Int)≤(a3.length:Int)) ((gU ((idx a1 a2).args) (jW a3 (0:Int) (((idx a1 a2).args).length:Int))).bind fun a6=>bif !a6 then pq a1 a3 a4 a2 true else ((slices_Contains_int a4 ((idx a1 a2).txn)).bind fun a5=>pq a1 a3 a4 a2 a5))))) else (out (some (a4,true)))
def gu (a0:List Int) (a1:List bu):Option (List Int×Bool) :=
 iter (vz a1) (a0,[])
def xn (a1:Int) (a2:List Int) (a3:List (Int×Unit)):Option ((List Int×(List (Int×Unit))×Int) ⊕ (((List (Int×Unit))×Int) ⊕ (List Int×Bool))) :=
 some (.inl (a2,a3,w64 (a1 + 1)))
def xq (a3:Int) (a2:List (Int×Unit)) (a1:Int):Option (((List (Int×Unit))×Int×Int) ⊕ ((List Int×(List (Int×Unit))×Int) ⊕ (((List (Int×Unit))×Int) ⊕ (List Int×Bool)))) :=
 some (.inl (a2,a1,w64 (a3 + 1)))
def xu (a1:List bu) (a2:List Int) (a3:Int) (a4:List (Int×Unit)) (a5:Int) (a6:Bool):Option (((List (Int×Unit))×Int×Int) ⊕ ((List Int×(List (Int×Unit))×Int) ⊕ (((List (Int×Unit))×Int) ⊕ (List Int×Bool)))) :=
 bif a6 then out (out (out (some (([]:List Int),false)))) else (bif decide (a5 > 0) then must (((a2.length + 1) + (a2.length + 1) / 4 + 192) * 8≤281474976710656∧a2.length + 1≤9223372036854775807) (out (xn a3 (a2++([(idx a1 a3).txn]:List Int)) a4)) else (out (xn a3 a2 a4)))
def zR (a1:List bu) (a6:List Int) (a3:Int):((List (Int×Unit))×Int×Int)→Option (((List (Int×Unit))×Int×Int) ⊕ ((List Int×(List (Int×Unit))×Int) ⊕ (((List (Int×Unit))×Int) ⊕ (List Int×Bool))))
 | (a5,a4,a2)=>bif decide (a2 < (((idx a1 a3).args).length:Int)) then must (0≤a2∧a2 < (((idx a1 a3).args).length:Int)) (bif jX a5 (idx ((idx a1 a3).args) a2) then xq a2 (HY a5 (idx ((idx a1 a3).args) a2)) (w64 (a4 + 1)) else (xq a2 a5 a4)) else (bif decide (a4 > 0) then xu a1 a6 a3 a5 a4 (decide (a4 < (((idx a1 a3).args).length:Int))) else (xu a1 a6 a3 a5 a4 false))
def zS (a1:List bu):(List Int×(List (Int×Unit))×Int)→Option ((List Int×(List (Int×Unit))×Int) ⊕ (((List (Int×Unit))×Int) ⊕ (List Int×Bool)))
 | (a4,a3,a2)=>bif decide (a2 < (a1.length:Int)) then must (0≤a2∧a2 < (a1.length:Int)) (iter (zR a1 a4 a2) (a3,0,0)) else (bif decide ((a3.length:Int) > 0) then out (out (some (([]:List Int),false))) else (out (out (some (a4,true)))))
def zT (a0:List Int) (a1:List bu):((List (Int×Unit))×Int)→Option (((List (Int×Unit))×Int) ⊕ (List Int×Bool))
 | (a3,a2)=>bif decide (a2 < (a0.length:Int)) then must (0≤a2∧a2 < (a0.length:Int)) (some (.inl (iE a3 (idx a0 a2) (),w64 (a2 + 1)))) else (iter (zS a1) ([],a3,0))
def dE (a0:List Int) (a1:List bu):Option (List Int×Bool) :=
 iter (zT a0 a1) ([],0)
def jk (a0:History) (a1:Ask):Option (List Int×Bool) :=
 (gV a0 a1.Key).bind fun a3=>bif (a3 == 2) then (dC a0 a1).bind fun a5=>(gu a1.Base a5).bind fun a4=>some (a4.1,a4.2) else (bif (a3 == 3) then (dC a0 a1).bind fun a6=>(dE a1.Base a6).bind fun a2=>some (a2.1,a2.2) else (some (([]:List Int),false)))
def tX (a0:Int) (a2:Int) (a3:List bu) (a4:Int) (rec:Int→Int→Int→(List bu)→Int→Int→Option Int) (a7:Int):(Int×Int)→Option ((Int×Int) ⊕ Int)
 | (a5,a1)=>bif decide (a1 < (((idx a3 a0).args).length:Int)) then must (0≤a1∧a1 < (((idx a3 a0).args).length:Int)) (some (.inl (w64 (a5 + (idx ((idx a3 a0).args) a1)),w64 (a1 + 1)))) else (must (0≤a0∧a0 < (far:Int)) ((rec (w64 (a0 + 1)) a5 (bOr .u64 a2 (HV .u64 1 a0)) a3 a4 a7).bind fun a6=>out (some a6)))
def mM (rec:Int→Int→Int→(List bu)→Int→Int→Option Int) (a0:Int) (a1:Int) (a2:Int) (a3:List bu) (a4:Int) (a5:Int):Option Int :=
 bif (a0 == (a3.length:Int)) then bif (a1 == a4) then some (bOr .u64 a5 a2) else (some a5) else ((rec (w64 (a0 + 1)) a1 a2 a3 a4 a5).bind fun a6=>must (0≤a0∧a0 < (a3.length:Int)) (iter (tX a0 a2 a3 a4 rec a6) (a1,0)))
def jb:Nat→Int→Int→Int→(List bu)→Int→Int→Option Int
 | 0=>fun _ _ _ _ _ _=>none
 | k + 1=>mM (jb k)
def bU (a0:Int) (a1:Int) (a2:Int) (a3:List bu) (a4:Int) (a5:Int):Option Int:=jb 64 a0 a1 a2 a3 a4 a5
def qY (a2:Int) (a1:List Int):Option ((List Int×Int) ⊕ (List Int)) :=
 some (.inl (a1,w64 (a2 + 1)))
def vC (a1:List bu) (a4:Int):(List Int×Int)→Option ((List Int×Int) ⊕ (List Int))
 | (a3,a2)=>bif decide (a2 < (a1.length:Int)) then must (0≤a2∧a2 < (a1.length:Int)) (must (0≤a2∧a2 < (far:Int)) (bif (dm .u64 (gp .u64 a4 a2) 1 == 1) then must (((a3.length + 1) + (a3.length + 1) / 4 + 192) * 8≤281474976710656∧a3.length + 1≤9223372036854775807) (qY a2 (a3++([(idx a1 a2).txn]:List Int))) else (qY a2 a3))) else (out (some a3))
def fO (a0:Int) (a1:List bu):Option (List Int) :=
 (bU 0 0 0 a1 a0 0).bind fun a2=>iter (vC a1 a2) ([],0)
def iw (a1:List Int):Option (List Int) :=
 some a1
def qZ (a0:History) (a1:Ask) (a2:List Int):Option (List Int) :=
 must (0≤(0:Int)∧(0:Int) < (a1.Base.length:Int)) ((dC a0 a1).bind fun a4=>(fO (idx a1.Base (0:Int)) a4).bind fun a3=>must (((a2.length + a3.length) + (a2.length + a3.length) / 4 + 192) * 8≤281474976710656∧a2.length + a3.length≤9223372036854775807) (iw (a2++a3)))
def rf (a2:Int) (a1:List Int):Option ((List Int×Int) ⊕ (List Int)) :=
 some (.inl (a1,w64 (a2 + 1)))
def rq (a1:Ask) (a3:List bu):(List Int×Int)→Option ((List Int×Int) ⊕ (List Int))
 | (a4,a2)=>bif decide (a2 < (a3.length:Int)) then must (0≤a2∧a2 < (a3.length:Int)) (must (0≤w64 ((((idx a3 a2).args).length:Int) - 1)∧w64 ((((idx a3 a2).args).length:Int) - 1) < (((idx a3 a2).args).length:Int)) (must (0≤(0:Int)∧(0:Int) < (a1.Base.length:Int)) (bif (idx ((idx a3 a2).args) (w64 ((((idx a3 a2).args).length:Int) - 1)) == idx a1.Base (0:Int)) then must (((a4.length + 1) + (a4.length + 1) / 4 + 192) * 8≤281474976710656∧a4.length + 1≤9223372036854775807) (rf a2 (a4++([(idx a3 a2).txn]:List Int))) else (rf a2 a4)))) else (out (iw a4))
def bF (a0:History) (a1:Ask):Option (List Int) :=
 (gV a0 a1.Key).bind fun a3=>bif (a3 == 4) then must (0≤(0:Int)∧(0:Int) < (a1.Base.length:Int)) (bif (idx a1.Base (0:Int) == 0) then must (((0 + 1) + (0 + 1) / 4 + 192) * 8≤281474976710656∧0 + 1≤9223372036854775807) (qZ a0 a1 (([]:List Int)++([(-1)]:List Int))) else (qZ a0 a1 [])) else (bif ((a1.Base.length:Int) == 0) then iw ([(-1)]:List Int) else (bif (a3 == 1) then (dC a0 a1).bind fun a4=>iter (rq a1 a4) ([],0) else (bif (a3 == 2) then (jk a0 a1).bind fun a2=>bif a2.2 then must (0≤(w64 ((a2.1.length:Int) - 1))∧(w64 ((a2.1.length:Int) - 1))≤(a2.1.length:Int)∧(a2.1.length:Int)≤(a2.1.length:Int)) (iw (jW a2.1 (w64 ((a2.1.length:Int) - 1)) (a2.1.length:Int))) else (iw []) else ((jk a0 a1).bind fun a5=>iw a5.1))))
def rY (a0:Ask) (a1:Ask):Option Bool :=
 bif (a1.Txn == a0.Txn) then bif (a1.Place == a0.Place) then bif (a1.Key == a0.Key) then (gU a1.Base a0.Base).bind fun a2=>some a2 else (some false) else (some false) else (some false)
def iI (a0:List Ask) (a1c0:Ask):Int→Option (Int ⊕ Int)
 | a1=>bif decide (a1 < (a0.length:Int)) then must (0≤a1∧a1 < (a0.length:Int)) ((rY (idx a0 a1) a1c0).bind fun a2=>bif a2 then out (some a1) else (some (.inl (w64 (a1 + 1))))) else (out (some (-1)))
def cz (a0:List Ask) (a1c0:Ask):Option Int :=
 iter (iI a0 a1c0) 0
def eU (a0:List Ask) (a1c0:Ask):Option Bool :=
 (cz a0 a1c0).bind fun y3=>some (decide (y3 ≥ 0))
def tq (a0:History) (a1:Ask):Option Int :=
 (mq a0).bind fun y9=>bif (y9.2 != 0) then some y9.2 else ((eU y9.1 a1).bind fun a2=>bif a2 then some 0 else (some 1))
def rZ (a0:History) (a1:Ask):Option (List Int×Int) :=
 (tq a0 a1).bind fun a2=>bif (a2 != 0) then some (([]:List Int),a2) else ((bF a0 a1).bind fun a3=>some (a3,0))
def vD (a0:History) (a1:Ask):Option (List Int×Bool×Int) :=
 (tq a0 a1).bind fun a3=>bif (a3 != 0) then some (([]:List Int),false,a3) else ((jk a0 a1).bind fun a2=>some (a2.1,a2.2,0))
def jY (a0:aL) (a1:Int):Option Bool :=
 must (0≤a1∧a1 < (a0.h.Txns.length:Int)) (some ((idx a0.h.Txns a1).Status == 1))
def gX (a0:aL) (a1:Int) (a2:Int) (a3:Int) (a4:Int):Option aL :=
 must (((a0.edges.length + 1) + (a0.edges.length + 1) / 4 + 192) * 32≤281474976710656∧a0.edges.length + 1≤9223372036854775807) (some (⟨a0.h,a0.asks,a0.edges++([(⟨a1,a2,a3,a4⟩:Edge)]:List Edge)⟩:aL))
def lQ (a1:Int) (a3:List Int) (a2:List (Int×Int)):Option ((List Int×(List (Int×Int))×Int) ⊕ aL) :=
 some (.inl (a3,a2,w64 (a1 - 1)))
def lS (a0:aL) (a2:List (Int×Int)) (a1:Int) (a3:List Int):Option ((List Int×(List (Int×Int))×Int) ⊕ aL) :=
 must (0≤a1∧a1 < (a0.h.Txns.length:Int)) (lQ a1 a3 (iE a2 ((idx a0.h.Txns a1).Proc) a1))
def lT (a1:Int) (a2:List Edge):Option ((List Edge×Int) ⊕ ((List Int×(List (Int×Int))×Int) ⊕ aL)) :=
 some (.inl (a2,w64 (a1 + 1)))
def lU (a0:aL) (a2:List Int):(List Edge×Int)→Option ((List Edge×Int) ⊕ ((List Int×(List (Int×Int))×Int) ⊕ aL))
 | (a3,a1)=>bif decide (a1 < (a2.length:Int)) then must (0≤a1∧a1 < (a2.length:Int)) (bif decide (idx a2 a1 ≥ 0) then (gX (⟨a0.h,a0.asks,a3⟩:aL) a1 (idx a2 a1) 1 (-1)).bind fun a4=>lT a1 a4.edges else (lT a1 a3)) else (out (out (some (⟨a0.h,a0.asks,a3⟩:aL))))
def lV (a0:aL):(List Int×(List (Int×Int))×Int)→Option ((List Int×(List (Int×Int))×Int) ⊕ aL)
 | (a2,a3,a1)=>bif decide (a1 ≥ 0) then must (0≤a1∧a1 < (a2.length:Int)) ((jY a0 a1).bind fun a4=>bif !a4 then lQ a1 (a2.set a1.toNat (-1)) a3 else (must (0≤a1∧a1 < (a0.h.Txns.length:Int)) (bif jX a3 ((idx a0.h.Txns a1).Proc) then must (0≤a1∧a1 < ((a2.set a1.toNat (-1)).length:Int)) (lS a0 a3 a1 ((a2.set a1.toNat (-1)).set a1.toNat (mat a3 ((idx a0.h.Txns a1).Proc)))) else (lS a0 a3 a1 (a2.set a1.toNat (-1)))))) else (iter (lU a0 a2) (a0.edges,0))
def bq (a0:aL):Option aL :=
 must (0≤(a0.h.Txns.length:Int)∧(a0.h.Txns.length:Int)≤9223372036854775807∧(8:Int) * (a0.h.Txns.length:Int)≤281474976710656) (iter (lV a0) (List.replicate (a0.h.Txns.length:Int).toNat (default:Int),[],w64 (((a0.h.Txns.length:Int).toNat:Int) - 1)))
def pY (a2:Int) (a1:List Edge):Option ((List Edge×Int) ⊕ ((List Edge×Int) ⊕ aL)) :=
 some (.inl (a1,w64 (a2 + 1)))
def mr (a0:aL) (a4:Int) (a2:List Edge) (a1:Int) (a5:Bool):Option ((List Edge×Int) ⊕ ((List Edge×Int) ⊕ aL)) :=
 bif a5 then (gX (⟨a0.h,a0.asks,a2⟩:aL) a4 a1 2 (-1)).bind fun a3=>pY a1 a3.edges else (pY a1 a2)
def uG (a0:aL) (a3:Int):(List Edge×Int)→Option ((List Edge×Int) ⊕ ((List Edge×Int) ⊕ aL))
 | (a2,a1)=>bif decide (a1 < (a0.h.Txns.length:Int)) then must (0≤a1∧a1 < (a0.h.Txns.length:Int)) ((jY (⟨a0.h,a0.asks,a2⟩:aL) a3).bind fun a5=>bif a5 then (jY (⟨a0.h,a0.asks,a2⟩:aL) a1).bind fun a4=>bif a4 then mr a0 a3 a2 a1 (decide ((idx a0.h.Txns a3).To < (idx a0.h.Txns a1).From)) else (mr a0 a3 a2 a1 false) else (mr a0 a3 a2 a1 false)) else (out (some (.inl (a2,w64 (a3 + 1)))))
def uH (a0:aL):(List Edge×Int)→Option ((List Edge×Int) ⊕ aL)
 | (a2,a1)=>bif decide (a1 < (a0.h.Txns.length:Int)) then must (0≤a1∧a1 < (a0.h.Txns.length:Int)) (iter (uG a0 a1) (a2,0)) else (out (some (⟨a0.h,a0.asks,a2⟩:aL)))
def cO (a0:aL):Option aL :=
 iter (uH a0) (a0.edges,0)
def mf (a0:Int) (a1:aV) (a2:aL):Option Bool :=
 bif (a0 == a1.Ask.Txn) then some true else ((jY a2 a0).bind fun y5=>some (!y5))
def nE (a0:aV) (a1:Int):Option Bool :=
 bif ((a0.sources.length:Int) == 1) then must (0≤(0:Int)∧(0:Int) < (a0.sources.length:Int)) (some (idx a0.sources (0:Int) == a1)) else (some false)
def nK (a0:aV) (a1:Int) (a2:aV):Option Bool :=
 bif (a0.Ask.Txn == a1) then bif (a0.Ask.Key == a2.Ask.Key) then must (0≤(0:Int)∧(0:Int) < (a2.sources.length:Int)) ((nE a0 (idx a2.sources (0:Int))).bind fun a3=>some a3) else (some false) else (some false)
def gM (a0:List aV) (a1c0:Int) (a1c1:aV):Int→Option (Int ⊕ Int)
 | a1=>bif decide (a1 < (a0.length:Int)) then must (0≤a1∧a1 < (a0.length:Int)) ((nK (⟨((idx a0 a1).Ask),(idx a0 a1).sources,(idx a0 a1).parts,(idx a0 a1).made,(idx a0 a1).kind⟩:aV) a1c0 a1c1).bind fun a2=>bif a2 then out (some a1) else (some (.inl (w64 (a1 + 1))))) else (out (some (-1)))
def bK (a0:List aV) (a1c0:Int) (a1c1:aV):Option Int :=
 iter (gM a0 a1c0 a1c1) 0
def dQ (a0:List aV) (a1c0:Int) (a1c1:aV):Option Bool :=
 (bK a0 a1c0 a1c1).bind fun y3=>some (decide (y3 ≥ 0))
def jo (a0:aL) (a1:aV) (a2:Int) (a4:Bool):Option Bool :=
 bif a4 then some false else ((dQ a0.asks a2 a1).bind fun a3=>some a3)
def fI (a0:aL) (a1:aV) (a2:Int):Option Bool :=
 (nE a1 (-1)).bind fun a4=>bif a4 then some true else (bif a1.made then (slices_Contains_int a1.parts a2).bind fun a3=>some (!a3) else (bif (a1.kind != 1) then jo a0 a1 a2 true else (bif ((a1.sources.length:Int) != 1) then jo a0 a1 a2 true else (must (0≤(0:Int)∧(0:Int) < (a1.sources.length:Int)) (jo a0 a1 a2 (idx a1.sources (0:Int) == a2))))))
def ik (a0:List Int) (a1c0:aV) (a1c1:aL):Int→Option (Int ⊕ Int)
 | a1=>bif decide (a1 < (a0.length:Int)) then must (0≤a1∧a1 < (a0.length:Int)) ((mf (idx a0 a1) a1c0 a1c1).bind fun a2=>bif a2 then out (some a1) else (some (.inl (w64 (a1 + 1))))) else (out (some (-1)))
def bV (a0:List Int) (a1c0:aV) (a1c1:aL):Option Int :=
 iter (ik a0 a1c0 a1c1) 0
def gY (a0:List Int) (a1c0:aV) (a1c1:aL):List Int×Int→Option ((List Int×Int) ⊕ List Int)
 | (l,x)=>bif decide (x < (a0.length:Int)) then must (0≤x∧x < (a0.length:Int)) ((mf (idx a0 x) a1c0 a1c1).bind fun y=>bif !y then (some (.inl (l++[idx a0 x],w64 (x + 1)))) else (some (.inl (l,w64 (x + 1))))) else (out (some l))
def bR (a0:List Int) (a1c0:aV) (a1c1:aL):Option (List Int) :=
 (bV a0 a1c0 a1c1).bind fun i=>bif i == -1 then some a0 else must (0≤i∧i < (a0.length:Int)) (iter (gY a0 a1c0 a1c1) (a0.take i.toNat,w64 (i + 1)))
def ru (a2:Int) (a1:List Edge):Option ((List Edge×Int) ⊕ aL) :=
 some (.inl (a1,w64 (a2 + 1)))
def vE (a0:aL) (a1:aV) (a4:List Int):(List Edge×Int)→Option ((List Edge×Int) ⊕ aL)
 | (a3,a2)=>bif decide (a2 < (a4.length:Int)) then must (0≤a2∧a2 < (a4.length:Int)) ((fI (⟨a0.h,a0.asks,a3⟩:aL) a1 (idx a4 a2)).bind fun a6=>bif a6 then (gX (⟨a0.h,a0.asks,a3⟩:aL) a1.Ask.Txn (idx a4 a2) 16 a1.Ask.Key).bind fun a5=>ru a2 a5.edges else (ru a2 a3)) else (out (some (⟨a0.h,a0.asks,a3⟩:aL)))
def lq (a0:aL) (a1:aV) (a2:List Int) (a3:List Edge):Option aL :=
 iter (vE a0 a1 a2) (a3,0)
def nL (a2:Int) (a1:List Edge):Option ((List Edge×Int) ⊕ aL) :=
 some (.inl (a1,w64 (a2 + 1)))
def ry (a1:Int) (a2:List Edge):Option ((List Edge×Int) ⊕ ((List Edge×Int) ⊕ aL)) :=
 some (.inl (a2,w64 (a1 + 1)))
def rz (a0:aL) (a1:aV) (a3:List Int) (a5:Int):(List Edge×Int)→Option ((List Edge×Int) ⊕ ((List Edge×Int) ⊕ aL))
 | (a4,a2)=>bif decide (a2 < (a3.length:Int)) then must (0≤a2∧a2 < (a3.length:Int)) ((slices_Contains_int a1.parts (idx a3 a2)).bind fun a6=>bif !a6 then (gX (⟨a0.h,a0.asks,a4⟩:aL) (idx a1.parts a5) (idx a3 a2) 8 a1.Ask.Key).bind fun a7=>ry a2 a7.edges else (ry a2 a4)) else (out (nL a5 a4))
def rA (a0:aL) (a1:aV) (a4:List Int) (a3:List Edge) (a2:Int) (a6:Bool):Option ((List Edge×Int) ⊕ aL) :=
 bif a6 then must (0≤w64 (a2 + 1)∧w64 (a2 + 1) < (a1.parts.length:Int)) ((gX (⟨a0.h,a0.asks,a3⟩:aL) (idx a1.parts a2) (idx a1.parts (w64 (a2 + 1))) 8 a1.Ask.Key).bind fun a5=>nL a2 a5.edges) else (iter (rz a0 a1 a4 a2) (a3,0))
def rC (a0:aL) (a1:aV) (a3:List Int):(List Edge×Int)→Option ((List Edge×Int) ⊕ aL)
 | (a4,a2)=>bif decide (a2 < (a1.parts.length:Int)) then must (0≤a2∧a2 < (a1.parts.length:Int)) (bif (a1.kind == 2) then rA a0 a1 a3 a4 a2 (decide (w64 (a2 + 1) < (a1.parts.length:Int))) else (rA a0 a1 a3 a4 a2 false)) else (out (lq a0 a1 a3 a4))
def jI (a0:aL) (a1:aV) (a2:List Edge):Option aL :=
 (eD a0.h a1.Ask.Key).bind fun a4=>(bR a4 a1 (⟨a0.h,a0.asks,a2⟩:aL)).bind fun a3=>bif a1.made then iter (rC a0 a1 a3) (a2,0) else (lq a0 a1 a3 a2)
def iJ (a0:aL) (a1:aV) (a2:Bool):Option aL :=
 bif a2 then must (0≤(0:Int)∧(0:Int) < (a1.sources.length:Int)) ((gX a0 (idx a1.sources (0:Int)) a1.Ask.Txn 4 a1.Ask.Key).bind fun a3=>jI a0 a1 a3.edges) else (jI a0 a1 a0.edges)
def aI (a0:aL) (a1:aV):Option aL :=
 bif ((a1.sources.length:Int) == 1) then must (0≤(0:Int)∧(0:Int) < (a1.sources.length:Int)) (iJ a0 a1 (decide (idx a1.sources (0:Int) ≥ 0))) else (iJ a0 a1 false)
def zU (a2:Int) (a1:List aV):Option ((List aV×Int) ⊕ (dP×Int)) :=
 some (.inl (a1,w64 (a2 + 1)))
def xw (a4:List Ask×Int) (a1:List aV) (a2:Int) (a6:Int) (a7:List Int×Int) (a5:List Int×Bool×Int) (a3:Bool):Option ((List aV×Int) ⊕ (dP×Int)) :=
 must (((a1.length + 1) + (a1.length + 1) / 4 + 192) * 112≤281474976710656∧a1.length + 1≤9223372036854775807) (zU a2 (a1++([(⟨(idx a4.1 a2),a7.1,a5.1,a3,a6⟩:aV)]:List aV)))
def zV (a0:History) (a1:List Ask×Int) (a5:List aV) (a2:Int) (a4:Int):Option ((List aV×Int) ⊕ (dP×Int)) :=
 (rZ a0 (idx a1.1 a2)).bind fun a6=>(vD a0 (idx a1.1 a2)).bind fun a3=>bif a3.2.1 then xw a1 a5 a2 a4 a6 a3 (decide ((((idx a1.1 a2).Base).length:Int) > 0)) else (xw a1 a5 a2 a4 a6 a3 false)
def xx (a0:History) (a2:List aV):(List Edge×Int)→Option ((List Edge×Int) ⊕ ((List aV×Int) ⊕ (dP×Int)))
 | (a3,a1)=>bif decide (a1 < (a2.length:Int)) then must (0≤a1∧a1 < (a2.length:Int)) ((aI (⟨a0,a2,a3⟩:aL) (⟨((idx a2 a1).Ask),(idx a2 a1).sources,(idx a2 a1).parts,(idx a2 a1).made,(idx a2 a1).kind⟩:aV)).bind fun a4=>some (.inl (a4.edges,w64 (a1 + 1)))) else (out (out (some ((⟨(a0.Txns.length:Int),a3⟩:dP),0))))
def zW (a0:History) (a2:List Ask×Int):(List aV×Int)→Option ((List aV×Int) ⊕ (dP×Int))
 | (a3,a1)=>bif decide (a1 < (a2.1.length:Int)) then must (0≤a1∧a1 < (a2.1.length:Int)) ((gV a0 ((idx a2.1 a1).Key)).bind fun a6=>zV a0 a2 a3 a1 a6) else ((bq (⟨a0,a3,([]:List Edge)⟩:aL)).bind fun a5=>(cO (⟨a0,a3,a5.edges⟩:aL)).bind fun a4=>iter (xx a0 a3) (a4.edges,0))
def eu (a0:History):Option (dP×Int) :=
 (mq a0).bind fun a1=>bif (a1.2 != 0) then some ((⟨0,([]:List Edge)⟩:dP),a1.2) else (iter (zW a0 a1) ([],0))
def yx (a0:History):Option (List Spot×Int) :=
 (qJ a0).bind fun a1=>some (a1.1.bad,a1.2)
def si (a0:List Spot) (a1:Spot):Int→Option (Int ⊕ Int)
 | a2=>bif decide (a2 < (a0.length:Int)) then must (0≤a2∧a2 < (a0.length:Int)) (bif ((a1.Txn == (idx a0 a2).Txn) && ((a1.Place == (idx a0 a2).Place) && true)) then out (some a2) else (some (.inl (w64 (a2 + 1))))) else (out (some (-1)))
def iy (a0:List Spot) (a1:Spot):Option Int :=
 iter (si a0 a1) 0
def kT (a0:List Spot) (a1:Spot):Option Bool :=
 (iy a0 a1).bind fun y5=>some (decide (y5 ≥ 0))
def pu (a0:Ask) (a1:History):Option Bool :=
 (bF a1 a0).bind fun y7=>some (decide ((y7.length:Int) > 0))
def iK (a0:List Ask) (a1c0:History):Int→Option (Int ⊕ Int)
 | a1=>bif decide (a1 < (a0.length:Int)) then must (0≤a1∧a1 < (a0.length:Int)) ((pu (idx a0 a1) a1c0).bind fun a2=>bif a2 then out (some a1) else (some (.inl (w64 (a1 + 1))))) else (out (some (-1)))
def cB (a0:List Ask) (a1c0:History):Option Int :=
 iter (iK a0 a1c0) 0
def iD (a0:List Ask) (a1c0:History):List Ask×Int→Option ((List Ask×Int) ⊕ List Ask)
 | (l,x)=>bif decide (x < (a0.length:Int)) then must (0≤x∧x < (a0.length:Int)) ((pu (idx a0 x) a1c0).bind fun y=>bif !y then (some (.inl (l++[idx a0 x],w64 (x + 1)))) else (some (.inl (l,w64 (x + 1))))) else (out (some l))
def bM (a0:List Ask) (a1c0:History):Option (List Ask) :=
 (cB a0 a1c0).bind fun i=>bif i == -1 then some a0 else must (0≤i∧i < (a0.length:Int)) (iter (iD a0 a1c0) (a0.take i.toNat,w64 (i + 1)))
def tu (a0:History):Option (List Ask×Int) :=
 (mq a0).bind fun y7=>bif (y7.2 != 0) then some (([]:List Ask),y7.2) else ((bM y7.1 a0).bind fun a1=>some (a1,0))
def xW (a0:Ask) (a1:dA):Option Bool :=
 some ((a0.Txn == a1.Spot.Txn) && ((a0.Place == a1.Spot.Place) && true))
def qK (a0:Int) (a1:dP):Option Bool :=
 bif decide (a0 ≥ 0) then some (decide (a0 < a1.N)) else (some false)
def wS (a0:Int):Option Int :=
 must (0≤(1:Int)∧(1:Int) < (far:Int)) (must (0≤(2:Int)∧(2:Int) < (far:Int)) (must (0≤(4:Int)∧(4:Int) < (far:Int)) (must (0≤(8:Int)∧(8:Int) < (far:Int)) (must (0≤(16:Int)∧(16:Int) < (far:Int)) (must (0≤(32:Int)∧(32:Int) < (far:Int)) (some (dm .i64 (w64 (IntKind.wrap .u64 ((IntKind.wrap .u64 ((IntKind.wrap .u64 ((dm .u64 (IntKind.wrap .u64 ((gp .u64 (IntKind.wrap .u64 ((dm .u64 (gp .u64 (IntKind.wrap .u64 ((dm .u64 (gp .u64 a0 (1:Int)) 6148914691236517205) + (dm .u64 a0 6148914691236517205))) (2:Int)) 3689348814741910323) + (dm .u64 (IntKind.wrap .u64 ((dm .u64 (gp .u64 a0 (1:Int)) 6148914691236517205) + (dm .u64 a0 6148914691236517205))) 3689348814741910323))) (4:Int)) + (IntKind.wrap .u64 ((dm .u64 (gp .u64 (IntKind.wrap .u64 ((dm .u64 (gp .u64 a0 (1:Int)) 6148914691236517205) + (dm .u64 a0 6148914691236517205))) (2:Int)) 3689348814741910323) + (dm .u64 (IntKind.wrap .u64 ((dm .u64 (gp .u64 a0 (1:Int)) 6148914691236517205) + (dm .u64 a0 6148914691236517205))) 3689348814741910323))))) 1085102592571150095) + (gp .u64 (dm .u64 (IntKind.wrap .u64 ((gp .u64 (IntKind.wrap .u64 ((dm .u64 (gp .u64 (IntKind.wrap .u64 ((dm .u64 (gp .u64 a0 (1:Int)) 6148914691236517205) + (dm .u64 a0 6148914691236517205))) (2:Int)) 3689348814741910323) + (dm .u64 (IntKind.wrap .u64 ((dm .u64 (gp .u64 a0 (1:Int)) 6148914691236517205) + (dm .u64 a0 6148914691236517205))) 3689348814741910323))) (4:Int)) + (IntKind.wrap .u64 ((dm .u64 (gp .u64 (IntKind.wrap .u64 ((dm .u64 (gp .u64 a0 (1:Int)) 6148914691236517205) + (dm .u64 a0 6148914691236517205))) (2:Int)) 3689348814741910323) + (dm .u64 (IntKind.wrap .u64 ((dm .u64 (gp .u64 a0 (1:Int)) 6148914691236517205) + (dm .u64 a0 6148914691236517205))) 3689348814741910323))))) 1085102592571150095) (8:Int)))) + (gp .u64 (IntKind.wrap .u64 ((dm .u64 (IntKind.wrap .u64 ((gp .u64 (IntKind.wrap .u64 ((dm .u64 (gp .u64 (IntKind.wrap .u64 ((dm .u64 (gp .u64 a0 (1:Int)) 6148914691236517205) + (dm .u64 a0 6148914691236517205))) (2:Int)) 3689348814741910323) + (dm .u64 (IntKind.wrap .u64 ((dm .u64 (gp .u64 a0 (1:Int)) 6148914691236517205) + (dm .u64 a0 6148914691236517205))) 3689348814741910323))) (4:Int)) + (IntKind.wrap .u64 ((dm .u64 (gp .u64 (IntKind.wrap .u64 ((dm .u64 (gp .u64 a0 (1:Int)) 6148914691236517205) + (dm .u64 a0 6148914691236517205))) (2:Int)) 3689348814741910323) + (dm .u64 (IntKind.wrap .u64 ((dm .u64 (gp .u64 a0 (1:Int)) 6148914691236517205) + (dm .u64 a0 6148914691236517205))) 3689348814741910323))))) 1085102592571150095) + (gp .u64 (dm .u64 (IntKind.wrap .u64 ((gp .u64 (IntKind.wrap .u64 ((dm .u64 (gp .u64 (IntKind.wrap .u64 ((dm .u64 (gp .u64 a0 (1:Int)) 6148914691236517205) + (dm .u64 a0 6148914691236517205))) (2:Int)) 3689348814741910323) + (dm .u64 (IntKind.wrap .u64 ((dm .u64 (gp .u64 a0 (1:Int)) 6148914691236517205) + (dm .u64 a0 6148914691236517205))) 3689348814741910323))) (4:Int)) + (IntKind.wrap .u64 ((dm .u64 (gp .u64 (IntKind.wrap .u64 ((dm .u64 (gp .u64 a0 (1:Int)) 6148914691236517205) + (dm .u64 a0 6148914691236517205))) (2:Int)) 3689348814741910323) + (dm .u64 (IntKind.wrap .u64 ((dm .u64 (gp .u64 a0 (1:Int)) 6148914691236517205) + (dm .u64 a0 6148914691236517205))) 3689348814741910323))))) 1085102592571150095) (8:Int)))) (16:Int)))) + (gp .u64 (IntKind.wrap .u64 ((IntKind.wrap .u64 ((dm .u64 (IntKind.wrap .u64 ((gp .u64 (IntKind.wrap .u64 ((dm .u64 (gp .u64 (IntKind.wrap .u64 ((dm .u64 (gp .u64 a0 (1:Int)) 6148914691236517205) + (dm .u64 a0 6148914691236517205))) (2:Int)) 3689348814741910323) + (dm .u64 (IntKind.wrap .u64 ((dm .u64 (gp .u64 a0 (1:Int)) 6148914691236517205) + (dm .u64 a0 6148914691236517205))) 3689348814741910323))) (4:Int)) + (IntKind.wrap .u64 ((dm .u64 (gp .u64 (IntKind.wrap .u64 ((dm .u64 (gp .u64 a0 (1:Int)) 6148914691236517205) + (dm .u64 a0 6148914691236517205))) (2:Int)) 3689348814741910323) + (dm .u64 (IntKind.wrap .u64 ((dm .u64 (gp .u64 a0 (1:Int)) 6148914691236517205) + (dm .u64 a0 6148914691236517205))) 3689348814741910323))))) 1085102592571150095) + (gp .u64 (dm .u64 (IntKind.wrap .u64 ((gp .u64 (IntKind.wrap .u64 ((dm .u64 (gp .u64 (IntKind.wrap .u64 ((dm .u64 (gp .u64 a0 (1:Int)) 6148914691236517205) + (dm .u64 a0 6148914691236517205))) (2:Int)) 3689348814741910323) + (dm .u64 (IntKind.wrap .u64 ((dm .u64 (gp .u64 a0 (1:Int)) 6148914691236517205) + (dm .u64 a0 6148914691236517205))) 3689348814741910323))) (4:Int)) + (IntKind.wrap .u64 ((dm .u64 (gp .u64 (IntKind.wrap .u64 ((dm .u64 (gp .u64 a0 (1:Int)) 6148914691236517205) + (dm .u64 a0 6148914691236517205))) (2:Int)) 3689348814741910323) + (dm .u64 (IntKind.wrap .u64 ((dm .u64 (gp .u64 a0 (1:Int)) 6148914691236517205) + (dm .u64 a0 6148914691236517205))) 3689348814741910323))))) 1085102592571150095) (8:Int)))) + (gp .u64 (IntKind.wrap .u64 ((dm .u64 (IntKind.wrap .u64 ((gp .u64 (IntKind.wrap .u64 ((dm .u64 (gp .u64 (IntKind.wrap .u64 ((dm .u64 (gp .u64 a0 (1:Int)) 6148914691236517205) + (dm .u64 a0 6148914691236517205))) (2:Int)) 3689348814741910323) + (dm .u64 (IntKind.wrap .u64 ((dm .u64 (gp .u64 a0 (1:Int)) 6148914691236517205) + (dm .u64 a0 6148914691236517205))) 3689348814741910323))) (4:Int)) + (IntKind.wrap .u64 ((dm .u64 (gp .u64 (IntKind.wrap .u64 ((dm .u64 (gp .u64 a0 (1:Int)) 6148914691236517205) + (dm .u64 a0 6148914691236517205))) (2:Int)) 3689348814741910323) + (dm .u64 (IntKind.wrap .u64 ((dm .u64 (gp .u64 a0 (1:Int)) 6148914691236517205) + (dm .u64 a0 6148914691236517205))) 3689348814741910323))))) 1085102592571150095) + (gp .u64 (dm .u64 (IntKind.wrap .u64 ((gp .u64 (IntKind.wrap .u64 ((dm .u64 (gp .u64 (IntKind.wrap .u64 ((dm .u64 (gp .u64 a0 (1:Int)) 6148914691236517205) + (dm .u64 a0 6148914691236517205))) (2:Int)) 3689348814741910323) + (dm .u64 (IntKind.wrap .u64 ((dm .u64 (gp .u64 a0 (1:Int)) 6148914691236517205) + (dm .u64 a0 6148914691236517205))) 3689348814741910323))) (4:Int)) + (IntKind.wrap .u64 ((dm .u64 (gp .u64 (IntKind.wrap .u64 ((dm .u64 (gp .u64 a0 (1:Int)) 6148914691236517205) + (dm .u64 a0 6148914691236517205))) (2:Int)) 3689348814741910323) + (dm .u64 (IntKind.wrap .u64 ((dm .u64 (gp .u64 a0 (1:Int)) 6148914691236517205) + (dm .u64 a0 6148914691236517205))) 3689348814741910323))))) 1085102592571150095) (8:Int)))) (16:Int)))) (32:Int))))) 127)))))))
def pz (a0:Int):Option Int :=
 (wS a0).bind fun y3=>some y3
def kU (a1:Int) (a2:Bool):Option (Int ⊕ Int) :=
 bif a2 then out (some 60) else (some (.inl (w64 (a1 + 1))))
def Cm (a0:dP):Int→Option (Int ⊕ Int)
 | a1=>bif decide (a1 < (a0.Edges.length:Int)) then must (0≤a1∧a1 < (a0.Edges.length:Int)) ((qK ((idx a0.Edges a1).From) a0).bind fun a2=>bif !a2 then kU a1 true else ((qK ((idx a0.Edges a1).To) a0).bind fun a4=>bif !a4 then kU a1 true else (bif decide ((idx a0.Edges a1).Kind < 1) then kU a1 true else (bif decide ((idx a0.Edges a1).Kind > 16) then kU a1 true else ((pz (IntKind.wrap .u64 ((idx a0.Edges a1).Kind))).bind fun a3=>kU a1 (a3 != 1)))))) else (out (some 0))
def pE (a0:dP) (b9:Bool):Option Int :=
 bif b9 then some 60 else (iter (Cm a0) 0)
def dJ (a0:dP):Option Int :=
 bif decide (a0.N < 0) then pE a0 true else (bif decide (a0.N > 64) then pE a0 true else (pE a0 (decide ((a0.Edges.length:Int) > 262144))))
def Cn (a0:dP) (a1:Int) (a2:Int):((List (List bJ))×Int)→Option (((List (List bJ))×Int) ⊕ (((List (List bJ))×Int) ⊕ fG))
 | (a4,a3)=>bif decide (a3 < (a0.Edges.length:Int)) then must (0≤a3∧a3 < (a0.Edges.length:Int)) (must (0≤(idx a0.Edges a3).From∧(idx a0.Edges a3).From < (a4.length:Int)) (must (0≤(idx a0.Edges a3).To∧(idx a0.Edges a3).To < ((idx a4 ((idx a0.Edges a3).From)).length:Int)) (bif (dm .i64 ((idx a0.Edges a3).Kind) a1 != 0) then bif ((idx (idx a4 ((idx a0.Edges a3).From)) ((idx a0.Edges a3).To)).tight == 0) then bif (dm .i64 ((idx a0.Edges a3).Kind) a2 != 0) then bif ((idx ((idx a4 ((idx a0.Edges a3).From)).set ((idx a0.Edges a3).To).toNat (⟨w64 (a3 + 1),(idx (idx a4 ((idx a0.Edges a3).From)) ((idx a0.Edges a3).To)).loose⟩:bJ)) ((idx a0.Edges a3).To)).loose == 0) then some (.inl (a4.set ((idx a0.Edges a3).From).toNat (((idx a4 ((idx a0.Edges a3).From)).set ((idx a0.Edges a3).To).toNat (⟨w64 (a3 + 1),(idx (idx a4 ((idx a0.Edges a3).From)) ((idx a0.Edges a3).To)).loose⟩:bJ)).set ((idx a0.Edges a3).To).toNat (⟨(idx ((idx a4 ((idx a0.Edges a3).From)).set ((idx a0.Edges a3).To).toNat (⟨w64 (a3 + 1),(idx (idx a4 ((idx a0.Edges a3).From)) ((idx a0.Edges a3).To)).loose⟩:bJ)) ((idx a0.Edges a3).To)).tight,w64 (a3 + 1)⟩:bJ)),w64 (a3 + 1))) else (some (.inl (a4.set ((idx a0.Edges a3).From).toNat ((idx a4 ((idx a0.Edges a3).From)).set ((idx a0.Edges a3).To).toNat (⟨w64 (a3 + 1),(idx (idx a4 ((idx a0.Edges a3).From)) ((idx a0.Edges a3).To)).loose⟩:bJ)),w64 (a3 + 1)))) else (some (.inl (a4.set ((idx a0.Edges a3).From).toNat ((idx a4 ((idx a0.Edges a3).From)).set ((idx a0.Edges a3).To).toNat (⟨w64 (a3 + 1),(idx (idx a4 ((idx a0.Edges a3).From)) ((idx a0.Edges a3).To)).loose⟩:bJ)),w64 (a3 + 1)))) else (bif (dm .i64 ((idx a0.Edges a3).Kind) a2 != 0) then bif ((idx (idx a4 ((idx a0.Edges a3).From)) ((idx a0.Edges a3).To)).loose == 0) then some (.inl (a4.set ((idx a0.Edges a3).From).toNat ((idx a4 ((idx a0.Edges a3).From)).set ((idx a0.Edges a3).To).toNat (⟨(idx (idx a4 ((idx a0.Edges a3).From)) ((idx a0.Edges a3).To)).tight,w64 (a3 + 1)⟩:bJ)),w64 (a3 + 1))) else (some (.inl (a4.set ((idx a0.Edges a3).From).toNat (idx a4 ((idx a0.Edges a3).From)),w64 (a3 + 1)))) else (some (.inl (a4.set ((idx a0.Edges a3).From).toNat (idx a4 ((idx a0.Edges a3).From)),w64 (a3 + 1))))) else (bif (dm .i64 ((idx a0.Edges a3).Kind) a2 != 0) then bif ((idx (idx a4 ((idx a0.Edges a3).From)) ((idx a0.Edges a3).To)).loose == 0) then some (.inl (a4.set ((idx a0.Edges a3).From).toNat ((idx a4 ((idx a0.Edges a3).From)).set ((idx a0.Edges a3).To).toNat (⟨(idx (idx a4 ((idx a0.Edges a3).From)) ((idx a0.Edges a3).To)).tight,w64 (a3 + 1)⟩:bJ)),w64 (a3 + 1))) else (some (.inl (a4.set ((idx a0.Edges a3).From).toNat (idx a4 ((idx a0.Edges a3).From)),w64 (a3 + 1)))) else (some (.inl (a4.set ((idx a0.Edges a3).From).toNat (idx a4 ((idx a0.Edges a3).From)),w64 (a3 + 1)))))))) else (out (out (some (⟨a0,a4⟩:fG))))
def Co (a0:dP) (a1:Int) (a2:Int):((List (List bJ))×Int)→Option (((List (List bJ))×Int) ⊕ fG)
 | (a4,a3)=>bif decide (a3 < (a0.N.toNat:Int)) then must (0≤a0.N∧a0.N≤9223372036854775807∧(16:Int) * a0.N≤281474976710656) (must (0≤a3∧a3 < (a4.length:Int)) (some (.inl (a4.set a3.toNat (List.replicate a0.N.toNat (default:bJ)),w64 (a3 + 1))))) else (iter (Cn a0 a1 a2) (a4,0))
def ma (a0:dP) (a1:Int) (a2:Int):Option fG :=
 must (0≤a0.N∧a0.N≤9223372036854775807∧(24:Int) * a0.N≤281474976710656) (iter (Co a0 a1 a2) (List.replicate a0.N.toNat (default:List bJ),0))
def Aq (a3:List (Int×Int)):(List Int×Int)→Option ((List Int×Int) ⊕ (((List (Int×Int))×List Int×Bool×Int) ⊕ (((List (Int×Int))×List Int×Bool) ⊕ (List Int×Bool))))
 | (a1,a2)=>bif decide (a2 ≥ 0) then must (((1 + a1.length) + (1 + a1.length) / 4 + 192) * 8≤281474976710656∧1 + a1.length≤9223372036854775807) (some (.inl (([a2]:List Int)++a1,mat a3 a2))) else (out (out (out (some (a1,false)))))
def wT (a2:Int) (a3:List (Int×Int)) (a1:List Int) (a4:Bool):Option (((List (Int×Int))×List Int×Bool×Int) ⊕ (((List (Int×Int))×List Int×Bool×Int) ⊕ (((List (Int×Int))×List Int×Bool) ⊕ (List Int×Bool)))) :=
 some (.inl (a3,a1,a4,w64 (a2 + 1)))
def wU (a6:List Int) (a5:Int) (a3:List (Int×Int)) (a1:List Int) (a4:Bool) (a2:Int) (a7:Bool):Option (((List (Int×Int))×List Int×Bool×Int) ⊕ (((List (Int×Int))×List Int×Bool×Int) ⊕ (((List (Int×Int))×List Int×Bool) ⊕ (List Int×Bool)))) :=
 bif a7 then must (((a1.length + 1) + (a1.length + 1) / 4 + 192) * 8≤281474976710656∧a1.length + 1≤9223372036854775807) (wT a2 (iE a3 a2 (idx a6 a5)) (a1++([a2]:List Int)) false) else (wT a2 a3 a1 a4)
def Ar (a0:fG) (a3:List Int) (a1:Int):((List (Int×Int))×List Int×Bool×Int)→Option (((List (Int×Int))×List Int×Bool×Int) ⊕ (((List (Int×Int))×List Int×Bool×Int) ⊕ (((List (Int×Int))×List Int×Bool) ⊕ (List Int×Bool))))
 | (a4,a6,a5,a2)=>bif decide (a2 < a0.g.N) then bif !(jX a4 a2) then must (0≤idx a3 a1∧idx a3 a1 < (a0.links.length:Int)) (must (0≤a2∧a2 < ((idx a0.links (idx a3 a1)).length:Int)) (wU a3 a1 a4 a6 a5 a2 (decide ((idx (idx a0.links (idx a3 a1)) a2).tight > 0)))) else (wU a3 a1 a4 a6 a5 a2 false) else (out (some (.inl (a4,a6,a5,w64 (a1 + 1)))))
def Au (a0:fG) (a2:Int) (a3:List Int):((List (Int×Int))×List Int×Bool×Int)→Option (((List (Int×Int))×List Int×Bool×Int) ⊕ (((List (Int×Int))×List Int×Bool) ⊕ (List Int×Bool)))
 | (a4,a5,a6,a1)=>bif decide (a1 < (a3.length:Int)) then must (0≤a1∧a1 < (a3.length:Int)) (bif (idx a3 a1 == a2) then iter (Aq a4) (([]:List Int),mat a4 (idx a3 a1)) else (iter (Ar a0 a3 a1) (a4,a5,a6,0))) else (out (some (.inl (a4,a5,a6))))
def Av (a0:fG) (a2:Int):((List (Int×Int))×List Int×Bool)→Option (((List (Int×Int))×List Int×Bool) ⊕ (List Int×Bool))
 | (a3,a1,a4)=>bif decide ((a1.length:Int) > 0) then iter (Au a0 a2 a1) (a3,[],true,0) else (out (some (([]:List Int),true)))
def dI (a0:fG) (a1:Int) (a2:Int):Option (List Int×Bool) :=
 iter (Av a0 a2) (iE ([]:List (Int×Int)) a1 (-1),([a1]:List Int),false)
def zX (a0:bJ) (a1:Int):Option Int :=
 bif (a1 == 0) then some a0.loose else (some a0.tight)
def oC (a0:fG) (a1:List Int):(List Edge×Int)→Option ((List Edge×Int) ⊕ (List Edge))
 | (a3,a2)=>bif decide (a2 < (a1.length:Int)) then must (0≤a2∧a2 < (a1.length:Int)) (must (0≤idx a1 a2∧idx a1 a2 < (a0.links.length:Int)) (must ((a1.length:Int)≠0) (must (0≤(w64 (a2 + 1)).tmod (a1.length:Int)∧(w64 (a2 + 1)).tmod (a1.length:Int) < (a1.length:Int)) (must (0≤idx a1 ((w64 (a2 + 1)).tmod (a1.length:Int))∧idx a1 ((w64 (a2 + 1)).tmod (a1.length:Int)) < ((idx a0.links (idx a1 a2)).length:Int)) ((zX (idx (idx a0.links (idx a1 a2)) (idx a1 ((w64 (a2 + 1)).tmod (a1.length:Int)))) a2).bind fun a4=>must (0≤w64 (a4 - 1)∧w64 (a4 - 1) < (a0.g.Edges.length:Int)) (must (((a3.length + 1) + (a3.length + 1) / 4 + 192) * 32≤281474976710656∧a3.length + 1≤9223372036854775807) (some (.inl (a3++([(idx a0.g.Edges (w64 (a4 - 1)))]:List Edge),w64 (a2 + 1)))))))))) else (out (some a3))
def fJ (a0:fG) (a1:List Int):Option (List Edge) :=
 iter (oC a0 a1) ([],0)
def vF (a1:Int) (a2:List Int) (a3:Bool):Option ((List Int×Bool×Int) ⊕ ((List Int×Bool×Int) ⊕ (List Edge×Int))) :=
 some (.inl (a2,a3,w64 (a1 + 1)))
def vG (a5:Int) (a6:List Int) (a4:Bool) (a2:Int) (a1:(List Int×Bool)) (a3:Bool):Option ((List Int×Bool×Int) ⊕ ((List Int×Bool×Int) ⊕ (List Edge×Int))) :=
 bif a3 then must (((1 + a1.1.length) + (1 + a1.1.length) / 4 + 192) * 8≤281474976710656∧1 + a1.1.length≤9223372036854775807) (vF a2 (([a5]:List Int)++a1.1) false) else (vF a2 a6 a4)
def Cq (a0:dP) (a6:fG) (a2:Int):(List Int×Bool×Int)→Option ((List Int×Bool×Int) ⊕ ((List Int×Bool×Int) ⊕ (List Edge×Int)))
 | (a4,a3,a1)=>bif decide (a1 < a0.N) then must (0≤a2∧a2 < (a6.links.length:Int)) (must (0≤a1∧a1 < ((idx a6.links a2).length:Int)) (bif ((idx (idx a6.links a2) a1).loose == 0) then vF a1 a4 a3 else ((dI a6 a1 a2).bind fun a5=>bif !a5.2 then bif a3 then vG a2 a4 a3 a1 a5 true else (vG a2 a4 a3 a1 a5 (decide (w64 ((a5.1.length:Int) + 1) < (a4.length:Int)))) else (vG a2 a4 a3 a1 a5 false)))) else (out (some (.inl (a4,a3,w64 (a2 + 1)))))
def Cr (a0:dP) (a2:fG):(List Int×Bool×Int)→Option ((List Int×Bool×Int) ⊕ (List Edge×Int))
 | (a3,a5,a1)=>bif decide (a1 < a0.N) then iter (Cq a0 a2 a1) (a3,a5,0) else ((fJ a2 a3).bind fun a4=>out (some (a4,0)))
def fP (a0:dP) (a1:Int) (a2:Int):Option (List Edge×Int) :=
 (dJ a0).bind fun y8=>bif (y8 != 0) then some (([]:List Edge),y8) else ((ma a0 a1 a2).bind fun a3=>iter (Cr a0 a3) ([],true,0))
def sj {σ:Type} (a1:Int) (a2:σ):Option ((Int×σ) ⊕ σ) :=
 some (.inl (w64 (a1 + 1),a2))
def nM {σ:Type} (Y:σ→av→Option (Bool×σ)) (a2:fG) (a3:av) (a1:Int) (a5:σ) (a6:Bool):Option ((Int×σ) ⊕ σ) :=
 bif a6 then sj a1 a5 else ((Y a5 (⟨a1,((idx (idx a2.links a3.node) a1).tight == 0),a3.first_⟩:av)).bind fun a4=>bif !a4.1 then out (some a4.2) else (sj a1 a4.2))
def xB {σ:Type} (Y:σ→av→Option (Bool×σ)) (a2:fG) (a3:av):(Int×σ)→Option ((Int×σ) ⊕ σ)
 | (a1,a4)=>bif decide (a1 < a2.g.N) then must (0≤a3.node∧a3.node < (a2.links.length:Int)) (must (0≤a1∧a1 < ((idx a2.links a3.node).length:Int)) (bif ((idx (idx a2.links a3.node) a1).tight == 0) then bif ((idx (idx a2.links a3.node) a1).loose == 0) then nM Y a2 a3 a1 a4 true else (nM Y a2 a3 a1 a4 a3.last_) else (nM Y a2 a3 a1 a4 false))) else (out (some a4))
def dN {σ:Type} (Y:σ→av→Option (Bool×σ)) (a1:Int) (a2:fG) (a3:av) (s0:σ):Option σ :=
 iter (xB Y a2 a3) (a1,s0)
def uA (a0:fG) (a1:av) (a2:Int):Option Unit :=
 some ()
def Dn (a0:av) (a1:Int):Option Bool :=
 bif (a0.node == a1) then bif a0.last_ then some (!a0.first_) else (some true) else (some false)
def Eg (a0:List (av×av)) (a2:Int):(Int×Bool×Bool×List Int)→Option ((Int×Bool×Bool×List Int) ⊕ (List Int×Bool))
 | (a3,a5,a4,a1)=>bif decide (a3 ≥ 0) then must (((1 + a1.length) + (1 + a1.length) / 4 + 192) * 8≤281474976710656∧1 + a1.length≤9223372036854775807) (some (.inl ((mat a0 (⟨a3,a5,a4⟩:av)).node,(mat a0 (⟨a3,a5,a4⟩:av)).last_,(mat a0 (⟨a3,a5,a4⟩:av)).first_,([a3]:List Int)++a1))) else (must (((1 + a1.length) + (1 + a1.length) / 4 + 192) * 8≤281474976710656∧1 + a1.length≤9223372036854775807) (out (some (([a2]:List Int)++a1,false))))
def wV (a0:List (av×av)) (a1:av) (a2:Int):Option (List Int×Bool) :=
 iter (Eg a0 a2) (a1.node,a1.last_,a1.first_,([]:List Int))
def vH (a3:List (av×av)) (a1:List av) (a2:Bool):Option (Bool×(((List (av×av))×List av×Bool) ⊕ Unit)) :=
 some (true,.inl (a3,a1,a2))
def vJ (a1:Int):(((List (av×av))×List av×Bool) ⊕ Unit)→av→Option (Bool×(((List (av×av))×List av×Bool) ⊕ Unit))
 | .inl (a4,a3,a6),a2=>(Dn (⟨a2.node,a2.last_,a2.last_⟩:av) a1).bind fun a5=>bif a5 then some (false,.inr ()) else (bif !(jX a4 (⟨a2.node,a2.last_,a2.last_⟩:av)) then must (((a3.length + 1) + (a3.length + 1) / 4 + 192) * 16≤281474976710656∧a3.length + 1≤9223372036854775807) (vH (iE a4 (⟨a2.node,a2.last_,a2.last_⟩:av) (⟨(-1),false,false⟩:av)) (a3++([(⟨a2.node,a2.last_,a2.last_⟩:av)]:List av)) false) else (vH a4 a3 a6))
 | .inr _,_=>none
def vK (a3:List (av×av)) (a1:List av) (a2:Bool):Option (Bool×(((List (av×av))×List av×Bool) ⊕ (List Int×Bool))) :=
 some (true,.inl (a3,a1,a2))
def vL (a1:Int) (a5:List av) (a7:Int):(((List (av×av))×List av×Bool) ⊕ (List Int×Bool))→av→Option (Bool×(((List (av×av))×List av×Bool) ⊕ (List Int×Bool)))
 | .inl (a3,a2,a9),a4=>(Dn a4 a1).bind fun a8=>bif a8 then (wV a3 (idx a5 a7) a1).bind fun a6=>some (false,.inr (a6.1,a6.2)) else (bif !(jX a3 a4) then must (((a2.length + 1) + (a2.length + 1) / 4 + 192) * 16≤281474976710656∧a2.length + 1≤9223372036854775807) (vK (iE a3 a4 (idx a5 a7)) (a2++([a4]:List av)) false) else (vK a3 a2 a9))
 | .inr _,_=>none
def EL (a6:Int):(((List (av×av))×List av×Bool) ⊕ (List Int×Bool))→Option (((List (av×av))×List av×Bool×Int) ⊕ (((List (av×av))×List av×Bool×Int) ⊕ (List Int×Bool)))
 | .inl ((a4,a2,a3))=>some (.inl (a4,a2,a3,w64 (a6 + 1)))
 | .inr ((a1,a5))=>out (out (some (a1,a5)))
def zy (a0:fG) (a1:Int) (a3:List av) (a7:Int):((List (av×av))×List av×Bool×Int)→Option (((List (av×av))×List av×Bool×Int) ⊕ (((List (av×av))×List av×Bool×Int) ⊕ (List Int×Bool)))
 | (a6,a4,a5,a2)=>bif decide (a2 < (a3.length:Int)) then must (0≤a2∧a2 < (a3.length:Int)) ((uA a0 (idx a3 a2) a1).bind fun a9=>(dN (vL a1 a3 a2) a1 a0 (idx a3 a2) (.inl (a6,a4,a5))).bind fun a8=>EL a2 a8) else (out (some (.inl (a6,a4,a5,w64 (a7 + 1)))))
def vM (a0:fG) (a1:Int) (a2:List (av×av)) (a4:List av) (a3:Int) (a5:Bool):Option (((List (av×av))×List av×Bool×Int) ⊕ (List Int×Bool)) :=
 bif a5 then iter (zy a0 a1 a4 a3) (a2,[],true,0) else (out (some (([]:List Int),true)))
def zz (a0:fG) (a1:Int) (a2:Int):((List (av×av))×List av×Bool×Int)→Option (((List (av×av))×List av×Bool×Int) ⊕ (List Int×Bool))
 | (a5,a4,a6,a3)=>bif decide (a3 < a2) then vM a0 a1 a5 a4 a3 (decide ((a4.length:Int) > 0)) else (vM a0 a1 a5 a4 a3 false)
def EM (a0:fG) (a1:Int) (a2:Int):(((List (av×av))×List av×Bool) ⊕ Unit)→Option (List Int×Bool)
 | .inl ((a5,a3,a4))=>iter (zz a0 a1 a2) (a5,a3,a4,2)
 | .inr _=>some (([a1]:List Int),false)
def bG (a0:fG) (a1:Int) (a2:Int):Option (List Int×Bool) :=
 (uA a0 (⟨a1,false,false⟩:av) a1).bind fun a4=>(dN (vJ a1) a1 a0 (⟨a1,false,false⟩:av) (.inl ([],[],true))).bind fun a3=>EM a0 a1 a2 a3
def zY (a0:bJ) (a1:Int):Option Int :=
 bif decide (a0.tight > 0) then some a0.tight else (some a0.loose)
def oD (a0:fG) (a1:List Int):(List Edge×Int)→Option ((List Edge×Int) ⊕ (List Edge))
 | (a3,a2)=>bif decide (a2 < (a1.length:Int)) then must (0≤a2∧a2 < (a1.length:Int)) (must (0≤idx a1 a2∧idx a1 a2 < (a0.links.length:Int)) (must ((a1.length:Int)≠0) (must (0≤(w64 (a2 + 1)).tmod (a1.length:Int)∧(w64 (a2 + 1)).tmod (a1.length:Int) < (a1.length:Int)) (must (0≤idx a1 ((w64 (a2 + 1)).tmod (a1.length:Int))∧idx a1 ((w64 (a2 + 1)).tmod (a1.length:Int)) < ((idx a0.links (idx a1 a2)).length:Int)) ((zY (idx (idx a0.links (idx a1 a2)) (idx a1 ((w64 (a2 + 1)).tmod (a1.length:Int)))) a2).bind fun a4=>must (0≤w64 (a4 - 1)∧w64 (a4 - 1) < (a0.g.Edges.length:Int)) (must (((a3.length + 1) + (a3.length + 1) / 4 + 192) * 32≤281474976710656∧a3.length + 1≤9223372036854775807) (some (.inl (a3++([(idx a0.g.Edges (w64 (a4 - 1)))]:List Edge),w64 (a2 + 1)))))))))) else (out (some a3))
def fK (a0:fG) (a1:List Int):Option (List Edge) :=
 iter (oD a0 a1) ([],0)
def yF (a3:fG) (a2:List Int):Option (List Edge×Int) :=
 (fK a3 a2).bind fun a1=>some (a1,0)
def yG (a1:Int) (a2:List Int):Option ((List Int×Int) ⊕ (List Edge×Int)) :=
 some (.inl (a2,w64 (a1 + 1)))
def yH (a4:fG) (a5:List Int) (a1:Int) (a2:Int):Option ((List Int×Int) ⊕ (List Edge×Int)) :=
 bif decide (a2 < 2) then out (yF a4 a5) else ((bG a4 a1 a2).bind fun a3=>bif !a3.2 then yG a1 a3.1 else (yG a1 a5))
def Cs (a0:dP) (a3:fG):(List Int×Int)→Option ((List Int×Int) ⊕ (List Edge×Int))
 | (a1,a2)=>bif decide (a2 < a0.N) then bif decide ((a1.length:Int) > 0) then yH a3 a1 a2 (a1.length:Int) else (yH a3 a1 a2 (w64 (a0.N + 1))) else (out (yF a3 a1))
def fQ (a0:dP) (a1:Int) (a2:Int):Option (List Edge×Int) :=
 (dJ a0).bind fun y8=>bif (y8 != 0) then some (([]:List Edge),y8) else ((ma a0 a1 a2).bind fun a3=>iter (Cs a0 a3) ([],0))
def Ep (a0:dP) (a1:Int):Option (List Edge×Int) :=
 (fQ a0 a1 0).bind fun y7=>some (y7.1,y7.2)
def Ct (a0:dP) (a1:Int) (a2:Int):Option (List Edge×Int) :=
 (Ep a0 a1).bind fun y7=>some (y7.1,y7.2)
def kV {σ:Type} (Y:σ→gm→Option (Bool×σ)) (s0:σ):Option σ :=
 (Y s0 (⟨3,1,13,0,1,81⟩:gm)).bind fun y2=>bif !y2.1 then some y2.2 else ((Y y2.2 (⟨4,4,5,16,2,54⟩:gm)).bind fun y6=>bif !y6.1 then some y6.2 else ((Y y6.2 (⟨5,6,13,16,3,55⟩:gm)).bind fun a1=>bif !a1.1 then some a1.2 else ((Y a1.2 (⟨6,7,29,0,1,81⟩:gm)).bind fun a3=>bif !a3.1 then some a3.2 else ((Y a3.2 (⟨7,8,31,0,1,81⟩:gm)).bind fun a2=>bif !a2.1 then some a2.2 else (some a2.2)))))
def tC (a1:List Edge) (a3:List (Int×Unit)) (a2:Int):Option (((List (Int×Unit))×Int) ⊕ (((List (Edge×Unit))×Int) ⊕ Bool)) :=
 some (.inl (iE a3 ((idx a1 a2).From) (),w64 (a2 + 1)))
def qa (a1:List Edge) (a3:List (Int×Unit)) (a4:Int) (a2:Bool):Option (((List (Int×Unit))×Int) ⊕ (((List (Edge×Unit))×Int) ⊕ Bool)) :=
 bif a2 then out (out (some false)) else (tC a1 a3 a4)
def vN (a1:List Edge) (a3:List (Int×Unit)) (a4:Int) (a2:Bool):Option (((List (Int×Unit))×Int) ⊕ (((List (Edge×Unit))×Int) ⊕ Bool)) :=
 bif a2 then out (out (some false)) else (tC a1 a3 a4)
def xX (a1:List Edge) (a2:Int) (a3:Int) (a4:Int) (a6:List (Int×Unit)) (a5:Int) (a7:Bool):Option (((List (Int×Unit))×Int) ⊕ (((List (Edge×Unit))×Int) ⊕ Bool)) :=
 bif a7 then out (out (some false)) else (bif (a4 == 1) then bif !(dm .i64 ((idx a1 a5).Kind) a2 != 0) then out (out (some false)) else (tC a1 a6 a5) else (bif (a4 == 2) then bif (a5 == 0) then bif !(dm .i64 ((idx a1 a5).Kind) a3 != 0) then qa a1 a6 a5 true else (bif decide (a5 > 0) then qa a1 a6 a5 (!(dm .i64 ((idx a1 a5).Kind) a2 != 0)) else (qa a1 a6 a5 false)) else (bif decide (a5 > 0) then qa a1 a6 a5 (!(dm .i64 ((idx a1 a5).Kind) a2 != 0)) else (qa a1 a6 a5 false)) else (bif (a4 == 3) then bif !(dm .i64 ((idx a1 a5).Kind) a2 != 0) then bif !(dm .i64 ((idx a1 a5).Kind) a3 != 0) then vN a1 a6 a5 true else (vN a1 a6 a5 (dm .i64 ((idx a1 ((w64 (a5 + 1)).tmod (a1.length:Int))).Kind) a2 == 0)) else (vN a1 a6 a5 false) else (out (out (some false))))))
def Bi (a1:List Edge) (a2:Int) (a3:Int) (a4:Int) (a7:List (Edge×Unit)):((List (Int×Unit))×Int)→Option (((List (Int×Unit))×Int) ⊕ (((List (Edge×Unit))×Int) ⊕ Bool))
 | (a6,a5)=>bif decide (a5 < (a1.length:Int)) then must (0≤a5∧a5 < (a1.length:Int)) (must ((a1.length:Int)≠0) (must (0≤(w64 (a5 + 1)).tmod (a1.length:Int)∧(w64 (a5 + 1)).tmod (a1.length:Int) < (a1.length:Int)) (bif !(jX a7 (idx a1 a5)) then xX a1 a2 a3 a4 a6 a5 true else (xX a1 a2 a3 a4 a6 a5 ((idx a1 a5).To != (idx a1 ((w64 (a5 + 1)).tmod (a1.length:Int))).From))))) else (out (out (some ((a6.length:Int) == (a1.length:Int)))))
def Bj (a0:dP) (a1:List Edge) (a2:Int) (a3:Int) (a4:Int):((List (Edge×Unit))×Int)→Option (((List (Edge×Unit))×Int) ⊕ Bool)
 | (a6,a5)=>bif decide (a5 < (a0.Edges.length:Int)) then must (0≤a5∧a5 < (a0.Edges.length:Int)) (some (.inl (iE a6 (idx a0.Edges a5) (),w64 (a5 + 1)))) else (iter (Bi a1 a2 a3 a4 a6) ([],0))
def xY (a0:dP) (a1:List Edge) (a2:Int) (a3:Int) (a4:Int) (a5:Bool):Option Bool :=
 bif a5 then some false else (iter (Bj a0 a1 a2 a3 a4) ([],0))
def di (a0:dP) (a1:List Edge) (a2:Int) (a3:Int) (a4:Int):Option Bool :=
 (dJ a0).bind fun a5=>bif (a5 != 0) then xY a0 a1 a2 a3 a4 true else (xY a0 a1 a2 a3 a4 ((a1.length:Int) == 0))
def iW (a0:List Ask) (a1c0:dA):Int→Option (Int ⊕ Int)
 | a1=>bif decide (a1 < (a0.length:Int)) then must (0≤a1∧a1 < (a0.length:Int)) ((xW (idx a0 a1) a1c0).bind fun a2=>bif a2 then out (some a1) else (some (.inl (w64 (a1 + 1))))) else (out (some (-1)))
def dw (a0:List Ask) (a1c0:dA):Option Int :=
 iter (iW a0 a1c0) 0
def fu (a0:List Ask) (a1c0:dA):Option Bool :=
 (dw a0 a1c0).bind fun y3=>some (decide (y3 ≥ 0))
def kM (a0:History) (a1:dA):(Unit ⊕ Bool)→gm→Option (Bool×(Unit ⊕ Bool))
 | .inl _,a2=>bif (a2.kind == a1.Kind) then (eu a0).bind fun a3=>bif (a3.2 == 0) then bif (a1.Level == a2.level) then bif ((a1.Spot.Txn == 0) && ((a1.Spot.Place == 0) && true)) then (di a3.1 a1.Cycle a2.d a2.r a2.rule).bind fun a4=>some (false,.inr a4) else (some (false,.inr false)) else (some (false,.inr false)) else (some (false,.inr false)) else (some (true,.inl ()))
 | .inr _,_=>none
def Eh:(Unit ⊕ Bool)→Option Bool
 | .inl _=>some false
 | .inr a1=>some a1
def fV (a0:History) (a1:dA):Option Bool :=
 (aJ a0).bind fun a7=>bif (a7 != 0) then some false else (bif (a1.Kind == 1) then (yx a0).bind fun a6=>bif (a1.Level == 1) then bif ((a1.Cycle.length:Int) == 0) then (kT a6.1 a1.Spot).bind fun a3=>some a3 else (some false) else (some false) else (bif (a1.Kind == 2) then (tu a0).bind fun a2=>bif (a1.Level == 1) then bif ((a1.Cycle.length:Int) == 0) then (fu a2.1 a1).bind fun a4=>some a4 else (some false) else (some false) else ((kV (kM a0 a1) (.inl ())).bind fun a5=>Eh a5)))
def QF (c:Int) (a0:dP) (a1:Int) (a2:Int):Option (List Edge×Int) :=
 bif c == 54 then fP a0 a1 a2 else (bif c == 55 then fQ a0 a1 a2 else (bif c == 81 then Ct a0 a1 a2 else none))
def zZ (a1:List dA):Option (Bool×((List dA) ⊕ Unit)) :=
 some (true,.inl a1)
def Aa (a4:dP×Int):((List dA) ⊕ Unit)→gm→Option (Bool×((List dA) ⊕ Unit))
 | .inl a2,a1=>(QF a1.find a4.1 a1.d a1.r).bind fun a3=>bif decide ((a3.1.length:Int) > 0) then must (((a2.length + 1) + (a2.length + 1) / 4 + 192) * 56≤281474976710656∧a2.length + 1≤9223372036854775807) (zZ (a2++([(⟨a1.kind,a1.level,(⟨0,0⟩:Spot),a3.1⟩:dA)]:List dA))) else (zZ a2)
 | .inr _,_=>none
def JS:((List dA) ⊕ Unit)→Option (List dA×Int)
 | .inl a1=>some (a1,0)
 | .inr _=>none
def Ab (a0:History) (a2:List dA):Option (List dA×Int) :=
 (eu a0).bind fun a1=>bif (a1.2 != 0) then some (([]:List dA),a1.2) else ((kV (Aa a1) (.inl a2)).bind fun a3=>JS a3)
def Ac (a0:History) (a1:List dA):Option (List dA×Int) :=
 (tu a0).bind fun a2=>bif decide ((a2.1.length:Int) > 0) then must (0≤(0:Int)∧(0:Int) < (a2.1.length:Int)) (must (((a1.length + 1) + (a1.length + 1) / 4 + 192) * 56≤281474976710656∧a1.length + 1≤9223372036854775807) (Ab a0 (a1++([(⟨2,1,(⟨(idx a2.1 (0:Int)).Txn,(idx a2.1 (0:Int)).Place⟩:Spot),([]:List Edge)⟩:dA)]:List dA)))) else (Ab a0 a1)
def fZ (a0:History):Option (List dA×Int) :=
 (yx a0).bind fun y7=>bif (y7.2 != 0) then some (([]:List dA),y7.2) else (bif decide ((y7.1.length:Int) > 0) then must (0≤(0:Int)∧(0:Int) < (y7.1.length:Int)) (must (((0 + 1) + (0 + 1) / 4 + 192) * 56≤281474976710656∧0 + 1≤9223372036854775807) (Ac a0 (([]:List dA)++([(⟨1,1,(idx y7.1 (0:Int)),([]:List Edge)⟩:dA)]:List dA)))) else (Ac a0 []))
def rD:Option Bool :=
 (fZ (⟨([(⟨#[120]⟩:ByteArray)]:List ByteArray),([(⟨0,1,0,1,([(⟨1,0,1,false,([]:List Int)⟩:Op),(⟨5,0,0,true,([2]:List Int)⟩:Op)]:List Op)⟩:Txn)]:List Txn)⟩:History)).bind fun a1=>bif (a1.2 == 0) then bif ((a1.1.length:Int) == 1) then must (0≤(0:Int)∧(0:Int) < (a1.1.length:Int)) (bif ((idx a1.1 (0:Int)).Kind == 1) then bif ((((idx a1.1 (0:Int)).Spot).Txn == 0) && ((((idx a1.1 (0:Int)).Spot).Place == 1) && true)) then (fV (⟨([(⟨#[120]⟩:ByteArray)]:List ByteArray),([(⟨0,1,0,1,([(⟨1,0,1,false,([]:List Int)⟩:Op),(⟨5,0,0,true,([2]:List Int)⟩:Op)]:List Op)⟩:Txn)]:List Txn)⟩:History) (⟨(idx a1.1 (0:Int)).Kind,(idx a1.1 (0:Int)).Level,((idx a1.1 (0:Int)).Spot),(idx a1.1 (0:Int)).Cycle⟩:dA)).bind fun a2=>some a2 else (some false) else (some false)) else (some false) else (some false)
def tY (a0:List ByteArray) (a1:ByteArray):Int→Option (Int ⊕ Int)
 | a2=>bif decide (a2 < (a0.length:Int)) then must (0≤a2∧a2 < (a0.length:Int)) (bif sEq (idx a0 a2) a1 then out (some a2) else (some (.inl (w64 (a2 + 1))))) else (out (some (-1)))
def gG (a0:List ByteArray) (a1:ByteArray):Option Int :=
 iter (tY a0 a1) 0
def kW (a2:Int) (a1:Bool):Option (Int ⊕ Bool) :=
 bif a1 then out (some false) else (some (.inl (w64 (a2 + 1))))
def su (a0:List ByteArray):Int→Option (Int ⊕ Bool)
 | a1=>bif decide (a1 < (a0.length:Int)) then must (0≤a1∧a1 < (a0.length:Int)) (bif decide (((idx a0 a1).size:Int) < 1) then kW a1 true else (bif decide (((idx a0 a1).size:Int) > 32) then kW a1 true else (must (0≤(0:Int)∧(0:Int)≤a1∧a1≤(a0.length:Int)) ((gG (jW a0 (0:Int) a1) (idx a0 a1)).bind fun a2=>kW a1 (decide (a2 ≥ 0)))))) else (out (some (decide ((a0.length:Int)≤32))))
def dW (a0:List ByteArray):Option Bool :=
 iter (su a0) 0
def kC (a1:Int) (a2:Bool):Option (Int ⊕ Bool) :=
 bif a2 then out (some false) else (some (.inl (w64 (a1 + 1))))
def mO (a0:List Txn) (a1:Int):Int→Option (Int ⊕ Bool)
 | a2=>bif decide (a2 < a1) then must (0≤a2∧a2 < (a0.length:Int)) (bif ((idx a0 a2).Proc == (idx a0 a1).Proc) then bif ((idx a0 a2).To == (-1)) then kC a2 true else (kC a2 (decide ((idx a0 a2).To ≥ (idx a0 a1).From))) else (kC a2 false)) else (out (some true))
def mP (a0:List Txn) (a1:Int) (a2:Bool):Option Bool :=
 bif a2 then some false else (iter (mO a0 a1) 0)
def fq (a0:List Txn) (a1:Int) (a2:Bool):Option Bool :=
 bif a2 then some false else (bif decide (a1 > 0) then must (0≤w64 (a1 - 1)∧w64 (a1 - 1) < (a0.length:Int)) (mP a0 a1 (decide ((idx a0 a1).From≤(idx a0 (w64 (a1 - 1))).From))) else (mP a0 a1 false))
def aY (a0:List Txn) (a1:Int):Option Bool :=
 must (0≤a1∧a1 < (a0.length:Int)) (bif decide ((idx a0 a1).Status < 1) then fq a0 a1 true else (bif decide ((idx a0 a1).Status > 3) then fq a0 a1 true else (bif decide ((idx a0 a1).From < 0) then fq a0 a1 true else (bif ((idx a0 a1).To != (-1)) then bif decide ((idx a0 a1).To≤(idx a0 a1).From) then fq a0 a1 true else (bif ((idx a0 a1).To == (-1)) then fq a0 a1 ((idx a0 a1).Status != 3) else (fq a0 a1 false)) else (bif ((idx a0 a1).To == (-1)) then fq a0 a1 ((idx a0 a1).Status != 3) else (fq a0 a1 false))))))
def lI (a0:Call):Option Bool :=
 some (decide ((a0.Vals.length:Int)≤64))
def oI (a0:Call):Int→Option (Int ⊕ Bool)
 | a1=>bif decide (a1 < (a0.Vals.length:Int)) then must (0≤a1∧a1 < (a0.Vals.length:Int)) (must (0≤w64 (a1 - 1)∧w64 (a1 - 1) < (a0.Vals.length:Int)) (bif decide (idx a0.Vals a1≤idx a0.Vals (w64 (a1 - 1))) then out (some false) else (some (.inl (w64 (a1 + 1)))))) else (out (lI a0))
def jS (a0:Call) (a1:Bool):Option Bool :=
 bif a1 then some false else (bif (a0.Kind == 5) then some (decide ((a0.Vals.length:Int)≤1)) else (bif (a0.Kind == 8) then bif !a0.Got then some true else (some ((a0.Vals.length:Int) == 1)) else (bif (a0.Kind == 7) then iter (oI a0) 1 else (lI a0))))
def jT (a0:Call) (a1:Int) (a2:Bool):Option Bool :=
 bif a2 then some false else (bif decide (a0.Kind≤4) then bif !a0.Got then bif ((a0.Vals.length:Int) == 0) then bif (a0.Kind != 4) then some true else (bif decide (a0.Arg ≥ (-1048576)) then some (decide (a0.Arg≤1048576)) else (some false)) else (some false) else (some false) else (bif (a0.Arg != 0) then jS a0 true else (bif (a0.Got != (a1 == 1)) then jS a0 true else (bif !a0.Got then jS a0 (decide ((a0.Vals.length:Int) > 0)) else (jS a0 false)))))
def bE (a0:Call) (a1:Int):Option Bool :=
 bif decide (a0.Kind < 1) then jT a0 a1 true else (bif decide (a0.Kind > 8) then jT a0 a1 true else (bif decide ((a0.Key.size:Int) < 1) then jT a0 a1 true else (jT a0 a1 (decide ((a0.Key.size:Int) > 32)))))
def nN (a0:Event):Int→Option (Int ⊕ Bool)
 | a1=>bif decide (a1 < (a0.Calls.length:Int)) then must (0≤a1∧a1 < (a0.Calls.length:Int)) ((bE (idx a0.Calls a1) a0.Kind).bind fun a2=>bif !a2 then out (some false) else (some (.inl (w64 (a1 + 1))))) else (out (some true))
def kX (a0:Event) (b9:Bool):Option Bool :=
 bif b9 then some false else (iter (nN a0) 0)
def dG (a0:Event):Option Bool :=
 bif decide (a0.Kind < 0) then kX a0 true else (bif decide (a0.Kind > 3) then kX a0 true else (kX a0 (decide ((a0.Calls.length:Int) > 16))))
def sw (a0:List Event):Int→Option (Int ⊕ Int)
 | a1=>bif decide (a1 < (a0.length:Int)) then must (0≤a1∧a1 < (a0.length:Int)) ((dG (idx a0 a1)).bind fun a2=>bif !a2 then out (some 1) else (some (.inl (w64 (a1 + 1))))) else (out (some 0))
def iA (a0:List Event):Option Int :=
 bif decide ((a0.length:Int) > 256) then some 1 else (iter (sw a0) 0)
def jJ (a0:Int):Option Int :=
 some (w64 (((w64 (a0 - 1)).tmod (4:Int)) + 1))
def iU (a4:List ByteArray) (a3:List Int) (a2:List (List Int)) (a1:List Int) (a5:List Int):Option (Int×aR) :=
 some (0,(⟨a4,a3,a2,a1,a5⟩:aR))
def iV (a2:Int) (a7:List ByteArray) (a6:List Int) (a3:List Int) (a4:List Int) (a1:Int) (a5:List (List Int)) (a8:Bool):Option (Int×aR) :=
 bif a8 then must (0≤a1∧a1 < (a4.length:Int)) (must (0≤a1∧a1 < (a3.length:Int)) (bif decide (idx (a3.set a1.toNat (w64 ((idx a3 a1) + 1))) a1 > 8) then some (51,(⟨a7,a6,a5,a3.set a1.toNat (w64 ((idx a3 a1) + 1)),a4.set a1.toNat a2⟩:aR)) else (iU a7 a6 a5 (a3.set a1.toNat (w64 ((idx a3 a1) + 1))) (a4.set a1.toNat a2)))) else (iU a7 a6 a5 a3 a4)
def gQ (a1:Call) (a2:Int) (a8:List ByteArray) (a6:List Int) (a7:List Int) (a4:List Int) (a3:Int) (a5:List (List Int)):Option (Int×aR) :=
 bif (a1.Kind == 4) then must (0≤a3∧a3 < (a4.length:Int)) (iV a2 a8 a6 a7 a4 a3 a5 (idx a4 a3 != a2)) else (iV a2 a8 a6 a7 a4 a3 a5 false)
def kg (a1:Call) (a2:Int) (a9:List ByteArray) (a7:List Int) (a4:List (List Int)) (a8:List Int) (a6:List Int) (a3:Int):Int→Option (Int ⊕ (Int×aR))
 | a5=>must (0≤a3∧a3 < (a4.length:Int)) (bif decide (a5 < ((idx a4 a3).length:Int)) then must (0≤a5∧a5 < ((idx a4 a3).length:Int)) (bif (idx (idx a4 a3) a5 == a1.Arg) then out (some (3,(⟨a9,a7,a4,a8,a6⟩:aR))) else (some (.inl (w64 (a5 + 1))))) else (must (((((idx a4 a3).length) + 1) + (((idx a4 a3).length) + 1) / 4 + 192) * 8≤281474976710656∧((idx a4 a3).length) + 1≤9223372036854775807) (out (gQ a1 a2 a9 a7 a8 a6 a3 (a4.set a3.toNat ((idx a4 a3)++([a1.Arg]:List Int)))))))
def ko (a1:Call) (a2:Int) (a8:List ByteArray) (a5:List Int) (a4:List (List Int)) (a6:List Int) (a3:List Int) (a7:Int) (a9:Bool):Option (Int×aR) :=
 bif a9 then iter (kg a1 a2 a8 a5 a4 a6 a3 a7) 0 else (gQ a1 a2 a8 a5 a6 a3 a7 a4)
def fH (a1:Call) (a2:Int) (a8:List ByteArray) (a3:List Int) (a6:List (List Int)) (a7:List Int) (a5:List Int) (a4:Int):Option (Int×aR) :=
 must (0≤a4∧a4 < (a3.length:Int)) ((jJ a1.Kind).bind fun a9=>bif (idx a3 a4 != a9) then some (50,(⟨a8,a3,a6,a7,a5⟩:aR)) else (bif (a1.Kind == 2) then ko a1 a2 a8 a3 a6 a7 a5 a4 true else (ko a1 a2 a8 a3 a6 a7 a5 a4 (a1.Kind == 3))))
def kr (a0:aR) (a1:Call) (a2:Int) (a3:List Int):Option (Int×aR) :=
 must (((a0.wrote.length + 1) + (a0.wrote.length + 1) / 4 + 192) * 24≤281474976710656∧a0.wrote.length + 1≤9223372036854775807) (must (((a0.incs.length + 1) + (a0.incs.length + 1) / 4 + 192) * 8≤281474976710656∧a0.incs.length + 1≤9223372036854775807) (must (((a0.last_.length + 1) + (a0.last_.length + 1) / 4 + 192) * 8≤281474976710656∧a0.last_.length + 1≤9223372036854775807) (fH a1 a2 (a0.keys++([a1.Key]:List ByteArray)) a3 (a0.wrote++([([]:List Int)]:List (List Int))) (a0.incs++([0]:List Int)) (a0.last_++([(-1)]:List Int)) (a0.keys.length:Int))))
def ku (a0:aR) (a1:Call) (a2:Int):Option (Int×aR) :=
 (jJ a1.Kind).bind fun a3=>must (((a0.types.length + 1) + (a0.types.length + 1) / 4 + 192) * 8≤281474976710656∧a0.types.length + 1≤9223372036854775807) (kr a0 a1 a2 (a0.types++([a3]:List Int)))
def az (a0:aR) (a1:Call) (a2:Int):Option (Int×aR) :=
 (gG a0.keys a1.Key).bind fun y5=>bif decide (y5 < 0) then bif decide ((a0.keys.length:Int) ≥ 32) then some (2,a0) else (must (((a0.keys.length + 1) + (a0.keys.length + 1) / 4 + 192) * 16≤281474976710656∧a0.keys.length + 1≤9223372036854775807) (ku a0 a1 a2)) else (fH a1 a2 a0.keys a0.types a0.wrote a0.incs a0.last_ y5)
def sD (a0:History) (a2:Int) (a3:List Call) (a1:Int):Option ((List Call×Int) ⊕ ((List ByteArray×List Int×(List (List Int))×List Int×List Int×Int) ⊕ Int)) :=
 some (.inl (a3++([(⟨(idx ((idx a0.Txns a2).Ops) a1).Kind,idx a0.Keys ((idx ((idx a0.Txns a2).Ops) a1).Key),(idx ((idx a0.Txns a2).Ops) a1).Arg,(idx ((idx a0.Txns a2).Ops) a1).Got,(idx ((idx a0.Txns a2).Ops) a1).Vals⟩:Call)]:List Call),w64 (a1 + 1)))
def nO (a0:History) (a2:Int) (a1:List Call) (a3:Int) (a4:Bool):Option ((List Call×Int) ⊕ ((List ByteArray×List Int×(List (List Int))×List Int×List Int×Int) ⊕ Int)) :=
 bif a4 then out (out (some 1)) else (must (0≤(idx ((idx a0.Txns a2).Ops) a3).Key∧(idx ((idx a0.Txns a2).Ops) a3).Key < (a0.Keys.length:Int)) (must (((a1.length + 1) + (a1.length + 1) / 4 + 192) * 64≤281474976710656∧a1.length + 1≤9223372036854775807) (sD a0 a2 a1 a3)))
def iL (a8:Int) (a3:List Call):(List ByteArray×List Int×(List (List Int))×List Int×List Int×Int)→Option ((List ByteArray×List Int×(List (List Int))×List Int×List Int×Int) ⊕ ((List Call×Int) ⊕ ((List ByteArray×List Int×(List (List Int))×List Int×List Int×Int) ⊕ Int)))
 | (a5,a9,a4,a7,a6,a2)=>bif decide (a2 < (a3.length:Int)) then must (0≤a2∧a2 < (a3.length:Int)) ((az (⟨a5,a9,a4,a7,a6⟩:aR) (idx a3 a2) a8).bind fun a1=>bif (a1.1 != 0) then out (out (out (some 1))) else (some (.inl (a1.2.keys,a1.2.types,a1.2.wrote,a1.2.incs,a1.2.last_,w64 (a2 + 1))))) else (out (out (some (.inl (a5,a9,a4,a7,a6,w64 (a8 + 1))))))
def iM (a0:History) (a6:List ByteArray) (a7:List Int) (a9:List (List Int)) (a4:List Int) (a5:List Int) (a1:Int):(List Call×Int)→Option ((List Call×Int) ⊕ ((List ByteArray×List Int×(List (List Int))×List Int×List Int×Int) ⊕ Int))
 | (a3,a2)=>bif decide (a2 < (((idx a0.Txns a1).Ops).length:Int)) then must (0≤a2∧a2 < (((idx a0.Txns a1).Ops).length:Int)) (bif decide ((idx ((idx a0.Txns a1).Ops) a2).Key < 0) then nO a0 a1 a3 a2 true else (nO a0 a1 a3 a2 (decide ((idx ((idx a0.Txns a1).Ops) a2).Key ≥ (a0.Keys.length:Int))))) else ((iA ([(⟨0,(idx a0.Txns a1).Status,a3⟩:Event)]:List Event)).bind fun a8=>bif (a8 != 0) then out (out (some 1)) else (iter (iL a1 a3) (a6,a7,a9,a4,a5,0)))
def kY (a0:History) (a4:List ByteArray) (a5:List Int) (a7:List (List Int)) (a1:List Int) (a3:List Int) (a6:Int) (a2:Bool):Option ((List ByteArray×List Int×(List (List Int))×List Int×List Int×Int) ⊕ Int) :=
 bif a2 then out (some 1) else (iter (iM a0 a4 a5 a7 a1 a3 a6) ([],0))
def kZ (a0:History):(List ByteArray×List Int×(List (List Int))×List Int×List Int×Int)→Option ((List ByteArray×List Int×(List (List Int))×List Int×List Int×Int) ⊕ Int)
 | (a4,a5,a6,a2,a3,a1)=>bif decide (a1 < (a0.Txns.length:Int)) then must (0≤a1∧a1 < (a0.Txns.length:Int)) ((aY a0.Txns a1).bind fun a7=>bif !a7 then kY a0 a4 a5 a6 a2 a3 a1 true else (kY a0 a4 a5 a6 a2 a3 a1 (decide ((((idx a0.Txns a1).Ops).length:Int) > 16)))) else (out (some 0))
def jv (a0:History) (a1:Bool):Option Int :=
 bif a1 then some 1 else (iter (kZ a0) ([],[],[],[],[],0))
def aF (a0:History):Option Int :=
 (dW a0.Keys).bind fun a1=>bif !a1 then jv a0 true else (jv a0 (decide ((a0.Txns.length:Int) > 32)))
def lc (a0:Int) (a1:Bool):Option Int :=
 bif a1 then some 1 else (bif (a0 == 4) then some 4 else (bif (a0 == 5) then some 6 else (bif (a0 == 6) then some 7 else (bif (a0 == 7) then some 8 else (some 0)))))
def fA (a0:Int):Option Int :=
 bif (a0 == 1) then lc a0 (a0 == 1) else (bif (a0 == 2) then lc a0 (a0 == 2) else (lc a0 (a0 == 3)))
def iN (a0:Int):Option Bool :=
 some (decide (a0≤4))
def fT (a1:Bool):Option Int :=
 bif !a1 then some 80 else (some 0)
def sF (a1:Int) (a2:Bool):Option ((Bool×Int) ⊕ Int) :=
 some (.inl (a2,w64 (a1 + 1)))
def nP (a1:List Int):(Bool×Int)→Option ((Bool×Int) ⊕ Int)
 | (a3,a2)=>bif decide (a2 < (a1.length:Int)) then bif a3 then must (0≤w64 (a2 - 1)∧w64 (a2 - 1) < (a1.length:Int)) (must (0≤a2∧a2 < (a1.length:Int)) (sF a2 (decide (idx a1 (w64 (a2 - 1)) < idx a1 a2)))) else (sF a2 false) else (out (fT a3))
def fU (a0:Int) (a1:List Int) (b5:Bool):Option Int :=
 bif b5 then some 1 else (bif (a0 == 1) then fT (decide ((a1.length:Int)≤1)) else (bif (a0 == 4) then fT ((a1.length:Int) == 1) else (bif (a0 == 3) then iter (nP a1) (decide ((a1.length:Int)≤64),1) else (fT (decide ((a1.length:Int)≤64))))))
def aU (a0:Int) (a1:List Int):Option Int :=
 bif decide (a0 < 1) then fU a0 a1 true else (fU a0 a1 (decide (a0 > 4)))
def vO (a0:List Int) (a1:Int):Int→Option (Int ⊕ Bool)
 | a2=>bif decide (a2 < (a0.length:Int)) then must (0≤a2∧a2 < (a0.length:Int)) (bif (idx a0 a2 == a1) then out (some true) else (some (.inl (w64 (a2 + 1))))) else (out (some false))
def iO (a0:List Int) (a1:Int):Option Bool :=
 iter (vO a0 a1) 0
def wI (a2:List Int):(Int×Int)→Option ((Int×Int) ⊕ (List Int×Bool))
 | (a3,a1)=>bif decide (a1 < (a2.length:Int)) then must (0≤a1∧a1 < (a2.length:Int)) (some (.inl (w64 (a3 - (idx a2 a1)),w64 (a1 + 1)))) else (out (some (([a3]:List Int),true)))
def mQ (a1:List Int) (a2:List Int):Int→Option (Int ⊕ (List Int×Bool))
 | a3=>bif decide (a3 < (a2.length:Int)) then must (0≤w64 ((w64 ((a1.length:Int) - (a2.length:Int))) + a3)∧w64 ((w64 ((a1.length:Int) - (a2.length:Int))) + a3) < (a1.length:Int)) (must (0≤a3∧a3 < (a2.length:Int)) (bif (idx a1 (w64 ((w64 ((a1.length:Int) - (a2.length:Int))) + a3)) != idx a2 a3) then out (some (([]:List Int),false)) else (some (.inl (w64 (a3 + 1)))))) else (must (0≤(0:Int)∧(0:Int)≤(w64 ((a1.length:Int) - (a2.length:Int)))∧(w64 ((a1.length:Int) - (a2.length:Int)))≤(a1.length:Int)) (must (((0 + ((jW a1 (0:Int) (w64 ((a1.length:Int) - (a2.length:Int)))).length)) + (0 + ((jW a1 (0:Int) (w64 ((a1.length:Int) - (a2.length:Int)))).length)) / 4 + 192) * 8≤281474976710656∧0 + ((jW a1 (0:Int) (w64 ((a1.length:Int) - (a2.length:Int)))).length)≤9223372036854775807) (out (some (([]:List Int)++(jW a1 (0:Int) (w64 ((a1.length:Int) - (a2.length:Int)))),true)))))
def kD (a1:Int) (a2:Bool):Option (Int ⊕ (List Int×Bool)) :=
 bif a2 then out (some (([]:List Int),false)) else (some (.inl (w64 (a1 + 1))))
def qO (a1:Int) (a2:List Int):Option ((List Int×Int) ⊕ (Int ⊕ (List Int×Bool))) :=
 some (.inl (a2,w64 (a1 + 1)))
def mR (a1:List Int) (a2:List Int):(List Int×Int)→Option ((List Int×Int) ⊕ (Int ⊕ (List Int×Bool)))
 | (a4,a3)=>bif decide (a3 < (a1.length:Int)) then must (0≤a3∧a3 < (a1.length:Int)) ((iO a2 (idx a1 a3)).bind fun a5=>bif !a5 then must (((a4.length + 1) + (a4.length + 1) / 4 + 192) * 8≤281474976710656∧a4.length + 1≤9223372036854775807) (qO a3 (a4++([idx a1 a3]:List Int))) else (qO a3 a4)) else (out (out (some (a4,true))))
def mU (a1:List Int) (a2:List Int):Int→Option (Int ⊕ (List Int×Bool))
 | a3=>bif decide (a3 < (a2.length:Int)) then must (0≤a3∧a3 < (a2.length:Int)) ((iO a1 (idx a2 a3)).bind fun a5=>bif !a5 then kD a3 true else (must (0≤(0:Int)∧(0:Int)≤a3∧a3≤(a2.length:Int)) ((iO (jW a2 (0:Int) a3) (idx a2 a3)).bind fun a4=>kD a3 a4))) else (iter (mR a1 a2) ([],0))
def jc (a0:Int) (a1:List Int) (a2:List Int) (b9:Bool):Option (List Int×Bool) :=
 bif b9 then some (([]:List Int),false) else (bif (a0 == 1) then bif ((a1.length:Int) == 1) then must (0≤(0:Int)∧(0:Int) < (a1.length:Int)) (must (0≤w64 ((a2.length:Int) - 1)∧w64 ((a2.length:Int) - 1) < (a2.length:Int)) (some (([]:List Int),(idx a1 (0:Int) == idx a2 (w64 ((a2.length:Int) - 1)))))) else (some (([]:List Int),false)) else (bif (a0 == 4) then must (0≤(0:Int)∧(0:Int) < (a1.length:Int)) (iter (wI a2) (idx a1 (0:Int),0)) else (bif (a0 == 2) then bif decide ((a2.length:Int) > (a1.length:Int)) then some (([]:List Int),false) else (iter (mQ a1 a2) 0) else (iter (mU a1 a2) 0))))
def aQ (a0:Int) (a1:List Int) (a2:List Int):Option (List Int×Bool) :=
 (aU a0 a1).bind fun a3=>bif (a3 != 0) then jc a0 a1 a2 true else (jc a0 a1 a2 ((a2.length:Int) == 0))
def jK (a3:Int) (a2:List Ask) (a1:List Spot):Option ((List Ask×List Spot×Int) ⊕ (List Ask×List Spot)) :=
 some (.inl (a2,a1,w64 (a3 + 1)))
def rE (a2:Int) (a1:List Int):Option ((List Int×Int) ⊕ ((List Ask×List Spot×Int) ⊕ (List Ask×List Spot))) :=
 some (.inl (a1,w64 (a2 + 1)))
def rF (a0:History) (a1:Int) (a3:List Int) (a2:Int) (a4:Bool):Option ((List Int×Int) ⊕ ((List Ask×List Spot×Int) ⊕ (List Ask×List Spot))) :=
 bif a4 then must (0≤a2∧a2 < (((idx a0.Txns a1).Ops).length:Int)) (must (((a3.length + 1) + (a3.length + 1) / 4 + 192) * 8≤281474976710656∧a3.length + 1≤9223372036854775807) (rE a2 (a3++([(idx ((idx a0.Txns a1).Ops) a2).Arg]:List Int)))) else (rE a2 a3)
def rG (a0:History) (a1:Int) (a2:List Ask) (a5:List Spot) (a3:Int) (a4:List Int):Option ((List Int×Int) ⊕ ((List Ask×List Spot×Int) ⊕ (List Ask×List Spot))) :=
 must (((a2.length + 1) + (a2.length + 1) / 4 + 192) * 48≤281474976710656∧a2.length + 1≤9223372036854775807) (out (jK a3 (a2++([(⟨a1,a3,(idx ((idx a0.Txns a1).Ops) a3).Key,a4⟩:Ask)]:List Ask)) a5))
def vQ (a0:History) (a1:Int) (a5:List Ask) (a3:List Spot) (a2:Int):(List Int×Int)→Option ((List Int×Int) ⊕ ((List Ask×List Spot×Int) ⊕ (List Ask×List Spot)))
 | (a6,a4)=>bif decide (a4 < a2) then must (0≤a4∧a4 < (((idx a0.Txns a1).Ops).length:Int)) (bif ((idx ((idx a0.Txns a1).Ops) a4).Key == (idx ((idx a0.Txns a1).Ops) a2).Key) then (iN ((idx ((idx a0.Txns a1).Ops) a4).Kind)).bind fun a9=>rF a0 a1 a6 a4 a9 else (rF a0 a1 a6 a4 false)) else (must (((0 + (((idx ((idx a0.Txns a1).Ops) a2).Vals).length)) + (0 + (((idx ((idx a0.Txns a1).Ops) a2).Vals).length)) / 4 + 192) * 8≤281474976710656∧0 + (((idx ((idx a0.Txns a1).Ops) a2).Vals).length)≤9223372036854775807) (bif decide ((a6.length:Int) > 0) then (jJ ((idx ((idx a0.Txns a1).Ops) a2).Kind)).bind fun a8=>(aQ a8 ((idx ((idx a0.Txns a1).Ops) a2).Vals) a6).bind fun a7=>bif !a7.2 then must (((a3.length + 1) + (a3.length + 1) / 4 + 192) * 16≤281474976710656∧a3.length + 1≤9223372036854775807) (out (jK a2 a5 (a3++([(⟨a1,a2⟩:Spot)]:List Spot)))) else (bif ((idx ((idx a0.Txns a1).Ops) a2).Kind == 5) then out (jK a2 a5 a3) else (rG a0 a1 a5 a3 a2 a7.1)) else (rG a0 a1 a5 a3 a2 (([]:List Int)++((idx ((idx a0.Txns a1).Ops) a2).Vals)))))
def vR (a0:History) (a1:Int):(List Ask×List Spot×Int)→Option ((List Ask×List Spot×Int) ⊕ (List Ask×List Spot))
 | (a4,a3,a2)=>bif decide (a2 < (((idx a0.Txns a1).Ops).length:Int)) then must (0≤a2∧a2 < (((idx a0.Txns a1).Ops).length:Int)) ((iN ((idx ((idx a0.Txns a1).Ops) a2).Kind)).bind fun a5=>bif a5 then jK a2 a4 a3 else (iter (vQ a0 a1 a4 a3 a2) ([],0))) else (out (some (a4,a3)))
def bD (a0:History) (a1:Int):Option (List Ask×List Spot) :=
 must (0≤a1∧a1 < (a0.Txns.length:Int)) (bif ((idx a0.Txns a1).Status != 1) then some (([]:List Ask),([]:List Spot)) else (iter (vR a0 a1) ([],[],0)))
def uI (a0:History):(List Ask×List Spot×Int)→Option ((List Ask×List Spot×Int) ⊕ (List Ask×List Spot))
 | (a3,a2,a4)=>bif decide (a4 < (a0.Txns.length:Int)) then (bD a0 a4).bind fun a1=>must (((a3.length + a1.1.length) + (a3.length + a1.1.length) / 4 + 192) * 48≤281474976710656∧a3.length + a1.1.length≤9223372036854775807) (must (((a2.length + a1.2.length) + (a2.length + a1.2.length) / 4 + 192) * 16≤281474976710656∧a2.length + a1.2.length≤9223372036854775807) (some (.inl (a3++a1.1,a2++a1.2,w64 (a4 + 1))))) else (out (some (a3,a2)))
def gz (a0:History):Option (List Ask×List Spot) :=
 iter (uI a0) ([],[],0)
def mg (a0:History) (a1:Ask):Option Int :=
 must (0≤a1.Txn∧a1.Txn < (a0.Txns.length:Int)) (must (0≤a1.Place∧a1.Place < (((idx a0.Txns a1.Txn).Ops).length:Int)) ((jJ ((idx ((idx a0.Txns a1.Txn).Ops) a1.Place).Kind)).bind fun a2=>some a2))
def nQ (a2:Int) (a1:List Int):Option ((List Int×Int) ⊕ (List Int)) :=
 some (.inl (a1,w64 (a2 + 1)))
def nR (a0:History) (a1:Int) (a2:List Int) (a3:Int) (a4:Bool):Option ((List Int×Int) ⊕ (List Int)) :=
 bif a4 then must (((a2.length + 1) + (a2.length + 1) / 4 + 192) * 8≤281474976710656∧a2.length + 1≤9223372036854775807) (nQ a3 (a2++([(idx ((idx a0.Txns a1).Ops) a3).Arg]:List Int))) else (nQ a3 a2)
def sG (a0:History) (a1:Int) (a2:Int):(List Int×Int)→Option ((List Int×Int) ⊕ (List Int))
 | (a4,a3)=>must (0≤a1∧a1 < (a0.Txns.length:Int)) (bif decide (a3 < (((idx a0.Txns a1).Ops).length:Int)) then must (0≤a3∧a3 < (((idx a0.Txns a1).Ops).length:Int)) (bif ((idx ((idx a0.Txns a1).Ops) a3).Key == a2) then (iN ((idx ((idx a0.Txns a1).Ops) a3).Kind)).bind fun a5=>nR a0 a1 a4 a3 a5 else (nR a0 a1 a4 a3 false)) else (out (some a4)))
def bf (a0:History) (a1:Int) (a2:Int):Option (List Int) :=
 iter (sG a0 a1 a2) ([],0)
def mV (a1:Int) (a2:List Int):Option ((List Int×Int) ⊕ (List Int)) :=
 some (.inl (a2,w64 (a1 + 1)))
def kE (a1:List Int) (a2:Int) (a3:Bool):Option ((List Int×Int) ⊕ (List Int)) :=
 bif a3 then must (((a1.length + 1) + (a1.length + 1) / 4 + 192) * 8≤281474976710656∧a1.length + 1≤9223372036854775807) (mV a2 (a1++([a2]:List Int))) else (mV a2 a1)
def qP (a0:History) (a1:Ask):(List Int×Int)→Option ((List Int×Int) ⊕ (List Int))
 | (a3,a2)=>bif decide (a2 < (a0.Txns.length:Int)) then bif (a2 != a1.Txn) then must (0≤a2∧a2 < (a0.Txns.length:Int)) (bif ((idx a0.Txns a2).Status != 2) then (bf a0 a2 a1.Key).bind fun a4=>kE a3 a2 (decide ((a4.length:Int) > 0)) else (kE a3 a2 false)) else (kE a3 a2 false) else (out (some a3))
def bv (a0:History) (a1:Ask):Option (List Int) :=
 iter (qP a0 a1) ([],0)
def uJ (y7:List Int):(Int×Int)→Option ((Int×Int) ⊕ Int)
 | (a2,a1)=>bif decide (a1 < (y7.length:Int)) then must (0≤a1∧a1 < (y7.length:Int)) (some (.inl (w64 (a2 + (idx y7 a1)),w64 (a1 + 1)))) else (out (some a2))
def jl (a0:History) (a1:Int) (a2:Int):Option Int :=
 (bf a0 a1 a2).bind fun y7=>iter (uJ y7) (0,0)
def mW (a2:Int) (a1:Int):Option ((Int×Int) ⊕ ((List Bool×Int) ⊕ (List Int))) :=
 some (.inl (a1,w64 (a2 + 1)))
def mX (a1:Int) (a2:List Bool):Option ((List Bool×Int) ⊕ ((Int×Int) ⊕ ((List Bool×Int) ⊕ (List Int)))) :=
 some (.inl (a2,w64 (a1 + 1)))
def mY (a3:Int) (a2:List Bool) (a1:Int) (a4:Bool):Option ((List Bool×Int) ⊕ ((Int×Int) ⊕ ((List Bool×Int) ⊕ (List Int)))) :=
 bif a4 then must (0≤a1∧a1 < (a2.length:Int)) (bif idx a2 a1 then mX a1 (a2.set a1.toNat true) else (must (0≤a1∧a1 < (far:Int)) (mX a1 (a2.set a1.toNat (dm .i64 (gp .i64 a3 a1) 1 == 1))))) else (out (out (some (.inl (a2,w64 (a3 + 1))))))
def qQ (a1:Ask) (y9:List Int) (a3:Int) (a5:Int):(List Bool×Int)→Option ((List Bool×Int) ⊕ ((Int×Int) ⊕ ((List Bool×Int) ⊕ (List Int))))
 | (a4,a2)=>bif decide (a2 < (y9.length:Int)) then must (0≤(0:Int)∧(0:Int) < (a1.Base.length:Int)) (mY a3 a4 a2 (a5 == idx a1.Base (0:Int))) else (mY a3 a4 a2 false)
def qR (a0:History) (a1:Ask) (y9:List Int) (a6:List Bool) (a4:Int):(Int×Int)→Option ((Int×Int) ⊕ ((List Bool×Int) ⊕ (List Int)))
 | (a3,a2)=>bif decide (a2 < (y9.length:Int)) then must (0≤a2∧a2 < (far:Int)) (bif (dm .i64 (gp .i64 a4 a2) 1 == 1) then must (0≤a2∧a2 < (y9.length:Int)) ((jl a0 (idx y9 a2) a1.Key).bind fun a5=>mW a2 (w64 (a3 + a5))) else (mW a2 a3)) else (iter (qQ a1 y9 a4 a3) (a6,0))
def mZ (a1:Int) (a2:List Int):Option ((List Int×Int) ⊕ ((List Bool×Int) ⊕ (List Int))) :=
 some (.inl (a2,w64 (a1 + 1)))
def qU (y9:List Int) (a3:List Bool):(List Int×Int)→Option ((List Int×Int) ⊕ ((List Bool×Int) ⊕ (List Int)))
 | (a2,a1)=>bif decide (a1 < (y9.length:Int)) then must (0≤a1∧a1 < (a3.length:Int)) (bif idx a3 a1 then must (0≤a1∧a1 < (y9.length:Int)) (must (((a2.length + 1) + (a2.length + 1) / 4 + 192) * 8≤281474976710656∧a2.length + 1≤9223372036854775807) (mZ a1 (a2++([idx y9 a1]:List Int)))) else (mZ a1 a2)) else (out (out (some a2)))
def qV (a0:History) (a1:Ask) (y9:List Int):(List Bool×Int)→Option ((List Bool×Int) ⊕ (List Int))
 | (a2,a3)=>must (0≤(y9.length:Int)∧(y9.length:Int) < (far:Int)) (bif decide (a3 < HV .i64 1 (y9.length:Int)) then iter (qR a0 a1 y9 a2 a3) (0,0) else (iter (qU y9 a2) ([],0)))
def aO (a0:History) (a1:Ask):Option (List Int) :=
 (bv a0 a1).bind fun y9=>must (0≤(y9.length:Int)∧(y9.length:Int)≤9223372036854775807∧(1:Int) * (y9.length:Int)≤281474976710656) (iter (qV a0 a1 y9) (List.replicate (y9.length:Int).toNat (default:Bool),1))
def lu (a0:List Int) (a1:List Int):Int→Option (Int ⊕ Bool)
 | a2=>bif decide (a2 < (a0.length:Int)) then must (0≤a2∧a2 < (a0.length:Int)) (must (0≤a2∧a2 < (a1.length:Int)) (bif (idx a0 a2 != idx a1 a2) then out (some false) else (some (.inl (w64 (a2 + 1)))))) else (out (some true))
def dO (a0:List Int) (a1:List Int):Option Bool :=
 bif ((a0.length:Int) != (a1.length:Int)) then some false else (iter (lu a0 a1) 0)
def mD (a0:List Int) (a1:List Int):Option Bool :=
 bif decide ((a1.length:Int) > (a0.length:Int)) then some false else (must (0≤(0:Int)∧(0:Int)≤(a1.length:Int)∧(a1.length:Int)≤(a0.length:Int)) ((dO (jW a0 (0:Int) (a1.length:Int)) a1).bind fun a2=>some a2))
def oJ (a1:Int) (a2:Int):Option ((Int×Int) ⊕ ((List Int×List Int) ⊕ (List Int×Bool))) :=
 some (.inl (a2,w64 (a1 + 1)))
def tZ (a0:History) (a1:Ask) (a2:List Int) (a3:List Int) (a6:Int):Int→Option (Int ⊕ ((Int×Int) ⊕ ((List Int×List Int) ⊕ (List Int×Bool))))
 | a4=>bif decide (a4 < (a2.length:Int)) then must (0≤a4∧a4 < (a2.length:Int)) (bif (idx a2 a4 == a6) then out (out (out (some (([]:List Int),false)))) else (some (.inl (w64 (a4 + 1))))) else (must (((a2.length + 1) + (a2.length + 1) / 4 + 192) * 8≤281474976710656∧a2.length + 1≤9223372036854775807) ((bf a0 a6 a1.Key).bind fun a5=>must (0≤(a5.length:Int)∧(a5.length:Int)≤(a3.length:Int)∧(a3.length:Int)≤(a3.length:Int)) (out (out (some (.inl (a2++([a6]:List Int),jW a3 (a5.length:Int) (a3.length:Int))))))))
def uf (a0:History) (a1:Ask) (y9:List Int) (a5:List Int) (a4:List Int):(Int×Int)→Option ((Int×Int) ⊕ ((List Int×List Int) ⊕ (List Int×Bool)))
 | (a3,a2)=>bif decide (a2 < (y9.length:Int)) then must (0≤a2∧a2 < (y9.length:Int)) ((bf a0 (idx y9 a2) a1.Key).bind fun a6=>(mD a4 a6).bind fun a7=>bif a7 then oJ a2 (idx y9 a2) else (oJ a2 a3)) else (bif decide (a3 < 0) then out (out (some (([]:List Int),false))) else (iter (tZ a0 a1 a5 a4 a3) 0))
def lJ (a0:History) (a1:Ask) (y9:List Int):(List Int×List Int)→Option ((List Int×List Int) ⊕ (List Int×Bool))
 | (a2,a3)=>bif decide ((a3.length:Int) > 0) then iter (uf a0 a1 y9 a2 a3) ((-1),0) else (out (some (a2,true)))
def bO (a0:History) (a1:Ask):Option (List Int×Bool) :=
 (bv a0 a1).bind fun y9=>iter (lJ a0 a1 y9) ([],a1.Base)
def sH (a0:List Int) (a1:Int):Int→Option (Int ⊕ Bool)
 | a2=>bif decide (a2 < (a0.length:Int)) then must (0≤a2∧a2 < (a0.length:Int)) (bif (idx a0 a2 == a1) then out (some true) else (some (.inl (w64 (a2 + 1))))) else (out (some false))
def iB (a0:List Int) (a1:Int):Option Bool :=
 iter (sH a0 a1) 0
def qb (a2:Int) (a1:List Int) (a3:Int):Option ((List Int×Int×Int) ⊕ (List Int×Bool)) :=
 some (.inl (a1,a3,w64 (a2 + 1)))
def qc (a1:Int) (a2:Int):Option ((Int×Int) ⊕ ((List Int×Int×Int) ⊕ (List Int×Bool))) :=
 some (.inl (a2,w64 (a1 + 1)))
def qd (y9:List Int) (a1:List Int) (a4:Int) (a2:Int) (a3:Int) (a5:Bool):Option ((Int×Int) ⊕ ((List Int×Int×Int) ⊕ (List Int×Bool))) :=
 bif a5 then out (out (some (([]:List Int),false))) else (bif decide (a3 > 0) then must (((a1.length + 1) + (a1.length + 1) / 4 + 192) * 8≤281474976710656∧a1.length + 1≤9223372036854775807) (out (qb a2 (a1++([idx y9 a2]:List Int)) (w64 (a4 + a3)))) else (out (qb a2 a1 a4)))
def uK (a1:Ask) (y9:List Int) (a6:List Int) (a7:Int) (a5:Int) (a4:List Int):(Int×Int)→Option ((Int×Int) ⊕ ((List Int×Int×Int) ⊕ (List Int×Bool)))
 | (a2,a3)=>bif decide (a3 < (a4.length:Int)) then must (0≤a3∧a3 < (a4.length:Int)) ((iB a1.Base (idx a4 a3)).bind fun a8=>bif a8 then qc a3 (w64 (a2 + 1)) else (qc a3 a2)) else (bif decide (a2 > 0) then qd y9 a6 a7 a5 a2 (decide (a2 < (a4.length:Int))) else (qd y9 a6 a7 a5 a2 false))
def uL (a0:History) (a1:Ask) (y9:List Int):(List Int×Int×Int)→Option ((List Int×Int×Int) ⊕ (List Int×Bool))
 | (a3,a4,a2)=>bif decide (a2 < (y9.length:Int)) then must (0≤a2∧a2 < (y9.length:Int)) ((bf a0 (idx y9 a2) a1.Key).bind fun a5=>iter (uK a1 y9 a3 a4 a2 a5) (0,0)) else (bif (a4 != (a1.Base.length:Int)) then out (some (([]:List Int),false)) else (out (some (a3,true))))
def bI (a0:History) (a1:Ask):Option (List Int×Bool) :=
 (bv a0 a1).bind fun y9=>iter (uL a0 a1 y9) ([],0,0)
def rH (a1:List Int):Option (List Int) :=
 some a1
def jL (a1:List Int):Option (List Int) :=
 some a1
def rJ (a2:Int) (a1:List Int):Option ((List Int×Int) ⊕ (List Int)) :=
 some (.inl (a1,w64 (a2 + 1)))
def rM (a0:History) (a1:Ask) (a5:List Int):(List Int×Int)→Option ((List Int×Int) ⊕ (List Int))
 | (a3,a2)=>bif decide (a2 < (a5.length:Int)) then must (0≤a2∧a2 < (a5.length:Int)) ((bf a0 (idx a5 a2) a1.Key).bind fun a4=>must (0≤w64 ((a4.length:Int) - 1)∧w64 ((a4.length:Int) - 1) < (a4.length:Int)) (must (0≤(0:Int)∧(0:Int) < (a1.Base.length:Int)) (bif (idx a4 (w64 ((a4.length:Int) - 1)) == idx a1.Base (0:Int)) then must (((a3.length + 1) + (a3.length + 1) / 4 + 192) * 8≤281474976710656∧a3.length + 1≤9223372036854775807) (rJ a2 (a3++([idx a5 a2]:List Int))) else (rJ a2 a3)))) else (out (jL a3))
def bN (a0:History) (a1:Ask):Option (List Int) :=
 (mg a0 a1).bind fun y7=>bif (y7 == 4) then (aO a0 a1).bind fun a3=>must (0≤(0:Int)∧(0:Int) < (a1.Base.length:Int)) (bif (idx a1.Base (0:Int) == 0) then must (((1 + a3.length) + (1 + a3.length) / 4 + 192) * 8≤281474976710656∧1 + a3.length≤9223372036854775807) (rH (([(-1)]:List Int)++a3)) else (rH a3)) else (bif ((a1.Base.length:Int) == 0) then some ([(-1)]:List Int) else (bif (y7 == 1) then (bv a0 a1).bind fun a5=>iter (rM a0 a1 a5) ([],0) else (bif (y7 == 2) then (bO a0 a1).bind fun a2=>bif a2.2 then must (0≤w64 ((a2.1.length:Int) - 1)∧w64 ((a2.1.length:Int) - 1) < (a2.1.length:Int)) (must (((0 + 1) + (0 + 1) / 4 + 192) * 8≤281474976710656∧0 + 1≤9223372036854775807) (jL (([]:List Int)++([idx a2.1 (w64 ((a2.1.length:Int) - 1))]:List Int)))) else (jL []) else ((bI a0 a1).bind fun a4=>bif a4.2 then jL a4.1 else (jL [])))))
def nS (a2:Int) (a1:List Ask):Option ((List Ask×Int) ⊕ (List Ask×Int)) :=
 some (.inl (a1,w64 (a2 + 1)))
def nT (a0:History) (a3:List Ask×List Spot):(List Ask×Int)→Option ((List Ask×Int) ⊕ (List Ask×Int))
 | (a2,a1)=>bif decide (a1 < (a3.1.length:Int)) then must (0≤a1∧a1 < (a3.1.length:Int)) ((bN a0 (idx a3.1 a1)).bind fun a4=>bif ((a4.length:Int) == 0) then must (((a2.length + 1) + (a2.length + 1) / 4 + 192) * 48≤281474976710656∧a2.length + 1≤9223372036854775807) (nS a1 (a2++([(idx a3.1 a1)]:List Ask))) else (nS a1 a2)) else (out (some (a2,0)))
def dX (a0:History):Option (List Ask×Int) :=
 (aF a0).bind fun y8=>bif (y8 != 0) then some (([]:List Ask),1) else ((gz a0).bind fun a1=>iter (nT a0 a1) ([],0))
def lW (a1:Int) (a2:Bool):Option (Int ⊕ (Int ⊕ Bool)) :=
 bif a2 then out (out (some true)) else (some (.inl (w64 (a1 + 1))))
def iQ (a1:dA) (a3:List Ask×Int) (a2:Int) (a4:Bool):Option (Int ⊕ (Int ⊕ Bool)) :=
 bif a4 then must (0≤a2∧a2 < (a3.1.length:Int)) (bif ((idx a3.1 a2).Txn == a1.Spot.Txn) then lW a2 ((idx a3.1 a2).Place == a1.Spot.Place) else (lW a2 false)) else (out (out (some false)))
def lX (a1:dA) (a2:List Ask×Int):Int→Option (Int ⊕ (Int ⊕ Bool))
 | a3=>bif decide (a3 < (a2.1.length:Int)) then iQ a1 a2 a3 (a1.Kind == 2) else (iQ a1 a2 a3 false)
def iR (a0:History) (a1:dA) (a3:List Ask×List Spot) (a2:Int) (a4:Bool):Option (Int ⊕ Bool) :=
 bif a4 then must (0≤a2∧a2 < (a3.2.length:Int)) (bif (((idx a3.2 a2).Txn == a1.Spot.Txn) && (((idx a3.2 a2).Place == a1.Spot.Place) && true)) then out (some true) else (some (.inl (w64 (a2 + 1))))) else ((dX a0).bind fun a5=>iter (lX a1 a5) 0)
def qf (a0:History) (a1:dA) (a2:List Ask×List Spot):Int→Option (Int ⊕ Bool)
 | a3=>bif decide (a3 < (a2.2.length:Int)) then iR a0 a1 a2 a3 (a1.Kind == 1) else (iR a0 a1 a2 a3 false)
def aW (a0:History) (a1:dA):Option Bool :=
 (gz a0).bind fun a2=>iter (qf a0 a1 a2) 0
def lg (a1:Int) (a2:List Edge):Option ((List Edge×Int) ⊕ (List Edge)) :=
 some (.inl (a2,w64 (a1 + 1)))
def nU (a1:Int) (a2:List Edge):Option ((List Edge×Int) ⊕ (List Edge)) :=
 lg a1 a2
def nV (a1:List Edge) (a2:Int) (a3:Int) (a4:Bool):Option (Int ⊕ ((List Edge×Int) ⊕ (List Edge))) :=
 bif a4 then must (((a1.length + 1) + (a1.length + 1) / 4 + 192) * 32≤281474976710656∧a1.length + 1≤9223372036854775807) (out (nU a2 (a1++([(⟨a2,a3,1,(-1)⟩:Edge)]:List Edge)))) else (some (.inl (w64 (a3 + 1))))
def sI (a0:History) (a3:List Edge) (a2:Int):Int→Option (Int ⊕ ((List Edge×Int) ⊕ (List Edge)))
 | a1=>bif decide (a1 < (a0.Txns.length:Int)) then must (0≤a1∧a1 < (a0.Txns.length:Int)) (bif ((idx a0.Txns a1).Status == 1) then nV a3 a2 a1 ((idx a0.Txns a1).Proc == (idx a0.Txns a2).Proc) else (nV a3 a2 a1 false)) else (out (nU a2 a3))
def nW (a1:Int) (a2:List Edge):Option ((List Edge×Int) ⊕ ((List Edge×Int) ⊕ ((List Edge×Int) ⊕ (List Edge)))) :=
 some (.inl (a2,w64 (a1 + 1)))
def lh (a4:Int) (a1:List Edge) (a2:Int) (a3:Bool):Option ((List Edge×Int) ⊕ ((List Edge×Int) ⊕ ((List Edge×Int) ⊕ (List Edge)))) :=
 bif a3 then must (((a1.length + 1) + (a1.length + 1) / 4 + 192) * 32≤281474976710656∧a1.length + 1≤9223372036854775807) (nW a2 (a1++([(⟨a4,a2,2,(-1)⟩:Edge)]:List Edge))) else (nW a2 a1)
def sJ (a0:History) (a2:Int):(List Edge×Int)→Option ((List Edge×Int) ⊕ ((List Edge×Int) ⊕ ((List Edge×Int) ⊕ (List Edge))))
 | (a3,a1)=>bif decide (a1 < (a0.Txns.length:Int)) then must (0≤a2∧a2 < (a0.Txns.length:Int)) (bif ((idx a0.Txns a2).Status == 1) then must (0≤a1∧a1 < (a0.Txns.length:Int)) (bif ((idx a0.Txns a1).Status == 1) then lh a2 a3 a1 (decide ((idx a0.Txns a2).To < (idx a0.Txns a1).From)) else (lh a2 a3 a1 false)) else (lh a2 a3 a1 false)) else (out (some (.inl (a3,w64 (a2 + 1)))))
def nX (a0:History):(List Edge×Int)→Option ((List Edge×Int) ⊕ ((List Edge×Int) ⊕ (List Edge)))
 | (a1,a2)=>bif decide (a2 < (a0.Txns.length:Int)) then iter (sJ a0 a2) (a1,0) else (out (out (some a1)))
def sK (a0:History):(List Edge×Int)→Option ((List Edge×Int) ⊕ (List Edge))
 | (a2,a1)=>bif decide (a1 < (a0.Txns.length:Int)) then must (0≤a1∧a1 < (a0.Txns.length:Int)) (bif ((idx a0.Txns a1).Status != 1) then lg a1 a2 else (iter (sI a0 a2 a1) (w64 (a1 + 1)))) else (iter (nX a0) (a2,0))
def aK (a0:History):Option (List Edge) :=
 iter (sK a0) ([],0)
def mh (a0:History) (a1:Ask):Option (Int×Bool) :=
 (bN a0 a1).bind fun y9=>bif ((y9.length:Int) != 1) then some (0,false) else (must (0≤(0:Int)∧(0:Int) < (y9.length:Int)) (some (idx y9 (0:Int),true)))
def mi (a0:History) (a1:Ask):Option (List Int×Bool) :=
 (mg a0 a1).bind fun a3=>bif (a3 == 2) then (bO a0 a1).bind fun a2=>some (a2.1,a2.2) else (bif (a3 == 3) then (bI a0 a1).bind fun a4=>some (a4.1,a4.2) else (some (([]:List Int),false)))
def lY (a1:Int) (a2:List Int):Option ((List Int×Int) ⊕ (List Int)) :=
 some (.inl (a2,w64 (a1 + 1)))
def jM (a1:List Int) (a2:Int) (a3:Bool):Option ((List Int×Int) ⊕ (List Int)) :=
 bif a3 then must (((a1.length + 1) + (a1.length + 1) / 4 + 192) * 8≤281474976710656∧a1.length + 1≤9223372036854775807) (lY a2 (a1++([a2]:List Int))) else (lY a2 a1)
def qg (a0:History) (a1:Int) (a2:Int):(List Int×Int)→Option ((List Int×Int) ⊕ (List Int))
 | (a4,a3)=>bif decide (a3 < (a0.Txns.length:Int)) then bif (a3 != a2) then must (0≤a3∧a3 < (a0.Txns.length:Int)) (bif ((idx a0.Txns a3).Status == 1) then (bf a0 a3 a1).bind fun a5=>jM a4 a3 (decide ((a5.length:Int) > 0)) else (jM a4 a3 false)) else (jM a4 a3 false) else (out (some a4))
def bS (a0:History) (a1:Int) (a2:Int):Option (List Int) :=
 iter (qg a0 a1 a2) ([],0)
def vT (a0:List Int) (a1:Int):Int→Option (Int ⊕ Bool)
 | a2=>bif decide (a2 < (a0.length:Int)) then must (0≤a2∧a2 < (a0.length:Int)) (bif (idx a0 a2 == a1) then out (some true) else (some (.inl (w64 (a2 + 1))))) else (out (some false))
def gZ (a0:List Int) (a1:Int):Option Bool :=
 iter (vT a0 a1) 0
def oK (a1:Int):Option (Int ⊕ Bool) :=
 some (.inl (w64 (a1 + 1)))
def oL (a2:Int) (a1:Bool):Option (Int ⊕ Bool) :=
 bif a1 then out (some true) else (oK a2)
def oM (a0:History) (a1:List Ask) (a4:Int) (a2:Int) (a5:Bool):Option (Int ⊕ Bool) :=
 bif a5 then must (0≤a2∧a2 < (a1.length:Int)) ((mh a0 (idx a1 a2)).bind fun a3=>bif a3.2 then oL a2 (a3.1 == a4) else (oL a2 false)) else (oK a2)
def ug (a0:History) (a1:List Ask) (a2:Int) (a3:Int) (a4:Int):Int→Option (Int ⊕ Bool)
 | a5=>bif decide (a5 < (a1.length:Int)) then must (0≤a5∧a5 < (a1.length:Int)) (bif ((idx a1 a5).Txn == a2) then oM a0 a1 a4 a5 ((idx a1 a5).Key == a3) else (oM a0 a1 a4 a5 false)) else (out (some false))
def bP (a0:History) (a1:List Ask) (a2:Int) (a3:Int) (a4:Int):Option Bool :=
 iter (ug a0 a1 a2 a3 a4) 0
def mE (a2:Int) (a1:List Edge):Option ((List Edge×Int) ⊕ (List Edge)) :=
 some (.inl (a1,w64 (a2 + 1)))
def qh (a2:Int) (a1:List Edge):Option ((List Edge×Int) ⊕ ((List Edge×Int) ⊕ (List Edge))) :=
 some (.inl (a1,w64 (a2 + 1)))
def qi (a2:Ask) (a6:List Int×Bool) (a4:List Int) (a5:Int):(List Edge×Int)→Option ((List Edge×Int) ⊕ ((List Edge×Int) ⊕ (List Edge)))
 | (a3,a1)=>bif decide (a1 < (a4.length:Int)) then must (0≤a1∧a1 < (a4.length:Int)) ((gZ a6.1 (idx a4 a1)).bind fun a7=>bif !a7 then must (0≤a5∧a5 < (a6.1.length:Int)) (must (((a3.length + 1) + (a3.length + 1) / 4 + 192) * 32≤281474976710656∧a3.length + 1≤9223372036854775807) (qh a1 (a3++([(⟨idx a6.1 a5,idx a4 a1,8,a2.Key⟩:Edge)]:List Edge)))) else (qh a1 a3)) else (out (mE a5 a3))
def qj (a2:Ask) (a3:List Int×Bool) (a5:List Int) (a4:List Edge) (a1:Int) (a6:Bool):Option ((List Edge×Int) ⊕ (List Edge)) :=
 bif a6 then must (0≤a1∧a1 < (a3.1.length:Int)) (must (0≤w64 (a1 + 1)∧w64 (a1 + 1) < (a3.1.length:Int)) (must (((a4.length + 1) + (a4.length + 1) / 4 + 192) * 32≤281474976710656∧a4.length + 1≤9223372036854775807) (mE a1 (a4++([(⟨idx a3.1 a1,idx a3.1 (w64 (a1 + 1)),8,a2.Key⟩:Edge)]:List Edge))))) else (iter (qi a2 a3 a5 a1) (a4,0))
def oN (a1:Int) (a2:List Edge):Option ((List Edge×Int) ⊕ ((List Edge×Int) ⊕ (List Edge))) :=
 some (.inl (a2,w64 (a1 + 1)))
def iX (a2:Ask) (a4:List Int) (a3:List Edge) (a1:Int) (a5:Bool):Option ((List Edge×Int) ⊕ ((List Edge×Int) ⊕ (List Edge))) :=
 bif a5 then must (0≤a1∧a1 < (a4.length:Int)) (must (((a3.length + 1) + (a3.length + 1) / 4 + 192) * 32≤281474976710656∧a3.length + 1≤9223372036854775807) (oN a1 (a3++([(⟨a2.Txn,idx a4 a1,16,a2.Key⟩:Edge)]:List Edge)))) else (oN a1 a3)
def jU (a0:History) (a1:List Ask) (a2:Ask) (a8:Int×Bool) (a4:List Int) (a5:List Edge) (a3:Int) (a6:Bool) (a9:Bool):Option ((List Edge×Int) ⊕ ((List Edge×Int) ⊕ (List Edge))) :=
 bif a9 then must (0≤a3∧a3 < (a4.length:Int)) ((bP a0 a1 (idx a4 a3) a2.Key a8.1).bind fun a7=>iX a2 a4 a5 a3 a7) else (iX a2 a4 a5 a3 a6)
def fE (a0:History) (a1:List Ask) (a2:Ask) (a8:Int) (a3:Int×Bool) (a5:List Int) (a7:List Edge) (a4:Int) (a6:Bool):Option ((List Edge×Int) ⊕ ((List Edge×Int) ⊕ (List Edge))) :=
 bif (a8 == 1) then bif a3.2 then bif (a3.1 != (-1)) then must (0≤a4∧a4 < (a5.length:Int)) (jU a0 a1 a2 a3 a5 a7 a4 a6 (idx a5 a4 != a3.1)) else (jU a0 a1 a2 a3 a5 a7 a4 a6 false) else (jU a0 a1 a2 a3 a5 a7 a4 a6 false) else (jU a0 a1 a2 a3 a5 a7 a4 a6 false)
def ql (a0:History) (a1:List Ask) (a2:Ask) (a7:Int) (a5:Int×Bool) (a8:List Int×Bool) (a9:Bool) (a4:List Int):(List Edge×Int)→Option ((List Edge×Int) ⊕ ((List Edge×Int) ⊕ (List Edge)))
 | (a6,a3)=>bif decide (a3 < (a4.length:Int)) then bif a5.2 then bif (a5.1 == (-1)) then fE a0 a1 a2 a7 a5 a4 a6 a3 true else (bif a9 then must (0≤a3∧a3 < (a4.length:Int)) ((gZ a8.1 (idx a4 a3)).bind fun b1=>fE a0 a1 a2 a7 a5 a4 a6 a3 (!b1)) else (fE a0 a1 a2 a7 a5 a4 a6 a3 false)) else (bif a9 then must (0≤a3∧a3 < (a4.length:Int)) ((gZ a8.1 (idx a4 a3)).bind fun b0=>fE a0 a1 a2 a7 a5 a4 a6 a3 (!b0)) else (fE a0 a1 a2 a7 a5 a4 a6 a3 false)) else (out (out (some a6)))
def jq (a0:History) (a1:List Ask) (a2:Ask) (a7:Int) (b0:Int×Bool) (a3:List Int×Bool) (a8:Bool) (a4:List Int) (a6:List Edge) (a5:Int) (a9:Bool):Option ((List Edge×Int) ⊕ (List Edge)) :=
 bif a9 then bif (a7 == 2) then qj a2 a3 a4 a6 a5 (decide (w64 (a5 + 1) < (a3.1.length:Int))) else (qj a2 a3 a4 a6 a5 false) else (iter (ql a0 a1 a2 a7 b0 a3 a8 a4) (a6,0))
def qm (a0:History) (a1:List Ask) (a2:Ask) (a8:Int) (a7:Int×Bool) (a3:List Int×Bool) (a4:Bool) (a6:List Int):(List Edge×Int)→Option ((List Edge×Int) ⊕ (List Edge))
 | (a9,a5)=>bif decide (a5 < (a3.1.length:Int)) then jq a0 a1 a2 a8 a7 a3 a4 a6 a9 a5 a4 else (jq a0 a1 a2 a8 a7 a3 a4 a6 a9 a5 false)
def mF (a0:History) (a1:List Ask) (a2:Ask) (a8:Int) (a6:Int×Bool) (a7:List Edge) (a4:List Int×Bool) (a5:Bool):Option (List Edge) :=
 (bS a0 a2.Key a2.Txn).bind fun a3=>iter (qm a0 a1 a2 a8 a6 a4 a5 a3) (a7,0)
def kH (a0:History) (a1:List Ask) (a2:Ask) (a6:Int) (a5:Int×Bool) (a4:List Edge):Option (List Edge) :=
 (mi a0 a2).bind fun a3=>bif a3.2 then mF a0 a1 a2 a6 a5 a4 a3 (decide ((a2.Base.length:Int) > 0)) else (mF a0 a1 a2 a6 a5 a4 a3 false)
def oO (a0:History) (a1:List Ask) (a2:Ask) (a4:Int) (a3:Int×Bool) (a5:Bool):Option (List Edge) :=
 bif a5 then must (((0 + 1) + (0 + 1) / 4 + 192) * 32≤281474976710656∧0 + 1≤9223372036854775807) (kH a0 a1 a2 a4 a3 (([]:List Edge)++([(⟨a3.1,a2.Txn,4,a2.Key⟩:Edge)]:List Edge))) else (kH a0 a1 a2 a4 a3 [])
def ax (a0:History) (a1:List Ask) (a2:Ask):Option (List Edge) :=
 must (0≤a2.Txn∧a2.Txn < (a0.Txns.length:Int)) (must (0≤a2.Place∧a2.Place < (((idx a0.Txns a2.Txn).Ops).length:Int)) ((jJ ((idx ((idx a0.Txns a2.Txn).Ops) a2.Place).Kind)).bind fun a4=>(mh a0 a2).bind fun a3=>bif a3.2 then oO a0 a1 a2 a4 a3 (a3.1 != (-1)) else (oO a0 a1 a2 a4 a3 false)))
def vU (a2:Int) (a1:List Edge):Option ((List Edge×Int) ⊕ dP) :=
 some (.inl (a1,w64 (a2 + 1)))
def vV (a0:History) (a4:List Ask×List Spot):(List Edge×Int)→Option ((List Edge×Int) ⊕ dP)
 | (a1,a2)=>bif decide (a2 < (a4.1.length:Int)) then must (0≤a2∧a2 < (a4.1.length:Int)) ((ax a0 a4.1 (idx a4.1 a2)).bind fun a3=>must (((a1.length + a3.length) + (a1.length + a3.length) / 4 + 192) * 32≤281474976710656∧a1.length + a3.length≤9223372036854775807) (vU a2 (a1++a3))) else (out (some (⟨(a0.Txns.length:Int),a1⟩:dP)))
def vW (a0:History) (a2:List Edge):Option dP :=
 (gz a0).bind fun a1=>iter (vV a0 a1) (a2,0)
def eX (a0:History):Option dP :=
 (aK a0).bind fun a1=>vW a0 a1
def eY (a2:Int) (a1:Bool):Option (Int ⊕ Int) :=
 bif a1 then out (some 60) else (some (.inl (w64 (a2 + 1))))
def xC (a0:dP):Int→Option (Int ⊕ Int)
 | a1=>bif decide (a1 < (a0.Edges.length:Int)) then must (0≤a1∧a1 < (a0.Edges.length:Int)) (bif decide ((idx a0.Edges a1).From < 0) then eY a1 true else (bif decide ((idx a0.Edges a1).From ≥ a0.N) then eY a1 true else (bif decide ((idx a0.Edges a1).To < 0) then eY a1 true else (bif decide ((idx a0.Edges a1).To ≥ a0.N) then eY a1 true else (bif decide ((idx a0.Edges a1).Kind < 1) then eY a1 true else (bif decide ((idx a0.Edges a1).Kind > 16) then eY a1 true else (eY a1 (dm .i64 ((idx a0.Edges a1).Kind) (w64 (((idx a0.Edges a1).Kind) - 1)) != 0)))))))) else (out (some 0))
def jw (a0:dP) (b9:Bool):Option Int :=
 bif b9 then some 60 else (iter (xC a0) 0)
def bB (a0:dP):Option Int :=
 bif decide (a0.N < 0) then jw a0 true else (bif decide (a0.N > 64) then jw a0 true else (jw a0 (decide ((a0.Edges.length:Int) > 262144))))
def gy (a1:List Edge) (a3:List Bool) (a2:Int) (a4:Bool):Option ((Bool×Int) ⊕ ((List Bool×Int) ⊕ Bool)) :=
 bif a4 then out (out (some false)) else (out (some (.inl (a3.set ((idx a1 a2).From).toNat true,w64 (a2 + 1)))))
def iY (a1:List Edge) (a2:Int) (a3:Int) (a4:Int) (a6:List Bool) (a5:Int) (a7:Bool):Option ((Bool×Int) ⊕ ((List Bool×Int) ⊕ Bool)) :=
 bif a7 then out (out (some false)) else (bif (a4 == 3) then bif !(dm .i64 ((idx a1 a5).Kind) a2 != 0) then bif !(dm .i64 ((idx a1 a5).Kind) a3 != 0) then gy a1 a6 a5 true else (gy a1 a6 a5 (dm .i64 ((idx a1 ((w64 (a5 + 1)).tmod (a1.length:Int))).Kind) a2 == 0)) else (gy a1 a6 a5 false) else (gy a1 a6 a5 false))
def lK (a1:List Edge) (a2:Int) (a3:Int) (a4:Int) (a6:List Bool) (a5:Int) (a7:Bool):Option ((Bool×Int) ⊕ ((List Bool×Int) ⊕ Bool)) :=
 bif a7 then iY a1 a2 a3 a4 a6 a5 a7 else (bif (a4 == 2) then bif decide (a5 > 0) then iY a1 a2 a3 a4 a6 a5 (!(dm .i64 ((idx a1 a5).Kind) a2 != 0)) else (iY a1 a2 a3 a4 a6 a5 false) else (iY a1 a2 a3 a4 a6 a5 false))
def oP (a1:List Edge) (a2:Int) (a3:Int) (a4:Int) (a6:List Bool) (a5:Int) (a7:Bool):Option ((Bool×Int) ⊕ ((List Bool×Int) ⊕ Bool)) :=
 bif a7 then iY a1 a2 a3 a4 a6 a5 a7 else (bif (a4 == 2) then bif (a5 == 0) then lK a1 a2 a3 a4 a6 a5 (!(dm .i64 ((idx a1 a5).Kind) a3 != 0)) else (lK a1 a2 a3 a4 a6 a5 false) else (lK a1 a2 a3 a4 a6 a5 false))
def lL (a1:List Edge) (a2:Int) (a3:Int) (a4:Int) (a6:List Bool) (a5:Int) (a7:Bool):Option ((Bool×Int) ⊕ ((List Bool×Int) ⊕ Bool)) :=
 bif a7 then out (out (some false)) else (must (0≤a5∧a5 < (a1.length:Int)) (must (0≤(idx a1 a5).From∧(idx a1 a5).From < (a6.length:Int)) (bif (a4 == 1) then oP a1 a2 a3 a4 a6 a5 (!(dm .i64 ((idx a1 a5).Kind) a2 != 0)) else (oP a1 a2 a3 a4 a6 a5 false))))
def jV (a0:dP) (a1:List Edge) (a2:Int) (a3:Int) (a4:Int) (a7:List Bool) (a5:Int) (a8:Bool) (a6:Int) (a9:Bool):Option ((Bool×Int) ⊕ ((List Bool×Int) ⊕ Bool)) :=
 bif a9 then must (0≤a6∧a6 < (a0.Edges.length:Int)) (must (0≤a5∧a5 < (a1.length:Int)) (some (.inl ((((idx a0.Edges a6).From == (idx a1 a5).From) && (((idx a0.Edges a6).To == (idx a1 a5).To) && (((idx a0.Edges a6).Kind == (idx a1 a5).Kind) && (((idx a0.Edges a6).Key == (idx a1 a5).Key) && true)))),w64 (a6 + 1))))) else (must ((a1.length:Int)≠0) (must (0≤(w64 (a5 + 1)).tmod (a1.length:Int)∧(w64 (a5 + 1)).tmod (a1.length:Int) < (a1.length:Int)) (bif !a8 then lL a1 a2 a3 a4 a7 a5 true else (must (0≤a5∧a5 < (a1.length:Int)) (must (0≤(idx a1 a5).From∧(idx a1 a5).From < (a7.length:Int)) (bif idx a7 ((idx a1 a5).From) then lL a1 a2 a3 a4 a7 a5 true else (lL a1 a2 a3 a4 a7 a5 ((idx a1 a5).To != (idx a1 ((w64 (a5 + 1)).tmod (a1.length:Int))).From))))))))
def uh (a0:dP) (a1:List Edge) (a2:Int) (a3:Int) (a4:Int) (a7:List Bool) (a8:Int):(Bool×Int)→Option ((Bool×Int) ⊕ ((List Bool×Int) ⊕ Bool))
 | (a6,a5)=>bif decide (a5 < (a0.Edges.length:Int)) then jV a0 a1 a2 a3 a4 a7 a8 a6 a5 (!a6) else (jV a0 a1 a2 a3 a4 a7 a8 a6 a5 false)
def ui (a0:dP) (a1:List Edge) (a2:Int) (a3:Int) (a4:Int):(List Bool×Int)→Option ((List Bool×Int) ⊕ Bool)
 | (a6,a5)=>bif decide (a5 < (a1.length:Int)) then iter (uh a0 a1 a2 a3 a4 a6 a5) (false,0) else (out (some true))
def iZ (a0:dP) (a1:List Edge) (a2:Int) (a3:Int) (a4:Int) (a5:Bool):Option Bool :=
 bif a5 then some false else (must (0≤a0.N∧a0.N≤9223372036854775807∧(1:Int) * a0.N≤281474976710656) (iter (ui a0 a1 a2 a3 a4) (List.replicate a0.N.toNat (default:Bool),0)))
def aB (a0:dP) (a1:List Edge) (a2:Int) (a3:Int) (a4:Int):Option Bool :=
 (bB a0).bind fun a5=>bif (a5 != 0) then iZ a0 a1 a2 a3 a4 true else (bif ((a1.length:Int) == 0) then iZ a0 a1 a2 a3 a4 true else (bif decide (a4 < 1) then iZ a0 a1 a2 a3 a4 true else (iZ a0 a1 a2 a3 a4 (decide (a4 > 3)))))
def ja (a0:History) (a1:dA) (a5:Bool):Option Bool :=
 bif a5 then some false else (bif decide (a1.Kind≤2) then bif ((a1.Cycle.length:Int) == 0) then (aW a0 a1).bind fun a6=>some a6 else (some false) else (bif !((a1.Spot.Txn == 0) && ((a1.Spot.Place == 0) && true)) then some false else ((eX a0).bind fun a2=>bif (a1.Kind == 3) then (aB a2 a1.Cycle 13 0 1).bind fun a4=>some a4 else (bif (a1.Kind == 4) then (aB a2 a1.Cycle 5 16 2).bind fun a9=>some a9 else (bif (a1.Kind == 5) then (aB a2 a1.Cycle 13 16 3).bind fun a7=>some a7 else (bif (a1.Kind == 6) then (aB a2 a1.Cycle 29 0 1).bind fun a8=>some a8 else ((aB a2 a1.Cycle 31 0 1).bind fun a3=>some a3)))))))
def eH (a0:History) (a1:dA):Option Bool :=
 (aF a0).bind fun a3=>bif (a3 != 0) then ja a0 a1 true else ((fA a1.Kind).bind fun a4=>bif (a4 == 0) then ja a0 a1 true else ((fA a1.Kind).bind fun a2=>ja a0 a1 (a1.Level != a2)))
def ng (a0:History) (a1:dA):Option Bool :=
 (rD).bind fun a3=>bif !a3 then some false else ((fV a0 a1).bind fun a2=>(eH a0 a1).bind fun a4=>some (a2 == a4))
end
end Go.Proofs.YtfpeabnehpclnaaGreatT
