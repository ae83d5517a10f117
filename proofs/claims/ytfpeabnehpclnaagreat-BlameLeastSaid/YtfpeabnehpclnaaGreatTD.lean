import Derived.Test.YtfpeabnehpclnaaGreatI
namespace Go.Proofs.YtfpeabnehpclnaaGreatT
noncomputable section
open Go Go.Proofs Go.Proofs.YtfpeabnehpclnaaGreatE
set_option linter.unusedVariables false
set_option linter.unusedSimpArgs false
set_option maxHeartbeats 0
set_option maxRecDepth 4096
structure dR where
 key:ByteArray
 arg:Int
 deriving Inhabited,DecidableEq
def dR.enc (x:dR):List Value:=[.string x.key,.int .i64 x.arg]
abbrev LH:Ty dR:=Ty.flat 2 dR.enc (fun _=>rfl) (fun _=>DZ rfl)
instance : Flat LH dR.enc:=⟨Iff.rfl,Iff.rfl⟩
structure bH where
 keys:List ByteArray
 at_:List (ByteArray×Int)
 types:List Int
 facts:List (dR×Unit)
 incs:List (ByteArray×(List Int))
 deriving Inhabited
structure Call where
 Kind:Int
 Key:ByteArray
 Arg:Int
 Got:Bool
 Vals:List Int
 deriving Inhabited
abbrev Ca:Ty Call:=Ty.iso (cZ (aI .i64) (cZ jK (cZ (aI .i64) (cZ qJ (bE 2 (aI .i64)))))) (fun g:Call=>(g.Kind,g.Key,g.Arg,g.Got,g.Vals))
abbrev yK (N:BM):Ty Call:=Ty.iso (cZ (aI .i64) (cZ jK (cZ (aI .i64) (cZ qJ (NZ N (aI .i64)))))) (fun g:Call=>(g.Kind,g.Key,g.Arg,g.Got,g.Vals))
theorem Oh (N:BM):xH N (yK N) Ca:=Ea (kr nA (kr nA (kr nA (kr nA Gp))))
structure Event where
 Proc:Int
 Kind:Int
 Calls:List Call
 deriving Inhabited
abbrev LJ:Ty Event:=Ty.iso (cZ (aI .i64) (cZ (aI .i64) (bE 129 Ca))) (fun g:Event=>(g.Proc,g.Kind,g.Calls))
structure Op where
 Kind:Int
 Key:Int
 Arg:Int
 Got:Bool
 Vals:List Int
 deriving Inhabited
abbrev kOp:Ty Op:=Ty.iso (cZ (aI .i64) (cZ (aI .i64) (cZ (aI .i64) (cZ qJ (bE 2 (aI .i64)))))) (fun g:Op=>(g.Kind,g.Key,g.Arg,g.Got,g.Vals))
structure Txn where
 Proc:Int
 Status:Int
 From:Int
 To:Int
 Ops:List Op
 deriving Inhabited
abbrev mR:Ty Txn:=Ty.iso (cZ (aI .i64) (cZ (aI .i64) (cZ (aI .i64) (cZ (aI .i64) (bE 70 kOp))))) (fun g:Txn=>(g.Proc,g.Status,g.From,g.To,g.Ops))
structure History where
 Keys:List ByteArray
 Txns:List Txn
 deriving Inhabited
structure Ask where
 Txn:Int
 Place:Int
 Key:Int
 Base:List Int
 deriving Inhabited
abbrev uN:Ty Ask:=Ty.iso (cZ (aI .i64) (cZ (aI .i64) (cZ (aI .i64) (bE 2 (aI .i64))))) (fun g:Ask=>(g.Txn,g.Place,g.Key,g.Base))
structure Spot where
 Txn:Int
 Place:Int
 deriving Inhabited,DecidableEq
def Spot.enc (x:Spot):List Value:=[.int .i64 x.Txn,.int .i64 x.Place]
abbrev Eg:Ty Spot:=Ty.flat 2 Spot.enc (fun _=>rfl) (fun _=>DZ rfl)
instance : Flat Eg Spot.enc:=⟨Iff.rfl,Iff.rfl⟩
structure fB where
 asks:List Ask
 bad:List Spot
 deriving Inhabited
structure aO where
 txn:Int
 args:List Int
 deriving Inhabited
abbrev iq:Ty aO:=Ty.iso (cZ (aI .i64) (bE 2 (aI .i64))) (fun g:aO=>(g.txn,g.args))
structure aJ where
 Ask:Ask
 sources:List Int
 parts:List Int
 made:Bool
 kind:Int
 deriving Inhabited
abbrev jf:Ty aJ:=Ty.iso (cZ uN (cZ (bE 3 (aI .i64)) (cZ (bE 3 (aI .i64)) (cZ qJ (aI .i64))))) (fun g:aJ=>(g.Ask,g.sources,g.parts,g.made,g.kind))
structure Edge where
 From:Int
 To:Int
 Kind:Int
 Key:Int
 deriving Inhabited,DecidableEq
def Edge.enc (x:Edge):List Value:=[.int .i64 x.From,.int .i64 x.To,.int .i64 x.Kind,.int .i64 x.Key]
abbrev gW:Ty Edge:=Ty.flat 4 Edge.enc (fun _=>rfl) (fun _=>DZ rfl)
instance : Flat gW Edge.enc:=⟨Iff.rfl,Iff.rfl⟩
structure aF where
 h:History
 asks:List aJ
 edges:List Edge
 deriving Inhabited
structure bL where
 N:Int
 Edges:List Edge
 deriving Inhabited
structure bM where
 Kind:Int
 Level:Int
 Spot:Spot
 Cycle:List Edge
 deriving Inhabited
abbrev xM:Ty bM:=Ty.iso (cZ (aI .i64) (cZ (aI .i64) (cZ Eg (bE 43 gW)))) (fun g:bM=>(g.Kind,g.Level,g.Spot,g.Cycle))
structure aT where
 tight:Int
 loose:Int
 deriving Inhabited,DecidableEq
def aT.enc (x:aT):List Value:=[.int .i64 x.tight,.int .i64 x.loose]
abbrev fI:Ty aT:=Ty.flat 2 aT.enc (fun _=>rfl) (fun _=>DZ rfl)
instance : Flat fI aT.enc:=⟨Iff.rfl,Iff.rfl⟩
structure dL where
 g:bL
 links:List (List aT)
 deriving Inhabited
structure ag where
 node:Int
 last_:Bool
 first_:Bool
 deriving Inhabited,DecidableEq
def ag.enc (x:ag):List Value:=[.int .i64 x.node,.bool x.last_,.bool x.first_]
abbrev wo:Ty ag:=Ty.flat 3 ag.enc (fun _=>rfl) (fun _=>DZ rfl)
instance : Flat wo ag.enc:=⟨Iff.rfl,Iff.rfl⟩
structure eX where
 kind:Int
 level:Int
 d:Int
 r:Int
 rule:Int
 find:Int
 deriving Inhabited
def eX.enc (x:eX):List Value:=[.int .i64 x.kind,.int .i64 x.level,.int .i64 x.d,.int .i64 x.r,.int .i64 x.rule,fnV x.find]
abbrev LK:Ty eX:=Ty.flat 6 eX.enc (fun _=>rfl) (fun _=>DZ rfl)
instance : Flat LK eX.enc:=⟨Iff.rfl,Iff.rfl⟩
structure aM where
 keys:List ByteArray
 types:List Int
 wrote:List (List Int)
 incs:List Int
 last_:List Int
 deriving Inhabited
structure mr where
 n:Int
 d:List (List Bool)
 r:List (List Bool)
 deriving Inhabited
abbrev kU (N:BM):Ty aJ:=(Ty.iso (cZ (Ty.iso (cZ (aI .i64) (cZ (aI .i64) (cZ (aI .i64) (NZ N (aI .i64))))) (fun g:Ask=>(g.Txn,g.Place,g.Key,g.Base))) (cZ (Lg (aI .i64)) (cZ (Lg (aI .i64)) (cZ qJ (aI .i64))))) (fun g:aJ=>(g.Ask,g.sources,g.parts,g.made,g.kind)))
theorem Bf (N:BM):xH N (kU N) jf:=(Ea (kr (Ea (kr nA (kr nA (kr nA Gp)))) (kr Gu (kr Gu (kr nA nA)))))
abbrev Rw2 (A:Option Addr) (c:Nat) (l:List Int):cz := .row (aI .i64) 2 A l.length c l
abbrev Rn2 (A:Option Addr) (n c:Nat) (l:List Int):cz := .row (aI .i64) 2 A n c l
abbrev Rw3 (A:Option Addr) (c:Nat) (l:List Int):cz := .row (aI .i64) 3 A l.length c l
abbrev Rw4 (A:Option Addr) (c:Nat) (l:List Bool):cz := .row qJ 4 A l.length c l
abbrev Rw9 (A:Option Addr) (c:Nat) (l:List ByteArray):cz := .row jK 9 A l.length c l
abbrev Rn9 (A:Option Addr) (n c:Nat) (l:List ByteArray):cz := .row jK 9 A n c l
abbrev Fh (A:Option Addr) (c:Nat) (l:List Spot):cz := .row Eg 27 A l.length c l
abbrev Fj (A:Option Addr) (c:Nat) (l:List bM):cz := .row xM 30 A l.length c l
abbrev jq (A:Option Addr) (c:Nat) (l:List Edge):cz := .row gW 43 A l.length c l
abbrev Uw (A:Option Addr) (c:Nat) (l:List Txn):cz := .row mR 65 A l.length c l
abbrev Ux (A:Option Addr) (n c:Nat) (l:List Op):cz := .row kOp 70 A n c l
abbrev II (A:Option Addr) (c:Nat) (l:List Ask):cz := .row uN 81 A l.length c l
abbrev MQ (A:Option Addr) (c:Nat) (l:List aT):cz := .row fI 169 A l.length c l
abbrev Hm (A:Option Addr) (n c:Nat) (l:List aT):cz := .row fI 169 A n c l
abbrev yl (A:Option Addr) (c:Nat) (l:List (List aT)):cz := .row (bE 169 fI) 170 A l.length c l
abbrev JL (A:Option Addr) (c:Nat) (l:List aO):cz := .row iq 209 A l.length c l
abbrev lW (A:Option Addr) (c:Nat) (l:List ag):cz := .row wo 225 A l.length c l
abbrev Or3 (A:Option Addr) (c:Nat) (l:List Int):cz:=orA noM (aI .i64) 3 A l.length c l
abbrev Ho (b:Nat) (m:List (Edge×Unit)):cz:=De (fun x:Edge => .agg #[.int .i64 x.From,.int .i64 x.To,.int .i64 x.Kind,.int .i64 x.Key]) (fun _:Unit => .agg #[]) b m
abbrev JM (b:Nat) (m:List (Int×Unit)):cz:=De (fun x:Int => .int .i64 x) (fun _:Unit => .agg #[]) b m
abbrev Pk (b:Nat) (m:List (Int×Int)):cz:=De (fun x:Int => .int .i64 x) (fun x:Int => .int .i64 x) b m
abbrev Bp (b:Nat) (m:List (Int×Int)):cz:=De (fun x:Int => .int .i64 x) (fun x:Int => .int .i64 x) b m
abbrev Cb (b:Nat) (m:List (ByteArray×Int)):cz:=De (fun x:ByteArray => .string x) (fun x:Int => .int .i64 x) b m
abbrev Cc (b:Nat) (m:List (dR×Unit)):cz:=De (fun x:dR => .agg #[.string x.key,.int .i64 x.arg]) (fun _:Unit => .agg #[]) b m
abbrev Hq (b:Nat) (m:List (ByteArray×(List Int))):cz:=xw (fun x:ByteArray => .string x) (bE 3 (aI .i64)) b m
abbrev oL (b:Nat) (m:List (ag×ag)):cz:=De (fun x:ag => .agg #[.int .i64 x.node,.bool x.last_,.bool x.first_]) (fun x:ag => .agg #[.int .i64 x.node,.bool x.last_,.bool x.first_]) b m
abbrev Hr (b:Nat) (m:List (Int×(List Int))):cz:=xw (fun x:Int => .int .i64 x) (bE 2 (aI .i64)) b m
abbrev Fp (b:Nat) (m:List (Int×Unit)):cz:=De (fun x:Int => .int .i64 x) (fun _:Unit => .agg #[]) b m
abbrev xe (x:History) (A0:Option Addr) (c0:Nat) (A1:Option Addr) (c1:Nat):List Value:=[vS A0 x.Keys.length c0,vS A1 x.Txns.length c1]
abbrev vL (x:History) (A0:Option Addr) (c0:Nat) (A1:Option Addr) (c1:Nat):Value := .agg (xe x A0 c0 A1 c1).toArray
abbrev gH (b:Nat) (x:History) (A0:Option Addr) (c0:Nat) (A1:Option Addr) (c1:Nat):cz := .blk b 25 (xe x A0 c0 A1 c1)
abbrev Rt (x:Spot):List Value:=[vI x.Txn,vI x.Place]
abbrev TT (x:Spot):Value := .agg (Rt x).toArray
abbrev Uy (b:Nat) (x:Spot):cz := .blk b 27 (Rt x)
abbrev Ru (x:bM) (A4:Option Addr) (c4:Nat):List Value:=[vI x.Kind,vI x.Level,vI x.Spot.Txn,vI x.Spot.Place,vS A4 x.Cycle.length c4]
abbrev TU (x:bM) (A4:Option Addr) (c4:Nat):Value := .agg (Ru x A4 c4).toArray
abbrev EE (b:Nat) (x:bM) (A4:Option Addr) (c4:Nat):cz := .blk b 30 (Ru x A4 c4)
abbrev Dj (x:bL) (A1:Option Addr) (c1:Nat):List Value:=[vI x.N,vS A1 x.Edges.length c1]
abbrev GQ (x:bL) (A1:Option Addr) (c1:Nat):Value := .agg (Dj x A1 c1).toArray
abbrev zM (b:Nat) (x:bL) (A1:Option Addr) (c1:Nat):cz := .blk b 38 (Dj x A1 c1)
abbrev GR (x:Edge):List Value:=[vI x.From,vI x.To,vI x.Kind,vI x.Key]
abbrev Fq (b:Nat) (x:Edge):cz := .blk b 43 (GR x)
abbrev EF (x:Txn) (A4:Option Addr) (c4:Nat):List Value:=[vI x.Proc,vI x.Status,vI x.From,vI x.To,vS A4 x.Ops.length c4]
abbrev Oi (x:Txn) (A4:Option Addr) (c4:Nat):Value := .agg (EF x A4 c4).toArray
abbrev JN (b:Nat) (x:Txn) (A4:Option Addr) (c4:Nat):cz := .blk b 65 (EF x A4 c4)
abbrev Oj (x:Op) (A4:Option Addr) (c4:Nat):List Value:=[vI x.Kind,vI x.Key,vI x.Arg,vB x.Got,vS A4 x.Vals.length c4]
abbrev Ce (b:Nat) (x:Op) (A4:Option Addr) (c4:Nat):cz := .blk b 70 (Oj x A4 c4)
abbrev Dk (x:Ask) (A3:Option Addr) (c3:Nat):List Value:=[vI x.Txn,vI x.Place,vI x.Key,vS A3 x.Base.length c3]
abbrev BD (x:Ask) (A3:Option Addr) (c3:Nat):Value := .agg (Dk x A3 c3).toArray
abbrev Dl (b:Nat) (x:Ask) (A3:Option Addr) (c3:Nat):cz := .blk b 81 (Dk x A3 c3)
abbrev Uz (x:aF) (A0:Option Addr) (c0:Nat) (A1:Option Addr) (c1:Nat) (A2:Option Addr) (c2:Nat) (A3:Option Addr) (c3:Nat):List Value:=[vS A0 x.h.Keys.length c0,vS A1 x.h.Txns.length c1,vS A2 x.asks.length c2,vS A3 x.edges.length c3]
abbrev GU (b:Nat) (x:aF) (A0:Option Addr) (c0:Nat) (A1:Option Addr) (c1:Nat) (A2:Option Addr) (c2:Nat) (A3:Option Addr) (c3:Nat):cz := .blk b 93 (Uz x A0 c0 A1 c1 A2 c2 A3 c3)
abbrev LM (x:aJ) (A3:Option Addr) (c3:Nat) (A4:Option Addr) (c4:Nat) (A5:Option Addr) (c5:Nat):List Value:=[vI x.Ask.Txn,vI x.Ask.Place,vI x.Ask.Key,vS A3 x.Ask.Base.length c3,vS A4 x.sources.length c4,vS A5 x.parts.length c5,vB x.made,vI x.kind]
abbrev Rv (x:aJ) (A3:Option Addr) (c3:Nat) (A4:Option Addr) (c4:Nat) (A5:Option Addr) (c5:Nat):Value := .agg (LM x A3 c3 A4 c4 A5 c5).toArray
abbrev Bg (b:Nat) (x:aJ) (A3:Option Addr) (c3:Nat) (A4:Option Addr) (c4:Nat) (A5:Option Addr) (c5:Nat):cz := .blk b 96 (LM x A3 c3 A4 c4 A5 c5)
abbrev JO (x:Event) (A2:Option Addr) (c2:Nat):List Value:=[vI x.Proc,vI x.Kind,vS A2 x.Calls.length c2]
abbrev TV (x:Event) (A2:Option Addr) (c2:Nat):Value := .agg (JO x A2 c2).toArray
abbrev Tf (b:Nat) (x:Event) (A2:Option Addr) (c2:Nat):cz := .blk b 124 (JO x A2 c2)
abbrev Fs (x:Call) (A4:Option Addr) (c4:Nat):List Value:=[vI x.Kind,.string x.Key,vI x.Arg,vB x.Got,vS A4 x.Vals.length c4]
abbrev JP (x:Call) (A4:Option Addr) (c4:Nat):Value := .agg (Fs x A4 c4).toArray
abbrev tK (b:Nat) (x:Call) (A4:Option Addr) (c4:Nat):cz := .blk b 129 (Fs x A4 c4)
abbrev Pm (x:fB) (A0:Option Addr) (c0:Nat) (A1:Option Addr) (c1:Nat):List Value:=[vS A0 x.asks.length c0,vS A1 x.bad.length c1]
abbrev TW (x:fB) (A0:Option Addr) (c0:Nat) (A1:Option Addr) (c1:Nat):Value := .agg (Pm x A0 c0 A1 c1).toArray
abbrev Fu (x:aT):List Value:=[vI x.tight,vI x.loose]
abbrev Tg (x:aT):Value := .agg (Fu x).toArray
abbrev MR (b:Nat) (x:aT):cz := .blk b 169 (Fu x)
abbrev TY (x:dL) (A1:Option Addr) (c1:Nat) (A2:Option Addr) (c2:Nat):List Value:=[vI x.g.N,vS A1 x.g.Edges.length c1,vS A2 x.links.length c2]
abbrev zN (b:Nat) (x:dL) (A1:Option Addr) (c1:Nat) (A2:Option Addr) (c2:Nat):cz := .blk b 173 (TY x A1 c1 A2 c2)
abbrev Fv (x:aO) (A1:Option Addr) (c1:Nat):List Value:=[vI x.txn,vS A1 x.args.length c1]
abbrev Pn (x:aO) (A1:Option Addr) (c1:Nat):Value := .agg (Fv x A1 c1).toArray
abbrev Ht (b:Nat) (x:aO) (A1:Option Addr) (c1:Nat):cz := .blk b 209 (Fv x A1 c1)
abbrev Bq (x:ag):List Value:=[vI x.node,vB x.last_,vB x.first_]
abbrev Eh (x:ag):Value := .agg (Bq x).toArray
abbrev xx (b:Nat) (x:ag):cz := .blk b 225 (Bq x)
abbrev Rw (b:Nat) (x0:Int) (A1:Option Addr) (c1:Nat) (x1:List Edge):List cz:=[.blk b 38 [vI x0,vS A1 x1.length c1],jq A1 c1 x1]
abbrev zF (b:Nat) (x:bL) (A1:Option Addr) (c1:Nat):List cz:=Rw b x.N A1 c1 x.Edges
abbrev zO (b:Nat) (A0:Option Addr) (c0:Nat) (x0:List Ask) (A1:Option Addr) (c1:Nat) (x1:List Spot):List cz:=[.blk b 132 [vS A0 x0.length c0,vS A1 x1.length c1],II A0 c0 x0,Fh A1 c1 x1]
abbrev Ti (b:Nat) (x:fB) (A0:Option Addr) (c0:Nat) (A1:Option Addr) (c1:Nat):List cz:=zO b A0 c0 x.asks A1 c1 x.bad
abbrev zP (b:Nat) (A0:Option Addr) (c0:Nat) (x0:List ByteArray) (b1:Nat) (x1:List (ByteArray×Int)) (A2:Option Addr) (c2:Nat) (x2:List Int) (b3:Nat) (x3:List (dR×Unit)) (b4:Nat) (x4:List (ByteArray×(List Int))):List cz:=[.blk b 199 [vS A0 x0.length c0,.map (some b1),vS A2 x2.length c2,.map (some b3),.map (some b4)],Rw9 A0 c0 x0,Cb b1 x1,Rw3 A2 c2 x2,Cc b3 x3,Hq b4 x4]
abbrev Po (b:Nat) (x:bH) (A0:Option Addr) (c0:Nat) (b1:Nat) (A2:Option Addr) (c2:Nat) (b3:Nat) (b4:Nat):List cz:=zP b A0 c0 x.keys b1 x.at_ A2 c2 x.types b3 x.facts b4 x.incs
theorem xy {H:BM} {x:bM} {cs:List Value} (h:xM.rd H x cs):∃ A4 c4,cs=Ru x A4 c4∧x.Cycle.length≤c4∧rdS gW H A4 x.Cycle:=by
 obtain ⟨_,_,rfl,rfl,⟨_,_,rfl,rfl,⟨_,_,rfl,rfl,⟨A0,c0,rfl,l0,r0⟩⟩⟩⟩:=h;exact ⟨A0,c0,rfl,l0,r0⟩
theorem ym {H:BM} {x:Txn} {cs:List Value} (h:mR.rd H x cs):∃ A4 c4,cs=EF x A4 c4∧x.Ops.length≤c4∧rdS kOp H A4 x.Ops:=by
 obtain ⟨_,_,rfl,rfl,⟨_,_,rfl,rfl,⟨_,_,rfl,rfl,⟨_,_,rfl,rfl,⟨A0,c0,rfl,l0,r0⟩⟩⟩⟩⟩:=h;exact ⟨A0,c0,rfl,l0,r0⟩
theorem Rx {H:BM} {x:Op} {cs:List Value} (h:kOp.rd H x cs):∃ A4 c4,cs=Oj x A4 c4∧x.Vals.length≤c4∧rdS (aI .i64) H A4 x.Vals:=by
 obtain ⟨_,_,rfl,rfl,⟨_,_,rfl,rfl,⟨_,_,rfl,rfl,⟨_,_,rfl,rfl,⟨A0,c0,rfl,l0,r0⟩⟩⟩⟩⟩:=h;exact ⟨A0,c0,rfl,l0,r0⟩
theorem Hu {H:BM} {x:Ask} {cs:List Value} (h:uN.rd H x cs):∃ A3 c3,cs=Dk x A3 c3∧x.Base.length≤c3∧rdS (aI .i64) H A3 x.Base:=by
 obtain ⟨_,_,rfl,rfl,⟨_,_,rfl,rfl,⟨_,_,rfl,rfl,⟨A0,c0,rfl,l0,r0⟩⟩⟩⟩:=h;exact ⟨A0,c0,rfl,l0,r0⟩
theorem Ei {H:BM} {x:aJ} {cs:List Value} (h:jf.rd H x cs):∃ A3 c3 A4 c4 A5 c5,cs=LM x A3 c3 A4 c4 A5 c5∧x.Ask.Base.length≤c3∧rdS (aI .i64) H A3 x.Ask.Base∧x.sources.length≤c4∧rdS (aI .i64) H A4 x.sources∧x.parts.length≤c5∧rdS (aI .i64) H A5 x.parts:=by
 obtain ⟨_,_,rfl,⟨_,_,rfl,rfl,⟨_,_,rfl,rfl,⟨_,_,rfl,rfl,⟨A0,c0,rfl,l0,r0⟩⟩⟩⟩,⟨_,_,rfl,⟨A1,c1,rfl,l1,r1⟩,⟨_,_,rfl,⟨A2,c2,rfl,l2,r2⟩,⟨_,_,rfl,rfl,rfl⟩⟩⟩⟩:=h;exact ⟨A0,c0,A1,c1,A2,c2,rfl,l0,r0,l1,r1,l2,r2⟩
theorem Ry {H:BM} {x:Event} {cs:List Value} (h:LJ.rd H x cs):∃ A2 c2,cs=JO x A2 c2∧x.Calls.length≤c2∧rdS Ca H A2 x.Calls:=by
 obtain ⟨_,_,rfl,rfl,⟨_,_,rfl,rfl,⟨A0,c0,rfl,l0,r0⟩⟩⟩:=h;exact ⟨A0,c0,rfl,l0,r0⟩
theorem Tu {H:BM} {x:Call} {cs:List Value} (h:Ca.rd H x cs):∃ A4 c4,cs=Fs x A4 c4∧x.Vals.length≤c4∧rdS (aI .i64) H A4 x.Vals:=by
 obtain ⟨_,_,rfl,rfl,⟨_,_,rfl,rfl,⟨_,_,rfl,rfl,⟨_,_,rfl,rfl,⟨A0,c0,rfl,l0,r0⟩⟩⟩⟩⟩:=h;exact ⟨A0,c0,rfl,l0,r0⟩
theorem ib {H:BM} {x:aO} {cs:List Value} (h:iq.rd H x cs):∃ A1 c1,cs=Fv x A1 c1∧x.args.length≤c1∧rdS (aI .i64) H A1 x.args:=by
 obtain ⟨_,_,rfl,rfl,⟨A0,c0,rfl,l0,r0⟩⟩:=h;exact ⟨A0,c0,rfl,l0,r0⟩
theorem Cf (x:bM) {R3:List cz} {c3:List Value} (h3:Mk (bE 43 gW) R3 x.Cycle c3):Mk xM ([]++([]++([]++R3))) x ([vI x.Kind]++([vI x.Level]++([vI x.Spot.Txn,vI x.Spot.Place]++c3))):=wU (g:=fun g:bM=>(g.Kind,g.Level,g.Spot,g.Cycle)) (x:=x) (eQ (mi _ _ rfl) (eQ (mi _ _ rfl) (eQ (mi _ _ rfl) h3)))
theorem TZ (x:Txn) {R4:List cz} {c4:List Value} (h4:Mk (bE 70 kOp) R4 x.Ops c4):Mk mR ([]++([]++([]++([]++R4)))) x ([vI x.Proc]++([vI x.Status]++([vI x.From]++([vI x.To]++c4)))):=wU (g:=fun g:Txn=>(g.Proc,g.Status,g.From,g.To,g.Ops)) (x:=x) (eQ (mi _ _ rfl) (eQ (mi _ _ rfl) (eQ (mi _ _ rfl) (eQ (mi _ _ rfl) h4))))
theorem Ua (x:Op) {R4:List cz} {c4:List Value} (h4:Mk (bE 2 (aI .i64)) R4 x.Vals c4):Mk kOp ([]++([]++([]++([]++R4)))) x ([vI x.Kind]++([vI x.Key]++([vI x.Arg]++([vB x.Got]++c4)))):=wU (g:=fun g:Op=>(g.Kind,g.Key,g.Arg,g.Got,g.Vals)) (x:=x) (eQ (mi _ _ rfl) (eQ (mi _ _ rfl) (eQ (mi _ _ rfl) (eQ (mi _ _ rfl) h4))))
theorem Tj (x:Ask) {R3:List cz} {c3:List Value} (h3:Mk (bE 2 (aI .i64)) R3 x.Base c3):Mk uN ([]++([]++([]++R3))) x ([vI x.Txn]++([vI x.Place]++([vI x.Key]++c3))):=wU (g:=fun g:Ask=>(g.Txn,g.Place,g.Key,g.Base)) (x:=x) (eQ (mi _ _ rfl) (eQ (mi _ _ rfl) (eQ (mi _ _ rfl) h3)))
theorem GV (x:aO) {R1:List cz} {c1:List Value} (h1:Mk (bE 2 (aI .i64)) R1 x.args c1):Mk iq ([]++R1) x ([vI x.txn]++c1):=wU (g:=fun g:aO=>(g.txn,g.args)) (x:=x) (eQ (mi _ _ rfl) h1)
def mW (a0:List ByteArray) (a1:ByteArray):Int→Option (Int ⊕ Int)
 | a2=>bif decide (a2 < (a0.length:Int)) then must (0≤a2∧a2 < (a0.length:Int)) (bif sEq a1 (idx a0 a2) then out (some a2) else (some (.inl (w64 (a2 + 1))))) else (out (some (-1)))
def slices_Index_string (a0:List ByteArray) (a1:ByteArray):Option Int :=
 iter (mW a0 a1) 0
def slices_Contains_string (a0:List ByteArray) (a1:ByteArray):Option Bool :=
 (slices_Index_string a0 a1).bind fun y3=>some (decide (y3 ≥ 0))
def qN:Option bH :=
 some (⟨([]:List ByteArray),([]:List (ByteArray×Int)),([]:List Int),([]:List (dR×Unit)),([]:List (ByteArray×(List Int)))⟩:bH)
def yL (a0:Int):Option (Int×Int) :=
 bif (a0 == 5) then some (0,1) else (bif (a0 == 8) then some (1,1) else (some (0,64)))
def uA (a0:Call) (a1:Int) (a2:Bool):Option (Int ⊕ Bool) :=
 bif a2 then must (0≤w64 (a1 - 1)∧w64 (a1 - 1) < (a0.Vals.length:Int)) (must (0≤a1∧a1 < (a0.Vals.length:Int)) (bif decide (idx a0.Vals (w64 (a1 - 1)) ≥ idx a0.Vals a1) then out (some false) else (some (.inl (w64 (a1 + 1)))))) else (out (some true))
def uB (a0:Call):Int→Option (Int ⊕ Bool)
 | a1=>bif (a0.Kind == 7) then uA a0 a1 (decide (a1 < (a0.Vals.length:Int))) else (uA a0 a1 false)
def uC (a0:Call) (a1:Bool):Option Bool :=
 bif a1 then some false else (iter (uB a0) 1)
def uD (a0:Call) (a2:Bool):Option Bool :=
 bif a2 then some false else (bif !a0.Got then some ((a0.Vals.length:Int) == 0) else ((yL a0.Kind).bind fun a1=>bif decide ((a0.Vals.length:Int) < a1.1) then uC a0 true else (uC a0 (decide ((a0.Vals.length:Int) > a1.2)))))
def nM (a0:Call) (a1:Int) (a2:Bool):Option Bool :=
 bif a2 then some false else (bif decide (a0.Kind≤4) then bif !a0.Got then bif ((a0.Vals.length:Int) == 0) then bif (a0.Kind != 4) then some true else (bif decide ((-1048576)≤a0.Arg) then some (decide (a0.Arg≤1048576)) else (some false)) else (some false) else (some false) else (bif (a0.Arg != 0) then uD a0 true else (uD a0 (a0.Got != (a1 == 1)))))
def dD (a0:Call) (a1:Int):Option Bool :=
 bif decide (a0.Kind < 1) then nM a0 a1 true else (bif decide (a0.Kind > 8) then nM a0 a1 true else (bif sEq a0.Key (⟨#[]⟩:ByteArray) then nM a0 a1 true else (nM a0 a1 (decide ((a0.Key.size:Int) > 32)))))
def vM (a0:Call) (a1:Event):Option Bool :=
 (dD a0 a1.Kind).bind fun y5=>some (!y5)
def gP (a0:List Call) (a1c0:Event):Int→Option (Int ⊕ Int)
 | a1=>bif decide (a1 < (a0.length:Int)) then must (0≤a1∧a1 < (a0.length:Int)) ((vM (idx a0 a1) a1c0).bind fun a2=>bif a2 then out (some a1) else (some (.inl (w64 (a1 + 1))))) else (out (some (-1)))
def bW (a0:List Call) (a1c0:Event):Option Int :=
 iter (gP a0 a1c0) 0
def dZ (a0:List Call) (a1c0:Event):Option Bool :=
 (bW a0 a1c0).bind fun y3=>some (decide (y3 ≥ 0))
def qz (a0:List Event) (a1:Int) (a3:Bool):Option (Int ⊕ Int) :=
 bif a3 then out (some 1) else ((dZ ((idx a0 a1).Calls) (idx a0 a1)).bind fun a2=>bif a2 then out (some 1) else (some (.inl (w64 (a1 + 1)))))
def xN (a0:List Event):Int→Option (Int ⊕ Int)
 | a1=>bif decide (a1 < (a0.length:Int)) then must (0≤a1∧a1 < (a0.length:Int)) (bif decide ((idx a0 a1).Kind < 0) then qz a0 a1 true else (bif decide ((idx a0 a1).Kind > 3) then qz a0 a1 true else (qz a0 a1 (decide ((((idx a0 a1).Calls).length:Int) > 16))))) else (out (some 0))
def iC (a0:List Event):Option Int :=
 bif decide ((a0.length:Int) > 256) then some 1 else (iter (xN a0) 0)
def ww (a0:History) (a1:Txn) (a3:List Call) (a2:Int):Option ((List Call×Int) ⊕ (Event×Bool)) :=
 some (.inl (a3++([(⟨(idx a1.Ops a2).Kind,idx a0.Keys ((idx a1.Ops a2).Key),(idx a1.Ops a2).Arg,(idx a1.Ops a2).Got,(idx a1.Ops a2).Vals⟩:Call)]:List Call),w64 (a2 + 1)))
def rT (a0:History) (a1:Txn) (a2:List Call) (a3:Int) (a4:Bool):Option ((List Call×Int) ⊕ (Event×Bool)) :=
 bif a4 then out (some ((⟨0,a1.Status,a2⟩:Event),false)) else (must (0≤(idx a1.Ops a3).Key∧(idx a1.Ops a3).Key < (a0.Keys.length:Int)) (must (((a2.length + 1) + (a2.length + 1) / 4 + 192) * 64≤281474976710656∧a2.length + 1≤9223372036854775807) (ww a0 a1 a2 a3)))
def wy (a0:History) (a1:Txn):(List Call×Int)→Option ((List Call×Int) ⊕ (Event×Bool))
 | (a3,a2)=>bif decide (a2 < (a1.Ops.length:Int)) then must (0≤a2∧a2 < (a1.Ops.length:Int)) (bif decide ((idx a1.Ops a2).Key < 0) then rT a0 a1 a3 a2 true else (rT a0 a1 a3 a2 (decide ((idx a1.Ops a2).Key ≥ (a0.Keys.length:Int))))) else ((iC ([(⟨0,a1.Status,a3⟩:Event)]:List Event)).bind fun a4=>out (some ((⟨0,a1.Status,a3⟩:Event),(a4 == 0))))
def fw (a0:History) (a1:Txn):Option (Event×Bool) :=
 iter (wy a0 a1) ([],0)
def rU (a0:Txn) (a1:Txn):Option Bool :=
 bif (a0.Proc == a1.Proc) then bif (a0.To == (-1)) then some true else (some (decide (a0.To ≥ a1.From))) else (some false)
def gI (a0:List Txn) (a1c0:Txn):Int→Option (Int ⊕ Int)
 | a1=>bif decide (a1 < (a0.length:Int)) then must (0≤a1∧a1 < (a0.length:Int)) ((rU (idx a0 a1) a1c0).bind fun a2=>bif a2 then out (some a1) else (some (.inl (w64 (a1 + 1))))) else (out (some (-1)))
def bQ (a0:List Txn) (a1c0:Txn):Option Int :=
 iter (gI a0 a1c0) 0
def dW (a0:List Txn) (a1c0:Txn):Option Bool :=
 (bQ a0 a1c0).bind fun y3=>some (decide (y3 ≥ 0))
def nD (a0:List Txn) (a1:Txn) (a2:Bool):Option Bool :=
 bif a2 then some false else ((dW a0 a1).bind fun a3=>some (!a3))
def qO (a0:List Txn) (a1:Txn):Option Bool :=
 bif decide (a1.From < 0) then nD a0 a1 true else (bif decide ((a0.length:Int) > 0) then must (0≤w64 ((a0.length:Int) - 1)∧w64 ((a0.length:Int) - 1) < (a0.length:Int)) (nD a0 a1 (decide ((idx a0 (w64 ((a0.length:Int) - 1))).From ≥ a1.From))) else (nD a0 a1 false))
def qP (a0:List Txn) (a1:Txn) (a2:Bool):Option Bool :=
 bif a2 then some false else (qO a0 a1)
def qQ (a0:List Txn) (a1:Txn) (a2:Bool):Option Bool :=
 bif a2 then bif decide (a1.To≤a1.From) then some false else (qO a0 a1) else (bif (a1.Status == 3) then bif (a1.To != (-1)) then qP a0 a1 (decide (a1.To≤a1.From)) else (qP a0 a1 false) else (some false))
def dB (a0:List Txn) (a1:Txn):Option Bool :=
 bif (a1.Status == 1) then qQ a0 a1 (a1.Status == 1) else (qQ a0 a1 (a1.Status == 2))
def pO (a0:Int):Option Int :=
 some (w64 ((di .i64 (w64 (a0 - 1)) 3) + 1))
def iZ (a4:List ByteArray) (a1:List (ByteArray×Int)) (a3:List Int) (a5:List (dR×Unit)) (a2:List (ByteArray×(List Int))):Option (Int×bH) :=
 some (0,(⟨a4,a1,a3,a5,a2⟩:bH))
def nP (a0:bH) (a1:Call) (a2:List ByteArray) (a4:List (ByteArray×Int)) (a3:List Int):Option (Int×bH) :=
 bif gq a0.facts (⟨a1.Key,a1.Arg⟩:dR) then some (3,(⟨a2,a4,a3,a0.facts,a0.incs⟩:bH)) else (iZ a2 a4 a3 (fu a0.facts (⟨a1.Key,a1.Arg⟩:dR) ()) a0.incs)
def kw (a0:bH) (a1:Call) (a3:List ByteArray) (a5:List (ByteArray×Int)) (a4:List Int) (a2:List (ByteArray×(List Int))):Option (Int×bH) :=
 bif decide (((mat a2 a1.Key).length:Int) > 8) then some (51,(⟨a3,a5,a4,a0.facts,a2⟩:bH)) else (iZ a3 a5 a4 a0.facts a2)
def ky (a0:bH) (a1:Call) (a2:Int) (a3:List ByteArray) (a5:List (ByteArray×Int)) (a4:List Int) (a6:Bool):Option (Int×bH) :=
 bif a6 then must (((((mat a0.incs a1.Key).length) + 1) + (((mat a0.incs a1.Key).length) + 1) / 4 + 192) * 8≤281474976710656∧((mat a0.incs a1.Key).length) + 1≤9223372036854775807) (kw a0 a1 a3 a5 a4 (fu a0.incs a1.Key ((mat a0.incs a1.Key)++([a2]:List Int)))) else (kw a0 a1 a3 a5 a4 a0.incs)
def kz (a0:bH) (a1:Call) (a2:Int) (a3:List ByteArray) (a5:List (ByteArray×Int)) (a4:List Int) (a6:Bool):Option (Int×bH) :=
 bif a6 then nP a0 a1 a3 a5 a4 else (bif (a1.Kind == 4) then bif (((mat a0.incs a1.Key).length:Int) == 0) then ky a0 a1 a2 a3 a5 a4 true else (must (0≤w64 (((mat a0.incs a1.Key).length:Int) - 1)∧w64 (((mat a0.incs a1.Key).length:Int) - 1) < ((mat a0.incs a1.Key).length:Int)) (ky a0 a1 a2 a3 a5 a4 (idx (mat a0.incs a1.Key) (w64 (((mat a0.incs a1.Key).length:Int) - 1)) != a2))) else (iZ a3 a5 a4 a0.facts a0.incs))
def ja (a0:bH) (a1:Call) (a2:Int) (a5:List ByteArray) (a4:List (ByteArray×Int)) (a3:List Int) (a6:Int):Option (Int×bH) :=
 must (0≤a6∧a6 < (a3.length:Int)) ((pO a1.Kind).bind fun a7=>bif (idx a3 a6 != a7) then some (50,(⟨a5,a4,a3,a0.facts,a0.incs⟩:bH)) else (bif (a1.Kind == 2) then kz a0 a1 a2 a5 a4 a3 (a1.Kind == 2) else (kz a0 a1 a2 a5 a4 a3 (a1.Kind == 3))))
def nQ (a0:bH) (a1:Call) (a2:Int):Option (Int×bH) :=
 (pO a1.Kind).bind fun a3=>must (((a0.types.length + 1) + (a0.types.length + 1) / 4 + 192) * 8≤281474976710656∧a0.types.length + 1≤9223372036854775807) (ja a0 a1 a2 (a0.keys++([a1.Key]:List ByteArray)) (fu a0.at_ a1.Key (a0.keys.length:Int)) (a0.types++([a3]:List Int)) (a0.keys.length:Int))
def aH (a0:bH) (a1:Call) (a2:Int):Option (Int×bH) :=
 bif !(gq a0.at_ a1.Key) then bif ((a0.keys.length:Int) == 32) then some (2,a0) else (must (((a0.keys.length + 1) + (a0.keys.length + 1) / 4 + 192) * 16≤281474976710656∧a0.keys.length + 1≤9223372036854775807) (nQ a0 a1 a2)) else (ja a0 a1 a2 a0.keys a0.at_ a0.types (mat a0.at_ a1.Key))
def oM (a2:Int) (a1:Bool):Option (Int ⊕ Int) :=
 bif a1 then out (some 1) else (some (.inl (w64 (a2 + 1))))
def rV (a8:Int) (a3:Event×Bool):(List ByteArray×(List (ByteArray×Int))×List Int×(List (dR×Unit))×(List (ByteArray×(List Int)))×Int)→Option ((List ByteArray×(List (ByteArray×Int))×List Int×(List (dR×Unit))×(List (ByteArray×(List Int)))×Int) ⊕ ((List ByteArray×(List (ByteArray×Int))×List Int×(List (dR×Unit))×(List (ByteArray×(List Int)))×Int) ⊕ (Int ⊕ Int)))
 | (a4,a5,a6,a9,a7,a2)=>bif decide (a2 < (a3.1.Calls.length:Int)) then must (0≤a2∧a2 < (a3.1.Calls.length:Int)) ((aH (⟨a4,a5,a6,a9,a7⟩:bH) (idx a3.1.Calls a2) a8).bind fun a1=>bif (a1.1 != 0) then out (out (out (some 1))) else (some (.inl (a1.2.keys,a1.2.at_,a1.2.types,a1.2.facts,a1.2.incs,w64 (a2 + 1))))) else (out (some (.inl (a4,a5,a6,a9,a7,w64 (a8 + 1)))))
def rW (a8:List ByteArray) (a2:List (ByteArray×Int)) (a1:List Int) (a7:List (dR×Unit)) (a3:List (ByteArray×(List Int))) (a5:Int) (a4:Event×Bool) (a6:Bool):Option ((List ByteArray×(List (ByteArray×Int))×List Int×(List (dR×Unit))×(List (ByteArray×(List Int)))×Int) ⊕ (Int ⊕ Int)) :=
 bif a6 then out (out (some 1)) else (iter (rV a5 a4) (a8,a2,a1,a7,a3,0))
def oN (a0:History):(List ByteArray×(List (ByteArray×Int))×List Int×(List (dR×Unit))×(List (ByteArray×(List Int)))×Int)→Option ((List ByteArray×(List (ByteArray×Int))×List Int×(List (dR×Unit))×(List (ByteArray×(List Int)))×Int) ⊕ (Int ⊕ Int))
 | (a7,a4,a3,a6,a5,a1)=>bif decide (a1 < (a0.Txns.length:Int)) then must (0≤a1∧a1 < (a0.Txns.length:Int)) ((fw a0 (idx a0.Txns a1)).bind fun a2=>bif !a2.2 then rW a7 a4 a3 a6 a5 a1 a2 true else (must (0≤(0:Int)∧(0:Int)≤a1∧a1≤(a0.Txns.length:Int)) ((dB (kI a0.Txns (0:Int) a1) (idx a0.Txns a1)).bind fun a8=>rW a7 a4 a3 a6 a5 a1 a2 (!a8)))) else (out (out (some 0)))
def wz (a0:History):Int→Option (Int ⊕ Int)
 | a1=>bif decide (a1 < (a0.Keys.length:Int)) then must (0≤a1∧a1 < (a0.Keys.length:Int)) (bif sEq (idx a0.Keys a1) (⟨#[]⟩:ByteArray) then oM a1 true else (bif decide (((idx a0.Keys a1).size:Int) > 32) then oM a1 true else (must (0≤(0:Int)∧(0:Int)≤a1∧a1≤(a0.Keys.length:Int)) ((slices_Contains_string (kI a0.Keys (0:Int) a1) (idx a0.Keys a1)).bind fun a3=>oM a1 a3)))) else ((qN).bind fun a2=>iter (oN a0) (a2.keys,a2.at_,a2.types,a2.facts,a2.incs,0))
def rX (a0:History) (b7:Bool):Option Int :=
 bif b7 then some 1 else (iter (wz a0) 0)
def aC (a0:History):Option Int :=
 bif decide ((a0.Keys.length:Int) > 32) then rX a0 true else (rX a0 (decide ((a0.Txns.length:Int) > 32)))
def gJ (a0:List Int):Option (List Int) :=
 must (a0.length * 8≤140737488355328) (some a0)
def lc (a0:Int):Option Int :=
 bif (a0 == 1) then some 280 else (bif (a0 == 2) then some 281 else (bif (a0 == 3) then some 282 else (bif (a0 == 4) then some 283 else (some (-1)))))
def lg (a0:Unit) (a1:List Int):Option Bool :=
 some (decide ((a1.length:Int)≤1))
def pQ (a0:Unit) (a1:List Int):Option Bool :=
 some (decide ((a1.length:Int)≤64))
def qW (a1:List Int):Int→Option (Int ⊕ Bool)
 | a2=>bif decide (a2 < (a1.length:Int)) then must (0≤w64 (a2 - 1)∧w64 (a2 - 1) < (a1.length:Int)) (must (0≤a2∧a2 < (a1.length:Int)) (bif decide (idx a1 (w64 (a2 - 1)) ≥ idx a1 a2) then out (some false) else (some (.inl (w64 (a2 + 1)))))) else (out (some (decide ((a1.length:Int)≤64))))
def iw (a0:Unit) (a1:List Int):Option Bool :=
 iter (qW a1) 1
def lX (a0:Unit) (a1:List Int):Option Bool :=
 some ((a1.length:Int) == 1)
def lh (a0:Int) (a1:List Int):Option Int :=
 (lc a0).bind fun y8=>bif (y8 == (280:Int)) then (lg () a1).bind fun a2=>bif !a2 then some 80 else (some 0) else (bif (y8 == (281:Int)) then (pQ () a1).bind fun a5=>bif !a5 then some 80 else (some 0) else (bif (y8 == (282:Int)) then (iw () a1).bind fun a3=>bif !a3 then some 80 else (some 0) else (bif (y8 == (283:Int)) then (lX () a1).bind fun a4=>bif !a4 then some 80 else (some 0) else (bif (y8 == ((-1):Int)) then some 1 else none))))
def iL (a0:Unit) (a1:List Int) (a2:List Int):Option (List Int×Bool) :=
 bif ((a1.length:Int) == 1) then must (0≤(0:Int)∧(0:Int) < (a1.length:Int)) (must (0≤w64 ((a2.length:Int) - 1)∧w64 ((a2.length:Int) - 1) < (a2.length:Int)) (some (([]:List Int),(idx a1 (0:Int) == idx a2 (w64 ((a2.length:Int) - 1)))))) else (some (([]:List Int),false))
def tL (a0:List Int) (a1:List Int):Int→Option (Int ⊕ Bool)
 | a2=>bif decide (a2 < (a0.length:Int)) then must (0≤a2∧a2 < (a0.length:Int)) (must (0≤a2∧a2 < (a1.length:Int)) (bif (idx a0 a2 != idx a1 a2) then out (some false) else (some (.inl (w64 (a2 + 1)))))) else (out (some true))
def fO (a0:List Int) (a1:List Int):Option Bool :=
 bif ((a0.length:Int) != (a1.length:Int)) then some false else (iter (tL a0 a1) 0)
def jb (a1:List Int) (a2:List Int) (a4:Bool):Option (List Int×Bool) :=
 bif a4 then some (([]:List Int),false) else (must (0≤(0:Int)∧(0:Int)≤(w64 ((a1.length:Int) - (a2.length:Int)))∧(w64 ((a1.length:Int) - (a2.length:Int)))≤(a1.length:Int)) ((gJ (kI a1 (0:Int) (w64 ((a1.length:Int) - (a2.length:Int))))).bind fun a3=>some (a3,true)))
def eG (a0:Unit) (a1:List Int) (a2:List Int):Option (List Int×Bool) :=
 bif decide (w64 ((a1.length:Int) - (a2.length:Int)) < 0) then jb a1 a2 true else (must (0≤(w64 ((a1.length:Int) - (a2.length:Int)))∧(w64 ((a1.length:Int) - (a2.length:Int)))≤(a1.length:Int)∧(a1.length:Int)≤(a1.length:Int)) ((fO (kI a1 (w64 ((a1.length:Int) - (a2.length:Int))) (a1.length:Int)) a2).bind fun a3=>jb a1 a2 (!a3)))
def nE (a0:Int):Option Bool :=
 some (a0 != a0)
def oO (a0:Int) (a1:Int):Option Bool :=
 (nE a0).bind fun y7=>bif y7 then (nE a1).bind fun a2=>bif !a2 then some true else (some (decide (a0 < a1))) else (some (decide (a0 < a1)))
def jX (a0:Int):Option Bool :=
 some (a0 != a0)
def jH (a2:Int) (a1:Int):Option ((Int×Int) ⊕ (Int×Bool)) :=
 some (.inl (a2,a1))
def jI (a0:List Int) (a1:Int):(Int×Int)→Option ((Int×Int) ⊕ (Int×Bool))
 | (a2,a3)=>bif decide (a2 < a3) then must (0≤(1:Int)∧(1:Int) < (far:Int)) (must (0≤w64 (fD .u64 (IntKind.wrap .u64 (w64 (a2 + a3))) (1:Int))∧w64 (fD .u64 (IntKind.wrap .u64 (w64 (a2 + a3))) (1:Int)) < (a0.length:Int)) ((oO (idx a0 (w64 (fD .u64 (IntKind.wrap .u64 (w64 (a2 + a3))) (1:Int)))) a1).bind fun a5=>bif a5 then jH (w64 ((w64 (fD .u64 (IntKind.wrap .u64 (w64 (a2 + a3))) (1:Int))) + 1)) a3 else (jH a2 (w64 (fD .u64 (IntKind.wrap .u64 (w64 (a2 + a3))) (1:Int)))))) else (bif decide (a2 < (a0.length:Int)) then must (0≤a2∧a2 < (a0.length:Int)) (bif (idx a0 a2 == a1) then out (some (a2,true)) else ((jX (idx a0 a2)).bind fun a4=>bif a4 then (jX a1).bind fun a6=>out (some (a2,a6)) else (out (some (a2,false))))) else (out (some (a2,false))))
def bV (a0:List Int) (a1:Int):Option (Int×Bool) :=
 iter (jI a0 a1) (0,(a0.length:Int))
def jL (a0:List Int) (a1 a2:Int):Option (List Int) :=
 must (0≤a1∧a1≤a2∧a2≤(a0.length:Int)) (some (a0.take a1.toNat++a0.drop a2.toNat))
def lm (a2:List Int):(List Int×Int)→Option ((List Int×Int) ⊕ (List Int×Bool))
 | (a4,a1)=>bif decide (a1 < (a2.length:Int)) then must (0≤a1∧a1 < (a2.length:Int)) ((bV a4 (idx a2 a1)).bind fun a3=>bif !a3.2 then out (some (([]:List Int),false)) else ((jL a4 a3.1 (w64 (a3.1 + 1))).bind fun a5=>some (.inl (a5,w64 (a1 + 1))))) else (out (some (a4,true)))
def fE (a0:Unit) (a1:List Int) (a2:List Int):Option (List Int×Bool) :=
 (gJ a1).bind fun y7=>iter (lm a2) (y7,0)
def jk (a2:List Int):(Int×Int)→Option ((Int×Int) ⊕ (List Int×Bool))
 | (a3,a1)=>bif decide (a1 < (a2.length:Int)) then must (0≤a1∧a1 < (a2.length:Int)) (some (.inl (w64 (a3 - (idx a2 a1)),w64 (a1 + 1)))) else (out (some (([a3]:List Int),true)))
def eH (a0:Unit) (a1:List Int) (a2:List Int):Option (List Int×Bool) :=
 must (0≤(0:Int)∧(0:Int) < (a1.length:Int)) (iter (jk a2) (idx a1 (0:Int),0))
def kV (a0:Int) (a1:List Int) (a2:List Int) (b9:Bool):Option (List Int×Bool) :=
 bif b9 then some (([]:List Int),false) else ((lc a0).bind fun a3=>bif (a3 == (280:Int)) then (iL () a1 a2).bind fun a7=>some (a7.1,a7.2) else (bif (a3 == (281:Int)) then (eG () a1 a2).bind fun a5=>some (a5.1,a5.2) else (bif (a3 == (282:Int)) then (fE () a1 a2).bind fun a6=>some (a6.1,a6.2) else (bif (a3 == (283:Int)) then (eH () a1 a2).bind fun a4=>some (a4.1,a4.2) else (bif (a3 == ((-1):Int)) then none else none)))))
def iy (a0:Int) (a1:List Int) (a2:List Int):Option (List Int×Bool) :=
 (lh a0 a1).bind fun a3=>bif (a3 != 0) then kV a0 a1 a2 true else (kV a0 a1 a2 ((a2.length:Int) == 0))
def iQ (a2:Int) (a1:List Ask) (a4:List Spot) (a3:List (Int×(List Int))):Option ((List Ask×List Spot×(List (Int×(List Int)))×Int) ⊕ fB) :=
 some (.inl (a1,a4,a3,w64 (a2 + 1)))
def lY (a1:History) (a2:Int) (a5:List Ask) (a4:List Spot) (a6:List (Int×(List Int))) (a3:Int) (a7:List Int) (a8:Bool):Option ((List Ask×List Spot×(List (Int×(List Int)))×Int) ⊕ fB) :=
 bif !a8 then must (((a4.length + 1) + (a4.length + 1) / 4 + 192) * 16≤281474976710656∧a4.length + 1≤9223372036854775807) (iQ a3 a5 (a4++([(⟨a2,a3⟩:Spot)]:List Spot)) a6) else (must (((a5.length + 1) + (a5.length + 1) / 4 + 192) * 48≤281474976710656∧a5.length + 1≤9223372036854775807) (iQ a3 (a5++([(⟨a2,a3,(idx ((idx a1.Txns a2).Ops) a3).Key,a7⟩:Ask)]:List Ask)) a4 a6))
def lZ (a1:History) (a2:Int) (a6:List Ask) (a4:List Spot) (a5:List (Int×(List Int))) (a3:Int) (a7:List Int×Bool) (a8:Bool):Option ((List Ask×List Spot×(List (Int×(List Int)))×Int) ⊕ fB) :=
 bif a8 then iQ a3 a6 a4 a5 else (lY a1 a2 a6 a4 a5 a3 a7.1 a7.2)
def qm (a1:History) (a2:Int):(List Ask×List Spot×(List (Int×(List Int)))×Int)→Option ((List Ask×List Spot×(List (Int×(List Int)))×Int) ⊕ fB)
 | (a6,a5,a4,a3)=>bif decide (a3 < (((idx a1.Txns a2).Ops).length:Int)) then must (0≤a3∧a3 < (((idx a1.Txns a2).Ops).length:Int)) (bif decide ((idx ((idx a1.Txns a2).Ops) a3).Kind≤4) then must (((((mat a4 ((idx ((idx a1.Txns a2).Ops) a3).Key)).length) + 1) + (((mat a4 ((idx ((idx a1.Txns a2).Ops) a3).Key)).length) + 1) / 4 + 192) * 8≤281474976710656∧((mat a4 ((idx ((idx a1.Txns a2).Ops) a3).Key)).length) + 1≤9223372036854775807) (iQ a3 a6 a5 (fu a4 ((idx ((idx a1.Txns a2).Ops) a3).Key) ((mat a4 ((idx ((idx a1.Txns a2).Ops) a3).Key))++([(idx ((idx a1.Txns a2).Ops) a3).Arg]:List Int)))) else ((gJ ((idx ((idx a1.Txns a2).Ops) a3).Vals)).bind fun a8=>bif decide (((mat a4 ((idx ((idx a1.Txns a2).Ops) a3).Key)).length:Int) > 0) then (iy (w64 (((idx ((idx a1.Txns a2).Ops) a3).Kind) - 4)) ((idx ((idx a1.Txns a2).Ops) a3).Vals) (mat a4 ((idx ((idx a1.Txns a2).Ops) a3).Key))).bind fun a7=>bif a7.2 then lZ a1 a2 a6 a5 a4 a3 a7 ((idx ((idx a1.Txns a2).Ops) a3).Kind == 5) else (lZ a1 a2 a6 a5 a4 a3 a7 false) else (lY a1 a2 a6 a5 a4 a3 a8 true))) else (out (some (⟨a6,a5⟩:fB)))
def bv (a0:fB) (a1:History) (a2:Int):Option fB :=
 must (0≤a2∧a2 < (a1.Txns.length:Int)) (bif ((idx a1.Txns a2).Status != 1) then some a0 else (iter (qm a1 a2) (a0.asks,a0.bad,[],0)))
def yM (a0:History):(List Ask×List Spot×Int)→Option ((List Ask×List Spot×Int) ⊕ (fB×Int))
 | (a3,a2,a1)=>bif decide (a1 < (a0.Txns.length:Int)) then (bv (⟨a3,a2⟩:fB) a0 a1).bind fun a4=>some (.inl (a4.asks,a4.bad,w64 (a1 + 1))) else (out (some ((⟨a3,a2⟩:fB),0)))
def kW (a0:History):Option (fB×Int) :=
 (aC a0).bind fun a1=>bif (a1 != 0) then some ((⟨([]:List Ask),([]:List Spot)⟩:fB),a1) else (iter (yM a0) ([],[],0))
def jJ (a0:History):Option (List Ask×Int) :=
 (kW a0).bind fun a1=>some (a1.1.asks,a1.2)
def xO (a0:History) (a1:Int) (a3:Int):Int→Option (Int ⊕ (Int ⊕ Int))
 | a2=>bif decide (a2 < (((idx a0.Txns a3).Ops).length:Int)) then must (0≤a2∧a2 < (((idx a0.Txns a3).Ops).length:Int)) (bif ((idx ((idx a0.Txns a3).Ops) a2).Key == a1) then (pO ((idx ((idx a0.Txns a3).Ops) a2).Kind)).bind fun a4=>out (out (some a4)) else (some (.inl (w64 (a2 + 1))))) else (out (some (.inl (w64 (a3 + 1)))))
def xP (a0:History) (a1:Int):Int→Option (Int ⊕ Int)
 | a2=>bif decide (a2 < (a0.Txns.length:Int)) then must (0≤a2∧a2 < (a0.Txns.length:Int)) (iter (xO a0 a1 a2) 0) else (out (some 0))
def fP (a0:History) (a1:Int):Option Int :=
 (aC a0).bind fun y8=>bif (y8 != 0) then some 0 else (iter (xP a0 a1) 0)
def rY (a2:Int) (a1:List Int):Option ((List Int×Int) ⊕ (List Int)) :=
 some (.inl (a1,w64 (a2 + 1)))
def rZ (a0:Txn) (a1:List Int) (a2:Int) (a3:Bool):Option ((List Int×Int) ⊕ (List Int)) :=
 bif a3 then must (((a1.length + 1) + (a1.length + 1) / 4 + 192) * 8≤281474976710656∧a1.length + 1≤9223372036854775807) (rY a2 (a1++([(idx a0.Ops a2).Arg]:List Int))) else (rY a2 a1)
def wB (a0:Txn) (a1:Int):(List Int×Int)→Option ((List Int×Int) ⊕ (List Int))
 | (a3,a2)=>bif decide (a2 < (a0.Ops.length:Int)) then must (0≤a2∧a2 < (a0.Ops.length:Int)) (bif ((idx a0.Ops a2).Key == a1) then rZ a0 a3 a2 (decide ((idx a0.Ops a2).Kind≤4)) else (rZ a0 a3 a2 false)) else (out (some a3))
def eT (a0:Txn) (a1:Int):Option (List Int) :=
 iter (wB a0 a1) ([],0)
def oP (a0:History) (a1:Int) (a2:Int) (a4:Bool):Option (List Int×Bool) :=
 bif a4 then some (([]:List Int),false) else (must (0≤a1∧a1 < (a0.Txns.length:Int)) ((eT (idx a0.Txns a1) a2).bind fun a3=>some (a3,decide ((a3.length:Int) > 0))))
def jr (a0:History) (a1:Int) (a2:Int):Option (List Int×Bool) :=
 bif decide (a1 < 0) then oP a0 a1 a2 true else (bif decide (a1 ≥ (a0.Txns.length:Int)) then oP a0 a1 a2 true else ((aC a0).bind fun a3=>oP a0 a1 a2 (a3 != 0)))
def pR (a2:Int) (a1:List Int):Option ((List Int×Int) ⊕ (List Int)) :=
 some (.inl (a1,w64 (a2 + 1)))
def pU (a1:List Int) (a2:Int) (a3:Bool):Option ((List Int×Int) ⊕ (List Int)) :=
 bif a3 then must (((a1.length + 1) + (a1.length + 1) / 4 + 192) * 8≤281474976710656∧a1.length + 1≤9223372036854775807) (pR a2 (a1++([a2]:List Int))) else (pR a2 a1)
def uh (a0:History) (a1:Int):(List Int×Int)→Option ((List Int×Int) ⊕ (List Int))
 | (a3,a2)=>bif decide (a2 < (a0.Txns.length:Int)) then must (0≤a2∧a2 < (a0.Txns.length:Int)) (bif ((idx a0.Txns a2).Status != 2) then (eT (idx a0.Txns a2) a1).bind fun a4=>pU a3 a2 (decide ((a4.length:Int) > 0)) else (pU a3 a2 false)) else (out (some a3))
def dS (a0:History) (a1:Int):Option (List Int) :=
 (aC a0).bind fun y8=>bif (y8 != 0) then some ([]:List Int) else (iter (uh a0 a1) ([],0))
def pV (a2:Int) (a1:List aO):Option ((List aO×Int) ⊕ (List aO)) :=
 some (.inl (a1,w64 (a2 + 1)))
def pW (a5:List Int) (a1:List aO) (a2:Int) (a3:List Int×Bool) (a4:Bool):Option ((List aO×Int) ⊕ (List aO)) :=
 bif a4 then must (((a1.length + 1) + (a1.length + 1) / 4 + 192) * 32≤281474976710656∧a1.length + 1≤9223372036854775807) (pV a2 (a1++([(⟨idx a5 a2,a3.1⟩:aO)]:List aO))) else (pV a2 a1)
def ui (a0:History) (a1:Ask) (a3:List Int):(List aO×Int)→Option ((List aO×Int) ⊕ (List aO))
 | (a4,a2)=>bif decide (a2 < (a3.length:Int)) then must (0≤a2∧a2 < (a3.length:Int)) ((jr a0 (idx a3 a2) a1.Key).bind fun a5=>bif a5.2 then pW a3 a4 a2 a5 (idx a3 a2 != a1.Txn) else (pW a3 a4 a2 a5 false)) else (out (some a4))
def df (a0:History) (a1:Ask):Option (List aO) :=
 (dS a0 a1.Key).bind fun a2=>iter (ui a0 a1 a2) ([],0)
def qo (a0:List Int) (a1:Int):Int→Option (Int ⊕ Int)
 | a2=>bif decide (a2 < (a0.length:Int)) then must (0≤a2∧a2 < (a0.length:Int)) (bif (a1 == idx a0 a2) then out (some a2) else (some (.inl (w64 (a2 + 1))))) else (out (some (-1)))
def slices_Index_int (a0:List Int) (a1:Int):Option Int :=
 iter (qo a0 a1) 0
def slices_Contains_int (a0:List Int) (a1:Int):Option Bool :=
 (slices_Index_int a0 a1).bind fun y3=>some (decide (y3 ≥ 0))
def uE (a0:aO) (a1:List Int):Option Bool :=
 must (0≤(0:Int)∧(0:Int) < (a0.args.length:Int)) (must (0≤(0:Int)∧(0:Int) < (a1.length:Int)) (some (idx a0.args (0:Int) == idx a1 (0:Int))))
def gF (a0:List aO) (a1c0:List Int):Int→Option (Int ⊕ Int)
 | a1=>bif decide (a1 < (a0.length:Int)) then must (0≤a1∧a1 < (a0.length:Int)) ((uE (idx a0 a1) a1c0).bind fun a2=>bif a2 then out (some a1) else (some (.inl (w64 (a1 + 1))))) else (out (some (-1)))
def bO (a0:List aO) (a1c0:List Int):Option Int :=
 iter (gF a0 a1c0) 0
def mD (a1:List aO) (a3:List Int) (a4:List Int) (a2:Int) (a5:Bool):Option ((List Int×List Int) ⊕ (List Int×Bool)) :=
 bif a5 then out (some (([]:List Int),false)) else (must (0≤a2∧a2 < (a1.length:Int)) (must (((a4.length + 1) + (a4.length + 1) / 4 + 192) * 8≤281474976710656∧a4.length + 1≤9223372036854775807) (must (0≤(((idx a1 a2).args).length:Int)∧(((idx a1 a2).args).length:Int)≤(a3.length:Int)∧(a3.length:Int)≤(a3.length:Int)) (some (.inl (kI a3 (((idx a1 a2).args).length:Int) (a3.length:Int),a4++([(idx a1 a2).txn]:List Int)))))))
def si (a1:List aO):(List Int×List Int)→Option ((List Int×List Int) ⊕ (List Int×Bool))
 | (a3,a4)=>bif decide ((a3.length:Int) > 0) then (bO a1 a3).bind fun a2=>bif decide (a2 < 0) then mD a1 a3 a4 a2 true else (must (0≤a2∧a2 < (a1.length:Int)) (bif decide ((((idx a1 a2).args).length:Int) > (a3.length:Int)) then mD a1 a3 a4 a2 true else (must (0≤(0:Int)∧(0:Int)≤(((idx a1 a2).args).length:Int)∧(((idx a1 a2).args).length:Int)≤(a3.length:Int)) ((fO ((idx a1 a2).args) (kI a3 (0:Int) (((idx a1 a2).args).length:Int))).bind fun a6=>bif !a6 then mD a1 a3 a4 a2 true else ((slices_Contains_int a4 ((idx a1 a2).txn)).bind fun a5=>mD a1 a3 a4 a2 a5))))) else (out (some (a4,true)))
def fA (a0:List Int) (a1:List aO):Option (List Int×Bool) :=
 iter (si a1) (a0,[])
def uF (a2:Int) (a3:List Int) (a1:List (Int×Unit)):Option ((List Int×(List (Int×Unit))×Int) ⊕ (((List (Int×Unit))×Int) ⊕ (List Int×Bool))) :=
 some (.inl (a3,a1,w64 (a2 + 1)))
def uG (a3:Int) (a2:List (Int×Unit)) (a1:Int):Option (((List (Int×Unit))×Int×Int) ⊕ ((List Int×(List (Int×Unit))×Int) ⊕ (((List (Int×Unit))×Int) ⊕ (List Int×Bool)))) :=
 some (.inl (a2,a1,w64 (a3 + 1)))
def uH (a1:List aO) (a2:List Int) (a3:Int) (a4:List (Int×Unit)) (a6:Int) (a5:Bool):Option (((List (Int×Unit))×Int×Int) ⊕ ((List Int×(List (Int×Unit))×Int) ⊕ (((List (Int×Unit))×Int) ⊕ (List Int×Bool)))) :=
 bif a5 then out (out (out (some (([]:List Int),false)))) else (bif decide (a6 > 0) then must (((a2.length + 1) + (a2.length + 1) / 4 + 192) * 8≤281474976710656∧a2.length + 1≤9223372036854775807) (out (uF a3 (a2++([(idx a1 a3).txn]:List Int)) a4)) else (out (uF a3 a2 a4)))
def xQ (a1:List aO) (a6:List Int) (a3:Int):((List (Int×Unit))×Int×Int)→Option (((List (Int×Unit))×Int×Int) ⊕ ((List Int×(List (Int×Unit))×Int) ⊕ (((List (Int×Unit))×Int) ⊕ (List Int×Bool))))
 | (a5,a4,a2)=>bif decide (a2 < (((idx a1 a3).args).length:Int)) then must (0≤a2∧a2 < (((idx a1 a3).args).length:Int)) (bif gq a5 (idx ((idx a1 a3).args) a2) then uG a2 (EN a5 (idx ((idx a1 a3).args) a2)) (w64 (a4 + 1)) else (uG a2 a5 a4)) else (bif decide (a4 > 0) then uH a1 a6 a3 a5 a4 (decide (a4 < (((idx a1 a3).args).length:Int))) else (uH a1 a6 a3 a5 a4 false))
def xR (a1:List aO):(List Int×(List (Int×Unit))×Int)→Option ((List Int×(List (Int×Unit))×Int) ⊕ (((List (Int×Unit))×Int) ⊕ (List Int×Bool)))
 | (a4,a3,a2)=>bif decide (a2 < (a1.length:Int)) then must (0≤a2∧a2 < (a1.length:Int)) (iter (xQ a1 a4 a2) (a3,0,0)) else (bif decide ((a3.length:Int) > 0) then out (out (some (([]:List Int),false))) else (out (out (some (a4,true)))))
def xS (a0:List Int) (a1:List aO):((List (Int×Unit))×Int)→Option (((List (Int×Unit))×Int) ⊕ (List Int×Bool))
 | (a3,a2)=>bif decide (a2 < (a0.length:Int)) then must (0≤a2∧a2 < (a0.length:Int)) (some (.inl (fu a3 (idx a0 a2) (),w64 (a2 + 1)))) else (iter (xR a1) ([],a3,0))
def dz (a0:List Int) (a1:List aO):Option (List Int×Bool) :=
 iter (xS a0 a1) ([],0)
def iA (a0:History) (a1:Ask):Option (List Int×Bool) :=
 (fP a0 a1.Key).bind fun a3=>bif (a3 == 2) then (df a0 a1).bind fun a6=>(fA a1.Base a6).bind fun a2=>some (a2.1,a2.2) else (bif (a3 == 3) then (df a0 a1).bind fun a5=>(dz a1.Base a5).bind fun a4=>some (a4.1,a4.2) else (some (([]:List Int),false)))
def qp (a0:Int) (a2:Int) (a3:List aO) (a4:Int) (rec:Int→Int→Int→(List aO)→Int→Int→Option Int) (a6:Int):(Int×Int)→Option ((Int×Int) ⊕ Int)
 | (a5,a1)=>bif decide (a1 < (((idx a3 a0).args).length:Int)) then must (0≤a1∧a1 < (((idx a3 a0).args).length:Int)) (some (.inl (w64 (a5 + (idx ((idx a3 a0).args) a1)),w64 (a1 + 1)))) else (must (0≤a0∧a0 < (far:Int)) ((rec (w64 (a0 + 1)) a5 (bOr .u64 a2 (EL .u64 1 a0)) a3 a4 a6).bind fun a7=>out (some a7)))
def kC (rec:Int→Int→Int→(List aO)→Int→Int→Option Int) (a0:Int) (a1:Int) (a2:Int) (a3:List aO) (a4:Int) (a5:Int):Option Int :=
 bif (a0 == (a3.length:Int)) then bif (a1 == a4) then some (bOr .u64 a5 a2) else (some a5) else ((rec (w64 (a0 + 1)) a1 a2 a3 a4 a5).bind fun a6=>must (0≤a0∧a0 < (a3.length:Int)) (iter (qp a0 a2 a3 a4 rec a6) (a1,0)))
def gZ:Nat→Int→Int→Int→(List aO)→Int→Int→Option Int
 | 0=>fun _ _ _ _ _ _=>none
 | k + 1=>kC (gZ k)
def bI (a0:Int) (a1:Int) (a2:Int) (a3:List aO) (a4:Int) (a5:Int):Option Int:=gZ 64 a0 a1 a2 a3 a4 a5
def oh (a1:Int) (a2:List Int):Option ((List Int×Int) ⊕ (List Int)) :=
 some (.inl (a2,w64 (a1 + 1)))
def sj (a1:List aO) (a4:Int):(List Int×Int)→Option ((List Int×Int) ⊕ (List Int))
 | (a3,a2)=>bif decide (a2 < (a1.length:Int)) then must (0≤a2∧a2 < (a1.length:Int)) (must (0≤a2∧a2 < (far:Int)) (bif (di .u64 (fD .u64 a4 a2) 1 == 1) then must (((a3.length + 1) + (a3.length + 1) / 4 + 192) * 8≤281474976710656∧a3.length + 1≤9223372036854775807) (oh a2 (a3++([(idx a1 a2).txn]:List Int))) else (oh a2 a3))) else (out (some a3))
def eZ (a0:Int) (a1:List aO):Option (List Int) :=
 (bI 0 0 0 a1 a0 0).bind fun a2=>iter (sj a1 a2) ([],0)
def gu (a1:List Int):Option (List Int) :=
 some a1
def om (a0:History) (a1:Ask) (a2:List Int):Option (List Int) :=
 must (0≤(0:Int)∧(0:Int) < (a1.Base.length:Int)) ((df a0 a1).bind fun a4=>(eZ (idx a1.Base (0:Int)) a4).bind fun a3=>must (((a2.length + a3.length) + (a2.length + a3.length) / 4 + 192) * 8≤281474976710656∧a2.length + a3.length≤9223372036854775807) (gu (a2++a3)))
def oo (a1:Int) (a2:List Int):Option ((List Int×Int) ⊕ (List Int)) :=
 some (.inl (a2,w64 (a1 + 1)))
def oq (a1:Ask) (a3:List aO):(List Int×Int)→Option ((List Int×Int) ⊕ (List Int))
 | (a4,a2)=>bif decide (a2 < (a3.length:Int)) then must (0≤a2∧a2 < (a3.length:Int)) (must (0≤w64 ((((idx a3 a2).args).length:Int) - 1)∧w64 ((((idx a3 a2).args).length:Int) - 1) < (((idx a3 a2).args).length:Int)) (must (0≤(0:Int)∧(0:Int) < (a1.Base.length:Int)) (bif (idx ((idx a3 a2).args) (w64 ((((idx a3 a2).args).length:Int) - 1)) == idx a1.Base (0:Int)) then must (((a4.length + 1) + (a4.length + 1) / 4 + 192) * 8≤281474976710656∧a4.length + 1≤9223372036854775807) (oo a2 (a4++([(idx a3 a2).txn]:List Int))) else (oo a2 a4)))) else (out (gu a4))
def aY (a0:History) (a1:Ask):Option (List Int) :=
 (fP a0 a1.Key).bind fun a3=>bif (a3 == 4) then must (0≤(0:Int)∧(0:Int) < (a1.Base.length:Int)) (bif (idx a1.Base (0:Int) == 0) then must (((0 + 1) + (0 + 1) / 4 + 192) * 8≤281474976710656∧0 + 1≤9223372036854775807) (om a0 a1 (([]:List Int)++([(-1)]:List Int))) else (om a0 a1 [])) else (bif ((a1.Base.length:Int) == 0) then gu ([(-1)]:List Int) else (bif (a3 == 1) then (df a0 a1).bind fun a4=>iter (oq a1 a4) ([],0) else (bif (a3 == 2) then (iA a0 a1).bind fun a2=>bif a2.2 then must (0≤(w64 ((a2.1.length:Int) - 1))∧(w64 ((a2.1.length:Int) - 1))≤(a2.1.length:Int)∧(a2.1.length:Int)≤(a2.1.length:Int)) (gu (kI a2.1 (w64 ((a2.1.length:Int) - 1)) (a2.1.length:Int))) else (gu []) else ((iA a0 a1).bind fun a5=>gu a5.1))))
def oQ (a0:Ask) (a1:Ask):Option Bool :=
 bif (a1.Txn == a0.Txn) then bif (a1.Place == a0.Place) then bif (a1.Key == a0.Key) then (fO a1.Base a0.Base).bind fun a2=>some a2 else (some false) else (some false) else (some false)
def gL (a0:List Ask) (a1c0:Ask):Int→Option (Int ⊕ Int)
 | a1=>bif decide (a1 < (a0.length:Int)) then must (0≤a1∧a1 < (a0.length:Int)) ((oQ (idx a0 a1) a1c0).bind fun a2=>bif a2 then out (some a1) else (some (.inl (w64 (a1 + 1))))) else (out (some (-1)))
def bR (a0:List Ask) (a1c0:Ask):Option Int :=
 iter (gL a0 a1c0) 0
def dX (a0:List Ask) (a1c0:Ask):Option Bool :=
 (bR a0 a1c0).bind fun y3=>some (decide (y3 ≥ 0))
def pX (a0:History) (a1:Ask):Option Int :=
 (jJ a0).bind fun y9=>bif (y9.2 != 0) then some y9.2 else ((dX y9.1 a1).bind fun a2=>bif a2 then some 0 else (some 1))
def oU (a0:History) (a1:Ask):Option (List Int×Int) :=
 (pX a0 a1).bind fun a2=>bif (a2 != 0) then some (([]:List Int),a2) else ((aY a0 a1).bind fun a3=>some (a3,0))
def su (a0:History) (a1:Ask):Option (List Int×Bool×Int) :=
 (pX a0 a1).bind fun a2=>bif (a2 != 0) then some (([]:List Int),false,a2) else ((iA a0 a1).bind fun a3=>some (a3.1,a3.2,0))
def iR (a0:aF) (a1:Int):Option Bool :=
 must (0≤a1∧a1 < (a0.h.Txns.length:Int)) (some ((idx a0.h.Txns a1).Status == 1))
def fU (a0:aF) (a1:Int) (a2:Int) (a3:Int) (a4:Int):Option aF :=
 must (((a0.edges.length + 1) + (a0.edges.length + 1) / 4 + 192) * 32≤281474976710656∧a0.edges.length + 1≤9223372036854775807) (some (⟨a0.h,a0.asks,a0.edges++([(⟨a1,a2,a3,a4⟩:Edge)]:List Edge)⟩:aF))
def jO (a3:Int) (a1:List Int) (a2:List (Int×Int)):Option ((List Int×(List (Int×Int))×Int) ⊕ aF) :=
 some (.inl (a1,a2,w64 (a3 - 1)))
def jP (a0:aF) (a2:List (Int×Int)) (a1:Int) (a3:List Int):Option ((List Int×(List (Int×Int))×Int) ⊕ aF) :=
 must (0≤a1∧a1 < (a0.h.Txns.length:Int)) (jO a1 a3 (fu a2 ((idx a0.h.Txns a1).Proc) a1))
def jQ (a2:Int) (a1:List Edge):Option ((List Edge×Int) ⊕ ((List Int×(List (Int×Int))×Int) ⊕ aF)) :=
 some (.inl (a1,w64 (a2 + 1)))
def jR (a0:aF) (a2:List Int):(List Edge×Int)→Option ((List Edge×Int) ⊕ ((List Int×(List (Int×Int))×Int) ⊕ aF))
 | (a3,a1)=>bif decide (a1 < (a2.length:Int)) then must (0≤a1∧a1 < (a2.length:Int)) (bif decide (idx a2 a1 ≥ 0) then (fU (⟨a0.h,a0.asks,a3⟩:aF) a1 (idx a2 a1) 1 (-1)).bind fun a4=>jQ a1 a4.edges else (jQ a1 a3)) else (out (out (some (⟨a0.h,a0.asks,a3⟩:aF))))
def jS (a0:aF):(List Int×(List (Int×Int))×Int)→Option ((List Int×(List (Int×Int))×Int) ⊕ aF)
 | (a2,a3,a1)=>bif decide (a1 ≥ 0) then must (0≤a1∧a1 < (a2.length:Int)) ((iR a0 a1).bind fun a4=>bif !a4 then jO a1 (a2.set a1.toNat (-1)) a3 else (must (0≤a1∧a1 < (a0.h.Txns.length:Int)) (bif gq a3 ((idx a0.h.Txns a1).Proc) then must (0≤a1∧a1 < ((a2.set a1.toNat (-1)).length:Int)) (jP a0 a3 a1 ((a2.set a1.toNat (-1)).set a1.toNat (mat a3 ((idx a0.h.Txns a1).Proc)))) else (jP a0 a3 a1 (a2.set a1.toNat (-1)))))) else (iter (jR a0 a2) (a0.edges,0))
def aN (a0:aF):Option aF :=
 must (0≤(a0.h.Txns.length:Int)∧(a0.h.Txns.length:Int)≤9223372036854775807∧(8:Int) * (a0.h.Txns.length:Int)≤281474976710656) (iter (jS a0) (List.replicate (a0.h.Txns.length:Int).toNat (default:Int),[],w64 (((a0.h.Txns.length:Int).toNat:Int) - 1)))
def mX (a1:Int) (a2:List Edge):Option ((List Edge×Int) ⊕ ((List Edge×Int) ⊕ aF)) :=
 some (.inl (a2,w64 (a1 + 1)))
def jY (a0:aF) (a4:Int) (a2:List Edge) (a1:Int) (a5:Bool):Option ((List Edge×Int) ⊕ ((List Edge×Int) ⊕ aF)) :=
 bif a5 then (fU (⟨a0.h,a0.asks,a2⟩:aF) a4 a1 2 (-1)).bind fun a3=>mX a1 a3.edges else (mX a1 a2)
def qX (a0:aF) (a3:Int):(List Edge×Int)→Option ((List Edge×Int) ⊕ ((List Edge×Int) ⊕ aF))
 | (a2,a1)=>bif decide (a1 < (a0.h.Txns.length:Int)) then must (0≤a1∧a1 < (a0.h.Txns.length:Int)) ((iR (⟨a0.h,a0.asks,a2⟩:aF) a3).bind fun a5=>bif a5 then (iR (⟨a0.h,a0.asks,a2⟩:aF) a1).bind fun a4=>bif a4 then jY a0 a3 a2 a1 (decide ((idx a0.h.Txns a3).To < (idx a0.h.Txns a1).From)) else (jY a0 a3 a2 a1 false) else (jY a0 a3 a2 a1 false)) else (out (some (.inl (a2,w64 (a3 + 1)))))
def qY (a0:aF):(List Edge×Int)→Option ((List Edge×Int) ⊕ aF)
 | (a2,a1)=>bif decide (a1 < (a0.h.Txns.length:Int)) then must (0≤a1∧a1 < (a0.h.Txns.length:Int)) (iter (qX a0 a1) (a2,0)) else (out (some (⟨a0.h,a0.asks,a2⟩:aF)))
def bT (a0:aF):Option aF :=
 iter (qY a0) (a0.edges,0)
def jU (a0:Int) (a1:aJ) (a2:aF):Option Bool :=
 bif (a0 == a1.Ask.Txn) then some true else ((iR a2 a0).bind fun y5=>some (!y5))
def kX (a0:aJ) (a1:Int):Option Bool :=
 bif ((a0.sources.length:Int) == 1) then must (0≤(0:Int)∧(0:Int) < (a0.sources.length:Int)) (some (idx a0.sources (0:Int) == a1)) else (some false)
def lq (a0:aJ) (a1:Int) (a2:aJ):Option Bool :=
 bif (a0.Ask.Txn == a1) then bif (a0.Ask.Key == a2.Ask.Key) then must (0≤(0:Int)∧(0:Int) < (a2.sources.length:Int)) ((kX a0 (idx a2.sources (0:Int))).bind fun a3=>some a3) else (some false) else (some false)
def fG (a0:List aJ) (a1c0:Int) (a1c1:aJ):Int→Option (Int ⊕ Int)
 | a1=>bif decide (a1 < (a0.length:Int)) then must (0≤a1∧a1 < (a0.length:Int)) ((lq (⟨((idx a0 a1).Ask),(idx a0 a1).sources,(idx a0 a1).parts,(idx a0 a1).made,(idx a0 a1).kind⟩:aJ) a1c0 a1c1).bind fun a2=>bif a2 then out (some a1) else (some (.inl (w64 (a1 + 1))))) else (out (some (-1)))
def bu (a0:List aJ) (a1c0:Int) (a1c1:aJ):Option Int :=
 iter (fG a0 a1c0 a1c1) 0
def dJ (a0:List aJ) (a1c0:Int) (a1c1:aJ):Option Bool :=
 (bu a0 a1c0 a1c1).bind fun y3=>some (decide (y3 ≥ 0))
def iD (a0:aF) (a1:aJ) (a2:Int) (a3:Bool):Option Bool :=
 bif a3 then some false else ((dJ a0.asks a2 a1).bind fun a4=>some a4)
def eY (a0:aF) (a1:aJ) (a2:Int):Option Bool :=
 (kX a1 (-1)).bind fun a4=>bif a4 then some true else (bif a1.made then (slices_Contains_int a1.parts a2).bind fun a3=>some (!a3) else (bif (a1.kind != 1) then iD a0 a1 a2 true else (bif ((a1.sources.length:Int) != 1) then iD a0 a1 a2 true else (must (0≤(0:Int)∧(0:Int) < (a1.sources.length:Int)) (iD a0 a1 a2 (idx a1.sources (0:Int) == a2))))))
def gp (a0:List Int) (a1c0:aJ) (a1c1:aF):Int→Option (Int ⊕ Int)
 | a1=>bif decide (a1 < (a0.length:Int)) then must (0≤a1∧a1 < (a0.length:Int)) ((jU (idx a0 a1) a1c0 a1c1).bind fun a2=>bif a2 then out (some a1) else (some (.inl (w64 (a1 + 1))))) else (out (some (-1)))
def bJ (a0:List Int) (a1c0:aJ) (a1c1:aF):Option Int :=
 iter (gp a0 a1c0 a1c1) 0
def fV (a0:List Int) (a1c0:aJ) (a1c1:aF):List Int×Int→Option ((List Int×Int) ⊕ List Int)
 | (l,x)=>bif decide (x < (a0.length:Int)) then must (0≤x∧x < (a0.length:Int)) ((jU (idx a0 x) a1c0 a1c1).bind fun y=>bif !y then (some (.inl (l++[idx a0 x],w64 (x + 1)))) else (some (.inl (l,w64 (x + 1))))) else (out (some l))
def bG (a0:List Int) (a1c0:aJ) (a1c1:aF):Option (List Int) :=
 (bJ a0 a1c0 a1c1).bind fun i=>bif i == -1 then some a0 else must (0≤i∧i < (a0.length:Int)) (iter (fV a0 a1c0 a1c1) (a0.take i.toNat,w64 (i + 1)))
def ou (a2:Int) (a1:List Edge):Option ((List Edge×Int) ⊕ aF) :=
 some (.inl (a1,w64 (a2 + 1)))
def sw (a0:aF) (a1:aJ) (a3:List Int):(List Edge×Int)→Option ((List Edge×Int) ⊕ aF)
 | (a4,a2)=>bif decide (a2 < (a3.length:Int)) then must (0≤a2∧a2 < (a3.length:Int)) ((eY (⟨a0.h,a0.asks,a4⟩:aF) a1 (idx a3 a2)).bind fun a6=>bif a6 then (fU (⟨a0.h,a0.asks,a4⟩:aF) a1.Ask.Txn (idx a3 a2) 16 a1.Ask.Key).bind fun a5=>ou a2 a5.edges else (ou a2 a4)) else (out (some (⟨a0.h,a0.asks,a4⟩:aF)))
def jB (a0:aF) (a1:aJ) (a3:List Int) (a2:List Edge):Option aF :=
 iter (sw a0 a1 a3) (a2,0)
def lu (a1:Int) (a2:List Edge):Option ((List Edge×Int) ⊕ aF) :=
 some (.inl (a2,w64 (a1 + 1)))
def ow (a2:Int) (a1:List Edge):Option ((List Edge×Int) ⊕ ((List Edge×Int) ⊕ aF)) :=
 some (.inl (a1,w64 (a2 + 1)))
def oz (a0:aF) (a1:aJ) (a3:List Int) (a5:Int):(List Edge×Int)→Option ((List Edge×Int) ⊕ ((List Edge×Int) ⊕ aF))
 | (a4,a2)=>bif decide (a2 < (a3.length:Int)) then must (0≤a2∧a2 < (a3.length:Int)) ((slices_Contains_int a1.parts (idx a3 a2)).bind fun a6=>bif !a6 then (fU (⟨a0.h,a0.asks,a4⟩:aF) (idx a1.parts a5) (idx a3 a2) 8 a1.Ask.Key).bind fun a7=>ow a2 a7.edges else (ow a2 a4)) else (out (lu a5 a4))
def oC (a0:aF) (a1:aJ) (a4:List Int) (a3:List Edge) (a2:Int) (a6:Bool):Option ((List Edge×Int) ⊕ aF) :=
 bif a6 then must (0≤w64 (a2 + 1)∧w64 (a2 + 1) < (a1.parts.length:Int)) ((fU (⟨a0.h,a0.asks,a3⟩:aF) (idx a1.parts a2) (idx a1.parts (w64 (a2 + 1))) 8 a1.Ask.Key).bind fun a5=>lu a2 a5.edges) else (iter (oz a0 a1 a4 a2) (a3,0))
def oD (a0:aF) (a1:aJ) (a3:List Int):(List Edge×Int)→Option ((List Edge×Int) ⊕ aF)
 | (a4,a2)=>bif decide (a2 < (a1.parts.length:Int)) then must (0≤a2∧a2 < (a1.parts.length:Int)) (bif (a1.kind == 2) then oC a0 a1 a3 a4 a2 (decide (w64 (a2 + 1) < (a1.parts.length:Int))) else (oC a0 a1 a3 a4 a2 false)) else (out (jB a0 a1 a3 a4))
def iM (a0:aF) (a1:aJ) (a2:List Edge):Option aF :=
 (dS a0.h a1.Ask.Key).bind fun a4=>(bG a4 a1 (⟨a0.h,a0.asks,a2⟩:aF)).bind fun a3=>bif a1.made then iter (oD a0 a1 a3) (a2,0) else (jB a0 a1 a3 a2)
def gM (a0:aF) (a1:aJ) (a2:Bool):Option aF :=
 bif a2 then must (0≤(0:Int)∧(0:Int) < (a1.sources.length:Int)) ((fU a0 (idx a1.sources (0:Int)) a1.Ask.Txn 4 a1.Ask.Key).bind fun a3=>iM a0 a1 a3.edges) else (iM a0 a1 a0.edges)
def aB (a0:aF) (a1:aJ):Option aF :=
 bif ((a1.sources.length:Int) == 1) then must (0≤(0:Int)∧(0:Int) < (a1.sources.length:Int)) (gM a0 a1 (decide (idx a1.sources (0:Int) ≥ 0))) else (gM a0 a1 false)
def xU (a2:Int) (a1:List aJ):Option ((List aJ×Int) ⊕ (bL×Int)) :=
 some (.inl (a1,w64 (a2 + 1)))
def uI (a4:List Ask×Int) (a1:List aJ) (a2:Int) (a3:Int) (a5:List Int×Int) (a6:List Int×Bool×Int) (a7:Bool):Option ((List aJ×Int) ⊕ (bL×Int)) :=
 must (((a1.length + 1) + (a1.length + 1) / 4 + 192) * 112≤281474976710656∧a1.length + 1≤9223372036854775807) (xU a2 (a1++([(⟨(idx a4.1 a2),a5.1,a6.1,a7,a3⟩:aJ)]:List aJ)))
def xV (a0:History) (a2:List Ask×Int) (a6:List aJ) (a1:Int) (a4:Int):Option ((List aJ×Int) ⊕ (bL×Int)) :=
 (oU a0 (idx a2.1 a1)).bind fun a5=>(su a0 (idx a2.1 a1)).bind fun a3=>bif a3.2.1 then uI a2 a6 a1 a4 a5 a3 (decide ((((idx a2.1 a1).Base).length:Int) > 0)) else (uI a2 a6 a1 a4 a5 a3 false)
def uJ (a0:History) (a2:List aJ):(List Edge×Int)→Option ((List Edge×Int) ⊕ ((List aJ×Int) ⊕ (bL×Int)))
 | (a3,a1)=>bif decide (a1 < (a2.length:Int)) then must (0≤a1∧a1 < (a2.length:Int)) ((aB (⟨a0,a2,a3⟩:aF) (⟨((idx a2 a1).Ask),(idx a2 a1).sources,(idx a2 a1).parts,(idx a2 a1).made,(idx a2 a1).kind⟩:aJ)).bind fun a4=>some (.inl (a4.edges,w64 (a1 + 1)))) else (out (out (some ((⟨(a0.Txns.length:Int),a3⟩:bL),0))))
def xW (a0:History) (a2:List Ask×Int):(List aJ×Int)→Option ((List aJ×Int) ⊕ (bL×Int))
 | (a3,a1)=>bif decide (a1 < (a2.1.length:Int)) then must (0≤a1∧a1 < (a2.1.length:Int)) ((fP a0 ((idx a2.1 a1).Key)).bind fun a4=>xV a0 a2 a3 a1 a4) else ((aN (⟨a0,a3,([]:List Edge)⟩:aF)).bind fun a5=>(bT (⟨a0,a3,a5.edges⟩:aF)).bind fun a6=>iter (uJ a0 a3) (a6.edges,0))
def dH (a0:History):Option (bL×Int) :=
 (jJ a0).bind fun a1=>bif (a1.2 != 0) then some ((⟨0,([]:List Edge)⟩:bL),a1.2) else (iter (xW a0 a1) ([],0))
def uj (a0:History):Option (List Spot×Int) :=
 (kW a0).bind fun a1=>some (a1.1.bad,a1.2)
def oV (a0:List Spot) (a1:Spot):Int→Option (Int ⊕ Int)
 | a2=>bif decide (a2 < (a0.length:Int)) then must (0≤a2∧a2 < (a0.length:Int)) (bif ((a1.Txn == (idx a0 a2).Txn) && ((a1.Place == (idx a0 a2).Place) && true)) then out (some a2) else (some (.inl (w64 (a2 + 1))))) else (out (some (-1)))
def gy (a0:List Spot) (a1:Spot):Option Int :=
 iter (oV a0 a1) 0
def jv (a0:List Spot) (a1:Spot):Option Bool :=
 (gy a0 a1).bind fun y5=>some (decide (y5 ≥ 0))
def mE (a0:Ask) (a1:History):Option Bool :=
 (aY a1 a0).bind fun y7=>some (decide ((y7.length:Int) > 0))
def gN (a0:List Ask) (a1c0:History):Int→Option (Int ⊕ Int)
 | a1=>bif decide (a1 < (a0.length:Int)) then must (0≤a1∧a1 < (a0.length:Int)) ((mE (idx a0 a1) a1c0).bind fun a2=>bif a2 then out (some a1) else (some (.inl (w64 (a1 + 1))))) else (out (some (-1)))
def bS (a0:List Ask) (a1c0:History):Option Int :=
 iter (gN a0 a1c0) 0
def gG (a0:List Ask) (a1c0:History):List Ask×Int→Option ((List Ask×Int) ⊕ List Ask)
 | (l,x)=>bif decide (x < (a0.length:Int)) then must (0≤x∧x < (a0.length:Int)) ((mE (idx a0 x) a1c0).bind fun y=>bif !y then (some (.inl (l++[idx a0 x],w64 (x + 1)))) else (some (.inl (l,w64 (x + 1))))) else (out (some l))
def bB (a0:List Ask) (a1c0:History):Option (List Ask) :=
 (bS a0 a1c0).bind fun i=>bif i == -1 then some a0 else must (0≤i∧i < (a0.length:Int)) (iter (gG a0 a1c0) (a0.take i.toNat,w64 (i + 1)))
def pY (a0:History):Option (List Ask×Int) :=
 (jJ a0).bind fun y7=>bif (y7.2 != 0) then some (([]:List Ask),y7.2) else ((bB y7.1 a0).bind fun a1=>some (a1,0))
def vN (a0:Ask) (a1:bM):Option Bool :=
 some ((a0.Txn == a1.Spot.Txn) && ((a0.Place == a1.Spot.Place) && true))
def nN (a0:Int) (a1:bL):Option Bool :=
 bif decide (a0 ≥ 0) then some (decide (a0 < a1.N)) else (some false)
def uk (a0:Int):Option Int :=
 must (0≤(1:Int)∧(1:Int) < (far:Int)) (must (0≤(2:Int)∧(2:Int) < (far:Int)) (must (0≤(4:Int)∧(4:Int) < (far:Int)) (must (0≤(8:Int)∧(8:Int) < (far:Int)) (must (0≤(16:Int)∧(16:Int) < (far:Int)) (must (0≤(32:Int)∧(32:Int) < (far:Int)) (some (di .i64 (w64 (IntKind.wrap .u64 ((IntKind.wrap .u64 ((IntKind.wrap .u64 ((di .u64 (IntKind.wrap .u64 ((fD .u64 (IntKind.wrap .u64 ((di .u64 (fD .u64 (IntKind.wrap .u64 ((di .u64 (fD .u64 a0 (1:Int)) 6148914691236517205) + (di .u64 a0 6148914691236517205))) (2:Int)) 3689348814741910323) + (di .u64 (IntKind.wrap .u64 ((di .u64 (fD .u64 a0 (1:Int)) 6148914691236517205) + (di .u64 a0 6148914691236517205))) 3689348814741910323))) (4:Int)) + (IntKind.wrap .u64 ((di .u64 (fD .u64 (IntKind.wrap .u64 ((di .u64 (fD .u64 a0 (1:Int)) 6148914691236517205) + (di .u64 a0 6148914691236517205))) (2:Int)) 3689348814741910323) + (di .u64 (IntKind.wrap .u64 ((di .u64 (fD .u64 a0 (1:Int)) 6148914691236517205) + (di .u64 a0 6148914691236517205))) 3689348814741910323))))) 1085102592571150095) + (fD .u64 (di .u64 (IntKind.wrap .u64 ((fD .u64 (IntKind.wrap .u64 ((di .u64 (fD .u64 (IntKind.wrap .u64 ((di .u64 (fD .u64 a0 (1:Int)) 6148914691236517205) + (di .u64 a0 6148914691236517205))) (2:Int)) 3689348814741910323) + (di .u64 (IntKind.wrap .u64 ((di .u64 (fD .u64 a0 (1:Int)) 6148914691236517205) + (di .u64 a0 6148914691236517205))) 3689348814741910323))) (4:Int)) + (IntKind.wrap .u64 ((di .u64 (fD .u64 (IntKind.wrap .u64 ((di .u64 (fD .u64 a0 (1:Int)) 6148914691236517205) + (di .u64 a0 6148914691236517205))) (2:Int)) 3689348814741910323) + (di .u64 (IntKind.wrap .u64 ((di .u64 (fD .u64 a0 (1:Int)) 6148914691236517205) + (di .u64 a0 6148914691236517205))) 3689348814741910323))))) 1085102592571150095) (8:Int)))) + (fD .u64 (IntKind.wrap .u64 ((di .u64 (IntKind.wrap .u64 ((fD .u64 (IntKind.wrap .u64 ((di .u64 (fD .u64 (IntKind.wrap .u64 ((di .u64 (fD .u64 a0 (1:Int)) 6148914691236517205) + (di .u64 a0 6148914691236517205))) (2:Int)) 3689348814741910323) + (di .u64 (IntKind.wrap .u64 ((di .u64 (fD .u64 a0 (1:Int)) 6148914691236517205) + (di .u64 a0 6148914691236517205))) 3689348814741910323))) (4:Int)) + (IntKind.wrap .u64 ((di .u64 (fD .u64 (IntKind.wrap .u64 ((di .u64 (fD .u64 a0 (1:Int)) 6148914691236517205) + (di .u64 a0 6148914691236517205))) (2:Int)) 3689348814741910323) + (di .u64 (IntKind.wrap .u64 ((di .u64 (fD .u64 a0 (1:Int)) 6148914691236517205) + (di .u64 a0 6148914691236517205))) 3689348814741910323))))) 1085102592571150095) + (fD .u64 (di .u64 (IntKind.wrap .u64 ((fD .u64 (IntKind.wrap .u64 ((di .u64 (fD .u64 (IntKind.wrap .u64 ((di .u64 (fD .u64 a0 (1:Int)) 6148914691236517205) + (di .u64 a0 6148914691236517205))) (2:Int)) 3689348814741910323) + (di .u64 (IntKind.wrap .u64 ((di .u64 (fD .u64 a0 (1:Int)) 6148914691236517205) + (di .u64 a0 6148914691236517205))) 3689348814741910323))) (4:Int)) + (IntKind.wrap .u64 ((di .u64 (fD .u64 (IntKind.wrap .u64 ((di .u64 (fD .u64 a0 (1:Int)) 6148914691236517205) + (di .u64 a0 6148914691236517205))) (2:Int)) 3689348814741910323) + (di .u64 (IntKind.wrap .u64 ((di .u64 (fD .u64 a0 (1:Int)) 6148914691236517205) + (di .u64 a0 6148914691236517205))) 3689348814741910323))))) 1085102592571150095) (8:Int)))) (16:Int)))) + (fD .u64 (IntKind.wrap .u64 ((IntKind.wrap .u64 ((di .u64 (IntKind.wrap .u64 ((fD .u64 (IntKind.wrap .u64 ((di .u64 (fD .u64 (IntKind.wrap .u64 ((di .u64 (fD .u64 a0 (1:Int)) 6148914691236517205) + (di .u64 a0 6148914691236517205))) (2:Int)) 3689348814741910323) + (di .u64 (IntKind.wrap .u64 ((di .u64 (fD .u64 a0 (1:Int)) 6148914691236517205) + (di .u64 a0 6148914691236517205))) 3689348814741910323))) (4:Int)) + (IntKind.wrap .u64 ((di .u64 (fD .u64 (IntKind.wrap .u64 ((di .u64 (fD .u64 a0 (1:Int)) 6148914691236517205) + (di .u64 a0 6148914691236517205))) (2:Int)) 3689348814741910323) + (di .u64 (IntKind.wrap .u64 ((di .u64 (fD .u64 a0 (1:Int)) 6148914691236517205) + (di .u64 a0 6148914691236517205))) 3689348814741910323))))) 1085102592571150095) + (fD .u64 (di .u64 (IntKind.wrap .u64 ((fD .u64 (IntKind.wrap .u64 ((di .u64 (fD .u64 (IntKind.wrap .u64 ((di .u64 (fD .u64 a0 (1:Int)) 6148914691236517205) + (di .u64 a0 6148914691236517205))) (2:Int)) 3689348814741910323) + (di .u64 (IntKind.wrap .u64 ((di .u64 (fD .u64 a0 (1:Int)) 6148914691236517205) + (di .u64 a0 6148914691236517205))) 3689348814741910323))) (4:Int)) + (IntKind.wrap .u64 ((di .u64 (fD .u64 (IntKind.wrap .u64 ((di .u64 (fD .u64 a0 (1:Int)) 6148914691236517205) + (di .u64 a0 6148914691236517205))) (2:Int)) 3689348814741910323) + (di .u64 (IntKind.wrap .u64 ((di .u64 (fD .u64 a0 (1:Int)) 6148914691236517205) + (di .u64 a0 6148914691236517205))) 3689348814741910323))))) 1085102592571150095) (8:Int)))) + (fD .u64 (IntKind.wrap .u64 ((di .u64 (IntKind.wrap .u64 ((fD .u64 (IntKind.wrap .u64 ((di .u64 (fD .u64 (IntKind.wrap .u64 ((di .u64 (fD .u64 a0 (1:Int)) 6148914691236517205) + (di .u64 a0 6148914691236517205))) (2:Int)) 3689348814741910323) + (di .u64 (IntKind.wrap .u64 ((di .u64 (fD .u64 a0 (1:Int)) 6148914691236517205) + (di .u64 a0 6148914691236517205))) 3689348814741910323))) (4:Int)) + (IntKind.wrap .u64 ((di .u64 (fD .u64 (IntKind.wrap .u64 ((di .u64 (fD .u64 a0 (1:Int)) 6148914691236517205) + (di .u64 a0 6148914691236517205))) (2:Int)) 3689348814741910323) + (di .u64 (IntKind.wrap .u64 ((di .u64 (fD .u64 a0 (1:Int)) 6148914691236517205) + (di .u64 a0 6148914691236517205))) 3689348814741910323))))) 1085102592571150095) + (fD .u64 (di .u64 (IntKind.wrap .u64 ((fD .u64 (IntKind.wrap .u64 ((di .u64 (fD .u64 (IntKind.wrap .u64 ((di .u64 (fD .u64 a0 (1:Int)) 6148914691236517205) + (di .u64 a0 6148914691236517205))) (2:Int)) 3689348814741910323) + (di .u64 (IntKind.wrap .u64 ((di .u64 (fD .u64 a0 (1:Int)) 6148914691236517205) + (di .u64 a0 6148914691236517205))) 3689348814741910323))) (4:Int)) + (IntKind.wrap .u64 ((di .u64 (fD .u64 (IntKind.wrap .u64 ((di .u64 (fD .u64 a0 (1:Int)) 6148914691236517205) + (di .u64 a0 6148914691236517205))) (2:Int)) 3689348814741910323) + (di .u64 (IntKind.wrap .u64 ((di .u64 (fD .u64 a0 (1:Int)) 6148914691236517205) + (di .u64 a0 6148914691236517205))) 3689348814741910323))))) 1085102592571150095) (8:Int)))) (16:Int)))) (32:Int))))) 127)))))))
def mF (a0:Int):Option Int :=
 (uk a0).bind fun y3=>some y3
def jw (a2:Int) (a1:Bool):Option (Int ⊕ Int) :=
 bif a1 then out (some 60) else (some (.inl (w64 (a2 + 1))))
def zQ (a0:bL):Int→Option (Int ⊕ Int)
 | a1=>bif decide (a1 < (a0.Edges.length:Int)) then must (0≤a1∧a1 < (a0.Edges.length:Int)) ((nN ((idx a0.Edges a1).From) a0).bind fun a4=>bif !a4 then jw a1 true else ((nN ((idx a0.Edges a1).To) a0).bind fun a3=>bif !a3 then jw a1 true else (bif decide ((idx a0.Edges a1).Kind < 1) then jw a1 true else (bif decide ((idx a0.Edges a1).Kind > 16) then jw a1 true else ((mF (IntKind.wrap .u64 ((idx a0.Edges a1).Kind))).bind fun a2=>jw a1 (a2 != 1)))))) else (out (some 0))
def mG (a0:bL) (b9:Bool):Option Int :=
 bif b9 then some 60 else (iter (zQ a0) 0)
def dC (a0:bL):Option Int :=
 bif decide (a0.N < 0) then mG a0 true else (bif decide (a0.N > 64) then mG a0 true else (mG a0 (decide ((a0.Edges.length:Int) > 262144))))
def wC (a0:bL) (a1:Int) (a2:Int):((List (List aT))×Int)→Option (((List (List aT))×Int) ⊕ (((List (List aT))×Int) ⊕ dL))
 | (a4,a3)=>bif decide (a3 < (a0.Edges.length:Int)) then must (0≤a3∧a3 < (a0.Edges.length:Int)) (must (0≤(idx a0.Edges a3).From∧(idx a0.Edges a3).From < (a4.length:Int)) (must (0≤(idx a0.Edges a3).To∧(idx a0.Edges a3).To < ((idx a4 ((idx a0.Edges a3).From)).length:Int)) (bif (di .i64 ((idx a0.Edges a3).Kind) a1 != 0) then bif ((idx (idx a4 ((idx a0.Edges a3).From)) ((idx a0.Edges a3).To)).tight == 0) then bif (di .i64 ((idx a0.Edges a3).Kind) a2 != 0) then bif ((idx ((idx a4 ((idx a0.Edges a3).From)).set ((idx a0.Edges a3).To).toNat (⟨w64 (a3 + 1),(idx (idx a4 ((idx a0.Edges a3).From)) ((idx a0.Edges a3).To)).loose⟩:aT)) ((idx a0.Edges a3).To)).loose == 0) then some (.inl (a4.set ((idx a0.Edges a3).From).toNat (((idx a4 ((idx a0.Edges a3).From)).set ((idx a0.Edges a3).To).toNat (⟨w64 (a3 + 1),(idx (idx a4 ((idx a0.Edges a3).From)) ((idx a0.Edges a3).To)).loose⟩:aT)).set ((idx a0.Edges a3).To).toNat (⟨(idx ((idx a4 ((idx a0.Edges a3).From)).set ((idx a0.Edges a3).To).toNat (⟨w64 (a3 + 1),(idx (idx a4 ((idx a0.Edges a3).From)) ((idx a0.Edges a3).To)).loose⟩:aT)) ((idx a0.Edges a3).To)).tight,w64 (a3 + 1)⟩:aT)),w64 (a3 + 1))) else (some (.inl (a4.set ((idx a0.Edges a3).From).toNat ((idx a4 ((idx a0.Edges a3).From)).set ((idx a0.Edges a3).To).toNat (⟨w64 (a3 + 1),(idx (idx a4 ((idx a0.Edges a3).From)) ((idx a0.Edges a3).To)).loose⟩:aT)),w64 (a3 + 1)))) else (some (.inl (a4.set ((idx a0.Edges a3).From).toNat ((idx a4 ((idx a0.Edges a3).From)).set ((idx a0.Edges a3).To).toNat (⟨w64 (a3 + 1),(idx (idx a4 ((idx a0.Edges a3).From)) ((idx a0.Edges a3).To)).loose⟩:aT)),w64 (a3 + 1)))) else (bif (di .i64 ((idx a0.Edges a3).Kind) a2 != 0) then bif ((idx (idx a4 ((idx a0.Edges a3).From)) ((idx a0.Edges a3).To)).loose == 0) then some (.inl (a4.set ((idx a0.Edges a3).From).toNat ((idx a4 ((idx a0.Edges a3).From)).set ((idx a0.Edges a3).To).toNat (⟨(idx (idx a4 ((idx a0.Edges a3).From)) ((idx a0.Edges a3).To)).tight,w64 (a3 + 1)⟩:aT)),w64 (a3 + 1))) else (some (.inl (a4.set ((idx a0.Edges a3).From).toNat (idx a4 ((idx a0.Edges a3).From)),w64 (a3 + 1)))) else (some (.inl (a4.set ((idx a0.Edges a3).From).toNat (idx a4 ((idx a0.Edges a3).From)),w64 (a3 + 1))))) else (bif (di .i64 ((idx a0.Edges a3).Kind) a2 != 0) then bif ((idx (idx a4 ((idx a0.Edges a3).From)) ((idx a0.Edges a3).To)).loose == 0) then some (.inl (a4.set ((idx a0.Edges a3).From).toNat ((idx a4 ((idx a0.Edges a3).From)).set ((idx a0.Edges a3).To).toNat (⟨(idx (idx a4 ((idx a0.Edges a3).From)) ((idx a0.Edges a3).To)).tight,w64 (a3 + 1)⟩:aT)),w64 (a3 + 1))) else (some (.inl (a4.set ((idx a0.Edges a3).From).toNat (idx a4 ((idx a0.Edges a3).From)),w64 (a3 + 1)))) else (some (.inl (a4.set ((idx a0.Edges a3).From).toNat (idx a4 ((idx a0.Edges a3).From)),w64 (a3 + 1)))))))) else (out (out (some (⟨a0,a4⟩:dL))))
def wD (a0:bL) (a1:Int) (a2:Int):((List (List aT))×Int)→Option (((List (List aT))×Int) ⊕ dL)
 | (a4,a3)=>bif decide (a3 < (a0.N.toNat:Int)) then must (0≤a0.N∧a0.N≤9223372036854775807∧(16:Int) * a0.N≤281474976710656) (must (0≤a3∧a3 < (a4.length:Int)) (some (.inl (a4.set a3.toNat (List.replicate a0.N.toNat (default:aT)),w64 (a3 + 1))))) else (iter (wC a0 a1 a2) (a4,0))
def gX (a0:bL) (a1:Int) (a2:Int):Option dL :=
 must (0≤a0.N∧a0.N≤9223372036854775807∧(24:Int) * a0.N≤281474976710656) (iter (wD a0 a1 a2) (List.replicate a0.N.toNat (default:List aT),0))
def jg (a3:List (Int×Int)):(List Int×Int)→Option ((List Int×Int) ⊕ (((List (Int×Int))×List Int×Bool×Int) ⊕ (((List (Int×Int))×List Int×Bool) ⊕ (List Int×Bool))))
 | (a1,a2)=>bif decide (a2 ≥ 0) then must (((1 + a1.length) + (1 + a1.length) / 4 + 192) * 8≤281474976710656∧1 + a1.length≤9223372036854775807) (some (.inl (([a2]:List Int)++a1,mat a3 a2))) else (out (out (out (some (a1,false)))))
def mH (a4:Int) (a1:List (Int×Int)) (a3:List Int) (a2:Bool):Option (((List (Int×Int))×List Int×Bool×Int) ⊕ (((List (Int×Int))×List Int×Bool×Int) ⊕ (((List (Int×Int))×List Int×Bool) ⊕ (List Int×Bool)))) :=
 some (.inl (a1,a3,a2,w64 (a4 + 1)))
def jV (a6:List Int) (a4:Int) (a3:List (Int×Int)) (a1:List Int) (a5:Bool) (a2:Int) (a7:Bool):Option (((List (Int×Int))×List Int×Bool×Int) ⊕ (((List (Int×Int))×List Int×Bool×Int) ⊕ (((List (Int×Int))×List Int×Bool) ⊕ (List Int×Bool)))) :=
 bif a7 then must (((a1.length + 1) + (a1.length + 1) / 4 + 192) * 8≤281474976710656∧a1.length + 1≤9223372036854775807) (mH a2 (fu a3 a2 (idx a6 a4)) (a1++([a2]:List Int)) false) else (mH a2 a3 a1 a5)
def ul (a0:dL) (a3:List Int) (a2:Int):((List (Int×Int))×List Int×Bool×Int)→Option (((List (Int×Int))×List Int×Bool×Int) ⊕ (((List (Int×Int))×List Int×Bool×Int) ⊕ (((List (Int×Int))×List Int×Bool) ⊕ (List Int×Bool))))
 | (a4,a5,a6,a1)=>bif decide (a1 < a0.g.N) then bif !(gq a4 a1) then must (0≤idx a3 a2∧idx a3 a2 < (a0.links.length:Int)) (must (0≤a1∧a1 < ((idx a0.links (idx a3 a2)).length:Int)) (jV a3 a2 a4 a5 a6 a1 (decide ((idx (idx a0.links (idx a3 a2)) a1).tight > 0)))) else (jV a3 a2 a4 a5 a6 a1 false) else (out (some (.inl (a4,a5,a6,w64 (a2 + 1)))))
def um (a0:dL) (a2:Int) (a3:List Int):((List (Int×Int))×List Int×Bool×Int)→Option (((List (Int×Int))×List Int×Bool×Int) ⊕ (((List (Int×Int))×List Int×Bool) ⊕ (List Int×Bool)))
 | (a4,a6,a5,a1)=>bif decide (a1 < (a3.length:Int)) then must (0≤a1∧a1 < (a3.length:Int)) (bif (idx a3 a1 == a2) then iter (jg a4) (([]:List Int),mat a4 (idx a3 a1)) else (iter (ul a0 a3 a1) (a4,a6,a5,0))) else (out (some (.inl (a4,a6,a5))))
def uo (a0:dL) (a2:Int):((List (Int×Int))×List Int×Bool)→Option (((List (Int×Int))×List Int×Bool) ⊕ (List Int×Bool))
 | (a3,a1,a4)=>bif decide ((a1.length:Int) > 0) then iter (um a0 a2 a1) (a3,[],true,0) else (out (some (([]:List Int),true)))
def aV (a0:dL) (a1:Int) (a2:Int):Option (List Int×Bool) :=
 iter (uo a0 a2) (fu ([]:List (Int×Int)) a1 (-1),([a1]:List Int),false)
def qA (a0:aT) (a1:Int):Option Int :=
 bif (a1 == 0) then some a0.loose else (some a0.tight)
def iT (a0:dL) (a1:List Int):(List Edge×Int)→Option ((List Edge×Int) ⊕ (List Edge))
 | (a3,a2)=>bif decide (a2 < (a1.length:Int)) then must (0≤a2∧a2 < (a1.length:Int)) (must (0≤idx a1 a2∧idx a1 a2 < (a0.links.length:Int)) (must ((a1.length:Int)≠0) (must (0≤(w64 (a2 + 1)).tmod (a1.length:Int)∧(w64 (a2 + 1)).tmod (a1.length:Int) < (a1.length:Int)) (must (0≤idx a1 ((w64 (a2 + 1)).tmod (a1.length:Int))∧idx a1 ((w64 (a2 + 1)).tmod (a1.length:Int)) < ((idx a0.links (idx a1 a2)).length:Int)) ((qA (idx (idx a0.links (idx a1 a2)) (idx a1 ((w64 (a2 + 1)).tmod (a1.length:Int)))) a2).bind fun a4=>must (0≤w64 (a4 - 1)∧w64 (a4 - 1) < (a0.g.Edges.length:Int)) (must (((a3.length + 1) + (a3.length + 1) / 4 + 192) * 32≤281474976710656∧a3.length + 1≤9223372036854775807) (some (.inl (a3++([(idx a0.g.Edges (w64 (a4 - 1)))]:List Edge),w64 (a2 + 1)))))))))) else (out (some a3))
def dF (a0:dL) (a1:List Int):Option (List Edge) :=
 iter (iT a0 a1) ([],0)
def jZ (a1:Int) (a3:List Int) (a2:Bool):Option ((List Int×Bool×Int) ⊕ ((List Int×Bool×Int) ⊕ (List Edge×Int))) :=
 some (.inl (a3,a2,w64 (a1 + 1)))
def jy (a5:Int) (a3:List Int) (a4:Bool) (a2:Int) (a1:(List Int×Bool)) (a6:Bool):Option ((List Int×Bool×Int) ⊕ ((List Int×Bool×Int) ⊕ (List Edge×Int))) :=
 bif a6 then must (((1 + a1.1.length) + (1 + a1.1.length) / 4 + 192) * 8≤281474976710656∧1 + a1.1.length≤9223372036854775807) (jZ a2 (([a5]:List Int)++a1.1) false) else (jZ a2 a3 a4)
def wE (a0:bL) (a6:dL) (a2:Int):(List Int×Bool×Int)→Option ((List Int×Bool×Int) ⊕ ((List Int×Bool×Int) ⊕ (List Edge×Int)))
 | (a3,a4,a1)=>bif decide (a1 < a0.N) then must (0≤a2∧a2 < (a6.links.length:Int)) (must (0≤a1∧a1 < ((idx a6.links a2).length:Int)) (bif ((idx (idx a6.links a2) a1).loose == 0) then jZ a1 a3 a4 else ((aV a6 a1 a2).bind fun a5=>bif !a5.2 then bif a4 then jy a2 a3 a4 a1 a5 true else (jy a2 a3 a4 a1 a5 (decide (w64 ((a5.1.length:Int) + 1) < (a3.length:Int)))) else (jy a2 a3 a4 a1 a5 false)))) else (out (some (.inl (a3,a4,w64 (a2 + 1)))))
def wF (a0:bL) (a3:dL):(List Int×Bool×Int)→Option ((List Int×Bool×Int) ⊕ (List Edge×Int))
 | (a1,a5,a2)=>bif decide (a2 < a0.N) then iter (wE a0 a3 a2) (a1,a5,0) else ((dF a3 a1).bind fun a4=>out (some (a4,0)))
def bY (a0:bL) (a1:Int) (a2:Int):Option (List Edge×Int) :=
 (dC a0).bind fun y8=>bif (y8 != 0) then some (([]:List Edge),y8) else ((gX a0 a1 a2).bind fun a3=>iter (wF a0 a3) ([],true,0))
def lw {σ:Type} (a2:Int) (a1:σ):Option ((Int×σ) ⊕ σ) :=
 some (.inl (w64 (a2 + 1),a1))
def fH {σ:Type} (Y:σ→ag→Option (Bool×σ)) (a2:dL) (a3:ag) (a1:Int) (a5:σ) (a6:Bool):Option ((Int×σ) ⊕ σ) :=
 bif a6 then lw a1 a5 else ((Y a5 (⟨a1,((idx (idx a2.links a3.node) a1).tight == 0),a3.first_⟩:ag)).bind fun a4=>bif !a4.1 then out (some a4.2) else (lw a1 a4.2))
def oW {σ:Type} (Y:σ→ag→Option (Bool×σ)) (a2:dL) (a3:ag):(Int×σ)→Option ((Int×σ) ⊕ σ)
 | (a1,a4)=>bif decide (a1 < a2.g.N) then must (0≤a3.node∧a3.node < (a2.links.length:Int)) (must (0≤a1∧a1 < ((idx a2.links a3.node).length:Int)) (bif ((idx (idx a2.links a3.node) a1).tight == 0) then bif ((idx (idx a2.links a3.node) a1).loose == 0) then fH Y a2 a3 a1 a4 true else (fH Y a2 a3 a1 a4 a3.last_) else (fH Y a2 a3 a1 a4 false))) else (out (some a4))
def aZ {σ:Type} (Y:σ→ag→Option (Bool×σ)) (a1:Int) (a2:dL) (a3:ag) (s0:σ):Option σ :=
 iter (oW Y a2 a3) (a1,s0)
def kY (a0:dL) (a1:ag) (a2:Int):Option Unit :=
 some ()
def wu (a0:ag) (a1:Int):Option Bool :=
 bif (a0.node == a1) then bif a0.last_ then some (!a0.first_) else (some true) else (some false)
def lQ (a0:List (ag×ag)) (a2:Int):(Int×Bool×Bool×List Int)→Option ((Int×Bool×Bool×List Int) ⊕ (List Int×Bool))
 | (a3,a4,a5,a1)=>bif decide (a3 ≥ 0) then must (((1 + a1.length) + (1 + a1.length) / 4 + 192) * 8≤281474976710656∧1 + a1.length≤9223372036854775807) (some (.inl ((mat a0 (⟨a3,a4,a5⟩:ag)).node,(mat a0 (⟨a3,a4,a5⟩:ag)).last_,(mat a0 (⟨a3,a4,a5⟩:ag)).first_,([a3]:List Int)++a1))) else (must (((1 + a1.length) + (1 + a1.length) / 4 + 192) * 8≤281474976710656∧1 + a1.length≤9223372036854775807) (out (some (([a2]:List Int)++a1,false))))
def jh (a0:List (ag×ag)) (a1:ag) (a2:Int):Option (List Int×Bool) :=
 iter (lQ a0 a2) (a1.node,a1.last_,a1.first_,([]:List Int))
def sD (a2:List (ag×ag)) (a3:List ag) (a1:Bool):Option (Bool×(((List (ag×ag))×List ag×Bool) ⊕ Unit)) :=
 some (true,.inl (a2,a3,a1))
def lC (a1:Int):(((List (ag×ag))×List ag×Bool) ⊕ Unit)→ag→Option (Bool×(((List (ag×ag))×List ag×Bool) ⊕ Unit))
 | .inl (a4,a3,a6),a2=>(wu (⟨a2.node,a2.last_,a2.last_⟩:ag) a1).bind fun a5=>bif a5 then some (false,.inr ()) else (bif !(gq a4 (⟨a2.node,a2.last_,a2.last_⟩:ag)) then must (((a3.length + 1) + (a3.length + 1) / 4 + 192) * 16≤281474976710656∧a3.length + 1≤9223372036854775807) (sD (fu a4 (⟨a2.node,a2.last_,a2.last_⟩:ag) (⟨(-1),false,false⟩:ag)) (a3++([(⟨a2.node,a2.last_,a2.last_⟩:ag)]:List ag)) false) else (sD a4 a3 a6))
 | .inr _,_=>none
def sF (a3:List (ag×ag)) (a2:List ag) (a1:Bool):Option (Bool×(((List (ag×ag))×List ag×Bool) ⊕ (List Int×Bool))) :=
 some (true,.inl (a3,a2,a1))
def lD (a1:Int) (a6:List ag) (a7:Int):(((List (ag×ag))×List ag×Bool) ⊕ (List Int×Bool))→ag→Option (Bool×(((List (ag×ag))×List ag×Bool) ⊕ (List Int×Bool)))
 | .inl (a3,a2,a9),a4=>(wu a4 a1).bind fun a8=>bif a8 then (jh a3 (idx a6 a7) a1).bind fun a5=>some (false,.inr (a5.1,a5.2)) else (bif !(gq a3 a4) then must (((a2.length + 1) + (a2.length + 1) / 4 + 192) * 16≤281474976710656∧a2.length + 1≤9223372036854775807) (sF (fu a3 a4 (idx a6 a7)) (a2++([a4]:List ag)) false) else (sF a3 a2 a9))
 | .inr _,_=>none
def sG (a4:Int):(((List (ag×ag))×List ag×Bool) ⊕ (List Int×Bool))→Option (((List (ag×ag))×List ag×Bool×Int) ⊕ (((List (ag×ag))×List ag×Bool×Int) ⊕ (List Int×Bool)))
 | .inl ((a2,a3,a5))=>some (.inl (a2,a3,a5,w64 (a4 + 1)))
 | .inr ((a6,a1))=>out (out (some (a6,a1)))
def sH (a0:dL) (a1:Int) (a3:List ag) (a8:Int):((List (ag×ag))×List ag×Bool×Int)→Option (((List (ag×ag))×List ag×Bool×Int) ⊕ (((List (ag×ag))×List ag×Bool×Int) ⊕ (List Int×Bool)))
 | (a6,a5,a4,a2)=>bif decide (a2 < (a3.length:Int)) then must (0≤a2∧a2 < (a3.length:Int)) ((kY a0 (idx a3 a2) a1).bind fun a9=>(aZ (lD a1 a3 a2) a1 a0 (idx a3 a2) (.inl (a6,a5,a4))).bind fun a7=>sG a2 a7) else (out (some (.inl (a6,a5,a4,w64 (a8 + 1)))))
def lF (a0:dL) (a1:Int) (a4:List (ag×ag)) (a5:List ag) (a3:Int) (a2:Bool):Option (((List (ag×ag))×List ag×Bool×Int) ⊕ (List Int×Bool)) :=
 bif a2 then iter (sH a0 a1 a5 a3) (a4,[],true,0) else (out (some (([]:List Int),true)))
def sI (a0:dL) (a1:Int) (a2:Int):((List (ag×ag))×List ag×Bool×Int)→Option (((List (ag×ag))×List ag×Bool×Int) ⊕ (List Int×Bool))
 | (a5,a4,a6,a3)=>bif decide (a3 < a2) then lF a0 a1 a5 a4 a3 (decide ((a4.length:Int) > 0)) else (lF a0 a1 a5 a4 a3 false)
def sJ (a0:dL) (a1:Int) (a2:Int):(((List (ag×ag))×List ag×Bool) ⊕ Unit)→Option (List Int×Bool)
 | .inl ((a5,a4,a3))=>iter (sI a0 a1 a2) (a5,a4,a3,2)
 | .inr _=>some (([a1]:List Int),false)
def aL (a0:dL) (a1:Int) (a2:Int):Option (List Int×Bool) :=
 (kY a0 (⟨a1,false,false⟩:ag) a1).bind fun a4=>(aZ (lC a1) a1 a0 (⟨a1,false,false⟩:ag) (.inl ([],[],true))).bind fun a3=>sJ a0 a1 a2 a3
def qB (a0:aT) (a1:Int):Option Int :=
 bif decide (a0.tight > 0) then some a0.tight else (some a0.loose)
def iU (a0:dL) (a1:List Int):(List Edge×Int)→Option ((List Edge×Int) ⊕ (List Edge))
 | (a3,a2)=>bif decide (a2 < (a1.length:Int)) then must (0≤a2∧a2 < (a1.length:Int)) (must (0≤idx a1 a2∧idx a1 a2 < (a0.links.length:Int)) (must ((a1.length:Int)≠0) (must (0≤(w64 (a2 + 1)).tmod (a1.length:Int)∧(w64 (a2 + 1)).tmod (a1.length:Int) < (a1.length:Int)) (must (0≤idx a1 ((w64 (a2 + 1)).tmod (a1.length:Int))∧idx a1 ((w64 (a2 + 1)).tmod (a1.length:Int)) < ((idx a0.links (idx a1 a2)).length:Int)) ((qB (idx (idx a0.links (idx a1 a2)) (idx a1 ((w64 (a2 + 1)).tmod (a1.length:Int)))) a2).bind fun a4=>must (0≤w64 (a4 - 1)∧w64 (a4 - 1) < (a0.g.Edges.length:Int)) (must (((a3.length + 1) + (a3.length + 1) / 4 + 192) * 32≤281474976710656∧a3.length + 1≤9223372036854775807) (some (.inl (a3++([(idx a0.g.Edges (w64 (a4 - 1)))]:List Edge),w64 (a2 + 1)))))))))) else (out (some a3))
def dG (a0:dL) (a1:List Int):Option (List Edge) :=
 iter (iU a0 a1) ([],0)
def oZ (a3:dL) (a1:List Int):Option (List Edge×Int) :=
 (dG a3 a1).bind fun a2=>some (a2,0)
def pg (a2:Int) (a1:List Int):Option ((List Int×Int) ⊕ (List Edge×Int)) :=
 some (.inl (a1,w64 (a2 + 1)))
def pq (a4:dL) (a2:List Int) (a1:Int) (a3:Int):Option ((List Int×Int) ⊕ (List Edge×Int)) :=
 bif decide (a3 < 2) then out (oZ a4 a2) else ((aL a4 a1 a3).bind fun a5=>bif !a5.2 then pg a1 a5.1 else (pg a1 a2))
def wG (a0:bL) (a3:dL):(List Int×Int)→Option ((List Int×Int) ⊕ (List Edge×Int))
 | (a1,a2)=>bif decide (a2 < a0.N) then bif decide ((a1.length:Int) > 0) then pq a3 a1 a2 (a1.length:Int) else (pq a3 a1 a2 (w64 (a0.N + 1))) else (out (oZ a3 a1))
def cO (a0:bL) (a1:Int) (a2:Int):Option (List Edge×Int) :=
 (dC a0).bind fun y8=>bif (y8 != 0) then some (([]:List Edge),y8) else ((gX a0 a1 a2).bind fun a3=>iter (wG a0 a3) ([],0))
def ji (a0:bL) (a1:Int):Option (List Edge×Int) :=
 (cO a0 a1 0).bind fun y7=>some (y7.1,y7.2)
def uO (a0:bL) (a1:Int) (a2:Int):Option (List Edge×Int) :=
 (ji a0 a1).bind fun y7=>some (y7.1,y7.2)
def iE {σ:Type} (Y:σ→eX→Option (Bool×σ)) (s0:σ):Option σ :=
 (Y s0 (⟨3,1,13,0,1,81⟩:eX)).bind fun y2=>bif !y2.1 then some y2.2 else ((Y y2.2 (⟨4,4,5,16,2,54⟩:eX)).bind fun y6=>bif !y6.1 then some y6.2 else ((Y y6.2 (⟨5,6,13,16,3,55⟩:eX)).bind fun a1=>bif !a1.1 then some a1.2 else ((Y a1.2 (⟨6,7,29,0,1,81⟩:eX)).bind fun a3=>bif !a3.1 then some a3.2 else ((Y a3.2 (⟨7,8,31,0,1,81⟩:eX)).bind fun a2=>bif !a2.1 then some a2.2 else (some a2.2)))))
def qa (a1:List Edge) (a3:List (Int×Unit)) (a2:Int):Option (((List (Int×Unit))×Int) ⊕ (((List (Edge×Unit))×Int) ⊕ Bool)) :=
 some (.inl (fu a3 ((idx a1 a2).From) (),w64 (a2 + 1)))
def mY (a1:List Edge) (a2:List (Int×Unit)) (a4:Int) (a3:Bool):Option (((List (Int×Unit))×Int) ⊕ (((List (Edge×Unit))×Int) ⊕ Bool)) :=
 bif a3 then out (out (some false)) else (qa a1 a2 a4)
def sK (a1:List Edge) (a2:List (Int×Unit)) (a4:Int) (a3:Bool):Option (((List (Int×Unit))×Int) ⊕ (((List (Edge×Unit))×Int) ⊕ Bool)) :=
 bif a3 then out (out (some false)) else (qa a1 a2 a4)
def vO (a1:List Edge) (a2:Int) (a3:Int) (a4:Int) (a6:List (Int×Unit)) (a5:Int) (a7:Bool):Option (((List (Int×Unit))×Int) ⊕ (((List (Edge×Unit))×Int) ⊕ Bool)) :=
 bif a7 then out (out (some false)) else (bif (a4 == 1) then bif !(di .i64 ((idx a1 a5).Kind) a2 != 0) then out (out (some false)) else (qa a1 a6 a5) else (bif (a4 == 2) then bif (a5 == 0) then bif !(di .i64 ((idx a1 a5).Kind) a3 != 0) then mY a1 a6 a5 true else (bif decide (a5 > 0) then mY a1 a6 a5 (!(di .i64 ((idx a1 a5).Kind) a2 != 0)) else (mY a1 a6 a5 false)) else (bif decide (a5 > 0) then mY a1 a6 a5 (!(di .i64 ((idx a1 a5).Kind) a2 != 0)) else (mY a1 a6 a5 false)) else (bif (a4 == 3) then bif !(di .i64 ((idx a1 a5).Kind) a2 != 0) then bif !(di .i64 ((idx a1 a5).Kind) a3 != 0) then sK a1 a6 a5 true else (sK a1 a6 a5 (di .i64 ((idx a1 ((w64 (a5 + 1)).tmod (a1.length:Int))).Kind) a2 == 0)) else (sK a1 a6 a5 false) else (out (out (some false))))))
def yN (a1:List Edge) (a2:Int) (a3:Int) (a4:Int) (a7:List (Edge×Unit)):((List (Int×Unit))×Int)→Option (((List (Int×Unit))×Int) ⊕ (((List (Edge×Unit))×Int) ⊕ Bool))
 | (a6,a5)=>bif decide (a5 < (a1.length:Int)) then must (0≤a5∧a5 < (a1.length:Int)) (must ((a1.length:Int)≠0) (must (0≤(w64 (a5 + 1)).tmod (a1.length:Int)∧(w64 (a5 + 1)).tmod (a1.length:Int) < (a1.length:Int)) (bif !(gq a7 (idx a1 a5)) then vO a1 a2 a3 a4 a6 a5 true else (vO a1 a2 a3 a4 a6 a5 ((idx a1 a5).To != (idx a1 ((w64 (a5 + 1)).tmod (a1.length:Int))).From))))) else (out (out (some ((a6.length:Int) == (a1.length:Int)))))
def yO (a0:bL) (a1:List Edge) (a2:Int) (a3:Int) (a4:Int):((List (Edge×Unit))×Int)→Option (((List (Edge×Unit))×Int) ⊕ Bool)
 | (a6,a5)=>bif decide (a5 < (a0.Edges.length:Int)) then must (0≤a5∧a5 < (a0.Edges.length:Int)) (some (.inl (fu a6 (idx a0.Edges a5) (),w64 (a5 + 1)))) else (iter (yN a1 a2 a3 a4 a6) ([],0))
def vQ (a0:bL) (a1:List Edge) (a2:Int) (a3:Int) (a4:Int) (a5:Bool):Option Bool :=
 bif a5 then some false else (iter (yO a0 a1 a2 a3 a4) ([],0))
def cu (a0:bL) (a1:List Edge) (a2:Int) (a3:Int) (a4:Int):Option Bool :=
 (dC a0).bind fun a5=>bif (a5 != 0) then vQ a0 a1 a2 a3 a4 true else (vQ a0 a1 a2 a3 a4 ((a1.length:Int) == 0))
def gV (a0:List Ask) (a1c0:bM):Int→Option (Int ⊕ Int)
 | a1=>bif decide (a1 < (a0.length:Int)) then must (0≤a1∧a1 < (a0.length:Int)) ((vN (idx a0 a1) a1c0).bind fun a2=>bif a2 then out (some a1) else (some (.inl (w64 (a1 + 1))))) else (out (some (-1)))
def cK (a0:List Ask) (a1c0:bM):Option Int :=
 iter (gV a0 a1c0) 0
def eu (a0:List Ask) (a1c0:bM):Option Bool :=
 (cK a0 a1c0).bind fun y3=>some (decide (y3 ≥ 0))
def jl (a0:History) (a1:bM):(Unit ⊕ Bool)→eX→Option (Bool×(Unit ⊕ Bool))
 | .inl _,a2=>bif (a2.kind == a1.Kind) then (dH a0).bind fun a3=>bif (a3.2 == 0) then bif (a1.Level == a2.level) then bif ((a1.Spot.Txn == 0) && ((a1.Spot.Place == 0) && true)) then (cu a3.1 a1.Cycle a2.d a2.r a2.rule).bind fun a4=>some (false,.inr a4) else (some (false,.inr false)) else (some (false,.inr false)) else (some (false,.inr false)) else (some (true,.inl ()))
 | .inr _,_=>none
def Br:(Unit ⊕ Bool)→Option Bool
 | .inl _=>some false
 | .inr a1=>some a1
def fC (a0:History) (a1:bM):Option Bool :=
 (aC a0).bind fun a2=>bif (a2 != 0) then some false else (bif (a1.Kind == 1) then (uj a0).bind fun a7=>bif (a1.Level == 1) then bif ((a1.Cycle.length:Int) == 0) then (jv a7.1 a1.Spot).bind fun a5=>some a5 else (some false) else (some false) else (bif (a1.Kind == 2) then (pY a0).bind fun a4=>bif (a1.Level == 1) then bif ((a1.Cycle.length:Int) == 0) then (eu a4.1 a1).bind fun a6=>some a6 else (some false) else (some false) else ((iE (jl a0 a1) (.inl ())).bind fun a3=>Br a3)))
def IJ (c:Int) (a0:bL) (a1:Int) (a2:Int):Option (List Edge×Int) :=
 bif c == 54 then bY a0 a1 a2 else (bif c == 55 then cO a0 a1 a2 else (bif c == 81 then uO a0 a1 a2 else none))
def uK (a1:List bM):Option (Bool×((List bM) ⊕ Unit)) :=
 some (true,.inl a1)
def ig (a4:bL×Int):((List bM) ⊕ Unit)→eX→Option (Bool×((List bM) ⊕ Unit))
 | .inl a1,a2=>(IJ a2.find a4.1 a2.d a2.r).bind fun a3=>bif decide ((a3.1.length:Int) > 0) then must (((a1.length + 1) + (a1.length + 1) / 4 + 192) * 56≤281474976710656∧a1.length + 1≤9223372036854775807) (uK (a1++([(⟨a2.kind,a2.level,(⟨0,0⟩:Spot),a3.1⟩:bM)]:List bM))) else (uK a1)
 | .inr _,_=>none
def GX:((List bM) ⊕ Unit)→Option (List bM×Int)
 | .inl a1=>some (a1,0)
 | .inr _=>none
def qC (a0:History) (a3:List bM):Option (List bM×Int) :=
 (dH a0).bind fun a1=>bif (a1.2 != 0) then some (([]:List bM),a1.2) else ((iE (ig a1) (.inl a3)).bind fun a2=>GX a2)
def qD (a0:History) (a1:List bM):Option (List bM×Int) :=
 (pY a0).bind fun a2=>bif decide ((a2.1.length:Int) > 0) then must (0≤(0:Int)∧(0:Int) < (a2.1.length:Int)) (must (((a1.length + 1) + (a1.length + 1) / 4 + 192) * 56≤281474976710656∧a1.length + 1≤9223372036854775807) (qC a0 (a1++([(⟨2,1,(⟨(idx a2.1 (0:Int)).Txn,(idx a2.1 (0:Int)).Place⟩:Spot),([]:List Edge)⟩:bM)]:List bM)))) else (qC a0 a1)
def bX (a0:History):Option (List bM×Int) :=
 (uj a0).bind fun y7=>bif (y7.2 != 0) then some (([]:List bM),y7.2) else (bif decide ((y7.1.length:Int) > 0) then must (0≤(0:Int)∧(0:Int) < (y7.1.length:Int)) (must (((0 + 1) + (0 + 1) / 4 + 192) * 56≤281474976710656∧0 + 1≤9223372036854775807) (qD a0 (([]:List bM)++([(⟨1,1,(idx y7.1 (0:Int)),([]:List Edge)⟩:bM)]:List bM)))) else (qD a0 []))
def oF:Option Bool :=
 (bX (⟨([(⟨#[120]⟩:ByteArray)]:List ByteArray),([(⟨0,1,0,1,([(⟨1,0,1,false,([]:List Int)⟩:Op),(⟨5,0,0,true,([2]:List Int)⟩:Op)]:List Op)⟩:Txn)]:List Txn)⟩:History)).bind fun a1=>bif (a1.2 == 0) then bif ((a1.1.length:Int) == 1) then must (0≤(0:Int)∧(0:Int) < (a1.1.length:Int)) (bif ((idx a1.1 (0:Int)).Kind == 1) then bif ((((idx a1.1 (0:Int)).Spot).Txn == 0) && ((((idx a1.1 (0:Int)).Spot).Place == 1) && true)) then (fC (⟨([(⟨#[120]⟩:ByteArray)]:List ByteArray),([(⟨0,1,0,1,([(⟨1,0,1,false,([]:List Int)⟩:Op),(⟨5,0,0,true,([2]:List Int)⟩:Op)]:List Op)⟩:Txn)]:List Txn)⟩:History) (⟨(idx a1.1 (0:Int)).Kind,(idx a1.1 (0:Int)).Level,((idx a1.1 (0:Int)).Spot),(idx a1.1 (0:Int)).Cycle⟩:bM)).bind fun a2=>some a2 else (some false) else (some false)) else (some false) else (some false)
def vE (a0:List ByteArray) (a1:ByteArray):Int→Option (Int ⊕ Int)
 | a2=>bif decide (a2 < (a0.length:Int)) then must (0≤a2∧a2 < (a0.length:Int)) (bif sEq (idx a0 a2) a1 then out (some a2) else (some (.inl (w64 (a2 + 1))))) else (out (some (-1)))
def iF (a0:List ByteArray) (a1:ByteArray):Option Int :=
 iter (vE a0 a1) 0
def lG (a2:Int) (a1:Bool):Option (Int ⊕ Bool) :=
 bif a1 then out (some false) else (some (.inl (w64 (a2 + 1))))
def uP (a0:List ByteArray):Int→Option (Int ⊕ Bool)
 | a1=>bif decide (a1 < (a0.length:Int)) then must (0≤a1∧a1 < (a0.length:Int)) (bif decide (((idx a0 a1).size:Int) < 1) then lG a1 true else (bif decide (((idx a0 a1).size:Int) > 32) then lG a1 true else (must (0≤(0:Int)∧(0:Int)≤a1∧a1≤(a0.length:Int)) ((iF (kI a0 (0:Int) a1) (idx a0 a1)).bind fun a2=>lG a1 (decide (a2 ≥ 0)))))) else (out (some (decide ((a0.length:Int)≤32))))
def fq (a0:List ByteArray):Option Bool :=
 iter (uP a0) 0
def kD (a2:Int) (a1:Bool):Option (Int ⊕ Bool) :=
 bif a1 then out (some false) else (some (.inl (w64 (a2 + 1))))
def nR (a0:List Txn) (a1:Int):Int→Option (Int ⊕ Bool)
 | a2=>bif decide (a2 < a1) then must (0≤a2∧a2 < (a0.length:Int)) (bif ((idx a0 a2).Proc == (idx a0 a1).Proc) then bif ((idx a0 a2).To == (-1)) then kD a2 true else (kD a2 (decide ((idx a0 a2).To ≥ (idx a0 a1).From))) else (kD a2 false)) else (out (some true))
def nS (a0:List Txn) (a1:Int) (a2:Bool):Option Bool :=
 bif a2 then some false else (iter (nR a0 a1) 0)
def eO (a0:List Txn) (a1:Int) (a2:Bool):Option Bool :=
 bif a2 then some false else (bif decide (a1 > 0) then must (0≤w64 (a1 - 1)∧w64 (a1 - 1) < (a0.length:Int)) (nS a0 a1 (decide ((idx a0 a1).From≤(idx a0 (w64 (a1 - 1))).From))) else (nS a0 a1 false))
def aS (a0:List Txn) (a1:Int):Option Bool :=
 must (0≤a1∧a1 < (a0.length:Int)) (bif decide ((idx a0 a1).Status < 1) then eO a0 a1 true else (bif decide ((idx a0 a1).Status > 3) then eO a0 a1 true else (bif decide ((idx a0 a1).From < 0) then eO a0 a1 true else (bif ((idx a0 a1).To != (-1)) then bif decide ((idx a0 a1).To≤(idx a0 a1).From) then eO a0 a1 true else (bif ((idx a0 a1).To == (-1)) then eO a0 a1 ((idx a0 a1).Status != 3) else (eO a0 a1 false)) else (bif ((idx a0 a1).To == (-1)) then eO a0 a1 ((idx a0 a1).Status != 3) else (eO a0 a1 false))))))
def ma (a0:Call):Option Bool :=
 some (decide ((a0.Vals.length:Int)≤64))
def qw (a0:Call):Int→Option (Int ⊕ Bool)
 | a1=>bif decide (a1 < (a0.Vals.length:Int)) then must (0≤a1∧a1 < (a0.Vals.length:Int)) (must (0≤w64 (a1 - 1)∧w64 (a1 - 1) < (a0.Vals.length:Int)) (bif decide (idx a0.Vals a1≤idx a0.Vals (w64 (a1 - 1))) then out (some false) else (some (.inl (w64 (a1 + 1)))))) else (out (ma a0))
def jM (a0:Call) (a1:Bool):Option Bool :=
 bif a1 then some false else (bif (a0.Kind == 5) then some (decide ((a0.Vals.length:Int)≤1)) else (bif (a0.Kind == 8) then bif !a0.Got then some true else (some ((a0.Vals.length:Int) == 1)) else (bif (a0.Kind == 7) then iter (qw a0) 1 else (ma a0))))
def jN (a0:Call) (a1:Int) (a2:Bool):Option Bool :=
 bif a2 then some false else (bif decide (a0.Kind≤4) then bif !a0.Got then bif ((a0.Vals.length:Int) == 0) then bif (a0.Kind != 4) then some true else (bif decide (a0.Arg ≥ (-1048576)) then some (decide (a0.Arg≤1048576)) else (some false)) else (some false) else (some false) else (bif (a0.Arg != 0) then jM a0 true else (bif (a0.Got != (a1 == 1)) then jM a0 true else (bif !a0.Got then jM a0 (decide ((a0.Vals.length:Int) > 0)) else (jM a0 false)))))
def bK (a0:Call) (a1:Int):Option Bool :=
 bif decide (a0.Kind < 1) then jN a0 a1 true else (bif decide (a0.Kind > 8) then jN a0 a1 true else (bif decide ((a0.Key.size:Int) < 1) then jN a0 a1 true else (jN a0 a1 (decide ((a0.Key.size:Int) > 32)))))
def pu (a0:Event):Int→Option (Int ⊕ Bool)
 | a1=>bif decide (a1 < (a0.Calls.length:Int)) then must (0≤a1∧a1 < (a0.Calls.length:Int)) ((bK (idx a0.Calls a1) a0.Kind).bind fun a2=>bif !a2 then out (some false) else (some (.inl (w64 (a1 + 1))))) else (out (some true))
def lH (a0:Event) (b9:Bool):Option Bool :=
 bif b9 then some false else (iter (pu a0) 0)
def ed (a0:Event):Option Bool :=
 bif decide (a0.Kind < 0) then lH a0 true else (bif decide (a0.Kind > 3) then lH a0 true else (lH a0 (decide ((a0.Calls.length:Int) > 16))))
def uQ (a0:List Event):Int→Option (Int ⊕ Int)
 | a1=>bif decide (a1 < (a0.length:Int)) then must (0≤a1∧a1 < (a0.length:Int)) ((ed (idx a0 a1)).bind fun a2=>bif !a2 then out (some 1) else (some (.inl (w64 (a1 + 1))))) else (out (some 0))
def jC (a0:List Event):Option Int :=
 bif decide ((a0.length:Int) > 256) then some 1 else (iter (uQ a0) 0)
def sM (a0:Int):Option Int :=
 some (w64 (((w64 (a0 - 1)).tmod (4:Int)) + 1))
def iV (a3:List ByteArray) (a5:List Int) (a2:List (List Int)) (a4:List Int) (a1:List Int):Option (Int×aM) :=
 some (0,(⟨a3,a5,a2,a4,a1⟩:aM))
def iW (a2:Int) (a6:List ByteArray) (a7:List Int) (a3:List Int) (a4:List Int) (a1:Int) (a5:List (List Int)) (a8:Bool):Option (Int×aM) :=
 bif a8 then must (0≤a1∧a1 < (a4.length:Int)) (must (0≤a1∧a1 < (a3.length:Int)) (bif decide (idx (a3.set a1.toNat (w64 ((idx a3 a1) + 1))) a1 > 8) then some (51,(⟨a6,a7,a5,a3.set a1.toNat (w64 ((idx a3 a1) + 1)),a4.set a1.toNat a2⟩:aM)) else (iV a6 a7 a5 (a3.set a1.toNat (w64 ((idx a3 a1) + 1))) (a4.set a1.toNat a2)))) else (iV a6 a7 a5 a3 a4)
def gQ (a1:Call) (a2:Int) (a6:List ByteArray) (a8:List Int) (a7:List Int) (a4:List Int) (a3:Int) (a5:List (List Int)):Option (Int×aM) :=
 bif (a1.Kind == 4) then must (0≤a3∧a3 < (a4.length:Int)) (iW a2 a6 a8 a7 a4 a3 a5 (idx a4 a3 != a2)) else (iW a2 a6 a8 a7 a4 a3 a5 false)
def kK (a1:Call) (a2:Int) (a6:List ByteArray) (a9:List Int) (a4:List (List Int)) (a8:List Int) (a7:List Int) (a3:Int):Int→Option (Int ⊕ (Int×aM))
 | a5=>must (0≤a3∧a3 < (a4.length:Int)) (bif decide (a5 < ((idx a4 a3).length:Int)) then must (0≤a5∧a5 < ((idx a4 a3).length:Int)) (bif (idx (idx a4 a3) a5 == a1.Arg) then out (some (3,(⟨a6,a9,a4,a8,a7⟩:aM))) else (some (.inl (w64 (a5 + 1))))) else (must (((((idx a4 a3).length) + 1) + (((idx a4 a3).length) + 1) / 4 + 192) * 8≤281474976710656∧((idx a4 a3).length) + 1≤9223372036854775807) (out (gQ a1 a2 a6 a9 a8 a7 a3 (a4.set a3.toNat ((idx a4 a3)++([a1.Arg]:List Int)))))))
def kM (a1:Call) (a2:Int) (a4:List ByteArray) (a8:List Int) (a6:List (List Int)) (a7:List Int) (a5:List Int) (a3:Int) (a9:Bool):Option (Int×aM) :=
 bif a9 then iter (kK a1 a2 a4 a8 a6 a7 a5 a3) 0 else (gQ a1 a2 a4 a8 a7 a5 a3 a6)
def fJ (a1:Call) (a2:Int) (a5:List ByteArray) (a4:List Int) (a7:List (List Int)) (a8:List Int) (a6:List Int) (a3:Int):Option (Int×aM) :=
 must (0≤a3∧a3 < (a4.length:Int)) ((sM a1.Kind).bind fun a9=>bif (idx a4 a3 != a9) then some (50,(⟨a5,a4,a7,a8,a6⟩:aM)) else (bif (a1.Kind == 2) then kM a1 a2 a5 a4 a7 a8 a6 a3 true else (kM a1 a2 a5 a4 a7 a8 a6 a3 (a1.Kind == 3))))
def kN (a0:aM) (a1:Call) (a2:Int) (a3:List Int):Option (Int×aM) :=
 must (((a0.wrote.length + 1) + (a0.wrote.length + 1) / 4 + 192) * 24≤281474976710656∧a0.wrote.length + 1≤9223372036854775807) (must (((a0.incs.length + 1) + (a0.incs.length + 1) / 4 + 192) * 8≤281474976710656∧a0.incs.length + 1≤9223372036854775807) (must (((a0.last_.length + 1) + (a0.last_.length + 1) / 4 + 192) * 8≤281474976710656∧a0.last_.length + 1≤9223372036854775807) (fJ a1 a2 (a0.keys++([a1.Key]:List ByteArray)) a3 (a0.wrote++([([]:List Int)]:List (List Int))) (a0.incs++([0]:List Int)) (a0.last_++([(-1)]:List Int)) (a0.keys.length:Int))))
def kP (a0:aM) (a1:Call) (a2:Int):Option (Int×aM) :=
 (sM a1.Kind).bind fun a3=>must (((a0.types.length + 1) + (a0.types.length + 1) / 4 + 192) * 8≤281474976710656∧a0.types.length + 1≤9223372036854775807) (kN a0 a1 a2 (a0.types++([a3]:List Int)))
def au (a0:aM) (a1:Call) (a2:Int):Option (Int×aM) :=
 (iF a0.keys a1.Key).bind fun y5=>bif decide (y5 < 0) then bif decide ((a0.keys.length:Int) ≥ 32) then some (2,a0) else (must (((a0.keys.length + 1) + (a0.keys.length + 1) / 4 + 192) * 16≤281474976710656∧a0.keys.length + 1≤9223372036854775807) (kP a0 a1 a2)) else (fJ a1 a2 a0.keys a0.types a0.wrote a0.incs a0.last_ y5)
def uR (a0:History) (a2:Int) (a3:List Call) (a1:Int):Option ((List Call×Int) ⊕ ((List ByteArray×List Int×(List (List Int))×List Int×List Int×Int) ⊕ Int)) :=
 some (.inl (a3++([(⟨(idx ((idx a0.Txns a2).Ops) a1).Kind,idx a0.Keys ((idx ((idx a0.Txns a2).Ops) a1).Key),(idx ((idx a0.Txns a2).Ops) a1).Arg,(idx ((idx a0.Txns a2).Ops) a1).Got,(idx ((idx a0.Txns a2).Ops) a1).Vals⟩:Call)]:List Call),w64 (a1 + 1)))
def pz (a0:History) (a3:Int) (a1:List Call) (a2:Int) (a4:Bool):Option ((List Call×Int) ⊕ ((List ByteArray×List Int×(List (List Int))×List Int×List Int×Int) ⊕ Int)) :=
 bif a4 then out (out (some 1)) else (must (0≤(idx ((idx a0.Txns a3).Ops) a2).Key∧(idx ((idx a0.Txns a3).Ops) a2).Key < (a0.Keys.length:Int)) (must (((a1.length + 1) + (a1.length + 1) / 4 + 192) * 64≤281474976710656∧a1.length + 1≤9223372036854775807) (uR a0 a3 a1 a2)))
def iG (a9:Int) (a3:List Call):(List ByteArray×List Int×(List (List Int))×List Int×List Int×Int)→Option ((List ByteArray×List Int×(List (List Int))×List Int×List Int×Int) ⊕ ((List Call×Int) ⊕ ((List ByteArray×List Int×(List (List Int))×List Int×List Int×Int) ⊕ Int)))
 | (a6,a8,a7,a5,a4,a2)=>bif decide (a2 < (a3.length:Int)) then must (0≤a2∧a2 < (a3.length:Int)) ((au (⟨a6,a8,a7,a5,a4⟩:aM) (idx a3 a2) a9).bind fun a1=>bif (a1.1 != 0) then out (out (out (some 1))) else (some (.inl (a1.2.keys,a1.2.types,a1.2.wrote,a1.2.incs,a1.2.last_,w64 (a2 + 1))))) else (out (out (some (.inl (a6,a8,a7,a5,a4,w64 (a9 + 1))))))
def iH (a0:History) (a9:List ByteArray) (a6:List Int) (a8:List (List Int)) (a4:List Int) (a5:List Int) (a1:Int):(List Call×Int)→Option ((List Call×Int) ⊕ ((List ByteArray×List Int×(List (List Int))×List Int×List Int×Int) ⊕ Int))
 | (a3,a2)=>bif decide (a2 < (((idx a0.Txns a1).Ops).length:Int)) then must (0≤a2∧a2 < (((idx a0.Txns a1).Ops).length:Int)) (bif decide ((idx ((idx a0.Txns a1).Ops) a2).Key < 0) then pz a0 a1 a3 a2 true else (pz a0 a1 a3 a2 (decide ((idx ((idx a0.Txns a1).Ops) a2).Key ≥ (a0.Keys.length:Int))))) else ((jC ([(⟨0,(idx a0.Txns a1).Status,a3⟩:Event)]:List Event)).bind fun a7=>bif (a7 != 0) then out (out (some 1)) else (iter (iG a1 a3) (a9,a6,a8,a4,a5,0)))
def lI (a0:History) (a7:List ByteArray) (a4:List Int) (a5:List (List Int)) (a2:List Int) (a3:List Int) (a6:Int) (a1:Bool):Option ((List ByteArray×List Int×(List (List Int))×List Int×List Int×Int) ⊕ Int) :=
 bif a1 then out (some 1) else (iter (iH a0 a7 a4 a5 a2 a3 a6) ([],0))
def lJ (a0:History):(List ByteArray×List Int×(List (List Int))×List Int×List Int×Int)→Option ((List ByteArray×List Int×(List (List Int))×List Int×List Int×Int) ⊕ Int)
 | (a6,a4,a5,a2,a3,a1)=>bif decide (a1 < (a0.Txns.length:Int)) then must (0≤a1∧a1 < (a0.Txns.length:Int)) ((aS a0.Txns a1).bind fun a7=>bif !a7 then lI a0 a6 a4 a5 a2 a3 a1 true else (lI a0 a6 a4 a5 a2 a3 a1 (decide ((((idx a0.Txns a1).Ops).length:Int) > 16)))) else (out (some 0))
def jA (a0:History) (a1:Bool):Option Int :=
 bif a1 then some 1 else (iter (lJ a0) ([],[],[],[],[],0))
def aG (a0:History):Option Int :=
 (fq a0.Keys).bind fun a1=>bif !a1 then jA a0 true else (jA a0 (decide ((a0.Txns.length:Int) > 32)))
def wH (a0:Int):Option Bool :=
 some (decide (a0≤4))
def qb (a0:History) (a1:Ask):Option Int :=
 must (0≤a1.Txn∧a1.Txn < (a0.Txns.length:Int)) (must (0≤a1.Place∧a1.Place < (((idx a0.Txns a1.Txn).Ops).length:Int)) ((sM ((idx ((idx a0.Txns a1.Txn).Ops) a1.Place).Kind)).bind fun a2=>some a2))
def pE (a2:Int) (a1:List Int):Option ((List Int×Int) ⊕ (List Int)) :=
 some (.inl (a1,w64 (a2 + 1)))
def pF (a0:History) (a1:Int) (a2:List Int) (a3:Int) (a4:Bool):Option ((List Int×Int) ⊕ (List Int)) :=
 bif a4 then must (((a2.length + 1) + (a2.length + 1) / 4 + 192) * 8≤281474976710656∧a2.length + 1≤9223372036854775807) (pE a3 (a2++([(idx ((idx a0.Txns a1).Ops) a3).Arg]:List Int))) else (pE a3 a2)
def uS (a0:History) (a1:Int) (a2:Int):(List Int×Int)→Option ((List Int×Int) ⊕ (List Int))
 | (a4,a3)=>must (0≤a1∧a1 < (a0.Txns.length:Int)) (bif decide (a3 < (((idx a0.Txns a1).Ops).length:Int)) then must (0≤a3∧a3 < (((idx a0.Txns a1).Ops).length:Int)) (bif ((idx ((idx a0.Txns a1).Ops) a3).Key == a2) then (wH ((idx ((idx a0.Txns a1).Ops) a3).Kind)).bind fun a5=>pF a0 a1 a4 a3 a5 else (pF a0 a1 a4 a3 false)) else (out (some a4)))
def aU (a0:History) (a1:Int) (a2:Int):Option (List Int) :=
 iter (uS a0 a1 a2) ([],0)
def nT (a2:Int) (a1:List Int):Option ((List Int×Int) ⊕ (List Int)) :=
 some (.inl (a1,w64 (a2 + 1)))
def kE (a1:List Int) (a2:Int) (a3:Bool):Option ((List Int×Int) ⊕ (List Int)) :=
 bif a3 then must (((a1.length + 1) + (a1.length + 1) / 4 + 192) * 8≤281474976710656∧a1.length + 1≤9223372036854775807) (nT a2 (a1++([a2]:List Int))) else (nT a2 a1)
def tN (a0:History) (a1:Ask):(List Int×Int)→Option ((List Int×Int) ⊕ (List Int))
 | (a3,a2)=>bif decide (a2 < (a0.Txns.length:Int)) then bif (a2 != a1.Txn) then must (0≤a2∧a2 < (a0.Txns.length:Int)) (bif ((idx a0.Txns a2).Status != 2) then (aU a0 a2 a1.Key).bind fun a4=>kE a3 a2 (decide ((a4.length:Int) > 0)) else (kE a3 a2 false)) else (kE a3 a2 false) else (out (some a3))
def aW (a0:History) (a1:Ask):Option (List Int) :=
 iter (tN a0 a1) ([],0)
def wI (y7:List Int):(Int×Int)→Option ((Int×Int) ⊕ Int)
 | (a2,a1)=>bif decide (a1 < (y7.length:Int)) then must (0≤a1∧a1 < (y7.length:Int)) (some (.inl (w64 (a2 + (idx y7 a1)),w64 (a1 + 1)))) else (out (some a2))
def kZ (a0:History) (a1:Int) (a2:Int):Option Int :=
 (aU a0 a1 a2).bind fun y7=>iter (wI y7) (0,0)
def nU (a1:Int) (a2:Int):Option ((Int×Int) ⊕ ((List Bool×Int) ⊕ (List Int))) :=
 some (.inl (a2,w64 (a1 + 1)))
def nV (a2:Int) (a1:List Bool):Option ((List Bool×Int) ⊕ ((Int×Int) ⊕ ((List Bool×Int) ⊕ (List Int)))) :=
 some (.inl (a1,w64 (a2 + 1)))
def nW (a3:Int) (a2:List Bool) (a1:Int) (a4:Bool):Option ((List Bool×Int) ⊕ ((Int×Int) ⊕ ((List Bool×Int) ⊕ (List Int)))) :=
 bif a4 then must (0≤a1∧a1 < (a2.length:Int)) (bif idx a2 a1 then nV a1 (a2.set a1.toNat true) else (must (0≤a1∧a1 < (far:Int)) (nV a1 (a2.set a1.toNat (di .i64 (fD .i64 a3 a1) 1 == 1))))) else (out (out (some (.inl (a2,w64 (a3 + 1))))))
def tO (a1:Ask) (y9:List Int) (a3:Int) (a5:Int):(List Bool×Int)→Option ((List Bool×Int) ⊕ ((Int×Int) ⊕ ((List Bool×Int) ⊕ (List Int))))
 | (a4,a2)=>bif decide (a2 < (y9.length:Int)) then must (0≤(0:Int)∧(0:Int) < (a1.Base.length:Int)) (nW a3 a4 a2 (a5 == idx a1.Base (0:Int))) else (nW a3 a4 a2 false)
def tQ (a0:History) (a1:Ask) (y9:List Int) (a5:List Bool) (a4:Int):(Int×Int)→Option ((Int×Int) ⊕ ((List Bool×Int) ⊕ (List Int)))
 | (a3,a2)=>bif decide (a2 < (y9.length:Int)) then must (0≤a2∧a2 < (far:Int)) (bif (di .i64 (fD .i64 a4 a2) 1 == 1) then must (0≤a2∧a2 < (y9.length:Int)) ((kZ a0 (idx y9 a2) a1.Key).bind fun a6=>nU a2 (w64 (a3 + a6))) else (nU a2 a3)) else (iter (tO a1 y9 a4 a3) (a5,0))
def nX (a2:Int) (a1:List Int):Option ((List Int×Int) ⊕ ((List Bool×Int) ⊕ (List Int))) :=
 some (.inl (a1,w64 (a2 + 1)))
def tT (y9:List Int) (a3:List Bool):(List Int×Int)→Option ((List Int×Int) ⊕ ((List Bool×Int) ⊕ (List Int)))
 | (a2,a1)=>bif decide (a1 < (y9.length:Int)) then must (0≤a1∧a1 < (a3.length:Int)) (bif idx a3 a1 then must (0≤a1∧a1 < (y9.length:Int)) (must (((a2.length + 1) + (a2.length + 1) / 4 + 192) * 8≤281474976710656∧a2.length + 1≤9223372036854775807) (nX a1 (a2++([idx y9 a1]:List Int)))) else (nX a1 a2)) else (out (out (some a2)))
def tV (a0:History) (a1:Ask) (y9:List Int):(List Bool×Int)→Option ((List Bool×Int) ⊕ (List Int))
 | (a3,a2)=>must (0≤(y9.length:Int)∧(y9.length:Int) < (far:Int)) (bif decide (a2 < EL .i64 1 (y9.length:Int)) then iter (tQ a0 a1 y9 a3 a2) (0,0) else (iter (tT y9 a3) ([],0)))
def aP (a0:History) (a1:Ask):Option (List Int) :=
 (aW a0 a1).bind fun y9=>must (0≤(y9.length:Int)∧(y9.length:Int)≤9223372036854775807∧(1:Int) * (y9.length:Int)≤281474976710656) (iter (tV a0 a1 y9) (List.replicate (y9.length:Int).toNat (default:Bool),1))
def mI (a0:List Int) (a1:List Int):Int→Option (Int ⊕ Bool)
 | a2=>bif decide (a2 < (a0.length:Int)) then must (0≤a2∧a2 < (a0.length:Int)) (must (0≤a2∧a2 < (a1.length:Int)) (bif (idx a0 a2 != idx a1 a2) then out (some false) else (some (.inl (w64 (a2 + 1)))))) else (out (some true))
def eD (a0:List Int) (a1:List Int):Option Bool :=
 bif ((a0.length:Int) != (a1.length:Int)) then some false else (iter (mI a0 a1) 0)
def qZ (a0:List Int) (a1:List Int):Option Bool :=
 bif decide ((a1.length:Int) > (a0.length:Int)) then some false else (must (0≤(0:Int)∧(0:Int)≤(a1.length:Int)∧(a1.length:Int)≤(a0.length:Int)) ((eD (kI a0 (0:Int) (a1.length:Int)) a1).bind fun a2=>some a2))
def qx (a2:Int) (a1:Int):Option ((Int×Int) ⊕ ((List Int×List Int) ⊕ (List Int×Bool))) :=
 some (.inl (a1,w64 (a2 + 1)))
def vF (a0:History) (a1:Ask) (a2:List Int) (a4:List Int) (a5:Int):Int→Option (Int ⊕ ((Int×Int) ⊕ ((List Int×List Int) ⊕ (List Int×Bool))))
 | a3=>bif decide (a3 < (a2.length:Int)) then must (0≤a3∧a3 < (a2.length:Int)) (bif (idx a2 a3 == a5) then out (out (out (some (([]:List Int),false)))) else (some (.inl (w64 (a3 + 1))))) else (must (((a2.length + 1) + (a2.length + 1) / 4 + 192) * 8≤281474976710656∧a2.length + 1≤9223372036854775807) ((aU a0 a5 a1.Key).bind fun a6=>must (0≤(a6.length:Int)∧(a6.length:Int)≤(a4.length:Int)∧(a4.length:Int)≤(a4.length:Int)) (out (out (some (.inl (a2++([a5]:List Int),kI a4 (a6.length:Int) (a4.length:Int))))))))
def vG (a0:History) (a1:Ask) (y9:List Int) (a5:List Int) (a4:List Int):(Int×Int)→Option ((Int×Int) ⊕ ((List Int×List Int) ⊕ (List Int×Bool)))
 | (a3,a2)=>bif decide (a2 < (y9.length:Int)) then must (0≤a2∧a2 < (y9.length:Int)) ((aU a0 (idx y9 a2) a1.Key).bind fun a7=>(qZ a4 a7).bind fun a6=>bif a6 then qx a2 (idx y9 a2) else (qx a2 a3)) else (bif decide (a3 < 0) then out (out (some (([]:List Int),false))) else (iter (vF a0 a1 a5 a4 a3) 0))
def mf (a0:History) (a1:Ask) (y9:List Int):(List Int×List Int)→Option ((List Int×List Int) ⊕ (List Int×Bool))
 | (a2,a3)=>bif decide ((a3.length:Int) > 0) then iter (vG a0 a1 y9 a2 a3) ((-1),0) else (out (some (a2,true)))
def dh (a0:History) (a1:Ask):Option (List Int×Bool) :=
 (aW a0 a1).bind fun y9=>iter (mf a0 a1 y9) ([],a1.Base)
def uT (a0:List Int) (a1:Int):Int→Option (Int ⊕ Bool)
 | a2=>bif decide (a2 < (a0.length:Int)) then must (0≤a2∧a2 < (a0.length:Int)) (bif (idx a0 a2 == a1) then out (some true) else (some (.inl (w64 (a2 + 1))))) else (out (some false))
def jD (a0:List Int) (a1:Int):Option Bool :=
 iter (uT a0 a1) 0
def rf (a2:Int) (a1:List Int) (a3:Int):Option ((List Int×Int×Int) ⊕ (List Int×Bool)) :=
 some (.inl (a1,a3,w64 (a2 + 1)))
def rq (a2:Int) (a1:Int):Option ((Int×Int) ⊕ ((List Int×Int×Int) ⊕ (List Int×Bool))) :=
 some (.inl (a1,w64 (a2 + 1)))
def ru (y9:List Int) (a1:List Int) (a3:Int) (a2:Int) (a4:Int) (a5:Bool):Option ((Int×Int) ⊕ ((List Int×Int×Int) ⊕ (List Int×Bool))) :=
 bif a5 then out (out (some (([]:List Int),false))) else (bif decide (a4 > 0) then must (((a1.length + 1) + (a1.length + 1) / 4 + 192) * 8≤281474976710656∧a1.length + 1≤9223372036854775807) (out (rf a2 (a1++([idx y9 a2]:List Int)) (w64 (a3 + a4)))) else (out (rf a2 a1 a3)))
def wJ (a1:Ask) (y9:List Int) (a5:List Int) (a7:Int) (a6:Int) (a4:List Int):(Int×Int)→Option ((Int×Int) ⊕ ((List Int×Int×Int) ⊕ (List Int×Bool)))
 | (a3,a2)=>bif decide (a2 < (a4.length:Int)) then must (0≤a2∧a2 < (a4.length:Int)) ((jD a1.Base (idx a4 a2)).bind fun a8=>bif a8 then rq a2 (w64 (a3 + 1)) else (rq a2 a3)) else (bif decide (a3 > 0) then ru y9 a5 a7 a6 a3 (decide (a3 < (a4.length:Int))) else (ru y9 a5 a7 a6 a3 false))
def wK (a0:History) (a1:Ask) (y9:List Int):(List Int×Int×Int)→Option ((List Int×Int×Int) ⊕ (List Int×Bool))
 | (a3,a4,a2)=>bif decide (a2 < (y9.length:Int)) then must (0≤a2∧a2 < (y9.length:Int)) ((aU a0 (idx y9 a2) a1.Key).bind fun a5=>iter (wJ a1 y9 a3 a4 a2 a5) (0,0)) else (bif (a4 != (a1.Base.length:Int)) then out (some (([]:List Int),false)) else (out (some (a3,true))))
def cB (a0:History) (a1:Ask):Option (List Int×Bool) :=
 (aW a0 a1).bind fun y9=>iter (wK a0 a1 y9) ([],0,0)
def sN (a1:List Int):Option (List Int) :=
 some a1
def jE (a1:List Int):Option (List Int) :=
 some a1
def sO (a1:Int) (a2:List Int):Option ((List Int×Int) ⊕ (List Int)) :=
 some (.inl (a2,w64 (a1 + 1)))
def sP (a0:History) (a1:Ask) (a5:List Int):(List Int×Int)→Option ((List Int×Int) ⊕ (List Int))
 | (a3,a2)=>bif decide (a2 < (a5.length:Int)) then must (0≤a2∧a2 < (a5.length:Int)) ((aU a0 (idx a5 a2) a1.Key).bind fun a4=>must (0≤w64 ((a4.length:Int) - 1)∧w64 ((a4.length:Int) - 1) < (a4.length:Int)) (must (0≤(0:Int)∧(0:Int) < (a1.Base.length:Int)) (bif (idx a4 (w64 ((a4.length:Int) - 1)) == idx a1.Base (0:Int)) then must (((a3.length + 1) + (a3.length + 1) / 4 + 192) * 8≤281474976710656∧a3.length + 1≤9223372036854775807) (sO a2 (a3++([idx a5 a2]:List Int))) else (sO a2 a3)))) else (out (jE a3))
def dw (a0:History) (a1:Ask):Option (List Int) :=
 (qb a0 a1).bind fun y7=>bif (y7 == 4) then (aP a0 a1).bind fun a3=>must (0≤(0:Int)∧(0:Int) < (a1.Base.length:Int)) (bif (idx a1.Base (0:Int) == 0) then must (((1 + a3.length) + (1 + a3.length) / 4 + 192) * 8≤281474976710656∧1 + a3.length≤9223372036854775807) (sN (([(-1)]:List Int)++a3)) else (sN a3)) else (bif ((a1.Base.length:Int) == 0) then some ([(-1)]:List Int) else (bif (y7 == 1) then (aW a0 a1).bind fun a5=>iter (sP a0 a1 a5) ([],0) else (bif (y7 == 2) then (dh a0 a1).bind fun a2=>bif a2.2 then must (0≤w64 ((a2.1.length:Int) - 1)∧w64 ((a2.1.length:Int) - 1) < (a2.1.length:Int)) (must (((0 + 1) + (0 + 1) / 4 + 192) * 8≤281474976710656∧0 + 1≤9223372036854775807) (jE (([]:List Int)++([idx a2.1 (w64 ((a2.1.length:Int) - 1))]:List Int)))) else (jE []) else ((cB a0 a1).bind fun a4=>bif a4.2 then jE a4.1 else (jE [])))))
def uq (a0:History) (a1:Ask):Option (List Int×Bool) :=
 (qb a0 a1).bind fun a2=>bif (a2 == 2) then (dh a0 a1).bind fun a4=>some (a4.1,a4.2) else (bif (a2 == 3) then (cB a0 a1).bind fun a3=>some (a3.1,a3.2) else (some (([]:List Int),false)))
def mJ (a0:bL) (a1:Int):Option (List Edge×Int) :=
 bif (a1 == 3) then (ji a0 13).bind fun a5=>some (a5.1,a5.2) else (bif (a1 == 4) then (bY a0 5 16).bind fun a3=>some (a3.1,a3.2) else (bif (a1 == 5) then (cO a0 13 16).bind fun a4=>some (a4.1,a4.2) else (bif (a1 == 6) then (ji a0 29).bind fun a2=>some (a2.1,a2.2) else ((ji a0 31).bind fun a6=>some (a6.1,a6.2)))))
def iX (a2:List bM×Int) (a3:Int) (a5:Int) (a4:List Bool) (a1:Int) (a6:Bool):Option ((List Bool×Int) ⊕ (Int ⊕ (Int ⊕ Bool))) :=
 bif a6 then out (out (out (some false))) else (must (0≤a1∧a1 < (((idx a2.1 a3).Cycle).length:Int)) (must (0≤(idx ((idx a2.1 a3).Cycle) a1).From∧(idx ((idx a2.1 a3).Cycle) a1).From < (a4.length:Int)) (some (.inl (a4.set ((idx ((idx a2.1 a3).Cycle) a1).From).toNat (a1 != a5),w64 (a1 + 1))))))
def gT (a2:Int) (a1:List Edge):Option ((List Edge×Int) ⊕ ((List Bool×Int) ⊕ (Int ⊕ (Int ⊕ Bool)))) :=
 some (.inl (a1,w64 (a2 + 1)))
def fK (a3:bL×Int) (a1:List Edge) (a2:Int) (a4:Bool):Option ((List Edge×Int) ⊕ ((List Bool×Int) ⊕ (Int ⊕ (Int ⊕ Bool)))) :=
 bif a4 then must (0≤a2∧a2 < (a3.1.Edges.length:Int)) (must (((a1.length + 1) + (a1.length + 1) / 4 + 192) * 32≤281474976710656∧a1.length + 1≤9223372036854775807) (gT a2 (a1++([(idx a3.1.Edges a2)]:List Edge)))) else (gT a2 a1)
def iN (a2:Int) (a1:Bool):Option ((List Edge×Int) ⊕ ((List Bool×Int) ⊕ (Int ⊕ (Int ⊕ Bool)))) :=
 bif a1 then out (out (out (out (some false)))) else (out (out (some (.inl (w64 (a2 + 1))))))
def kQ (a7:List bM×Int) (a2:bL×Int) (a8:Int) (a6:Int) (a3:List Bool):(List Edge×Int)→Option ((List Edge×Int) ⊕ ((List Bool×Int) ⊕ (Int ⊕ (Int ⊕ Bool))))
 | (a4,a1)=>bif decide (a1 < (a2.1.Edges.length:Int)) then must (0≤a1∧a1 < (a2.1.Edges.length:Int)) (must (0≤(idx a2.1.Edges a1).From∧(idx a2.1.Edges a1).From < (a3.length:Int)) (bif idx a3 ((idx a2.1.Edges a1).From) then must (0≤(idx a2.1.Edges a1).To∧(idx a2.1.Edges a1).To < (a3.length:Int)) (fK a2 a4 a1 (idx a3 ((idx a2.1.Edges a1).To))) else (fK a2 a4 a1 false))) else ((mJ (⟨a2.1.N,a4⟩:bL) ((idx a7.1 a8).Kind)).bind fun a5=>bif (a5.2 != 0) then iN a6 true else (iN a6 ((a5.1.length:Int) != 0)))
def kR (a1:List bM×Int) (a6:bL×Int) (a2:Int) (a5:Int):(List Bool×Int)→Option ((List Bool×Int) ⊕ (Int ⊕ (Int ⊕ Bool)))
 | (a4,a3)=>bif decide (a3 < (((idx a1.1 a2).Cycle).length:Int)) then must (0≤a3∧a3 < (((idx a1.1 a2).Cycle).length:Int)) (bif decide ((idx ((idx a1.1 a2).Cycle) a3).From < 0) then iX a1 a2 a5 a4 a3 true else (iX a1 a2 a5 a4 a3 (decide ((idx ((idx a1.1 a2).Cycle) a3).From ≥ a6.1.N)))) else (iter (kQ a1 a6 a2 a5 a4) ([],0))
def gU (a3:List bM×Int) (a1:bL×Int) (a2:Int):Int→Option (Int ⊕ (Int ⊕ Bool))
 | a4=>bif decide (a4 < (((idx a3.1 a2).Cycle).length:Int)) then must (0≤a1.1.N∧a1.1.N≤9223372036854775807∧(1:Int) * a1.1.N≤281474976710656) (iter (kR a3 a1 a2 a4) (List.replicate a1.1.N.toNat (default:Bool),0)) else (out (some (.inl (w64 (a2 + 1)))))
def fM (a2:List bM×Int) (a4:bL×Int) (a1:Int) (a3:Bool):Option (Int ⊕ Bool) :=
 bif a3 then out (some false) else (must (0≤a1∧a1 < (a2.1.length:Int)) (iter (gU a2 a4 a1) 0))
def kS (a0:History) (a2:List bM×Int) (a3:bL×Int):Int→Option (Int ⊕ Bool)
 | a1=>bif decide (a1 < (a2.1.length:Int)) then must (0≤a1∧a1 < (a2.1.length:Int)) ((fC a0 (⟨(idx a2.1 a1).Kind,(idx a2.1 a1).Level,((idx a2.1 a1).Spot),(idx a2.1 a1).Cycle⟩:bM)).bind fun a4=>bif !a4 then fM a2 a3 a1 true else (bif decide (a1 > 0) then must (0≤w64 (a1 - 1)∧w64 (a1 - 1) < (a2.1.length:Int)) (fM a2 a3 a1 (decide ((idx a2.1 a1).Kind≤(idx a2.1 (w64 (a1 - 1))).Kind))) else (fM a2 a3 a1 false))) else (out (some true))
def iY (a0:History) (a1:List bM×Int) (a2:bL×Int) (a3:Bool):Option Bool :=
 bif a3 then bif (a1.2 == a2.2) then some ((a1.1.length:Int) == 0) else (some false) else (iter (kS a0 a1 a2) 0)
def aj (a0:History):Option Bool :=
 (oF).bind fun y8=>bif !y8 then some false else ((bX a0).bind fun a2=>(dH a0).bind fun a1=>bif (a2.2 != 0) then iY a0 a2 a1 true else (iY a0 a2 a1 (a1.2 != 0)))
end
end Go.Proofs.YtfpeabnehpclnaaGreatT
