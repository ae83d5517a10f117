import Derived.Test.YtfpeabnehpclnaaGreatXA
namespace Go.Proofs.YtfpeabnehpclnaaGreatT
noncomputable section
open Go Go.Proofs Go.Proofs.YtfpeabnehpclnaaGreatE
set_option linter.unusedVariables false
set_option linter.unusedSimpArgs false
set_option maxHeartbeats 0
set_option maxRecDepth 4096
structure dZ where
 key:ByteArray
 arg:Int
 deriving Inhabited,DecidableEq
def dZ.enc (x:dZ):List Value:=[.string x.key,.int .i64 x.arg]
abbrev Ma:Ty dZ:=Ty.flat 2 dZ.enc (fun _=>rfl) (fun _=>zq rfl)
instance : Flat Ma dZ.enc:=⟨Iff.rfl,Iff.rfl⟩
structure bM where
 keys:List ByteArray
 at_:List (ByteArray×Int)
 types:List Int
 facts:List (dZ×Unit)
 incs:List (ByteArray×(List Int))
 deriving Inhabited
structure Call where
 Kind:Int
 Key:ByteArray
 Arg:Int
 Got:Bool
 Vals:List Int
 deriving Inhabited
abbrev Cq:Ty Call:=Ty.iso (dn (aN .i64) (dn jF (dn (aN .i64) (dn tH (bJ 2 (aN .i64)))))) (fun g:Call=>(g.Kind,g.Key,g.Arg,g.Got,g.Vals))
abbrev yL (N:BM):Ty Call:=Ty.iso (dn (aN .i64) (dn jF (dn (aN .i64) (dn tH (Ow N (aN .i64)))))) (fun g:Call=>(g.Kind,g.Key,g.Arg,g.Got,g.Vals))
theorem OC (N:BM):xK N (yL N) Cq:=Es (kC nH (kC nH (kC nH (kC nH GV))))
structure Event where
 Proc:Int
 Kind:Int
 Calls:List Call
 deriving Inhabited
abbrev Mc:Ty Event:=Ty.iso (dn (aN .i64) (dn (aN .i64) (bJ 129 Cq))) (fun g:Event=>(g.Proc,g.Kind,g.Calls))
structure Op where
 Kind:Int
 Key:Int
 Arg:Int
 Got:Bool
 Vals:List Int
 deriving Inhabited
abbrev kOp:Ty Op:=Ty.iso (dn (aN .i64) (dn (aN .i64) (dn (aN .i64) (dn tH (bJ 2 (aN .i64)))))) (fun g:Op=>(g.Kind,g.Key,g.Arg,g.Got,g.Vals))
structure Txn where
 Proc:Int
 Status:Int
 From:Int
 To:Int
 Ops:List Op
 deriving Inhabited
abbrev mI:Ty Txn:=Ty.iso (dn (aN .i64) (dn (aN .i64) (dn (aN .i64) (dn (aN .i64) (bJ 70 kOp))))) (fun g:Txn=>(g.Proc,g.Status,g.From,g.To,g.Ops))
structure History where
 Keys:List ByteArray
 Txns:List Txn
 deriving Inhabited
structure Ask where
 Txn:Int
 Place:Int
 Key:Int
 Base:List Int
 deriving Inhabited
abbrev uP:Ty Ask:=Ty.iso (dn (aN .i64) (dn (aN .i64) (dn (aN .i64) (bJ 2 (aN .i64))))) (fun g:Ask=>(g.Txn,g.Place,g.Key,g.Base))
structure Spot where
 Txn:Int
 Place:Int
 deriving Inhabited,DecidableEq
def Spot.enc (x:Spot):List Value:=[.int .i64 x.Txn,.int .i64 x.Place]
abbrev Ez:Ty Spot:=Ty.flat 2 Spot.enc (fun _=>rfl) (fun _=>zq rfl)
instance : Flat Ez Spot.enc:=⟨Iff.rfl,Iff.rfl⟩
structure fO where
 asks:List Ask
 bad:List Spot
 deriving Inhabited
structure aS where
 txn:Int
 args:List Int
 deriving Inhabited
abbrev iC:Ty aS:=Ty.iso (dn (aN .i64) (bJ 2 (aN .i64))) (fun g:aS=>(g.txn,g.args))
structure aO where
 Ask:Ask
 sources:List Int
 parts:List Int
 made:Bool
 kind:Int
 deriving Inhabited
abbrev jh:Ty aO:=Ty.iso (dn uP (dn (bJ 3 (aN .i64)) (dn (bJ 3 (aN .i64)) (dn tH (aN .i64))))) (fun g:aO=>(g.Ask,g.sources,g.parts,g.made,g.kind))
structure Edge where
 From:Int
 To:Int
 Kind:Int
 Key:Int
 deriving Inhabited,DecidableEq
def Edge.enc (x:Edge):List Value:=[.int .i64 x.From,.int .i64 x.To,.int .i64 x.Kind,.int .i64 x.Key]
abbrev gY:Ty Edge:=Ty.flat 4 Edge.enc (fun _=>rfl) (fun _=>zq rfl)
instance : Flat gY Edge.enc:=⟨Iff.rfl,Iff.rfl⟩
structure aI where
 h:History
 asks:List aO
 edges:List Edge
 deriving Inhabited
structure di where
 N:Int
 Edges:List Edge
 deriving Inhabited
structure bQ where
 Kind:Int
 Level:Int
 Spot:Spot
 Cycle:List Edge
 deriving Inhabited
abbrev xO:Ty bQ:=Ty.iso (dn (aN .i64) (dn (aN .i64) (dn Ez (bJ 43 gY)))) (fun g:bQ=>(g.Kind,g.Level,g.Spot,g.Cycle))
structure aY where
 tight:Int
 loose:Int
 deriving Inhabited,DecidableEq
def aY.enc (x:aY):List Value:=[.int .i64 x.tight,.int .i64 x.loose]
abbrev fZ:Ty aY:=Ty.flat 2 aY.enc (fun _=>rfl) (fun _=>zq rfl)
instance : Flat fZ aY.enc:=⟨Iff.rfl,Iff.rfl⟩
structure dS where
 g:di
 links:List (List aY)
 deriving Inhabited
structure aj where
 node:Int
 last_:Bool
 first_:Bool
 deriving Inhabited,DecidableEq
def aj.enc (x:aj):List Value:=[.int .i64 x.node,.bool x.last_,.bool x.first_]
abbrev wz:Ty aj:=Ty.flat 3 aj.enc (fun _=>rfl) (fun _=>zq rfl)
instance : Flat wz aj.enc:=⟨Iff.rfl,Iff.rfl⟩
structure fC where
 kind:Int
 level:Int
 d:Int
 r:Int
 rule:Int
 find:Int
 deriving Inhabited
def fC.enc (x:fC):List Value:=[.int .i64 x.kind,.int .i64 x.level,.int .i64 x.d,.int .i64 x.r,.int .i64 x.rule,fnV x.find]
abbrev Md:Ty fC:=Ty.flat 6 fC.enc (fun _=>rfl) (fun _=>zq rfl)
instance : Flat Md fC.enc:=⟨Iff.rfl,Iff.rfl⟩
structure aQ where
 keys:List ByteArray
 types:List Int
 wrote:List (List Int)
 incs:List Int
 last_:List Int
 deriving Inhabited
structure pV where
 n:Int
 d:List (List Bool)
 r:List (List Bool)
 deriving Inhabited
abbrev kW (N:BM):Ty aO:=(Ty.iso (dn (Ty.iso (dn (aN .i64) (dn (aN .i64) (dn (aN .i64) (Ow N (aN .i64))))) (fun g:Ask=>(g.Txn,g.Place,g.Key,g.Base))) (dn (Lt (aN .i64)) (dn (Lt (aN .i64)) (dn tH (aN .i64))))) (fun g:aO=>(g.Ask,g.sources,g.parts,g.made,g.kind)))
theorem Bu (N:BM):xK N (kW N) jh:=(Es (kC (Es (kC nH (kC nH (kC nH GV)))) (kC GK (kC GK (kC nH nH)))))
abbrev Rw2 (A:Option Addr) (c:Nat) (l:List Int):bX := .row (aN .i64) 2 A l.length c l
abbrev Rn2 (A:Option Addr) (n c:Nat) (l:List Int):bX := .row (aN .i64) 2 A n c l
abbrev Rw3 (A:Option Addr) (c:Nat) (l:List Int):bX := .row (aN .i64) 3 A l.length c l
abbrev Rw9 (A:Option Addr) (c:Nat) (l:List ByteArray):bX := .row jF 9 A l.length c l
abbrev Rn9 (A:Option Addr) (n c:Nat) (l:List ByteArray):bX := .row jF 9 A n c l
abbrev FI (A:Option Addr) (c:Nat) (l:List Spot):bX := .row Ez 27 A l.length c l
abbrev FJ (A:Option Addr) (c:Nat) (l:List bQ):bX := .row xO 30 A l.length c l
abbrev jE (A:Option Addr) (c:Nat) (l:List Edge):bX := .row gY 43 A l.length c l
abbrev UW (A:Option Addr) (c:Nat) (l:List Txn):bX := .row mI 65 A l.length c l
abbrev UX (A:Option Addr) (n c:Nat) (l:List Op):bX := .row kOp 70 A n c l
abbrev Ja (A:Option Addr) (c:Nat) (l:List Ask):bX := .row uP 81 A l.length c l
abbrev Nf (A:Option Addr) (c:Nat) (l:List aY):bX := .row fZ 169 A l.length c l
abbrev Ib (A:Option Addr) (n c:Nat) (l:List aY):bX := .row fZ 169 A n c l
abbrev ym (A:Option Addr) (c:Nat) (l:List (List aY)):bX := .row (bJ 169 fZ) 170 A l.length c l
abbrev eQ (A:Option Addr) (c:Nat) (l:List (Int×Int)):bX := .row (Ty.flat 2 (fun x:Int×Int=>[.int .i64 x.1,.int .i64 x.2]) (fun _=>rfl) (fun _=>zq rfl)) 181 A l.length c l
abbrev Ka (A:Option Addr) (c:Nat) (l:List aS):bX := .row iC 209 A l.length c l
abbrev mg (A:Option Addr) (c:Nat) (l:List aj):bX := .row wz 225 A l.length c l
abbrev Or3 (A:Option Addr) (c:Nat) (l:List Int):bX:=orA noM (aN .i64) 3 A l.length c l
abbrev TW (A:Option Addr) (c:Nat) (l:List Edge):bX:=orA noM gY 43 A l.length c l
abbrev Ic (b:Nat) (m:List (Edge×Unit)):bX:=Dv (fun x:Edge => .agg #[.int .i64 x.From,.int .i64 x.To,.int .i64 x.Kind,.int .i64 x.Key]) (fun _:Unit => .agg #[]) b m
abbrev Kb (b:Nat) (m:List (Int×Unit)):bX:=Dv (fun x:Int => .int .i64 x) (fun _:Unit => .agg #[]) b m
abbrev PL (b:Nat) (m:List (Int×Int)):bX:=Dv (fun x:Int => .int .i64 x) (fun x:Int => .int .i64 x) b m
abbrev BG (b:Nat) (m:List (Int×Int)):bX:=Dv (fun x:Int => .int .i64 x) (fun x:Int => .int .i64 x) b m
abbrev Cr (b:Nat) (m:List (ByteArray×Int)):bX:=Dv (fun x:ByteArray => .string x) (fun x:Int => .int .i64 x) b m
abbrev Cs (b:Nat) (m:List (dZ×Unit)):bX:=Dv (fun x:dZ => .agg #[.string x.key,.int .i64 x.arg]) (fun _:Unit => .agg #[]) b m
abbrev Ie (b:Nat) (m:List (ByteArray×(List Int))):bX:=xy (fun x:ByteArray => .string x) (bJ 3 (aN .i64)) b m
abbrev oQ (b:Nat) (m:List (aj×aj)):bX:=Dv (fun x:aj => .agg #[.int .i64 x.node,.bool x.last_,.bool x.first_]) (fun x:aj => .agg #[.int .i64 x.node,.bool x.last_,.bool x.first_]) b m
abbrev Ig (b:Nat) (m:List (Int×(List Int))):bX:=xy (fun x:Int => .int .i64 x) (bJ 2 (aN .i64)) b m
abbrev FK (b:Nat) (m:List (Int×Unit)):bX:=Dv (fun x:Int => .int .i64 x) (fun _:Unit => .agg #[]) b m
abbrev wC (x:History) (A0:Option Addr) (c0:Nat) (A1:Option Addr) (c1:Nat):List Value:=[vS A0 x.Keys.length c0,vS A1 x.Txns.length c1]
abbrev vC (x:History) (A0:Option Addr) (c0:Nat) (A1:Option Addr) (c1:Nat):Value := .agg (wC x A0 c0 A1 c1).toArray
abbrev iP (b:Nat) (x:History) (A0:Option Addr) (c0:Nat) (A1:Option Addr) (c1:Nat):bX := .blk b 25 (wC x A0 c0 A1 c1)
abbrev RS (x:Spot):List Value:=[vI x.Txn,vI x.Place]
abbrev Uz (x:Spot):Value := .agg (RS x).toArray
abbrev UY (b:Nat) (x:Spot):bX := .blk b 27 (RS x)
abbrev OD (x:bQ) (A4:Option Addr) (c4:Nat):List Value:=[vI x.Kind,vI x.Level,vI x.Spot.Txn,vI x.Spot.Place,vS A4 x.Cycle.length c4]
abbrev TY (x:bQ) (A4:Option Addr) (c4:Nat):Value := .agg (OD x A4 c4).toArray
abbrev Ct (b:Nat) (x:bQ) (A4:Option Addr) (c4:Nat):bX := .blk b 30 (OD x A4 c4)
abbrev FL (x:di) (A1:Option Addr) (c1:Nat):List Value:=[vI x.N,vS A1 x.Edges.length c1]
abbrev Jb (x:di) (A1:Option Addr) (c1:Nat):Value := .agg (FL x A1 c1).toArray
abbrev zR (b:Nat) (x:di) (A1:Option Addr) (c1:Nat):bX := .blk b 38 (FL x A1 c1)
abbrev Kc (x:Edge):List Value:=[vI x.From,vI x.To,vI x.Kind,vI x.Key]
abbrev FM (b:Nat) (x:Edge):bX := .blk b 43 (Kc x)
abbrev EW (x:Txn) (A4:Option Addr) (c4:Nat):List Value:=[vI x.Proc,vI x.Status,vI x.From,vI x.To,vS A4 x.Ops.length c4]
abbrev OE (x:Txn) (A4:Option Addr) (c4:Nat):Value := .agg (EW x A4 c4).toArray
abbrev Ke (b:Nat) (x:Txn) (A4:Option Addr) (c4:Nat):bX := .blk b 65 (EW x A4 c4)
abbrev OH (x:Op) (A4:Option Addr) (c4:Nat):List Value:=[vI x.Kind,vI x.Key,vI x.Arg,vB x.Got,vS A4 x.Vals.length c4]
abbrev Cu (b:Nat) (x:Op) (A4:Option Addr) (c4:Nat):bX := .blk b 70 (OH x A4 c4)
abbrev DD (x:Ask) (A3:Option Addr) (c3:Nat):List Value:=[vI x.Txn,vI x.Place,vI x.Key,vS A3 x.Base.length c3]
abbrev BV (x:Ask) (A3:Option Addr) (c3:Nat):Value := .agg (DD x A3 c3).toArray
abbrev DF (b:Nat) (x:Ask) (A3:Option Addr) (c3:Nat):bX := .blk b 81 (DD x A3 c3)
abbrev UZ (x:aI) (A0:Option Addr) (c0:Nat) (A1:Option Addr) (c1:Nat) (A2:Option Addr) (c2:Nat) (A3:Option Addr) (c3:Nat):List Value:=[vS A0 x.h.Keys.length c0,vS A1 x.h.Txns.length c1,vS A2 x.asks.length c2,vS A3 x.edges.length c3]
abbrev Hq (b:Nat) (x:aI) (A0:Option Addr) (c0:Nat) (A1:Option Addr) (c1:Nat) (A2:Option Addr) (c2:Nat) (A3:Option Addr) (c3:Nat):bX := .blk b 93 (UZ x A0 c0 A1 c1 A2 c2 A3 c3)
abbrev Me (x:aO) (A3:Option Addr) (c3:Nat) (A4:Option Addr) (c4:Nat) (A5:Option Addr) (c5:Nat):List Value:=[vI x.Ask.Txn,vI x.Ask.Place,vI x.Ask.Key,vS A3 x.Ask.Base.length c3,vS A4 x.sources.length c4,vS A5 x.parts.length c5,vB x.made,vI x.kind]
abbrev RU (x:aO) (A3:Option Addr) (c3:Nat) (A4:Option Addr) (c4:Nat) (A5:Option Addr) (c5:Nat):Value := .agg (Me x A3 c3 A4 c4 A5 c5).toArray
abbrev Bv (b:Nat) (x:aO) (A3:Option Addr) (c3:Nat) (A4:Option Addr) (c4:Nat) (A5:Option Addr) (c5:Nat):bX := .blk b 96 (Me x A3 c3 A4 c4 A5 c5)
abbrev Kg (x:Event) (A2:Option Addr) (c2:Nat):List Value:=[vI x.Proc,vI x.Kind,vS A2 x.Calls.length c2]
abbrev UA (x:Event) (A2:Option Addr) (c2:Nat):Value := .agg (Kg x A2 c2).toArray
abbrev TL (b:Nat) (x:Event) (A2:Option Addr) (c2:Nat):bX := .blk b 124 (Kg x A2 c2)
abbrev FN (x:Call) (A4:Option Addr) (c4:Nat):List Value:=[vI x.Kind,.string x.Key,vI x.Arg,vB x.Got,vS A4 x.Vals.length c4]
abbrev Kh (x:Call) (A4:Option Addr) (c4:Nat):Value := .agg (FN x A4 c4).toArray
abbrev tO (b:Nat) (x:Call) (A4:Option Addr) (c4:Nat):bX := .blk b 129 (FN x A4 c4)
abbrev PM (x:fO) (A0:Option Addr) (c0:Nat) (A1:Option Addr) (c1:Nat):List Value:=[vS A0 x.asks.length c0,vS A1 x.bad.length c1]
abbrev UB (x:fO) (A0:Option Addr) (c0:Nat) (A1:Option Addr) (c1:Nat):Value := .agg (PM x A0 c0 A1 c1).toArray
abbrev FO (x:aY):List Value:=[vI x.tight,vI x.loose]
abbrev TM (x:aY):Value := .agg (FO x).toArray
abbrev Ng (b:Nat) (x:aY):bX := .blk b 169 (FO x)
abbrev UC (x:dS) (A1:Option Addr) (c1:Nat) (A2:Option Addr) (c2:Nat):List Value:=[vI x.g.N,vS A1 x.g.Edges.length c1,vS A2 x.links.length c2]
abbrev zS (b:Nat) (x:dS) (A1:Option Addr) (c1:Nat) (A2:Option Addr) (c2:Nat):bX := .blk b 173 (UC x A1 c1 A2 c2)
abbrev FP (x:aS) (A1:Option Addr) (c1:Nat):List Value:=[vI x.txn,vS A1 x.args.length c1]
abbrev PN (x:aS) (A1:Option Addr) (c1:Nat):Value := .agg (FP x A1 c1).toArray
abbrev Ih (b:Nat) (x:aS) (A1:Option Addr) (c1:Nat):bX := .blk b 209 (FP x A1 c1)
abbrev BH (x:aj):List Value:=[vI x.node,vB x.last_,vB x.first_]
abbrev EA (x:aj):Value := .agg (BH x).toArray
abbrev xz (b:Nat) (x:aj):bX := .blk b 225 (BH x)
abbrev Va (b:Nat) (x0:Int) (A1:Option Addr) (c1:Nat) (x1:List Edge):List bX:=[.blk b 38 [vI x0,vS A1 x1.length c1],jE A1 c1 x1]
abbrev OI (b:Nat) (x:di) (A1:Option Addr) (c1:Nat):List bX:=Va b x.N A1 c1 x.Edges
abbrev zT (b:Nat) (A0:Option Addr) (c0:Nat) (x0:List Ask) (A1:Option Addr) (c1:Nat) (x1:List Spot):List bX:=[.blk b 132 [vS A0 x0.length c0,vS A1 x1.length c1],Ja A0 c0 x0,FI A1 c1 x1]
abbrev TN (b:Nat) (x:fO) (A0:Option Addr) (c0:Nat) (A1:Option Addr) (c1:Nat):List bX:=zT b A0 c0 x.asks A1 c1 x.bad
abbrev zU (b:Nat) (A0:Option Addr) (c0:Nat) (x0:List ByteArray) (b1:Nat) (x1:List (ByteArray×Int)) (A2:Option Addr) (c2:Nat) (x2:List Int) (b3:Nat) (x3:List (dZ×Unit)) (b4:Nat) (x4:List (ByteArray×(List Int))):List bX:=[.blk b 199 [vS A0 x0.length c0,.map (some b1),vS A2 x2.length c2,.map (some b3),.map (some b4)],Rw9 A0 c0 x0,Cr b1 x1,Rw3 A2 c2 x2,Cs b3 x3,Ie b4 x4]
abbrev PO (b:Nat) (x:bM) (A0:Option Addr) (c0:Nat) (b1:Nat) (A2:Option Addr) (c2:Nat) (b3:Nat) (b4:Nat):List bX:=zU b A0 c0 x.keys b1 x.at_ A2 c2 x.types b3 x.facts b4 x.incs
theorem Fp {H:BM} {x:bQ} {cs:List Value} (h:xO.rd H x cs):∃ A4 c4,cs=OD x A4 c4∧x.Cycle.length≤c4∧rdS gY H A4 x.Cycle:=by
 obtain ⟨_,_,rfl,rfl,⟨_,_,rfl,rfl,⟨_,_,rfl,rfl,⟨A0,c0,rfl,l0,r0⟩⟩⟩⟩:=h;exact ⟨A0,c0,rfl,l0,r0⟩
theorem yn {H:BM} {x:Txn} {cs:List Value} (h:mI.rd H x cs):∃ A4 c4,cs=EW x A4 c4∧x.Ops.length≤c4∧rdS kOp H A4 x.Ops:=by
 obtain ⟨_,_,rfl,rfl,⟨_,_,rfl,rfl,⟨_,_,rfl,rfl,⟨_,_,rfl,rfl,⟨A0,c0,rfl,l0,r0⟩⟩⟩⟩⟩:=h;exact ⟨A0,c0,rfl,l0,r0⟩
theorem RV {H:BM} {x:Op} {cs:List Value} (h:kOp.rd H x cs):∃ A4 c4,cs=OH x A4 c4∧x.Vals.length≤c4∧rdS (aN .i64) H A4 x.Vals:=by
 obtain ⟨_,_,rfl,rfl,⟨_,_,rfl,rfl,⟨_,_,rfl,rfl,⟨_,_,rfl,rfl,⟨A0,c0,rfl,l0,r0⟩⟩⟩⟩⟩:=h;exact ⟨A0,c0,rfl,l0,r0⟩
theorem Ii {H:BM} {x:Ask} {cs:List Value} (h:uP.rd H x cs):∃ A3 c3,cs=DD x A3 c3∧x.Base.length≤c3∧rdS (aN .i64) H A3 x.Base:=by
 obtain ⟨_,_,rfl,rfl,⟨_,_,rfl,rfl,⟨_,_,rfl,rfl,⟨A0,c0,rfl,l0,r0⟩⟩⟩⟩:=h;exact ⟨A0,c0,rfl,l0,r0⟩
theorem EB {H:BM} {x:aO} {cs:List Value} (h:jh.rd H x cs):∃ A3 c3 A4 c4 A5 c5,cs=Me x A3 c3 A4 c4 A5 c5∧x.Ask.Base.length≤c3∧rdS (aN .i64) H A3 x.Ask.Base∧x.sources.length≤c4∧rdS (aN .i64) H A4 x.sources∧x.parts.length≤c5∧rdS (aN .i64) H A5 x.parts:=by
 obtain ⟨_,_,rfl,⟨_,_,rfl,rfl,⟨_,_,rfl,rfl,⟨_,_,rfl,rfl,⟨A0,c0,rfl,l0,r0⟩⟩⟩⟩,⟨_,_,rfl,⟨A1,c1,rfl,l1,r1⟩,⟨_,_,rfl,⟨A2,c2,rfl,l2,r2⟩,⟨_,_,rfl,rfl,rfl⟩⟩⟩⟩:=h;exact ⟨A0,c0,A1,c1,A2,c2,rfl,l0,r0,l1,r1,l2,r2⟩
theorem RX {H:BM} {x:Event} {cs:List Value} (h:Mc.rd H x cs):∃ A2 c2,cs=Kg x A2 c2∧x.Calls.length≤c2∧rdS Cq H A2 x.Calls:=by
 obtain ⟨_,_,rfl,rfl,⟨_,_,rfl,rfl,⟨A0,c0,rfl,l0,r0⟩⟩⟩:=h;exact ⟨A0,c0,rfl,l0,r0⟩
theorem TZ {H:BM} {x:Call} {cs:List Value} (h:Cq.rd H x cs):∃ A4 c4,cs=FN x A4 c4∧x.Vals.length≤c4∧rdS (aN .i64) H A4 x.Vals:=by
 obtain ⟨_,_,rfl,rfl,⟨_,_,rfl,rfl,⟨_,_,rfl,rfl,⟨_,_,rfl,rfl,⟨A0,c0,rfl,l0,r0⟩⟩⟩⟩⟩:=h;exact ⟨A0,c0,rfl,l0,r0⟩
theorem iy {H:BM} {x:aS} {cs:List Value} (h:iC.rd H x cs):∃ A1 c1,cs=FP x A1 c1∧x.args.length≤c1∧rdS (aN .i64) H A1 x.args:=by
 obtain ⟨_,_,rfl,rfl,⟨A0,c0,rfl,l0,r0⟩⟩:=h;exact ⟨A0,c0,rfl,l0,r0⟩
theorem Cv (x:bQ) {R3:List bX} {c3:List Value} (h3:Mk (bJ 43 gY) R3 x.Cycle c3):Mk xO ([]++([]++([]++R3))) x ([vI x.Kind]++([vI x.Level]++([vI x.Spot.Txn,vI x.Spot.Place]++c3))):=wZ (g:=fun g:bQ=>(g.Kind,g.Level,g.Spot,g.Cycle)) (x:=x) (fq (mF _ _ rfl) (fq (mF _ _ rfl) (fq (mF _ _ rfl) h3)))
theorem UD (x:Txn) {R4:List bX} {c4:List Value} (h4:Mk (bJ 70 kOp) R4 x.Ops c4):Mk mI ([]++([]++([]++([]++R4)))) x ([vI x.Proc]++([vI x.Status]++([vI x.From]++([vI x.To]++c4)))):=wZ (g:=fun g:Txn=>(g.Proc,g.Status,g.From,g.To,g.Ops)) (x:=x) (fq (mF _ _ rfl) (fq (mF _ _ rfl) (fq (mF _ _ rfl) (fq (mF _ _ rfl) h4))))
theorem UE (x:Op) {R4:List bX} {c4:List Value} (h4:Mk (bJ 2 (aN .i64)) R4 x.Vals c4):Mk kOp ([]++([]++([]++([]++R4)))) x ([vI x.Kind]++([vI x.Key]++([vI x.Arg]++([vB x.Got]++c4)))):=wZ (g:=fun g:Op=>(g.Kind,g.Key,g.Arg,g.Got,g.Vals)) (x:=x) (fq (mF _ _ rfl) (fq (mF _ _ rfl) (fq (mF _ _ rfl) (fq (mF _ _ rfl) h4))))
theorem TP (x:Ask) {R3:List bX} {c3:List Value} (h3:Mk (bJ 2 (aN .i64)) R3 x.Base c3):Mk uP ([]++([]++([]++R3))) x ([vI x.Txn]++([vI x.Place]++([vI x.Key]++c3))):=wZ (g:=fun g:Ask=>(g.Txn,g.Place,g.Key,g.Base)) (x:=x) (fq (mF _ _ rfl) (fq (mF _ _ rfl) (fq (mF _ _ rfl) h3)))
theorem Hr (x:aS) {R1:List bX} {c1:List Value} (h1:Mk (bJ 2 (aN .i64)) R1 x.args c1):Mk iC ([]++R1) x ([vI x.txn]++c1):=wZ (g:=fun g:aS=>(g.txn,g.args)) (x:=x) (fq (mF _ _ rfl) h1)
def ng (a0:List ByteArray) (a1:ByteArray):Int→Option (Int ⊕ Int)
 | a2=>bif decide (a2 < (a0.length:Int)) then must (0≤a2∧a2 < (a0.length:Int)) (bif sEq a1 (idx a0 a2) then out (some a2) else (some (.inl (w64 (a2 + 1))))) else (out (some (-1)))
def slices_Index_string (a0:List ByteArray) (a1:ByteArray):Option Int :=
 iter (ng a0 a1) 0
def slices_Contains_string (a0:List ByteArray) (a1:ByteArray):Option Bool :=
 (slices_Index_string a0 a1).bind fun y3=>some (decide (y3 ≥ 0))
def qR:Option bM :=
 some (⟨([]:List ByteArray),([]:List (ByteArray×Int)),([]:List Int),([]:List (dZ×Unit)),([]:List (ByteArray×(List Int)))⟩:bM)
def yM (a0:Int):Option (Int×Int) :=
 bif (a0 == 5) then some (0,1) else (bif (a0 == 8) then some (1,1) else (some (0,64)))
def uB (a0:Call) (a1:Int) (a2:Bool):Option (Int ⊕ Bool) :=
 bif a2 then must (0≤w64 (a1 - 1)∧w64 (a1 - 1) < (a0.Vals.length:Int)) (must (0≤a1∧a1 < (a0.Vals.length:Int)) (bif decide (idx a0.Vals (w64 (a1 - 1)) ≥ idx a0.Vals a1) then out (some false) else (some (.inl (w64 (a1 + 1)))))) else (out (some true))
def uC (a0:Call):Int→Option (Int ⊕ Bool)
 | a1=>bif (a0.Kind == 7) then uB a0 a1 (decide (a1 < (a0.Vals.length:Int))) else (uB a0 a1 false)
def uD (a0:Call) (a1:Bool):Option Bool :=
 bif a1 then some false else (iter (uC a0) 1)
def uE (a0:Call) (a2:Bool):Option Bool :=
 bif a2 then some false else (bif !a0.Got then some ((a0.Vals.length:Int) == 0) else ((yM a0.Kind).bind fun a1=>bif decide ((a0.Vals.length:Int) < a1.1) then uD a0 true else (uD a0 (decide ((a0.Vals.length:Int) > a1.2)))))
def nR (a0:Call) (a1:Int) (a2:Bool):Option Bool :=
 bif a2 then some false else (bif decide (a0.Kind≤4) then bif !a0.Got then bif ((a0.Vals.length:Int) == 0) then bif (a0.Kind != 4) then some true else (bif decide ((-1048576)≤a0.Arg) then some (decide (a0.Arg≤1048576)) else (some false)) else (some false) else (some false) else (bif (a0.Arg != 0) then uE a0 true else (uE a0 (a0.Got != (a1 == 1)))))
def dJ (a0:Call) (a1:Int):Option Bool :=
 bif decide (a0.Kind < 1) then nR a0 a1 true else (bif decide (a0.Kind > 8) then nR a0 a1 true else (bif sEq a0.Key (⟨#[]⟩:ByteArray) then nR a0 a1 true else (nR a0 a1 (decide ((a0.Key.size:Int) > 32)))))
def vT (a0:Call) (a1:Event):Option Bool :=
 (dJ a0 a1.Kind).bind fun y5=>some (!y5)
def gX (a0:List Call) (a1c0:Event):Int→Option (Int ⊕ Int)
 | a1=>bif decide (a1 < (a0.length:Int)) then must (0≤a1∧a1 < (a0.length:Int)) ((vT (idx a0 a1) a1c0).bind fun a2=>bif a2 then out (some a1) else (some (.inl (w64 (a1 + 1))))) else (out (some (-1)))
def cB (a0:List Call) (a1c0:Event):Option Int :=
 iter (gX a0 a1c0) 0
def eF (a0:List Call) (a1c0:Event):Option Bool :=
 (cB a0 a1c0).bind fun y3=>some (decide (y3 ≥ 0))
def qF (a0:List Event) (a1:Int) (a3:Bool):Option (Int ⊕ Int) :=
 bif a3 then out (some 1) else ((eF ((idx a0 a1).Calls) (idx a0 a1)).bind fun a2=>bif a2 then out (some 1) else (some (.inl (w64 (a1 + 1)))))
def xP (a0:List Event):Int→Option (Int ⊕ Int)
 | a1=>bif decide (a1 < (a0.length:Int)) then must (0≤a1∧a1 < (a0.length:Int)) (bif decide ((idx a0 a1).Kind < 0) then qF a0 a1 true else (bif decide ((idx a0 a1).Kind > 3) then qF a0 a1 true else (qF a0 a1 (decide ((((idx a0 a1).Calls).length:Int) > 16))))) else (out (some 0))
def iG (a0:List Event):Option Int :=
 bif decide ((a0.length:Int) > 256) then some 1 else (iter (xP a0) 0)
def wD (a0:History) (a1:Txn) (a3:List Call) (a2:Int):Option ((List Call×Int) ⊕ (Event×Bool)) :=
 some (.inl (a3++([(⟨(idx a1.Ops a2).Kind,idx a0.Keys ((idx a1.Ops a2).Key),(idx a1.Ops a2).Arg,(idx a1.Ops a2).Got,(idx a1.Ops a2).Vals⟩:Call)]:List Call),w64 (a2 + 1)))
def rV (a0:History) (a1:Txn) (a2:List Call) (a3:Int) (a4:Bool):Option ((List Call×Int) ⊕ (Event×Bool)) :=
 bif a4 then out (some ((⟨0,a1.Status,a2⟩:Event),false)) else (must (0≤(idx a1.Ops a3).Key∧(idx a1.Ops a3).Key < (a0.Keys.length:Int)) (must (((a2.length + 1) + (a2.length + 1) / 4 + 192) * 64≤281474976710656∧a2.length + 1≤9223372036854775807) (wD a0 a1 a2 a3)))
def wE (a0:History) (a1:Txn):(List Call×Int)→Option ((List Call×Int) ⊕ (Event×Bool))
 | (a3,a2)=>bif decide (a2 < (a1.Ops.length:Int)) then must (0≤a2∧a2 < (a1.Ops.length:Int)) (bif decide ((idx a1.Ops a2).Key < 0) then rV a0 a1 a3 a2 true else (rV a0 a1 a3 a2 (decide ((idx a1.Ops a2).Key ≥ (a0.Keys.length:Int))))) else ((iG ([(⟨0,a1.Status,a3⟩:Event)]:List Event)).bind fun a4=>out (some ((⟨0,a1.Status,a3⟩:Event),(a4 == 0))))
def fK (a0:History) (a1:Txn):Option (Event×Bool) :=
 iter (wE a0 a1) ([],0)
def rW (a0:Txn) (a1:Txn):Option Bool :=
 bif (a0.Proc == a1.Proc) then bif (a0.To == (-1)) then some true else (some (decide (a0.To ≥ a1.From))) else (some false)
def gP (a0:List Txn) (a1c0:Txn):Int→Option (Int ⊕ Int)
 | a1=>bif decide (a1 < (a0.length:Int)) then must (0≤a1∧a1 < (a0.length:Int)) ((rW (idx a0 a1) a1c0).bind fun a2=>bif a2 then out (some a1) else (some (.inl (w64 (a1 + 1))))) else (out (some (-1)))
def bS (a0:List Txn) (a1c0:Txn):Option Int :=
 iter (gP a0 a1c0) 0
def eB (a0:List Txn) (a1c0:Txn):Option Bool :=
 (bS a0 a1c0).bind fun y3=>some (decide (y3 ≥ 0))
def nJ (a0:List Txn) (a1:Txn) (a3:Bool):Option Bool :=
 bif a3 then some false else ((eB a0 a1).bind fun a2=>some (!a2))
def qU (a0:List Txn) (a1:Txn):Option Bool :=
 bif decide (a1.From < 0) then nJ a0 a1 true else (bif decide ((a0.length:Int) > 0) then must (0≤w64 ((a0.length:Int) - 1)∧w64 ((a0.length:Int) - 1) < (a0.length:Int)) (nJ a0 a1 (decide ((idx a0 (w64 ((a0.length:Int) - 1))).From ≥ a1.From))) else (nJ a0 a1 false))
def qV (a0:List Txn) (a1:Txn) (a2:Bool):Option Bool :=
 bif a2 then some false else (qU a0 a1)
def qW (a0:List Txn) (a1:Txn) (a2:Bool):Option Bool :=
 bif a2 then bif decide (a1.To≤a1.From) then some false else (qU a0 a1) else (bif (a1.Status == 3) then bif (a1.To != (-1)) then qV a0 a1 (decide (a1.To≤a1.From)) else (qV a0 a1 false) else (some false))
def dF (a0:List Txn) (a1:Txn):Option Bool :=
 bif (a1.Status == 1) then qW a0 a1 (a1.Status == 1) else (qW a0 a1 (a1.Status == 2))
def pW (a0:Int):Option Int :=
 some (w64 ((dA .i64 (w64 (a0 - 1)) 3) + 1))
def jb (a2:List ByteArray) (a1:List (ByteArray×Int)) (a4:List Int) (a5:List (dZ×Unit)) (a3:List (ByteArray×(List Int))):Option (Int×bM) :=
 some (0,(⟨a2,a1,a4,a5,a3⟩:bM))
def nU (a0:bM) (a1:Call) (a2:List ByteArray) (a4:List (ByteArray×Int)) (a3:List Int):Option (Int×bM) :=
 bif gL a0.facts (⟨a1.Key,a1.Arg⟩:dZ) then some (3,(⟨a2,a4,a3,a0.facts,a0.incs⟩:bM)) else (jb a2 a4 a3 (fJ a0.facts (⟨a1.Key,a1.Arg⟩:dZ) ()) a0.incs)
def kE (a0:bM) (a1:Call) (a3:List ByteArray) (a5:List (ByteArray×Int)) (a4:List Int) (a2:List (ByteArray×(List Int))):Option (Int×bM) :=
 bif decide (((mat a2 a1.Key).length:Int) > 8) then some (51,(⟨a3,a5,a4,a0.facts,a2⟩:bM)) else (jb a3 a5 a4 a0.facts a2)
def kF (a0:bM) (a1:Call) (a2:Int) (a3:List ByteArray) (a5:List (ByteArray×Int)) (a4:List Int) (a6:Bool):Option (Int×bM) :=
 bif a6 then must (((((mat a0.incs a1.Key).length) + 1) + (((mat a0.incs a1.Key).length) + 1) / 4 + 192) * 8≤281474976710656∧((mat a0.incs a1.Key).length) + 1≤9223372036854775807) (kE a0 a1 a3 a5 a4 (fJ a0.incs a1.Key ((mat a0.incs a1.Key)++([a2]:List Int)))) else (kE a0 a1 a3 a5 a4 a0.incs)
def kG (a0:bM) (a1:Call) (a2:Int) (a3:List ByteArray) (a5:List (ByteArray×Int)) (a4:List Int) (a6:Bool):Option (Int×bM) :=
 bif a6 then nU a0 a1 a3 a5 a4 else (bif (a1.Kind == 4) then bif (((mat a0.incs a1.Key).length:Int) == 0) then kF a0 a1 a2 a3 a5 a4 true else (must (0≤w64 (((mat a0.incs a1.Key).length:Int) - 1)∧w64 (((mat a0.incs a1.Key).length:Int) - 1) < ((mat a0.incs a1.Key).length:Int)) (kF a0 a1 a2 a3 a5 a4 (idx (mat a0.incs a1.Key) (w64 (((mat a0.incs a1.Key).length:Int) - 1)) != a2))) else (jb a3 a5 a4 a0.facts a0.incs))
def jc (a0:bM) (a1:Call) (a2:Int) (a6:List ByteArray) (a4:List (ByteArray×Int)) (a3:List Int) (a5:Int):Option (Int×bM) :=
 must (0≤a5∧a5 < (a3.length:Int)) ((pW a1.Kind).bind fun a7=>bif (idx a3 a5 != a7) then some (50,(⟨a6,a4,a3,a0.facts,a0.incs⟩:bM)) else (bif (a1.Kind == 2) then kG a0 a1 a2 a6 a4 a3 (a1.Kind == 2) else (kG a0 a1 a2 a6 a4 a3 (a1.Kind == 3))))
def nV (a0:bM) (a1:Call) (a2:Int):Option (Int×bM) :=
 (pW a1.Kind).bind fun a3=>must (((a0.types.length + 1) + (a0.types.length + 1) / 4 + 192) * 8≤281474976710656∧a0.types.length + 1≤9223372036854775807) (jc a0 a1 a2 (a0.keys++([a1.Key]:List ByteArray)) (fJ a0.at_ a1.Key (a0.keys.length:Int)) (a0.types++([a3]:List Int)) (a0.keys.length:Int))
def aK (a0:bM) (a1:Call) (a2:Int):Option (Int×bM) :=
 bif !(gL a0.at_ a1.Key) then bif ((a0.keys.length:Int) == 32) then some (2,a0) else (must (((a0.keys.length + 1) + (a0.keys.length + 1) / 4 + 192) * 16≤281474976710656∧a0.keys.length + 1≤9223372036854775807) (nV a0 a1 a2)) else (jc a0 a1 a2 a0.keys a0.at_ a0.types (mat a0.at_ a1.Key))
def oU (a1:Int) (a2:Bool):Option (Int ⊕ Int) :=
 bif a2 then out (some 1) else (some (.inl (w64 (a1 + 1))))
def rX (a4:Int) (a3:Event×Bool):(List ByteArray×(List (ByteArray×Int))×List Int×(List (dZ×Unit))×(List (ByteArray×(List Int)))×Int)→Option ((List ByteArray×(List (ByteArray×Int))×List Int×(List (dZ×Unit))×(List (ByteArray×(List Int)))×Int) ⊕ ((List ByteArray×(List (ByteArray×Int))×List Int×(List (dZ×Unit))×(List (ByteArray×(List Int)))×Int) ⊕ (Int ⊕ Int)))
 | (a7,a8,a9,a5,a6,a2)=>bif decide (a2 < (a3.1.Calls.length:Int)) then must (0≤a2∧a2 < (a3.1.Calls.length:Int)) ((aK (⟨a7,a8,a9,a5,a6⟩:bM) (idx a3.1.Calls a2) a4).bind fun a1=>bif (a1.1 != 0) then out (out (out (some 1))) else (some (.inl (a1.2.keys,a1.2.at_,a1.2.types,a1.2.facts,a1.2.incs,w64 (a2 + 1))))) else (out (some (.inl (a7,a8,a9,a5,a6,w64 (a4 + 1)))))
def rY (a8:List ByteArray) (a1:List (ByteArray×Int)) (a7:List Int) (a5:List (dZ×Unit)) (a4:List (ByteArray×(List Int))) (a3:Int) (a2:Event×Bool) (a6:Bool):Option ((List ByteArray×(List (ByteArray×Int))×List Int×(List (dZ×Unit))×(List (ByteArray×(List Int)))×Int) ⊕ (Int ⊕ Int)) :=
 bif a6 then out (out (some 1)) else (iter (rX a3 a2) (a8,a1,a7,a5,a4,0))
def oV (a0:History):(List ByteArray×(List (ByteArray×Int))×List Int×(List (dZ×Unit))×(List (ByteArray×(List Int)))×Int)→Option ((List ByteArray×(List (ByteArray×Int))×List Int×(List (dZ×Unit))×(List (ByteArray×(List Int)))×Int) ⊕ (Int ⊕ Int))
 | (a7,a3,a6,a5,a4,a1)=>bif decide (a1 < (a0.Txns.length:Int)) then must (0≤a1∧a1 < (a0.Txns.length:Int)) ((fK a0 (idx a0.Txns a1)).bind fun a2=>bif !a2.2 then rY a7 a3 a6 a5 a4 a1 a2 true else (must (0≤(0:Int)∧(0:Int)≤a1∧a1≤(a0.Txns.length:Int)) ((dF (kP a0.Txns (0:Int) a1) (idx a0.Txns a1)).bind fun a8=>rY a7 a3 a6 a5 a4 a1 a2 (!a8)))) else (out (out (some 0)))
def wF (a0:History):Int→Option (Int ⊕ Int)
 | a1=>bif decide (a1 < (a0.Keys.length:Int)) then must (0≤a1∧a1 < (a0.Keys.length:Int)) (bif sEq (idx a0.Keys a1) (⟨#[]⟩:ByteArray) then oU a1 true else (bif decide (((idx a0.Keys a1).size:Int) > 32) then oU a1 true else (must (0≤(0:Int)∧(0:Int)≤a1∧a1≤(a0.Keys.length:Int)) ((slices_Contains_string (kP a0.Keys (0:Int) a1) (idx a0.Keys a1)).bind fun a3=>oU a1 a3)))) else ((qR).bind fun a2=>iter (oV a0) (a2.keys,a2.at_,a2.types,a2.facts,a2.incs,0))
def rZ (a0:History) (b7:Bool):Option Int :=
 bif b7 then some 1 else (iter (wF a0) 0)
def aF (a0:History):Option Int :=
 bif decide ((a0.Keys.length:Int) > 32) then rZ a0 true else (rZ a0 (decide ((a0.Txns.length:Int) > 32)))
def gQ (a0:List Int):Option (List Int) :=
 must (a0.length * 8≤140737488355328) (some a0)
def lh (a0:Int):Option Int :=
 bif (a0 == 1) then some 280 else (bif (a0 == 2) then some 281 else (bif (a0 == 3) then some 282 else (bif (a0 == 4) then some 283 else (some (-1)))))
def lm (a0:Unit) (a1:List Int):Option Bool :=
 some (decide ((a1.length:Int)≤1))
def pX (a0:Unit) (a1:List Int):Option Bool :=
 some (decide ((a1.length:Int)≤64))
def qZ (a1:List Int):Int→Option (Int ⊕ Bool)
 | a2=>bif decide (a2 < (a1.length:Int)) then must (0≤w64 (a2 - 1)∧w64 (a2 - 1) < (a1.length:Int)) (must (0≤a2∧a2 < (a1.length:Int)) (bif decide (idx a1 (w64 (a2 - 1)) ≥ idx a1 a2) then out (some false) else (some (.inl (w64 (a2 + 1)))))) else (out (some (decide ((a1.length:Int)≤64))))
def iD (a0:Unit) (a1:List Int):Option Bool :=
 iter (qZ a1) 1
def mi (a0:Unit) (a1:List Int):Option Bool :=
 some ((a1.length:Int) == 1)
def lq (a0:Int) (a1:List Int):Option Int :=
 (lh a0).bind fun y8=>bif (y8 == (280:Int)) then (lm () a1).bind fun a4=>bif !a4 then some 80 else (some 0) else (bif (y8 == (281:Int)) then (pX () a1).bind fun a3=>bif !a3 then some 80 else (some 0) else (bif (y8 == (282:Int)) then (iD () a1).bind fun a5=>bif !a5 then some 80 else (some 0) else (bif (y8 == (283:Int)) then (mi () a1).bind fun a2=>bif !a2 then some 80 else (some 0) else (bif (y8 == ((-1):Int)) then some 1 else none))))
def iQ (a0:Unit) (a1:List Int) (a2:List Int):Option (List Int×Bool) :=
 bif ((a1.length:Int) == 1) then must (0≤(0:Int)∧(0:Int) < (a1.length:Int)) (must (0≤w64 ((a2.length:Int) - 1)∧w64 ((a2.length:Int) - 1) < (a2.length:Int)) (some (([]:List Int),(idx a1 (0:Int) == idx a2 (w64 ((a2.length:Int) - 1)))))) else (some (([]:List Int),false))
def tQ (a0:List Int) (a1:List Int):Int→Option (Int ⊕ Bool)
 | a2=>bif decide (a2 < (a0.length:Int)) then must (0≤a2∧a2 < (a0.length:Int)) (must (0≤a2∧a2 < (a1.length:Int)) (bif (idx a0 a2 != idx a1 a2) then out (some false) else (some (.inl (w64 (a2 + 1)))))) else (out (some true))
def gp (a0:List Int) (a1:List Int):Option Bool :=
 bif ((a0.length:Int) != (a1.length:Int)) then some false else (iter (tQ a0 a1) 0)
def jd (a1:List Int) (a2:List Int) (a3:Bool):Option (List Int×Bool) :=
 bif a3 then some (([]:List Int),false) else (must (0≤(0:Int)∧(0:Int)≤(w64 ((a1.length:Int) - (a2.length:Int)))∧(w64 ((a1.length:Int) - (a2.length:Int)))≤(a1.length:Int)) ((gQ (kP a1 (0:Int) (w64 ((a1.length:Int) - (a2.length:Int))))).bind fun a4=>some (a4,true)))
def eX (a0:Unit) (a1:List Int) (a2:List Int):Option (List Int×Bool) :=
 bif decide (w64 ((a1.length:Int) - (a2.length:Int)) < 0) then jd a1 a2 true else (must (0≤(w64 ((a1.length:Int) - (a2.length:Int)))∧(w64 ((a1.length:Int) - (a2.length:Int)))≤(a1.length:Int)∧(a1.length:Int)≤(a1.length:Int)) ((gp (kP a1 (w64 ((a1.length:Int) - (a2.length:Int))) (a1.length:Int)) a2).bind fun a3=>jd a1 a2 (!a3)))
def nK (a0:Int):Option Bool :=
 some (a0 != a0)
def oW (a0:Int) (a1:Int):Option Bool :=
 (nK a0).bind fun y7=>bif y7 then (nK a1).bind fun a2=>bif !a2 then some true else (some (decide (a0 < a1))) else (some (decide (a0 < a1)))
def ko (a0:Int):Option Bool :=
 some (a0 != a0)
def jL (a2:Int) (a1:Int):Option ((Int×Int) ⊕ (Int×Bool)) :=
 some (.inl (a2,a1))
def jM (a0:List Int) (a1:Int):(Int×Int)→Option ((Int×Int) ⊕ (Int×Bool))
 | (a2,a3)=>bif decide (a2 < a3) then must (0≤(1:Int)∧(1:Int) < (far:Int)) (must (0≤w64 (fP .u64 (IntKind.wrap .u64 (w64 (a2 + a3))) (1:Int))∧w64 (fP .u64 (IntKind.wrap .u64 (w64 (a2 + a3))) (1:Int)) < (a0.length:Int)) ((oW (idx a0 (w64 (fP .u64 (IntKind.wrap .u64 (w64 (a2 + a3))) (1:Int)))) a1).bind fun a5=>bif a5 then jL (w64 ((w64 (fP .u64 (IntKind.wrap .u64 (w64 (a2 + a3))) (1:Int))) + 1)) a3 else (jL a2 (w64 (fP .u64 (IntKind.wrap .u64 (w64 (a2 + a3))) (1:Int)))))) else (bif decide (a2 < (a0.length:Int)) then must (0≤a2∧a2 < (a0.length:Int)) (bif (idx a0 a2 == a1) then out (some (a2,true)) else ((ko (idx a0 a2)).bind fun a6=>bif a6 then (ko a1).bind fun a4=>out (some (a2,a4)) else (out (some (a2,false))))) else (out (some (a2,false))))
def cz (a0:List Int) (a1:Int):Option (Int×Bool) :=
 iter (jM a0 a1) (0,(a0.length:Int))
def jN (a0:List Int) (a1 a2:Int):Option (List Int) :=
 must (0≤a1∧a1≤a2∧a2≤(a0.length:Int)) (some (a0.take a1.toNat++a0.drop a2.toNat))
def lu (a2:List Int):(List Int×Int)→Option ((List Int×Int) ⊕ (List Int×Bool))
 | (a3,a1)=>bif decide (a1 < (a2.length:Int)) then must (0≤a1∧a1 < (a2.length:Int)) ((cz a3 (idx a2 a1)).bind fun a4=>bif !a4.2 then out (some (([]:List Int),false)) else ((jN a3 a4.1 (w64 (a4.1 + 1))).bind fun a5=>some (.inl (a5,w64 (a1 + 1))))) else (out (some (a3,true)))
def fQ (a0:Unit) (a1:List Int) (a2:List Int):Option (List Int×Bool) :=
 (gQ a1).bind fun y7=>iter (lu a2) (y7,0)
def jm (a2:List Int):(Int×Int)→Option ((Int×Int) ⊕ (List Int×Bool))
 | (a3,a1)=>bif decide (a1 < (a2.length:Int)) then must (0≤a1∧a1 < (a2.length:Int)) (some (.inl (w64 (a3 - (idx a2 a1)),w64 (a1 + 1)))) else (out (some (([a3]:List Int),true)))
def eY (a0:Unit) (a1:List Int) (a2:List Int):Option (List Int×Bool) :=
 must (0≤(0:Int)∧(0:Int) < (a1.length:Int)) (iter (jm a2) (idx a1 (0:Int),0))
def kX (a0:Int) (a1:List Int) (a2:List Int) (b9:Bool):Option (List Int×Bool) :=
 bif b9 then some (([]:List Int),false) else ((lh a0).bind fun a3=>bif (a3 == (280:Int)) then (iQ () a1 a2).bind fun a4=>some (a4.1,a4.2) else (bif (a3 == (281:Int)) then (eX () a1 a2).bind fun a5=>some (a5.1,a5.2) else (bif (a3 == (282:Int)) then (fQ () a1 a2).bind fun a7=>some (a7.1,a7.2) else (bif (a3 == (283:Int)) then (eY () a1 a2).bind fun a6=>some (a6.1,a6.2) else (bif (a3 == ((-1):Int)) then none else none)))))
def iE (a0:Int) (a1:List Int) (a2:List Int):Option (List Int×Bool) :=
 (lq a0 a1).bind fun a3=>bif (a3 != 0) then kX a0 a1 a2 true else (kX a0 a1 a2 ((a2.length:Int) == 0))
def iV (a4:Int) (a2:List Ask) (a1:List Spot) (a3:List (Int×(List Int))):Option ((List Ask×List Spot×(List (Int×(List Int)))×Int) ⊕ fO) :=
 some (.inl (a2,a1,a3,w64 (a4 + 1)))
def mo (a1:History) (a2:Int) (a3:List Ask) (a5:List Spot) (a6:List (Int×(List Int))) (a4:Int) (a7:List Int) (a8:Bool):Option ((List Ask×List Spot×(List (Int×(List Int)))×Int) ⊕ fO) :=
 bif !a8 then must (((a5.length + 1) + (a5.length + 1) / 4 + 192) * 16≤281474976710656∧a5.length + 1≤9223372036854775807) (iV a4 a3 (a5++([(⟨a2,a4⟩:Spot)]:List Spot)) a6) else (must (((a3.length + 1) + (a3.length + 1) / 4 + 192) * 48≤281474976710656∧a3.length + 1≤9223372036854775807) (iV a4 (a3++([(⟨a2,a4,(idx ((idx a1.Txns a2).Ops) a4).Key,a7⟩:Ask)]:List Ask)) a5 a6))
def mq (a1:History) (a2:Int) (a4:List Ask) (a6:List Spot) (a7:List (Int×(List Int))) (a5:Int) (a3:List Int×Bool) (a8:Bool):Option ((List Ask×List Spot×(List (Int×(List Int)))×Int) ⊕ fO) :=
 bif a8 then iV a5 a4 a6 a7 else (mo a1 a2 a4 a6 a7 a5 a3.1 a3.2)
def qy (a1:History) (a2:Int):(List Ask×List Spot×(List (Int×(List Int)))×Int)→Option ((List Ask×List Spot×(List (Int×(List Int)))×Int) ⊕ fO)
 | (a5,a6,a4,a3)=>bif decide (a3 < (((idx a1.Txns a2).Ops).length:Int)) then must (0≤a3∧a3 < (((idx a1.Txns a2).Ops).length:Int)) (bif decide ((idx ((idx a1.Txns a2).Ops) a3).Kind≤4) then must (((((mat a4 ((idx ((idx a1.Txns a2).Ops) a3).Key)).length) + 1) + (((mat a4 ((idx ((idx a1.Txns a2).Ops) a3).Key)).length) + 1) / 4 + 192) * 8≤281474976710656∧((mat a4 ((idx ((idx a1.Txns a2).Ops) a3).Key)).length) + 1≤9223372036854775807) (iV a3 a5 a6 (fJ a4 ((idx ((idx a1.Txns a2).Ops) a3).Key) ((mat a4 ((idx ((idx a1.Txns a2).Ops) a3).Key))++([(idx ((idx a1.Txns a2).Ops) a3).Arg]:List Int)))) else ((gQ ((idx ((idx a1.Txns a2).Ops) a3).Vals)).bind fun a8=>bif decide (((mat a4 ((idx ((idx a1.Txns a2).Ops) a3).Key)).length:Int) > 0) then (iE (w64 (((idx ((idx a1.Txns a2).Ops) a3).Kind) - 4)) ((idx ((idx a1.Txns a2).Ops) a3).Vals) (mat a4 ((idx ((idx a1.Txns a2).Ops) a3).Key))).bind fun a7=>bif a7.2 then mq a1 a2 a5 a6 a4 a3 a7 ((idx ((idx a1.Txns a2).Ops) a3).Kind == 5) else (mq a1 a2 a5 a6 a4 a3 a7 false) else (mo a1 a2 a5 a6 a4 a3 a8 true))) else (out (some (⟨a5,a6⟩:fO)))
def bE (a0:fO) (a1:History) (a2:Int):Option fO :=
 must (0≤a2∧a2 < (a1.Txns.length:Int)) (bif ((idx a1.Txns a2).Status != 1) then some a0 else (iter (qy a1 a2) (a0.asks,a0.bad,[],0)))
def yN (a0:History):(List Ask×List Spot×Int)→Option ((List Ask×List Spot×Int) ⊕ (fO×Int))
 | (a2,a4,a1)=>bif decide (a1 < (a0.Txns.length:Int)) then (bE (⟨a2,a4⟩:fO) a0 a1).bind fun a3=>some (.inl (a3.asks,a3.bad,w64 (a1 + 1))) else (out (some ((⟨a2,a4⟩:fO),0)))
def mJ (a0:History):Option (fO×Int) :=
 (aF a0).bind fun a1=>bif (a1 != 0) then some ((⟨([]:List Ask),([]:List Spot)⟩:fO),a1) else (iter (yN a0) ([],[],0))
def kr (a0:History):Option (List Ask×Int) :=
 (mJ a0).bind fun a1=>some (a1.1.asks,a1.2)
def xQ (a0:History) (a1:Int) (a3:Int):Int→Option (Int ⊕ (Int ⊕ Int))
 | a2=>bif decide (a2 < (((idx a0.Txns a3).Ops).length:Int)) then must (0≤a2∧a2 < (((idx a0.Txns a3).Ops).length:Int)) (bif ((idx ((idx a0.Txns a3).Ops) a2).Key == a1) then (pW ((idx ((idx a0.Txns a3).Ops) a2).Kind)).bind fun a4=>out (out (some a4)) else (some (.inl (w64 (a2 + 1))))) else (out (some (.inl (w64 (a3 + 1)))))
def xR (a0:History) (a1:Int):Int→Option (Int ⊕ Int)
 | a2=>bif decide (a2 < (a0.Txns.length:Int)) then must (0≤a2∧a2 < (a0.Txns.length:Int)) (iter (xQ a0 a1 a2) 0) else (out (some 0))
def gq (a0:History) (a1:Int):Option Int :=
 (aF a0).bind fun y8=>bif (y8 != 0) then some 0 else (iter (xR a0 a1) 0)
def si (a1:Int) (a2:List Int):Option ((List Int×Int) ⊕ (List Int)) :=
 some (.inl (a2,w64 (a1 + 1)))
def sj (a0:Txn) (a1:List Int) (a2:Int) (a3:Bool):Option ((List Int×Int) ⊕ (List Int)) :=
 bif a3 then must (((a1.length + 1) + (a1.length + 1) / 4 + 192) * 8≤281474976710656∧a1.length + 1≤9223372036854775807) (si a2 (a1++([(idx a0.Ops a2).Arg]:List Int))) else (si a2 a1)
def wG (a0:Txn) (a1:Int):(List Int×Int)→Option ((List Int×Int) ⊕ (List Int))
 | (a3,a2)=>bif decide (a2 < (a0.Ops.length:Int)) then must (0≤a2∧a2 < (a0.Ops.length:Int)) (bif ((idx a0.Ops a2).Key == a1) then sj a0 a3 a2 (decide ((idx a0.Ops a2).Kind≤4)) else (sj a0 a3 a2 false)) else (out (some a3))
def fu (a0:Txn) (a1:Int):Option (List Int) :=
 iter (wG a0 a1) ([],0)
def oZ (a0:History) (a1:Int) (a2:Int) (a4:Bool):Option (List Int×Bool) :=
 bif a4 then some (([]:List Int),false) else (must (0≤a1∧a1 < (a0.Txns.length:Int)) ((fu (idx a0.Txns a1) a2).bind fun a3=>some (a3,decide ((a3.length:Int) > 0))))
def jv (a0:History) (a1:Int) (a2:Int):Option (List Int×Bool) :=
 bif decide (a1 < 0) then oZ a0 a1 a2 true else (bif decide (a1 ≥ (a0.Txns.length:Int)) then oZ a0 a1 a2 true else ((aF a0).bind fun a3=>oZ a0 a1 a2 (a3 != 0)))
def pY (a2:Int) (a1:List Int):Option ((List Int×Int) ⊕ (List Int)) :=
 some (.inl (a1,w64 (a2 + 1)))
def qa (a1:List Int) (a2:Int) (a3:Bool):Option ((List Int×Int) ⊕ (List Int)) :=
 bif a3 then must (((a1.length + 1) + (a1.length + 1) / 4 + 192) * 8≤281474976710656∧a1.length + 1≤9223372036854775807) (pY a2 (a1++([a2]:List Int))) else (pY a2 a1)
def uj (a0:History) (a1:Int):(List Int×Int)→Option ((List Int×Int) ⊕ (List Int))
 | (a3,a2)=>bif decide (a2 < (a0.Txns.length:Int)) then must (0≤a2∧a2 < (a0.Txns.length:Int)) (bif ((idx a0.Txns a2).Status != 2) then (fu (idx a0.Txns a2) a1).bind fun a4=>qa a3 a2 (decide ((a4.length:Int) > 0)) else (qa a3 a2 false)) else (out (some a3))
def ed (a0:History) (a1:Int):Option (List Int) :=
 (aF a0).bind fun y8=>bif (y8 != 0) then some ([]:List Int) else (iter (uj a0 a1) ([],0))
def qb (a1:Int) (a2:List aS):Option ((List aS×Int) ⊕ (List aS)) :=
 some (.inl (a2,w64 (a1 + 1)))
def qc (a4:List Int) (a1:List aS) (a2:Int) (a5:List Int×Bool) (a3:Bool):Option ((List aS×Int) ⊕ (List aS)) :=
 bif a3 then must (((a1.length + 1) + (a1.length + 1) / 4 + 192) * 32≤281474976710656∧a1.length + 1≤9223372036854775807) (qb a2 (a1++([(⟨idx a4 a2,a5.1⟩:aS)]:List aS))) else (qb a2 a1)
def uk (a0:History) (a1:Ask) (a3:List Int):(List aS×Int)→Option ((List aS×Int) ⊕ (List aS))
 | (a4,a2)=>bif decide (a2 < (a3.length:Int)) then must (0≤a2∧a2 < (a3.length:Int)) ((jv a0 (idx a3 a2) a1.Key).bind fun a5=>bif a5.2 then qc a3 a4 a2 a5 (idx a3 a2 != a1.Txn) else (qc a3 a4 a2 a5 false)) else (out (some a4))
def dw (a0:History) (a1:Ask):Option (List aS) :=
 (ed a0 a1.Key).bind fun a2=>iter (uk a0 a1 a2) ([],0)
def qz (a0:List Int) (a1:Int):Int→Option (Int ⊕ Int)
 | a2=>bif decide (a2 < (a0.length:Int)) then must (0≤a2∧a2 < (a0.length:Int)) (bif (a1 == idx a0 a2) then out (some a2) else (some (.inl (w64 (a2 + 1))))) else (out (some (-1)))
def slices_Index_int (a0:List Int) (a1:Int):Option Int :=
 iter (qz a0 a1) 0
def slices_Contains_int (a0:List Int) (a1:Int):Option Bool :=
 (slices_Index_int a0 a1).bind fun y3=>some (decide (y3 ≥ 0))
def uF (a0:aS) (a1:List Int):Option Bool :=
 must (0≤(0:Int)∧(0:Int) < (a0.args.length:Int)) (must (0≤(0:Int)∧(0:Int) < (a1.length:Int)) (some (idx a0.args (0:Int) == idx a1 (0:Int))))
def gM (a0:List aS) (a1c0:List Int):Int→Option (Int ⊕ Int)
 | a1=>bif decide (a1 < (a0.length:Int)) then must (0≤a1∧a1 < (a0.length:Int)) ((uF (idx a0 a1) a1c0).bind fun a2=>bif a2 then out (some a1) else (some (.inl (w64 (a1 + 1))))) else (out (some (-1)))
def bR (a0:List aS) (a1c0:List Int):Option Int :=
 iter (gM a0 a1c0) 0
def mK (a1:List aS) (a3:List Int) (a4:List Int) (a2:Int) (a5:Bool):Option ((List Int×List Int) ⊕ (List Int×Bool)) :=
 bif a5 then out (some (([]:List Int),false)) else (must (0≤a2∧a2 < (a1.length:Int)) (must (((a4.length + 1) + (a4.length + 1) / 4 + 192) * 8≤281474976710656∧a4.length + 1≤9223372036854775807) (must (0≤(((idx a1 a2).args).length:Int)∧(((idx a1 a2).args).length:Int)≤(a3.length:Int)∧(a3.length:Int)≤(a3.length:Int)) (some (.inl (kP a3 (((idx a1 a2).args).length:Int) (a3.length:Int),a4++([(idx a1 a2).txn]:List Int)))))))
def su (a1:List aS):(List Int×List Int)→Option ((List Int×List Int) ⊕ (List Int×Bool))
 | (a3,a4)=>bif decide ((a3.length:Int) > 0) then (bR a1 a3).bind fun a2=>bif decide (a2 < 0) then mK a1 a3 a4 a2 true else (must (0≤a2∧a2 < (a1.length:Int)) (bif decide ((((idx a1 a2).args).length:Int) > (a3.length:Int)) then mK a1 a3 a4 a2 true else (must (0≤(0:Int)∧(0:Int)≤(((idx a1 a2).args).length:Int)∧(((idx a1 a2).args).length:Int)≤(a3.length:Int)) ((gp ((idx a1 a2).args) (kP a3 (0:Int) (((idx a1 a2).args).length:Int))).bind fun a5=>bif !a5 then mK a1 a3 a4 a2 true else ((slices_Contains_int a4 ((idx a1 a2).txn)).bind fun a6=>mK a1 a3 a4 a2 a6))))) else (out (some (a4,true)))
def fM (a0:List Int) (a1:List aS):Option (List Int×Bool) :=
 iter (su a1) (a0,[])
def uG (a3:Int) (a1:List Int) (a2:List (Int×Unit)):Option ((List Int×(List (Int×Unit))×Int) ⊕ (((List (Int×Unit))×Int) ⊕ (List Int×Bool))) :=
 some (.inl (a1,a2,w64 (a3 + 1)))
def uH (a2:Int) (a3:List (Int×Unit)) (a1:Int):Option (((List (Int×Unit))×Int×Int) ⊕ ((List Int×(List (Int×Unit))×Int) ⊕ (((List (Int×Unit))×Int) ⊕ (List Int×Bool)))) :=
 some (.inl (a3,a1,w64 (a2 + 1)))
def uI (a1:List aS) (a2:List Int) (a3:Int) (a4:List (Int×Unit)) (a5:Int) (a6:Bool):Option (((List (Int×Unit))×Int×Int) ⊕ ((List Int×(List (Int×Unit))×Int) ⊕ (((List (Int×Unit))×Int) ⊕ (List Int×Bool)))) :=
 bif a6 then out (out (out (some (([]:List Int),false)))) else (bif decide (a5 > 0) then must (((a2.length + 1) + (a2.length + 1) / 4 + 192) * 8≤281474976710656∧a2.length + 1≤9223372036854775807) (out (uG a3 (a2++([(idx a1 a3).txn]:List Int)) a4)) else (out (uG a3 a2 a4)))
def xS (a1:List aS) (a6:List Int) (a3:Int):((List (Int×Unit))×Int×Int)→Option (((List (Int×Unit))×Int×Int) ⊕ ((List Int×(List (Int×Unit))×Int) ⊕ (((List (Int×Unit))×Int) ⊕ (List Int×Bool))))
 | (a5,a4,a2)=>bif decide (a2 < (((idx a1 a3).args).length:Int)) then must (0≤a2∧a2 < (((idx a1 a3).args).length:Int)) (bif gL a5 (idx ((idx a1 a3).args) a2) then uH a2 (Fh a5 (idx ((idx a1 a3).args) a2)) (w64 (a4 + 1)) else (uH a2 a5 a4)) else (bif decide (a4 > 0) then uI a1 a6 a3 a5 a4 (decide (a4 < (((idx a1 a3).args).length:Int))) else (uI a1 a6 a3 a5 a4 false))
def xU (a1:List aS):(List Int×(List (Int×Unit))×Int)→Option ((List Int×(List (Int×Unit))×Int) ⊕ (((List (Int×Unit))×Int) ⊕ (List Int×Bool)))
 | (a4,a3,a2)=>bif decide (a2 < (a1.length:Int)) then must (0≤a2∧a2 < (a1.length:Int)) (iter (xS a1 a4 a2) (a3,0,0)) else (bif decide ((a3.length:Int) > 0) then out (out (some (([]:List Int),false))) else (out (out (some (a4,true)))))
def xV (a0:List Int) (a1:List aS):((List (Int×Unit))×Int)→Option (((List (Int×Unit))×Int) ⊕ (List Int×Bool))
 | (a3,a2)=>bif decide (a2 < (a0.length:Int)) then must (0≤a2∧a2 < (a0.length:Int)) (some (.inl (fJ a3 (idx a0 a2) (),w64 (a2 + 1)))) else (iter (xU a1) ([],a3,0))
def dD (a0:List Int) (a1:List aS):Option (List Int×Bool) :=
 iter (xV a0 a1) ([],0)
def iF (a0:History) (a1:Ask):Option (List Int×Bool) :=
 (gq a0 a1.Key).bind fun a2=>bif (a2 == 2) then (dw a0 a1).bind fun a6=>(fM a1.Base a6).bind fun a3=>some (a3.1,a3.2) else (bif (a2 == 3) then (dw a0 a1).bind fun a5=>(dD a1.Base a5).bind fun a4=>some (a4.1,a4.2) else (some (([]:List Int),false)))
def qA (a0:Int) (a2:Int) (a3:List aS) (a4:Int) (rec:Int→Int→Int→(List aS)→Int→Int→Option Int) (a7:Int):(Int×Int)→Option ((Int×Int) ⊕ Int)
 | (a5,a1)=>bif decide (a1 < (((idx a3 a0).args).length:Int)) then must (0≤a1∧a1 < (((idx a3 a0).args).length:Int)) (some (.inl (w64 (a5 + (idx ((idx a3 a0).args) a1)),w64 (a1 + 1)))) else (must (0≤a0∧a0 < (far:Int)) ((rec (w64 (a0 + 1)) a5 (bOr .u64 a2 (Fg .u64 1 a0)) a3 a4 a7).bind fun a6=>out (some a6)))
def kH (rec:Int→Int→Int→(List aS)→Int→Int→Option Int) (a0:Int) (a1:Int) (a2:Int) (a3:List aS) (a4:Int) (a5:Int):Option Int :=
 bif (a0 == (a3.length:Int)) then bif (a1 == a4) then some (bOr .u64 a5 a2) else (some a5) else ((rec (w64 (a0 + 1)) a1 a2 a3 a4 a5).bind fun a6=>must (0≤a0∧a0 < (a3.length:Int)) (iter (qA a0 a2 a3 a4 rec a6) (a1,0)))
def iw:Nat→Int→Int→Int→(List aS)→Int→Int→Option Int
 | 0=>fun _ _ _ _ _ _=>none
 | k + 1=>kH (iw k)
def bN (a0:Int) (a1:Int) (a2:Int) (a3:List aS) (a4:Int) (a5:Int):Option Int:=iw 64 a0 a1 a2 a3 a4 a5
def ow (a1:Int) (a2:List Int):Option ((List Int×Int) ⊕ (List Int)) :=
 some (.inl (a2,w64 (a1 + 1)))
def sw (a1:List aS) (a4:Int):(List Int×Int)→Option ((List Int×Int) ⊕ (List Int))
 | (a3,a2)=>bif decide (a2 < (a1.length:Int)) then must (0≤a2∧a2 < (a1.length:Int)) (must (0≤a2∧a2 < (far:Int)) (bif (dA .u64 (fP .u64 a4 a2) 1 == 1) then must (((a3.length + 1) + (a3.length + 1) / 4 + 192) * 8≤281474976710656∧a3.length + 1≤9223372036854775807) (ow a2 (a3++([(idx a1 a2).txn]:List Int))) else (ow a2 a3))) else (out (some a3))
def fE (a0:Int) (a1:List aS):Option (List Int) :=
 (bN 0 0 0 a1 a0 0).bind fun a2=>iter (sw a1 a2) ([],0)
def gH (a1:List Int):Option (List Int) :=
 some a1
def oz (a0:History) (a1:Ask) (a3:List Int):Option (List Int) :=
 must (0≤(0:Int)∧(0:Int) < (a1.Base.length:Int)) ((dw a0 a1).bind fun a4=>(fE (idx a1.Base (0:Int)) a4).bind fun a2=>must (((a3.length + a2.length) + (a3.length + a2.length) / 4 + 192) * 8≤281474976710656∧a3.length + a2.length≤9223372036854775807) (gH (a3++a2)))
def oC (a1:Int) (a2:List Int):Option ((List Int×Int) ⊕ (List Int)) :=
 some (.inl (a2,w64 (a1 + 1)))
def oD (a1:Ask) (a3:List aS):(List Int×Int)→Option ((List Int×Int) ⊕ (List Int))
 | (a4,a2)=>bif decide (a2 < (a3.length:Int)) then must (0≤a2∧a2 < (a3.length:Int)) (must (0≤w64 ((((idx a3 a2).args).length:Int) - 1)∧w64 ((((idx a3 a2).args).length:Int) - 1) < (((idx a3 a2).args).length:Int)) (must (0≤(0:Int)∧(0:Int) < (a1.Base.length:Int)) (bif (idx ((idx a3 a2).args) (w64 ((((idx a3 a2).args).length:Int) - 1)) == idx a1.Base (0:Int)) then must (((a4.length + 1) + (a4.length + 1) / 4 + 192) * 8≤281474976710656∧a4.length + 1≤9223372036854775807) (oC a2 (a4++([(idx a3 a2).txn]:List Int))) else (oC a2 a4)))) else (out (gH a4))
def bu (a0:History) (a1:Ask):Option (List Int) :=
 (gq a0 a1.Key).bind fun a3=>bif (a3 == 4) then must (0≤(0:Int)∧(0:Int) < (a1.Base.length:Int)) (bif (idx a1.Base (0:Int) == 0) then must (((0 + 1) + (0 + 1) / 4 + 192) * 8≤281474976710656∧0 + 1≤9223372036854775807) (oz a0 a1 (([]:List Int)++([(-1)]:List Int))) else (oz a0 a1 [])) else (bif ((a1.Base.length:Int) == 0) then gH ([(-1)]:List Int) else (bif (a3 == 1) then (dw a0 a1).bind fun a5=>iter (oD a1 a5) ([],0) else (bif (a3 == 2) then (iF a0 a1).bind fun a2=>bif a2.2 then must (0≤(w64 ((a2.1.length:Int) - 1))∧(w64 ((a2.1.length:Int) - 1))≤(a2.1.length:Int)∧(a2.1.length:Int)≤(a2.1.length:Int)) (gH (kP a2.1 (w64 ((a2.1.length:Int) - 1)) (a2.1.length:Int))) else (gH []) else ((iF a0 a1).bind fun a4=>gH a4.1))))
def pg (a0:Ask) (a1:Ask):Option Bool :=
 bif (a1.Txn == a0.Txn) then bif (a1.Place == a0.Place) then bif (a1.Key == a0.Key) then (gp a1.Base a0.Base).bind fun a2=>some a2 else (some false) else (some false) else (some false)
def gT (a0:List Ask) (a1c0:Ask):Int→Option (Int ⊕ Int)
 | a1=>bif decide (a1 < (a0.length:Int)) then must (0≤a1∧a1 < (a0.length:Int)) ((pg (idx a0 a1) a1c0).bind fun a2=>bif a2 then out (some a1) else (some (.inl (w64 (a1 + 1))))) else (out (some (-1)))
def bT (a0:List Ask) (a1c0:Ask):Option Int :=
 iter (gT a0 a1c0) 0
def eD (a0:List Ask) (a1c0:Ask):Option Bool :=
 (bT a0 a1c0).bind fun y3=>some (decide (y3 ≥ 0))
def qd (a0:History) (a1:Ask):Option Int :=
 (kr a0).bind fun y9=>bif (y9.2 != 0) then some y9.2 else ((eD y9.1 a1).bind fun a2=>bif a2 then some 0 else (some 1))
def pq (a0:History) (a1:Ask):Option (List Int×Int) :=
 (qd a0 a1).bind fun a2=>bif (a2 != 0) then some (([]:List Int),a2) else ((bu a0 a1).bind fun a3=>some (a3,0))
def sD (a0:History) (a1:Ask):Option (List Int×Bool×Int) :=
 (qd a0 a1).bind fun a2=>bif (a2 != 0) then some (([]:List Int),false,a2) else ((iF a0 a1).bind fun a3=>some (a3.1,a3.2,0))
def iW (a0:aI) (a1:Int):Option Bool :=
 must (0≤a1∧a1 < (a0.h.Txns.length:Int)) (some ((idx a0.h.Txns a1).Status == 1))
def gy (a0:aI) (a1:Int) (a2:Int) (a3:Int) (a4:Int):Option aI :=
 must (((a0.edges.length + 1) + (a0.edges.length + 1) / 4 + 192) * 32≤281474976710656∧a0.edges.length + 1≤9223372036854775807) (some (⟨a0.h,a0.asks,a0.edges++([(⟨a1,a2,a3,a4⟩:Edge)]:List Edge)⟩:aI))
def jR (a2:Int) (a1:List Int) (a3:List (Int×Int)):Option ((List Int×(List (Int×Int))×Int) ⊕ aI) :=
 some (.inl (a1,a3,w64 (a2 - 1)))
def jS (a0:aI) (a3:List (Int×Int)) (a1:Int) (a2:List Int):Option ((List Int×(List (Int×Int))×Int) ⊕ aI) :=
 must (0≤a1∧a1 < (a0.h.Txns.length:Int)) (jR a1 a2 (fJ a3 ((idx a0.h.Txns a1).Proc) a1))
def jT (a1:Int) (a2:List Edge):Option ((List Edge×Int) ⊕ ((List Int×(List (Int×Int))×Int) ⊕ aI)) :=
 some (.inl (a2,w64 (a1 + 1)))
def jU (a0:aI) (a2:List Int):(List Edge×Int)→Option ((List Edge×Int) ⊕ ((List Int×(List (Int×Int))×Int) ⊕ aI))
 | (a3,a1)=>bif decide (a1 < (a2.length:Int)) then must (0≤a1∧a1 < (a2.length:Int)) (bif decide (idx a2 a1 ≥ 0) then (gy (⟨a0.h,a0.asks,a3⟩:aI) a1 (idx a2 a1) 1 (-1)).bind fun a4=>jT a1 a4.edges else (jT a1 a3)) else (out (out (some (⟨a0.h,a0.asks,a3⟩:aI))))
def jV (a0:aI):(List Int×(List (Int×Int))×Int)→Option ((List Int×(List (Int×Int))×Int) ⊕ aI)
 | (a2,a3,a1)=>bif decide (a1 ≥ 0) then must (0≤a1∧a1 < (a2.length:Int)) ((iW a0 a1).bind fun a4=>bif !a4 then jR a1 (a2.set a1.toNat (-1)) a3 else (must (0≤a1∧a1 < (a0.h.Txns.length:Int)) (bif gL a3 ((idx a0.h.Txns a1).Proc) then must (0≤a1∧a1 < ((a2.set a1.toNat (-1)).length:Int)) (jS a0 a3 a1 ((a2.set a1.toNat (-1)).set a1.toNat (mat a3 ((idx a0.h.Txns a1).Proc)))) else (jS a0 a3 a1 (a2.set a1.toNat (-1)))))) else (iter (jU a0 a2) (a0.edges,0))
def aR (a0:aI):Option aI :=
 must (0≤(a0.h.Txns.length:Int)∧(a0.h.Txns.length:Int)≤9223372036854775807∧(8:Int) * (a0.h.Txns.length:Int)≤281474976710656) (iter (jV a0) (List.replicate (a0.h.Txns.length:Int).toNat (default:Int),[],w64 (((a0.h.Txns.length:Int).toNat:Int) - 1)))
def ni (a2:Int) (a1:List Edge):Option ((List Edge×Int) ⊕ ((List Edge×Int) ⊕ aI)) :=
 some (.inl (a1,w64 (a2 + 1)))
def ku (a0:aI) (a3:Int) (a2:List Edge) (a1:Int) (a4:Bool):Option ((List Edge×Int) ⊕ ((List Edge×Int) ⊕ aI)) :=
 bif a4 then (gy (⟨a0.h,a0.asks,a2⟩:aI) a3 a1 2 (-1)).bind fun a5=>ni a1 a5.edges else (ni a1 a2)
def rf (a0:aI) (a2:Int):(List Edge×Int)→Option ((List Edge×Int) ⊕ ((List Edge×Int) ⊕ aI))
 | (a3,a1)=>bif decide (a1 < (a0.h.Txns.length:Int)) then must (0≤a1∧a1 < (a0.h.Txns.length:Int)) ((iW (⟨a0.h,a0.asks,a3⟩:aI) a2).bind fun a5=>bif a5 then (iW (⟨a0.h,a0.asks,a3⟩:aI) a1).bind fun a4=>bif a4 then ku a0 a2 a3 a1 (decide ((idx a0.h.Txns a2).To < (idx a0.h.Txns a1).From)) else (ku a0 a2 a3 a1 false) else (ku a0 a2 a3 a1 false)) else (out (some (.inl (a3,w64 (a2 + 1)))))
def rq (a0:aI):(List Edge×Int)→Option ((List Edge×Int) ⊕ aI)
 | (a2,a1)=>bif decide (a1 < (a0.h.Txns.length:Int)) then must (0≤a1∧a1 < (a0.h.Txns.length:Int)) (iter (rf a0 a1) (a2,0)) else (out (some (⟨a0.h,a0.asks,a2⟩:aI)))
def bY (a0:aI):Option aI :=
 iter (rq a0) (a0.edges,0)
def jY (a0:Int) (a1:aO) (a2:aI):Option Bool :=
 bif (a0 == a1.Ask.Txn) then some true else ((iW a2 a0).bind fun y5=>some (!y5))
def kY (a0:aO) (a1:Int):Option Bool :=
 bif ((a0.sources.length:Int) == 1) then must (0≤(0:Int)∧(0:Int) < (a0.sources.length:Int)) (some (idx a0.sources (0:Int) == a1)) else (some false)
def lw (a0:aO) (a1:Int) (a2:aO):Option Bool :=
 bif (a0.Ask.Txn == a1) then bif (a0.Ask.Key == a2.Ask.Key) then must (0≤(0:Int)∧(0:Int) < (a2.sources.length:Int)) ((kY a0 (idx a2.sources (0:Int))).bind fun a3=>some a3) else (some false) else (some false)
def fU (a0:List aO) (a1c0:Int) (a1c1:aO):Int→Option (Int ⊕ Int)
 | a1=>bif decide (a1 < (a0.length:Int)) then must (0≤a1∧a1 < (a0.length:Int)) ((lw (⟨((idx a0 a1).Ask),(idx a0 a1).sources,(idx a0 a1).parts,(idx a0 a1).made,(idx a0 a1).kind⟩:aO) a1c0 a1c1).bind fun a2=>bif a2 then out (some a1) else (some (.inl (w64 (a1 + 1))))) else (out (some (-1)))
def bD (a0:List aO) (a1c0:Int) (a1c1:aO):Option Int :=
 iter (fU a0 a1c0 a1c1) 0
def dR (a0:List aO) (a1c0:Int) (a1c1:aO):Option Bool :=
 (bD a0 a1c0 a1c1).bind fun y3=>some (decide (y3 ≥ 0))
def iH (a0:aI) (a1:aO) (a2:Int) (a4:Bool):Option Bool :=
 bif a4 then some false else ((dR a0.asks a2 a1).bind fun a3=>some a3)
def fD (a0:aI) (a1:aO) (a2:Int):Option Bool :=
 (kY a1 (-1)).bind fun a3=>bif a3 then some true else (bif a1.made then (slices_Contains_int a1.parts a2).bind fun a4=>some (!a4) else (bif (a1.kind != 1) then iH a0 a1 a2 true else (bif ((a1.sources.length:Int) != 1) then iH a0 a1 a2 true else (must (0≤(0:Int)∧(0:Int) < (a1.sources.length:Int)) (iH a0 a1 a2 (idx a1.sources (0:Int) == a2))))))
def gG (a0:List Int) (a1c0:aO) (a1c1:aI):Int→Option (Int ⊕ Int)
 | a1=>bif decide (a1 < (a0.length:Int)) then must (0≤a1∧a1 < (a0.length:Int)) ((jY (idx a0 a1) a1c0 a1c1).bind fun a2=>bif a2 then out (some a1) else (some (.inl (w64 (a1 + 1))))) else (out (some (-1)))
def bO (a0:List Int) (a1c0:aO) (a1c1:aI):Option Int :=
 iter (gG a0 a1c0 a1c1) 0
def gz (a0:List Int) (a1c0:aO) (a1c1:aI):List Int×Int→Option ((List Int×Int) ⊕ List Int)
 | (l,x)=>bif decide (x < (a0.length:Int)) then must (0≤x∧x < (a0.length:Int)) ((jY (idx a0 x) a1c0 a1c1).bind fun y=>bif !y then (some (.inl (l++[idx a0 x],w64 (x + 1)))) else (some (.inl (l,w64 (x + 1))))) else (out (some l))
def bK (a0:List Int) (a1c0:aO) (a1c1:aI):Option (List Int) :=
 (bO a0 a1c0 a1c1).bind fun i=>bif i == -1 then some a0 else must (0≤i∧i < (a0.length:Int)) (iter (gz a0 a1c0 a1c1) (a0.take i.toNat,w64 (i + 1)))
def oF (a2:Int) (a1:List Edge):Option ((List Edge×Int) ⊕ aI) :=
 some (.inl (a1,w64 (a2 + 1)))
def sF (a0:aI) (a1:aO) (a4:List Int):(List Edge×Int)→Option ((List Edge×Int) ⊕ aI)
 | (a3,a2)=>bif decide (a2 < (a4.length:Int)) then must (0≤a2∧a2 < (a4.length:Int)) ((fD (⟨a0.h,a0.asks,a3⟩:aI) a1 (idx a4 a2)).bind fun a6=>bif a6 then (gy (⟨a0.h,a0.asks,a3⟩:aI) a1.Ask.Txn (idx a4 a2) 16 a1.Ask.Key).bind fun a5=>oF a2 a5.edges else (oF a2 a3)) else (out (some (⟨a0.h,a0.asks,a3⟩:aI)))
def jG (a0:aI) (a1:aO) (a3:List Int) (a2:List Edge):Option aI :=
 iter (sF a0 a1 a3) (a2,0)
def lC (a1:Int) (a2:List Edge):Option ((List Edge×Int) ⊕ aI) :=
 some (.inl (a2,w64 (a1 + 1)))
def oG (a2:Int) (a1:List Edge):Option ((List Edge×Int) ⊕ ((List Edge×Int) ⊕ aI)) :=
 some (.inl (a1,w64 (a2 + 1)))
def oH (a0:aI) (a1:aO) (a3:List Int) (a5:Int):(List Edge×Int)→Option ((List Edge×Int) ⊕ ((List Edge×Int) ⊕ aI))
 | (a4,a2)=>bif decide (a2 < (a3.length:Int)) then must (0≤a2∧a2 < (a3.length:Int)) ((slices_Contains_int a1.parts (idx a3 a2)).bind fun a6=>bif !a6 then (gy (⟨a0.h,a0.asks,a4⟩:aI) (idx a1.parts a5) (idx a3 a2) 8 a1.Ask.Key).bind fun a7=>oG a2 a7.edges else (oG a2 a4)) else (out (lC a5 a4))
def oI (a0:aI) (a1:aO) (a4:List Int) (a3:List Edge) (a2:Int) (a5:Bool):Option ((List Edge×Int) ⊕ aI) :=
 bif a5 then must (0≤w64 (a2 + 1)∧w64 (a2 + 1) < (a1.parts.length:Int)) ((gy (⟨a0.h,a0.asks,a3⟩:aI) (idx a1.parts a2) (idx a1.parts (w64 (a2 + 1))) 8 a1.Ask.Key).bind fun a6=>lC a2 a6.edges) else (iter (oH a0 a1 a4 a2) (a3,0))
def oJ (a0:aI) (a1:aO) (a4:List Int):(List Edge×Int)→Option ((List Edge×Int) ⊕ aI)
 | (a3,a2)=>bif decide (a2 < (a1.parts.length:Int)) then must (0≤a2∧a2 < (a1.parts.length:Int)) (bif (a1.kind == 2) then oI a0 a1 a4 a3 a2 (decide (w64 (a2 + 1) < (a1.parts.length:Int))) else (oI a0 a1 a4 a3 a2 false)) else (out (jG a0 a1 a4 a3))
def iR (a0:aI) (a1:aO) (a2:List Edge):Option aI :=
 (ed a0.h a1.Ask.Key).bind fun a4=>(bK a4 a1 (⟨a0.h,a0.asks,a2⟩:aI)).bind fun a3=>bif a1.made then iter (oJ a0 a1 a3) (a2,0) else (jG a0 a1 a3 a2)
def gU (a0:aI) (a1:aO) (a3:Bool):Option aI :=
 bif a3 then must (0≤(0:Int)∧(0:Int) < (a1.sources.length:Int)) ((gy a0 (idx a1.sources (0:Int)) a1.Ask.Txn 4 a1.Ask.Key).bind fun a2=>iR a0 a1 a2.edges) else (iR a0 a1 a0.edges)
def aG (a0:aI) (a1:aO):Option aI :=
 bif ((a1.sources.length:Int) == 1) then must (0≤(0:Int)∧(0:Int) < (a1.sources.length:Int)) (gU a0 a1 (decide (idx a1.sources (0:Int) ≥ 0))) else (gU a0 a1 false)
def xW (a2:Int) (a1:List aO):Option ((List aO×Int) ⊕ (di×Int)) :=
 some (.inl (a1,w64 (a2 + 1)))
def uJ (a7:List Ask×Int) (a1:List aO) (a2:Int) (a5:Int) (a6:List Int×Int) (a4:List Int×Bool×Int) (a3:Bool):Option ((List aO×Int) ⊕ (di×Int)) :=
 must (((a1.length + 1) + (a1.length + 1) / 4 + 192) * 112≤281474976710656∧a1.length + 1≤9223372036854775807) (xW a2 (a1++([(⟨(idx a7.1 a2),a6.1,a4.1,a3,a5⟩:aO)]:List aO)))
def xX (a0:History) (a2:List Ask×Int) (a6:List aO) (a1:Int) (a4:Int):Option ((List aO×Int) ⊕ (di×Int)) :=
 (pq a0 (idx a2.1 a1)).bind fun a5=>(sD a0 (idx a2.1 a1)).bind fun a3=>bif a3.2.1 then uJ a2 a6 a1 a4 a5 a3 (decide ((((idx a2.1 a1).Base).length:Int) > 0)) else (uJ a2 a6 a1 a4 a5 a3 false)
def uK (a0:History) (a2:List aO):(List Edge×Int)→Option ((List Edge×Int) ⊕ ((List aO×Int) ⊕ (di×Int)))
 | (a3,a1)=>bif decide (a1 < (a2.length:Int)) then must (0≤a1∧a1 < (a2.length:Int)) ((aG (⟨a0,a2,a3⟩:aI) (⟨((idx a2 a1).Ask),(idx a2 a1).sources,(idx a2 a1).parts,(idx a2 a1).made,(idx a2 a1).kind⟩:aO)).bind fun a4=>some (.inl (a4.edges,w64 (a1 + 1)))) else (out (out (some ((⟨(a0.Txns.length:Int),a3⟩:di),0))))
def xY (a0:History) (a3:List Ask×Int):(List aO×Int)→Option ((List aO×Int) ⊕ (di×Int))
 | (a2,a1)=>bif decide (a1 < (a3.1.length:Int)) then must (0≤a1∧a1 < (a3.1.length:Int)) ((gq a0 ((idx a3.1 a1).Key)).bind fun a4=>xX a0 a3 a2 a1 a4) else ((aR (⟨a0,a2,([]:List Edge)⟩:aI)).bind fun a5=>(bY (⟨a0,a2,a5.edges⟩:aI)).bind fun a6=>iter (uK a0 a2) (a6.edges,0))
def dY (a0:History):Option (di×Int) :=
 (kr a0).bind fun a1=>bif (a1.2 != 0) then some ((⟨0,([]:List Edge)⟩:di),a1.2) else (iter (xY a0 a1) ([],0))
def ul (a0:History):Option (List Spot×Int) :=
 (mJ a0).bind fun a1=>some (a1.1.bad,a1.2)
def pu (a0:List Spot) (a1:Spot):Int→Option (Int ⊕ Int)
 | a2=>bif decide (a2 < (a0.length:Int)) then must (0≤a2∧a2 < (a0.length:Int)) (bif ((a1.Txn == (idx a0 a2).Txn) && ((a1.Place == (idx a0 a2).Place) && true)) then out (some a2) else (some (.inl (w64 (a2 + 1))))) else (out (some (-1)))
def gI (a0:List Spot) (a1:Spot):Option Int :=
 iter (pu a0 a1) 0
def jw (a0:List Spot) (a1:Spot):Option Bool :=
 (gI a0 a1).bind fun y5=>some (decide (y5 ≥ 0))
def mM (a0:Ask) (a1:History):Option Bool :=
 (bu a1 a0).bind fun y7=>some (decide ((y7.length:Int) > 0))
def gV (a0:List Ask) (a1c0:History):Int→Option (Int ⊕ Int)
 | a1=>bif decide (a1 < (a0.length:Int)) then must (0≤a1∧a1 < (a0.length:Int)) ((mM (idx a0 a1) a1c0).bind fun a2=>bif a2 then out (some a1) else (some (.inl (w64 (a1 + 1))))) else (out (some (-1)))
def bU (a0:List Ask) (a1c0:History):Option Int :=
 iter (gV a0 a1c0) 0
def gN (a0:List Ask) (a1c0:History):List Ask×Int→Option ((List Ask×Int) ⊕ List Ask)
 | (l,x)=>bif decide (x < (a0.length:Int)) then must (0≤x∧x < (a0.length:Int)) ((mM (idx a0 x) a1c0).bind fun y=>bif !y then (some (.inl (l++[idx a0 x],w64 (x + 1)))) else (some (.inl (l,w64 (x + 1))))) else (out (some l))
def bH (a0:List Ask) (a1c0:History):Option (List Ask) :=
 (bU a0 a1c0).bind fun i=>bif i == -1 then some a0 else must (0≤i∧i < (a0.length:Int)) (iter (gN a0 a1c0) (a0.take i.toNat,w64 (i + 1)))
def qf (a0:History):Option (List Ask×Int) :=
 (kr a0).bind fun y7=>bif (y7.2 != 0) then some (([]:List Ask),y7.2) else ((bH y7.1 a0).bind fun a1=>some (a1,0))
def vU (a0:Ask) (a1:bQ):Option Bool :=
 some ((a0.Txn == a1.Spot.Txn) && ((a0.Place == a1.Spot.Place) && true))
def nS (a0:Int) (a1:di):Option Bool :=
 bif decide (a0 ≥ 0) then some (decide (a0 < a1.N)) else (some false)
def um (a0:Int):Option Int :=
 must (0≤(1:Int)∧(1:Int) < (far:Int)) (must (0≤(2:Int)∧(2:Int) < (far:Int)) (must (0≤(4:Int)∧(4:Int) < (far:Int)) (must (0≤(8:Int)∧(8:Int) < (far:Int)) (must (0≤(16:Int)∧(16:Int) < (far:Int)) (must (0≤(32:Int)∧(32:Int) < (far:Int)) (some (dA .i64 (w64 (IntKind.wrap .u64 ((IntKind.wrap .u64 ((IntKind.wrap .u64 ((dA .u64 (IntKind.wrap .u64 ((fP .u64 (IntKind.wrap .u64 ((dA .u64 (fP .u64 (IntKind.wrap .u64 ((dA .u64 (fP .u64 a0 (1:Int)) 6148914691236517205) + (dA .u64 a0 6148914691236517205))) (2:Int)) 3689348814741910323) + (dA .u64 (IntKind.wrap .u64 ((dA .u64 (fP .u64 a0 (1:Int)) 6148914691236517205) + (dA .u64 a0 6148914691236517205))) 3689348814741910323))) (4:Int)) + (IntKind.wrap .u64 ((dA .u64 (fP .u64 (IntKind.wrap .u64 ((dA .u64 (fP .u64 a0 (1:Int)) 6148914691236517205) + (dA .u64 a0 6148914691236517205))) (2:Int)) 3689348814741910323) + (dA .u64 (IntKind.wrap .u64 ((dA .u64 (fP .u64 a0 (1:Int)) 6148914691236517205) + (dA .u64 a0 6148914691236517205))) 3689348814741910323))))) 1085102592571150095) + (fP .u64 (dA .u64 (IntKind.wrap .u64 ((fP .u64 (IntKind.wrap .u64 ((dA .u64 (fP .u64 (IntKind.wrap .u64 ((dA .u64 (fP .u64 a0 (1:Int)) 6148914691236517205) + (dA .u64 a0 6148914691236517205))) (2:Int)) 3689348814741910323) + (dA .u64 (IntKind.wrap .u64 ((dA .u64 (fP .u64 a0 (1:Int)) 6148914691236517205) + (dA .u64 a0 6148914691236517205))) 3689348814741910323))) (4:Int)) + (IntKind.wrap .u64 ((dA .u64 (fP .u64 (IntKind.wrap .u64 ((dA .u64 (fP .u64 a0 (1:Int)) 6148914691236517205) + (dA .u64 a0 6148914691236517205))) (2:Int)) 3689348814741910323) + (dA .u64 (IntKind.wrap .u64 ((dA .u64 (fP .u64 a0 (1:Int)) 6148914691236517205) + (dA .u64 a0 6148914691236517205))) 3689348814741910323))))) 1085102592571150095) (8:Int)))) + (fP .u64 (IntKind.wrap .u64 ((dA .u64 (IntKind.wrap .u64 ((fP .u64 (IntKind.wrap .u64 ((dA .u64 (fP .u64 (IntKind.wrap .u64 ((dA .u64 (fP .u64 a0 (1:Int)) 6148914691236517205) + (dA .u64 a0 6148914691236517205))) (2:Int)) 3689348814741910323) + (dA .u64 (IntKind.wrap .u64 ((dA .u64 (fP .u64 a0 (1:Int)) 6148914691236517205) + (dA .u64 a0 6148914691236517205))) 3689348814741910323))) (4:Int)) + (IntKind.wrap .u64 ((dA .u64 (fP .u64 (IntKind.wrap .u64 ((dA .u64 (fP .u64 a0 (1:Int)) 6148914691236517205) + (dA .u64 a0 6148914691236517205))) (2:Int)) 3689348814741910323) + (dA .u64 (IntKind.wrap .u64 ((dA .u64 (fP .u64 a0 (1:Int)) 6148914691236517205) + (dA .u64 a0 6148914691236517205))) 3689348814741910323))))) 1085102592571150095) + (fP .u64 (dA .u64 (IntKind.wrap .u64 ((fP .u64 (IntKind.wrap .u64 ((dA .u64 (fP .u64 (IntKind.wrap .u64 ((dA .u64 (fP .u64 a0 (1:Int)) 6148914691236517205) + (dA .u64 a0 6148914691236517205))) (2:Int)) 3689348814741910323) + (dA .u64 (IntKind.wrap .u64 ((dA .u64 (fP .u64 a0 (1:Int)) 6148914691236517205) + (dA .u64 a0 6148914691236517205))) 3689348814741910323))) (4:Int)) + (IntKind.wrap .u64 ((dA .u64 (fP .u64 (IntKind.wrap .u64 ((dA .u64 (fP .u64 a0 (1:Int)) 6148914691236517205) + (dA .u64 a0 6148914691236517205))) (2:Int)) 3689348814741910323) + (dA .u64 (IntKind.wrap .u64 ((dA .u64 (fP .u64 a0 (1:Int)) 6148914691236517205) + (dA .u64 a0 6148914691236517205))) 3689348814741910323))))) 1085102592571150095) (8:Int)))) (16:Int)))) + (fP .u64 (IntKind.wrap .u64 ((IntKind.wrap .u64 ((dA .u64 (IntKind.wrap .u64 ((fP .u64 (IntKind.wrap .u64 ((dA .u64 (fP .u64 (IntKind.wrap .u64 ((dA .u64 (fP .u64 a0 (1:Int)) 6148914691236517205) + (dA .u64 a0 6148914691236517205))) (2:Int)) 3689348814741910323) + (dA .u64 (IntKind.wrap .u64 ((dA .u64 (fP .u64 a0 (1:Int)) 6148914691236517205) + (dA .u64 a0 6148914691236517205))) 3689348814741910323))) (4:Int)) + (IntKind.wrap .u64 ((dA .u64 (fP .u64 (IntKind.wrap .u64 ((dA .u64 (fP .u64 a0 (1:Int)) 6148914691236517205) + (dA .u64 a0 6148914691236517205))) (2:Int)) 3689348814741910323) + (dA .u64 (IntKind.wrap .u64 ((dA .u64 (fP .u64 a0 (1:Int)) 6148914691236517205) + (dA .u64 a0 6148914691236517205))) 3689348814741910323))))) 1085102592571150095) + (fP .u64 (dA .u64 (IntKind.wrap .u64 ((fP .u64 (IntKind.wrap .u64 ((dA .u64 (fP .u64 (IntKind.wrap .u64 ((dA .u64 (fP .u64 a0 (1:Int)) 6148914691236517205) + (dA .u64 a0 6148914691236517205))) (2:Int)) 3689348814741910323) + (dA .u64 (IntKind.wrap .u64 ((dA .u64 (fP .u64 a0 (1:Int)) 6148914691236517205) + (dA .u64 a0 6148914691236517205))) 3689348814741910323))) (4:Int)) + (IntKind.wrap .u64 ((dA .u64 (fP .u64 (IntKind.wrap .u64 ((dA .u64 (fP .u64 a0 (1:Int)) 6148914691236517205) + (dA .u64 a0 6148914691236517205))) (2:Int)) 3689348814741910323) + (dA .u64 (IntKind.wrap .u64 ((dA .u64 (fP .u64 a0 (1:Int)) 6148914691236517205) + (dA .u64 a0 6148914691236517205))) 3689348814741910323))))) 1085102592571150095) (8:Int)))) + (fP .u64 (IntKind.wrap .u64 ((dA .u64 (IntKind.wrap .u64 ((fP .u64 (IntKind.wrap .u64 ((dA .u64 (fP .u64 (IntKind.wrap .u64 ((dA .u64 (fP .u64 a0 (1:Int)) 6148914691236517205) + (dA .u64 a0 6148914691236517205))) (2:Int)) 3689348814741910323) + (dA .u64 (IntKind.wrap .u64 ((dA .u64 (fP .u64 a0 (1:Int)) 6148914691236517205) + (dA .u64 a0 6148914691236517205))) 3689348814741910323))) (4:Int)) + (IntKind.wrap .u64 ((dA .u64 (fP .u64 (IntKind.wrap .u64 ((dA .u64 (fP .u64 a0 (1:Int)) 6148914691236517205) + (dA .u64 a0 6148914691236517205))) (2:Int)) 3689348814741910323) + (dA .u64 (IntKind.wrap .u64 ((dA .u64 (fP .u64 a0 (1:Int)) 6148914691236517205) + (dA .u64 a0 6148914691236517205))) 3689348814741910323))))) 1085102592571150095) + (fP .u64 (dA .u64 (IntKind.wrap .u64 ((fP .u64 (IntKind.wrap .u64 ((dA .u64 (fP .u64 (IntKind.wrap .u64 ((dA .u64 (fP .u64 a0 (1:Int)) 6148914691236517205) + (dA .u64 a0 6148914691236517205))) (2:Int)) 3689348814741910323) + (dA .u64 (IntKind.wrap .u64 ((dA .u64 (fP .u64 a0 (1:Int)) 6148914691236517205) + (dA .u64 a0 6148914691236517205))) 3689348814741910323))) (4:Int)) + (IntKind.wrap .u64 ((dA .u64 (fP .u64 (IntKind.wrap .u64 ((dA .u64 (fP .u64 a0 (1:Int)) 6148914691236517205) + (dA .u64 a0 6148914691236517205))) (2:Int)) 3689348814741910323) + (dA .u64 (IntKind.wrap .u64 ((dA .u64 (fP .u64 a0 (1:Int)) 6148914691236517205) + (dA .u64 a0 6148914691236517205))) 3689348814741910323))))) 1085102592571150095) (8:Int)))) (16:Int)))) (32:Int))))) 127)))))))
def mO (a0:Int):Option Int :=
 (um a0).bind fun y3=>some y3
def jy (a2:Int) (a1:Bool):Option (Int ⊕ Int) :=
 bif a1 then out (some 60) else (some (.inl (w64 (a2 + 1))))
def zV (a0:di):Int→Option (Int ⊕ Int)
 | a1=>bif decide (a1 < (a0.Edges.length:Int)) then must (0≤a1∧a1 < (a0.Edges.length:Int)) ((nS ((idx a0.Edges a1).From) a0).bind fun a2=>bif !a2 then jy a1 true else ((nS ((idx a0.Edges a1).To) a0).bind fun a4=>bif !a4 then jy a1 true else (bif decide ((idx a0.Edges a1).Kind < 1) then jy a1 true else (bif decide ((idx a0.Edges a1).Kind > 16) then jy a1 true else ((mO (IntKind.wrap .u64 ((idx a0.Edges a1).Kind))).bind fun a3=>jy a1 (a3 != 1)))))) else (out (some 0))
def mP (a0:di) (b9:Bool):Option Int :=
 bif b9 then some 60 else (iter (zV a0) 0)
def dG (a0:di):Option Int :=
 bif decide (a0.N < 0) then mP a0 true else (bif decide (a0.N > 64) then mP a0 true else (mP a0 (decide ((a0.Edges.length:Int) > 262144))))
def wH (a0:di) (a1:Int) (a2:Int):((List (List aY))×Int)→Option (((List (List aY))×Int) ⊕ (((List (List aY))×Int) ⊕ dS))
 | (a4,a3)=>bif decide (a3 < (a0.Edges.length:Int)) then must (0≤a3∧a3 < (a0.Edges.length:Int)) (must (0≤(idx a0.Edges a3).From∧(idx a0.Edges a3).From < (a4.length:Int)) (must (0≤(idx a0.Edges a3).To∧(idx a0.Edges a3).To < ((idx a4 ((idx a0.Edges a3).From)).length:Int)) (bif (dA .i64 ((idx a0.Edges a3).Kind) a1 != 0) then bif ((idx (idx a4 ((idx a0.Edges a3).From)) ((idx a0.Edges a3).To)).tight == 0) then bif (dA .i64 ((idx a0.Edges a3).Kind) a2 != 0) then bif ((idx ((idx a4 ((idx a0.Edges a3).From)).set ((idx a0.Edges a3).To).toNat (⟨w64 (a3 + 1),(idx (idx a4 ((idx a0.Edges a3).From)) ((idx a0.Edges a3).To)).loose⟩:aY)) ((idx a0.Edges a3).To)).loose == 0) then some (.inl (a4.set ((idx a0.Edges a3).From).toNat (((idx a4 ((idx a0.Edges a3).From)).set ((idx a0.Edges a3).To).toNat (⟨w64 (a3 + 1),(idx (idx a4 ((idx a0.Edges a3).From)) ((idx a0.Edges a3).To)).loose⟩:aY)).set ((idx a0.Edges a3).To).toNat (⟨(idx ((idx a4 ((idx a0.Edges a3).From)).set ((idx a0.Edges a3).To).toNat (⟨w64 (a3 + 1),(idx (idx a4 ((idx a0.Edges a3).From)) ((idx a0.Edges a3).To)).loose⟩:aY)) ((idx a0.Edges a3).To)).tight,w64 (a3 + 1)⟩:aY)),w64 (a3 + 1))) else (some (.inl (a4.set ((idx a0.Edges a3).From).toNat ((idx a4 ((idx a0.Edges a3).From)).set ((idx a0.Edges a3).To).toNat (⟨w64 (a3 + 1),(idx (idx a4 ((idx a0.Edges a3).From)) ((idx a0.Edges a3).To)).loose⟩:aY)),w64 (a3 + 1)))) else (some (.inl (a4.set ((idx a0.Edges a3).From).toNat ((idx a4 ((idx a0.Edges a3).From)).set ((idx a0.Edges a3).To).toNat (⟨w64 (a3 + 1),(idx (idx a4 ((idx a0.Edges a3).From)) ((idx a0.Edges a3).To)).loose⟩:aY)),w64 (a3 + 1)))) else (bif (dA .i64 ((idx a0.Edges a3).Kind) a2 != 0) then bif ((idx (idx a4 ((idx a0.Edges a3).From)) ((idx a0.Edges a3).To)).loose == 0) then some (.inl (a4.set ((idx a0.Edges a3).From).toNat ((idx a4 ((idx a0.Edges a3).From)).set ((idx a0.Edges a3).To).toNat (⟨(idx (idx a4 ((idx a0.Edges a3).From)) ((idx a0.Edges a3).To)).tight,w64 (a3 + 1)⟩:aY)),w64 (a3 + 1))) else (some (.inl (a4.set ((idx a0.Edges a3).From).toNat (idx a4 ((idx a0.Edges a3).From)),w64 (a3 + 1)))) else (some (.inl (a4.set ((idx a0.Edges a3).From).toNat (idx a4 ((idx a0.Edges a3).From)),w64 (a3 + 1))))) else (bif (dA .i64 ((idx a0.Edges a3).Kind) a2 != 0) then bif ((idx (idx a4 ((idx a0.Edges a3).From)) ((idx a0.Edges a3).To)).loose == 0) then some (.inl (a4.set ((idx a0.Edges a3).From).toNat ((idx a4 ((idx a0.Edges a3).From)).set ((idx a0.Edges a3).To).toNat (⟨(idx (idx a4 ((idx a0.Edges a3).From)) ((idx a0.Edges a3).To)).tight,w64 (a3 + 1)⟩:aY)),w64 (a3 + 1))) else (some (.inl (a4.set ((idx a0.Edges a3).From).toNat (idx a4 ((idx a0.Edges a3).From)),w64 (a3 + 1)))) else (some (.inl (a4.set ((idx a0.Edges a3).From).toNat (idx a4 ((idx a0.Edges a3).From)),w64 (a3 + 1)))))))) else (out (out (some (⟨a0,a4⟩:dS))))
def wI (a0:di) (a1:Int) (a2:Int):((List (List aY))×Int)→Option (((List (List aY))×Int) ⊕ dS)
 | (a4,a3)=>bif decide (a3 < (a0.N.toNat:Int)) then must (0≤a0.N∧a0.N≤9223372036854775807∧(16:Int) * a0.N≤281474976710656) (must (0≤a3∧a3 < (a4.length:Int)) (some (.inl (a4.set a3.toNat (List.replicate a0.N.toNat (default:aY)),w64 (a3 + 1))))) else (iter (wH a0 a1 a2) (a4,0))
def ig (a0:di) (a1:Int) (a2:Int):Option dS :=
 must (0≤a0.N∧a0.N≤9223372036854775807∧(24:Int) * a0.N≤281474976710656) (iter (wI a0 a1 a2) (List.replicate a0.N.toNat (default:List aY),0))
def ji (a3:List (Int×Int)):(List Int×Int)→Option ((List Int×Int) ⊕ (((List (Int×Int))×List Int×Bool×Int) ⊕ (((List (Int×Int))×List Int×Bool) ⊕ (List Int×Bool))))
 | (a1,a2)=>bif decide (a2 ≥ 0) then must (((1 + a1.length) + (1 + a1.length) / 4 + 192) * 8≤281474976710656∧1 + a1.length≤9223372036854775807) (some (.inl (([a2]:List Int)++a1,mat a3 a2))) else (out (out (out (some (a1,false)))))
def mQ (a3:Int) (a1:List (Int×Int)) (a2:List Int) (a4:Bool):Option (((List (Int×Int))×List Int×Bool×Int) ⊕ (((List (Int×Int))×List Int×Bool×Int) ⊕ (((List (Int×Int))×List Int×Bool) ⊕ (List Int×Bool)))) :=
 some (.inl (a1,a2,a4,w64 (a3 + 1)))
def jZ (a5:List Int) (a4:Int) (a3:List (Int×Int)) (a1:List Int) (a6:Bool) (a2:Int) (a7:Bool):Option (((List (Int×Int))×List Int×Bool×Int) ⊕ (((List (Int×Int))×List Int×Bool×Int) ⊕ (((List (Int×Int))×List Int×Bool) ⊕ (List Int×Bool)))) :=
 bif a7 then must (((a1.length + 1) + (a1.length + 1) / 4 + 192) * 8≤281474976710656∧a1.length + 1≤9223372036854775807) (mQ a2 (fJ a3 a2 (idx a5 a4)) (a1++([a2]:List Int)) false) else (mQ a2 a3 a1 a6)
def uo (a0:dS) (a3:List Int) (a1:Int):((List (Int×Int))×List Int×Bool×Int)→Option (((List (Int×Int))×List Int×Bool×Int) ⊕ (((List (Int×Int))×List Int×Bool×Int) ⊕ (((List (Int×Int))×List Int×Bool) ⊕ (List Int×Bool))))
 | (a4,a5,a6,a2)=>bif decide (a2 < a0.g.N) then bif !(gL a4 a2) then must (0≤idx a3 a1∧idx a3 a1 < (a0.links.length:Int)) (must (0≤a2∧a2 < ((idx a0.links (idx a3 a1)).length:Int)) (jZ a3 a1 a4 a5 a6 a2 (decide ((idx (idx a0.links (idx a3 a1)) a2).tight > 0)))) else (jZ a3 a1 a4 a5 a6 a2 false) else (out (some (.inl (a4,a5,a6,w64 (a1 + 1)))))
def uq (a0:dS) (a2:Int) (a3:List Int):((List (Int×Int))×List Int×Bool×Int)→Option (((List (Int×Int))×List Int×Bool×Int) ⊕ (((List (Int×Int))×List Int×Bool) ⊕ (List Int×Bool)))
 | (a4,a6,a5,a1)=>bif decide (a1 < (a3.length:Int)) then must (0≤a1∧a1 < (a3.length:Int)) (bif (idx a3 a1 == a2) then iter (ji a4) (([]:List Int),mat a4 (idx a3 a1)) else (iter (uo a0 a3 a1) (a4,a6,a5,0))) else (out (some (.inl (a4,a6,a5))))
def ut (a0:dS) (a2:Int):((List (Int×Int))×List Int×Bool)→Option (((List (Int×Int))×List Int×Bool) ⊕ (List Int×Bool))
 | (a3,a1,a4)=>bif decide ((a1.length:Int) > 0) then iter (uq a0 a2 a1) (a3,[],true,0) else (out (some (([]:List Int),true)))
def bn (a0:dS) (a1:Int) (a2:Int):Option (List Int×Bool) :=
 iter (ut a0 a2) (fJ ([]:List (Int×Int)) a1 (-1),([a1]:List Int),false)
def qG (a0:aY) (a1:Int):Option Int :=
 bif (a1 == 0) then some a0.loose else (some a0.tight)
def iX (a0:dS) (a1:List Int):(List Edge×Int)→Option ((List Edge×Int) ⊕ (List Edge))
 | (a3,a2)=>bif decide (a2 < (a1.length:Int)) then must (0≤a2∧a2 < (a1.length:Int)) (must (0≤idx a1 a2∧idx a1 a2 < (a0.links.length:Int)) (must ((a1.length:Int)≠0) (must (0≤(w64 (a2 + 1)).tmod (a1.length:Int)∧(w64 (a2 + 1)).tmod (a1.length:Int) < (a1.length:Int)) (must (0≤idx a1 ((w64 (a2 + 1)).tmod (a1.length:Int))∧idx a1 ((w64 (a2 + 1)).tmod (a1.length:Int)) < ((idx a0.links (idx a1 a2)).length:Int)) ((qG (idx (idx a0.links (idx a1 a2)) (idx a1 ((w64 (a2 + 1)).tmod (a1.length:Int)))) a2).bind fun a4=>must (0≤w64 (a4 - 1)∧w64 (a4 - 1) < (a0.g.Edges.length:Int)) (must (((a3.length + 1) + (a3.length + 1) / 4 + 192) * 32≤281474976710656∧a3.length + 1≤9223372036854775807) (some (.inl (a3++([(idx a0.g.Edges (w64 (a4 - 1)))]:List Edge),w64 (a2 + 1)))))))))) else (out (some a3))
def dM (a0:dS) (a1:List Int):Option (List Edge) :=
 iter (iX a0 a1) ([],0)
def kw (a3:Int) (a2:List Int) (a1:Bool):Option ((List Int×Bool×Int) ⊕ ((List Int×Bool×Int) ⊕ (List Edge×Int))) :=
 some (.inl (a2,a1,w64 (a3 + 1)))
def jA (a3:Int) (a5:List Int) (a4:Bool) (a2:Int) (a1:(List Int×Bool)) (a6:Bool):Option ((List Int×Bool×Int) ⊕ ((List Int×Bool×Int) ⊕ (List Edge×Int))) :=
 bif a6 then must (((1 + a1.1.length) + (1 + a1.1.length) / 4 + 192) * 8≤281474976710656∧1 + a1.1.length≤9223372036854775807) (kw a2 (([a3]:List Int)++a1.1) false) else (kw a2 a5 a4)
def wJ (a0:di) (a6:dS) (a1:Int):(List Int×Bool×Int)→Option ((List Int×Bool×Int) ⊕ ((List Int×Bool×Int) ⊕ (List Edge×Int)))
 | (a4,a3,a2)=>bif decide (a2 < a0.N) then must (0≤a1∧a1 < (a6.links.length:Int)) (must (0≤a2∧a2 < ((idx a6.links a1).length:Int)) (bif ((idx (idx a6.links a1) a2).loose == 0) then kw a2 a4 a3 else ((bn a6 a2 a1).bind fun a5=>bif !a5.2 then bif a3 then jA a1 a4 a3 a2 a5 true else (jA a1 a4 a3 a2 a5 (decide (w64 ((a5.1.length:Int) + 1) < (a4.length:Int)))) else (jA a1 a4 a3 a2 a5 false)))) else (out (some (.inl (a4,a3,w64 (a1 + 1)))))
def wK (a0:di) (a3:dS):(List Int×Bool×Int)→Option ((List Int×Bool×Int) ⊕ (List Edge×Int))
 | (a2,a5,a1)=>bif decide (a1 < a0.N) then iter (wJ a0 a3 a1) (a2,a5,0) else ((dM a3 a2).bind fun a4=>out (some (a4,0)))
def dh (a0:di) (a1:Int) (a2:Int):Option (List Edge×Int) :=
 (dG a0).bind fun y8=>bif (y8 != 0) then some (([]:List Edge),y8) else ((ig a0 a1 a2).bind fun a3=>iter (wK a0 a3) ([],true,0))
def lD {σ:Type} (a1:Int) (a2:σ):Option ((Int×σ) ⊕ σ) :=
 some (.inl (w64 (a1 + 1),a2))
def fV {σ:Type} (Y:σ→aj→Option (Bool×σ)) (a2:dS) (a3:aj) (a1:Int) (a5:σ) (a6:Bool):Option ((Int×σ) ⊕ σ) :=
 bif a6 then lD a1 a5 else ((Y a5 (⟨a1,((idx (idx a2.links a3.node) a1).tight == 0),a3.first_⟩:aj)).bind fun a4=>bif !a4.1 then out (some a4.2) else (lD a1 a4.2))
def pz {σ:Type} (Y:σ→aj→Option (Bool×σ)) (a2:dS) (a3:aj):(Int×σ)→Option ((Int×σ) ⊕ σ)
 | (a1,a4)=>bif decide (a1 < a2.g.N) then must (0≤a3.node∧a3.node < (a2.links.length:Int)) (must (0≤a1∧a1 < ((idx a2.links a3.node).length:Int)) (bif ((idx (idx a2.links a3.node) a1).tight == 0) then bif ((idx (idx a2.links a3.node) a1).loose == 0) then fV Y a2 a3 a1 a4 true else (fV Y a2 a3 a1 a4 a3.last_) else (fV Y a2 a3 a1 a4 false))) else (out (some a4))
def bv {σ:Type} (Y:σ→aj→Option (Bool×σ)) (a1:Int) (a2:dS) (a3:aj) (s0:σ):Option σ :=
 iter (pz Y a2 a3) (a1,s0)
def kZ (a0:dS) (a1:aj) (a2:Int):Option Unit :=
 some ()
def wB (a0:aj) (a1:Int):Option Bool :=
 bif (a0.node == a1) then bif a0.last_ then some (!a0.first_) else (some true) else (some false)
def lW (a0:List (aj×aj)) (a2:Int):(Int×Bool×Bool×List Int)→Option ((Int×Bool×Bool×List Int) ⊕ (List Int×Bool))
 | (a3,a5,a4,a1)=>bif decide (a3 ≥ 0) then must (((1 + a1.length) + (1 + a1.length) / 4 + 192) * 8≤281474976710656∧1 + a1.length≤9223372036854775807) (some (.inl ((mat a0 (⟨a3,a5,a4⟩:aj)).node,(mat a0 (⟨a3,a5,a4⟩:aj)).last_,(mat a0 (⟨a3,a5,a4⟩:aj)).first_,([a3]:List Int)++a1))) else (must (((1 + a1.length) + (1 + a1.length) / 4 + 192) * 8≤281474976710656∧1 + a1.length≤9223372036854775807) (out (some (([a2]:List Int)++a1,false))))
def jk (a0:List (aj×aj)) (a1:aj) (a2:Int):Option (List Int×Bool) :=
 iter (lW a0 a2) (a1.node,a1.last_,a1.first_,([]:List Int))
def sG (a2:List (aj×aj)) (a3:List aj) (a1:Bool):Option (Bool×(((List (aj×aj))×List aj×Bool) ⊕ Unit)) :=
 some (true,.inl (a2,a3,a1))
def lF (a1:Int):(((List (aj×aj))×List aj×Bool) ⊕ Unit)→aj→Option (Bool×(((List (aj×aj))×List aj×Bool) ⊕ Unit))
 | .inl (a4,a3,a6),a2=>(wB (⟨a2.node,a2.last_,a2.last_⟩:aj) a1).bind fun a5=>bif a5 then some (false,.inr ()) else (bif !(gL a4 (⟨a2.node,a2.last_,a2.last_⟩:aj)) then must (((a3.length + 1) + (a3.length + 1) / 4 + 192) * 16≤281474976710656∧a3.length + 1≤9223372036854775807) (sG (fJ a4 (⟨a2.node,a2.last_,a2.last_⟩:aj) (⟨(-1),false,false⟩:aj)) (a3++([(⟨a2.node,a2.last_,a2.last_⟩:aj)]:List aj)) false) else (sG a4 a3 a6))
 | .inr _,_=>none
def sH (a3:List (aj×aj)) (a1:List aj) (a2:Bool):Option (Bool×(((List (aj×aj))×List aj×Bool) ⊕ (List Int×Bool))) :=
 some (true,.inl (a3,a1,a2))
def lG (a1:Int) (a6:List aj) (a7:Int):(((List (aj×aj))×List aj×Bool) ⊕ (List Int×Bool))→aj→Option (Bool×(((List (aj×aj))×List aj×Bool) ⊕ (List Int×Bool)))
 | .inl (a3,a2,a9),a4=>(wB a4 a1).bind fun a8=>bif a8 then (jk a3 (idx a6 a7) a1).bind fun a5=>some (false,.inr (a5.1,a5.2)) else (bif !(gL a3 a4) then must (((a2.length + 1) + (a2.length + 1) / 4 + 192) * 16≤281474976710656∧a2.length + 1≤9223372036854775807) (sH (fJ a3 a4 (idx a6 a7)) (a2++([a4]:List aj)) false) else (sH a3 a2 a9))
 | .inr _,_=>none
def sI (a5:Int):(((List (aj×aj))×List aj×Bool) ⊕ (List Int×Bool))→Option (((List (aj×aj))×List aj×Bool×Int) ⊕ (((List (aj×aj))×List aj×Bool×Int) ⊕ (List Int×Bool)))
 | .inl ((a2,a3,a6))=>some (.inl (a2,a3,a6,w64 (a5 + 1)))
 | .inr ((a4,a1))=>out (out (some (a4,a1)))
def sJ (a0:dS) (a1:Int) (a3:List aj) (a7:Int):((List (aj×aj))×List aj×Bool×Int)→Option (((List (aj×aj))×List aj×Bool×Int) ⊕ (((List (aj×aj))×List aj×Bool×Int) ⊕ (List Int×Bool)))
 | (a6,a5,a4,a2)=>bif decide (a2 < (a3.length:Int)) then must (0≤a2∧a2 < (a3.length:Int)) ((kZ a0 (idx a3 a2) a1).bind fun a9=>(bv (lG a1 a3 a2) a1 a0 (idx a3 a2) (.inl (a6,a5,a4))).bind fun a8=>sI a2 a8) else (out (some (.inl (a6,a5,a4,w64 (a7 + 1)))))
def lH (a0:dS) (a1:Int) (a3:List (aj×aj)) (a2:List aj) (a4:Int) (a5:Bool):Option (((List (aj×aj))×List aj×Bool×Int) ⊕ (List Int×Bool)) :=
 bif a5 then iter (sJ a0 a1 a2 a4) (a3,[],true,0) else (out (some (([]:List Int),true)))
def sK (a0:dS) (a1:Int) (a2:Int):((List (aj×aj))×List aj×Bool×Int)→Option (((List (aj×aj))×List aj×Bool×Int) ⊕ (List Int×Bool))
 | (a5,a3,a6,a4)=>bif decide (a4 < a2) then lH a0 a1 a5 a3 a4 (decide ((a3.length:Int) > 0)) else (lH a0 a1 a5 a3 a4 false)
def sM (a0:dS) (a1:Int) (a2:Int):(((List (aj×aj))×List aj×Bool) ⊕ Unit)→Option (List Int×Bool)
 | .inl ((a4,a5,a3))=>iter (sK a0 a1 a2) (a4,a5,a3,2)
 | .inr _=>some (([a1]:List Int),false)
def aP (a0:dS) (a1:Int) (a2:Int):Option (List Int×Bool) :=
 (kZ a0 (⟨a1,false,false⟩:aj) a1).bind fun a4=>(bv (lF a1) a1 a0 (⟨a1,false,false⟩:aj) (.inl ([],[],true))).bind fun a3=>sM a0 a1 a2 a3
def qH (a0:aY) (a1:Int):Option Int :=
 bif decide (a0.tight > 0) then some a0.tight else (some a0.loose)
def iY (a0:dS) (a1:List Int):(List Edge×Int)→Option ((List Edge×Int) ⊕ (List Edge))
 | (a3,a2)=>bif decide (a2 < (a1.length:Int)) then must (0≤a2∧a2 < (a1.length:Int)) (must (0≤idx a1 a2∧idx a1 a2 < (a0.links.length:Int)) (must ((a1.length:Int)≠0) (must (0≤(w64 (a2 + 1)).tmod (a1.length:Int)∧(w64 (a2 + 1)).tmod (a1.length:Int) < (a1.length:Int)) (must (0≤idx a1 ((w64 (a2 + 1)).tmod (a1.length:Int))∧idx a1 ((w64 (a2 + 1)).tmod (a1.length:Int)) < ((idx a0.links (idx a1 a2)).length:Int)) ((qH (idx (idx a0.links (idx a1 a2)) (idx a1 ((w64 (a2 + 1)).tmod (a1.length:Int)))) a2).bind fun a4=>must (0≤w64 (a4 - 1)∧w64 (a4 - 1) < (a0.g.Edges.length:Int)) (must (((a3.length + 1) + (a3.length + 1) / 4 + 192) * 32≤281474976710656∧a3.length + 1≤9223372036854775807) (some (.inl (a3++([(idx a0.g.Edges (w64 (a4 - 1)))]:List Edge),w64 (a2 + 1)))))))))) else (out (some a3))
def dN (a0:dS) (a1:List Int):Option (List Edge) :=
 iter (iY a0 a1) ([],0)
def pE (a1:dS) (a2:List Int):Option (List Edge×Int) :=
 (dN a1 a2).bind fun a3=>some (a3,0)
def pF (a2:Int) (a1:List Int):Option ((List Int×Int) ⊕ (List Edge×Int)) :=
 some (.inl (a1,w64 (a2 + 1)))
def pG (a4:dS) (a2:List Int) (a1:Int) (a5:Int):Option ((List Int×Int) ⊕ (List Edge×Int)) :=
 bif decide (a5 < 2) then out (pE a4 a2) else ((aP a4 a1 a5).bind fun a3=>bif !a3.2 then pF a1 a3.1 else (pF a1 a2))
def wL (a0:di) (a2:dS):(List Int×Int)→Option ((List Int×Int) ⊕ (List Edge×Int))
 | (a1,a3)=>bif decide (a3 < a0.N) then bif decide ((a1.length:Int) > 0) then pG a2 a1 a3 (a1.length:Int) else (pG a2 a1 a3 (w64 (a0.N + 1))) else (out (pE a2 a1))
def dm (a0:di) (a1:Int) (a2:Int):Option (List Edge×Int) :=
 (dG a0).bind fun y8=>bif (y8 != 0) then some (([]:List Edge),y8) else ((ig a0 a1 a2).bind fun a3=>iter (wL a0 a3) ([],0))
def lX (a0:di) (a1:Int):Option (List Edge×Int) :=
 (dm a0 a1 0).bind fun y7=>some (y7.1,y7.2)
def uQ (a0:di) (a1:Int) (a2:Int):Option (List Edge×Int) :=
 (lX a0 a1).bind fun y7=>some (y7.1,y7.2)
def iI {σ:Type} (Y:σ→fC→Option (Bool×σ)) (s0:σ):Option σ :=
 (Y s0 (⟨3,1,13,0,1,81⟩:fC)).bind fun y2=>bif !y2.1 then some y2.2 else ((Y y2.2 (⟨4,4,5,16,2,54⟩:fC)).bind fun y6=>bif !y6.1 then some y6.2 else ((Y y6.2 (⟨5,6,13,16,3,55⟩:fC)).bind fun a1=>bif !a1.1 then some a1.2 else ((Y a1.2 (⟨6,7,29,0,1,81⟩:fC)).bind fun a2=>bif !a2.1 then some a2.2 else ((Y a2.2 (⟨7,8,31,0,1,81⟩:fC)).bind fun a3=>bif !a3.1 then some a3.2 else (some a3.2)))))
def qg (a1:List Edge) (a3:List (Int×Unit)) (a2:Int):Option (((List (Int×Unit))×Int) ⊕ (((List (Edge×Unit))×Int) ⊕ Bool)) :=
 some (.inl (fJ a3 ((idx a1 a2).From) (),w64 (a2 + 1)))
def nk (a1:List Edge) (a4:List (Int×Unit)) (a3:Int) (a2:Bool):Option (((List (Int×Unit))×Int) ⊕ (((List (Edge×Unit))×Int) ⊕ Bool)) :=
 bif a2 then out (out (some false)) else (qg a1 a4 a3)
def sN (a1:List Edge) (a4:List (Int×Unit)) (a3:Int) (a2:Bool):Option (((List (Int×Unit))×Int) ⊕ (((List (Edge×Unit))×Int) ⊕ Bool)) :=
 bif a2 then out (out (some false)) else (qg a1 a4 a3)
def vV (a1:List Edge) (a2:Int) (a3:Int) (a4:Int) (a6:List (Int×Unit)) (a5:Int) (a7:Bool):Option (((List (Int×Unit))×Int) ⊕ (((List (Edge×Unit))×Int) ⊕ Bool)) :=
 bif a7 then out (out (some false)) else (bif (a4 == 1) then bif !(dA .i64 ((idx a1 a5).Kind) a2 != 0) then out (out (some false)) else (qg a1 a6 a5) else (bif (a4 == 2) then bif (a5 == 0) then bif !(dA .i64 ((idx a1 a5).Kind) a3 != 0) then nk a1 a6 a5 true else (bif decide (a5 > 0) then nk a1 a6 a5 (!(dA .i64 ((idx a1 a5).Kind) a2 != 0)) else (nk a1 a6 a5 false)) else (bif decide (a5 > 0) then nk a1 a6 a5 (!(dA .i64 ((idx a1 a5).Kind) a2 != 0)) else (nk a1 a6 a5 false)) else (bif (a4 == 3) then bif !(dA .i64 ((idx a1 a5).Kind) a2 != 0) then bif !(dA .i64 ((idx a1 a5).Kind) a3 != 0) then sN a1 a6 a5 true else (sN a1 a6 a5 (dA .i64 ((idx a1 ((w64 (a5 + 1)).tmod (a1.length:Int))).Kind) a2 == 0)) else (sN a1 a6 a5 false) else (out (out (some false))))))
def yO (a1:List Edge) (a2:Int) (a3:Int) (a4:Int) (a7:List (Edge×Unit)):((List (Int×Unit))×Int)→Option (((List (Int×Unit))×Int) ⊕ (((List (Edge×Unit))×Int) ⊕ Bool))
 | (a6,a5)=>bif decide (a5 < (a1.length:Int)) then must (0≤a5∧a5 < (a1.length:Int)) (must ((a1.length:Int)≠0) (must (0≤(w64 (a5 + 1)).tmod (a1.length:Int)∧(w64 (a5 + 1)).tmod (a1.length:Int) < (a1.length:Int)) (bif !(gL a7 (idx a1 a5)) then vV a1 a2 a3 a4 a6 a5 true else (vV a1 a2 a3 a4 a6 a5 ((idx a1 a5).To != (idx a1 ((w64 (a5 + 1)).tmod (a1.length:Int))).From))))) else (out (out (some ((a6.length:Int) == (a1.length:Int)))))
def yP (a0:di) (a1:List Edge) (a2:Int) (a3:Int) (a4:Int):((List (Edge×Unit))×Int)→Option (((List (Edge×Unit))×Int) ⊕ Bool)
 | (a6,a5)=>bif decide (a5 < (a0.Edges.length:Int)) then must (0≤a5∧a5 < (a0.Edges.length:Int)) (some (.inl (fJ a6 (idx a0.Edges a5) (),w64 (a5 + 1)))) else (iter (yO a1 a2 a3 a4 a6) ([],0))
def vW (a0:di) (a1:List Edge) (a2:Int) (a3:Int) (a4:Int) (a5:Bool):Option Bool :=
 bif a5 then some false else (iter (yP a0 a1 a2 a3 a4) ([],0))
def cO (a0:di) (a1:List Edge) (a2:Int) (a3:Int) (a4:Int):Option Bool :=
 (dG a0).bind fun a5=>bif (a5 != 0) then vW a0 a1 a2 a3 a4 true else (vW a0 a1 a2 a3 a4 ((a1.length:Int) == 0))
def ib (a0:List Ask) (a1c0:bQ):Int→Option (Int ⊕ Int)
 | a1=>bif decide (a1 < (a0.length:Int)) then must (0≤a1∧a1 < (a0.length:Int)) ((vU (idx a0 a1) a1c0).bind fun a2=>bif a2 then out (some a1) else (some (.inl (w64 (a1 + 1))))) else (out (some (-1)))
def df (a0:List Ask) (a1c0:bQ):Option Int :=
 iter (ib a0 a1c0) 0
def eH (a0:List Ask) (a1c0:bQ):Option Bool :=
 (df a0 a1c0).bind fun y3=>some (decide (y3 ≥ 0))
def jo (a0:History) (a1:bQ):(Unit ⊕ Bool)→fC→Option (Bool×(Unit ⊕ Bool))
 | .inl _,a2=>bif (a2.kind == a1.Kind) then (dY a0).bind fun a3=>bif (a3.2 == 0) then bif (a1.Level == a2.level) then bif ((a1.Spot.Txn == 0) && ((a1.Spot.Place == 0) && true)) then (cO a3.1 a1.Cycle a2.d a2.r a2.rule).bind fun a4=>some (false,.inr a4) else (some (false,.inr false)) else (some (false,.inr false)) else (some (false,.inr false)) else (some (true,.inl ()))
 | .inr _,_=>none
def BI:(Unit ⊕ Bool)→Option Bool
 | .inl _=>some false
 | .inr a1=>some a1
def fA (a0:History) (a1:bQ):Option Bool :=
 (aF a0).bind fun a6=>bif (a6 != 0) then some false else (bif (a1.Kind == 1) then (ul a0).bind fun a5=>bif (a1.Level == 1) then bif ((a1.Cycle.length:Int) == 0) then (jw a5.1 a1.Spot).bind fun a2=>some a2 else (some false) else (some false) else (bif (a1.Kind == 2) then (qf a0).bind fun a4=>bif (a1.Level == 1) then bif ((a1.Cycle.length:Int) == 0) then (eH a4.1 a1).bind fun a7=>some a7 else (some false) else (some false) else ((iI (jo a0 a1) (.inl ())).bind fun a3=>BI a3)))
def Jc (c:Int) (a0:di) (a1:Int) (a2:Int):Option (List Edge×Int) :=
 bif c == 54 then dh a0 a1 a2 else (bif c == 55 then dm a0 a1 a2 else (bif c == 81 then uQ a0 a1 a2 else none))
def uL (a1:List bQ):Option (Bool×((List bQ) ⊕ Unit)) :=
 some (true,.inl a1)
def iA (a4:di×Int):((List bQ) ⊕ Unit)→fC→Option (Bool×((List bQ) ⊕ Unit))
 | .inl a1,a2=>(Jc a2.find a4.1 a2.d a2.r).bind fun a3=>bif decide ((a3.1.length:Int) > 0) then must (((a1.length + 1) + (a1.length + 1) / 4 + 192) * 56≤281474976710656∧a1.length + 1≤9223372036854775807) (uL (a1++([(⟨a2.kind,a2.level,(⟨0,0⟩:Spot),a3.1⟩:bQ)]:List bQ))) else (uL a1)
 | .inr _,_=>none
def Ht:((List bQ) ⊕ Unit)→Option (List bQ×Int)
 | .inl a1=>some (a1,0)
 | .inr _=>none
def qI (a0:History) (a3:List bQ):Option (List bQ×Int) :=
 (dY a0).bind fun a1=>bif (a1.2 != 0) then some (([]:List bQ),a1.2) else ((iI (iA a1) (.inl a3)).bind fun a2=>Ht a2)
def qJ (a0:History) (a1:List bQ):Option (List bQ×Int) :=
 (qf a0).bind fun a2=>bif decide ((a2.1.length:Int) > 0) then must (0≤(0:Int)∧(0:Int) < (a2.1.length:Int)) (must (((a1.length + 1) + (a1.length + 1) / 4 + 192) * 56≤281474976710656∧a1.length + 1≤9223372036854775807) (qI a0 (a1++([(⟨2,1,(⟨(idx a2.1 (0:Int)).Txn,(idx a2.1 (0:Int)).Place⟩:Spot),([]:List Edge)⟩:bQ)]:List bQ)))) else (qI a0 a1)
def bW (a0:History):Option (List bQ×Int) :=
 (ul a0).bind fun y7=>bif (y7.2 != 0) then some (([]:List bQ),y7.2) else (bif decide ((y7.1.length:Int) > 0) then must (0≤(0:Int)∧(0:Int) < (y7.1.length:Int)) (must (((0 + 1) + (0 + 1) / 4 + 192) * 56≤281474976710656∧0 + 1≤9223372036854775807) (qJ a0 (([]:List bQ)++([(⟨1,1,(idx y7.1 (0:Int)),([]:List Edge)⟩:bQ)]:List bQ)))) else (qJ a0 []))
def oK:Option Bool :=
 (bW (⟨([(⟨#[120]⟩:ByteArray)]:List ByteArray),([(⟨0,1,0,1,([(⟨1,0,1,false,([]:List Int)⟩:Op),(⟨5,0,0,true,([2]:List Int)⟩:Op)]:List Op)⟩:Txn)]:List Txn)⟩:History)).bind fun a1=>bif (a1.2 == 0) then bif ((a1.1.length:Int) == 1) then must (0≤(0:Int)∧(0:Int) < (a1.1.length:Int)) (bif ((idx a1.1 (0:Int)).Kind == 1) then bif ((((idx a1.1 (0:Int)).Spot).Txn == 0) && ((((idx a1.1 (0:Int)).Spot).Place == 1) && true)) then (fA (⟨([(⟨#[120]⟩:ByteArray)]:List ByteArray),([(⟨0,1,0,1,([(⟨1,0,1,false,([]:List Int)⟩:Op),(⟨5,0,0,true,([2]:List Int)⟩:Op)]:List Op)⟩:Txn)]:List Txn)⟩:History) (⟨(idx a1.1 (0:Int)).Kind,(idx a1.1 (0:Int)).Level,((idx a1.1 (0:Int)).Spot),(idx a1.1 (0:Int)).Cycle⟩:bQ)).bind fun a2=>some a2 else (some false) else (some false)) else (some false) else (some false)
def vJ (a0:List ByteArray) (a1:ByteArray):Int→Option (Int ⊕ Int)
 | a2=>bif decide (a2 < (a0.length:Int)) then must (0≤a2∧a2 < (a0.length:Int)) (bif sEq (idx a0 a2) a1 then out (some a2) else (some (.inl (w64 (a2 + 1))))) else (out (some (-1)))
def iJ (a0:List ByteArray) (a1:ByteArray):Option Int :=
 iter (vJ a0 a1) 0
def lI (a1:Int) (a2:Bool):Option (Int ⊕ Bool) :=
 bif a2 then out (some false) else (some (.inl (w64 (a1 + 1))))
def uR (a0:List ByteArray):Int→Option (Int ⊕ Bool)
 | a1=>bif decide (a1 < (a0.length:Int)) then must (0≤a1∧a1 < (a0.length:Int)) (bif decide (((idx a0 a1).size:Int) < 1) then lI a1 true else (bif decide (((idx a0 a1).size:Int) > 32) then lI a1 true else (must (0≤(0:Int)∧(0:Int)≤a1∧a1≤(a0.length:Int)) ((iJ (kP a0 (0:Int) a1) (idx a0 a1)).bind fun a2=>lI a1 (decide (a2 ≥ 0)))))) else (out (some (decide ((a0.length:Int)≤32))))
def fF (a0:List ByteArray):Option Bool :=
 iter (uR a0) 0
def kI (a2:Int) (a1:Bool):Option (Int ⊕ Bool) :=
 bif a1 then out (some false) else (some (.inl (w64 (a2 + 1))))
def nW (a0:List Txn) (a1:Int):Int→Option (Int ⊕ Bool)
 | a2=>bif decide (a2 < a1) then must (0≤a2∧a2 < (a0.length:Int)) (bif ((idx a0 a2).Proc == (idx a0 a1).Proc) then bif ((idx a0 a2).To == (-1)) then kI a2 true else (kI a2 (decide ((idx a0 a2).To ≥ (idx a0 a1).From))) else (kI a2 false)) else (out (some true))
def nX (a0:List Txn) (a1:Int) (a2:Bool):Option Bool :=
 bif a2 then some false else (iter (nW a0 a1) 0)
def eZ (a0:List Txn) (a1:Int) (a2:Bool):Option Bool :=
 bif a2 then some false else (bif decide (a1 > 0) then must (0≤w64 (a1 - 1)∧w64 (a1 - 1) < (a0.length:Int)) (nX a0 a1 (decide ((idx a0 a1).From≤(idx a0 (w64 (a1 - 1))).From))) else (nX a0 a1 false))
def aX (a0:List Txn) (a1:Int):Option Bool :=
 must (0≤a1∧a1 < (a0.length:Int)) (bif decide ((idx a0 a1).Status < 1) then eZ a0 a1 true else (bif decide ((idx a0 a1).Status > 3) then eZ a0 a1 true else (bif decide ((idx a0 a1).From < 0) then eZ a0 a1 true else (bif ((idx a0 a1).To != (-1)) then bif decide ((idx a0 a1).To≤(idx a0 a1).From) then eZ a0 a1 true else (bif ((idx a0 a1).To == (-1)) then eZ a0 a1 ((idx a0 a1).Status != 3) else (eZ a0 a1 false)) else (bif ((idx a0 a1).To == (-1)) then eZ a0 a1 ((idx a0 a1).Status != 3) else (eZ a0 a1 false))))))
def mr (a0:Call):Option Bool :=
 some (decide ((a0.Vals.length:Int)≤64))
def qB (a0:Call):Int→Option (Int ⊕ Bool)
 | a1=>bif decide (a1 < (a0.Vals.length:Int)) then must (0≤a1∧a1 < (a0.Vals.length:Int)) (must (0≤w64 (a1 - 1)∧w64 (a1 - 1) < (a0.Vals.length:Int)) (bif decide (idx a0.Vals a1≤idx a0.Vals (w64 (a1 - 1))) then out (some false) else (some (.inl (w64 (a1 + 1)))))) else (out (mr a0))
def jO (a0:Call) (a1:Bool):Option Bool :=
 bif a1 then some false else (bif (a0.Kind == 5) then some (decide ((a0.Vals.length:Int)≤1)) else (bif (a0.Kind == 8) then bif !a0.Got then some true else (some ((a0.Vals.length:Int) == 1)) else (bif (a0.Kind == 7) then iter (qB a0) 1 else (mr a0))))
def jP (a0:Call) (a1:Int) (a2:Bool):Option Bool :=
 bif a2 then some false else (bif decide (a0.Kind≤4) then bif !a0.Got then bif ((a0.Vals.length:Int) == 0) then bif (a0.Kind != 4) then some true else (bif decide (a0.Arg ≥ (-1048576)) then some (decide (a0.Arg≤1048576)) else (some false)) else (some false) else (some false) else (bif (a0.Arg != 0) then jO a0 true else (bif (a0.Got != (a1 == 1)) then jO a0 true else (bif !a0.Got then jO a0 (decide ((a0.Vals.length:Int) > 0)) else (jO a0 false)))))
def bP (a0:Call) (a1:Int):Option Bool :=
 bif decide (a0.Kind < 1) then jP a0 a1 true else (bif decide (a0.Kind > 8) then jP a0 a1 true else (bif decide ((a0.Key.size:Int) < 1) then jP a0 a1 true else (jP a0 a1 (decide ((a0.Key.size:Int) > 32)))))
def pI (a0:Event):Int→Option (Int ⊕ Bool)
 | a1=>bif decide (a1 < (a0.Calls.length:Int)) then must (0≤a1∧a1 < (a0.Calls.length:Int)) ((bP (idx a0.Calls a1) a0.Kind).bind fun a2=>bif !a2 then out (some false) else (some (.inl (w64 (a1 + 1))))) else (out (some true))
def lJ (a0:Event) (b9:Bool):Option Bool :=
 bif b9 then some false else (iter (pI a0) 0)
def eG (a0:Event):Option Bool :=
 bif decide (a0.Kind < 0) then lJ a0 true else (bif decide (a0.Kind > 3) then lJ a0 true else (lJ a0 (decide ((a0.Calls.length:Int) > 16))))
def uS (a0:List Event):Int→Option (Int ⊕ Int)
 | a1=>bif decide (a1 < (a0.length:Int)) then must (0≤a1∧a1 < (a0.length:Int)) ((eG (idx a0 a1)).bind fun a2=>bif !a2 then out (some 1) else (some (.inl (w64 (a1 + 1))))) else (out (some 0))
def jH (a0:List Event):Option Int :=
 bif decide ((a0.length:Int) > 256) then some 1 else (iter (uS a0) 0)
def sO (a0:Int):Option Int :=
 some (w64 (((w64 (a0 - 1)).tmod (4:Int)) + 1))
def iZ (a2:List ByteArray) (a5:List Int) (a1:List (List Int)) (a4:List Int) (a3:List Int):Option (Int×aQ) :=
 some (0,(⟨a2,a5,a1,a4,a3⟩:aQ))
def ja (a2:Int) (a6:List ByteArray) (a7:List Int) (a3:List Int) (a4:List Int) (a1:Int) (a5:List (List Int)) (a8:Bool):Option (Int×aQ) :=
 bif a8 then must (0≤a1∧a1 < (a4.length:Int)) (must (0≤a1∧a1 < (a3.length:Int)) (bif decide (idx (a3.set a1.toNat (w64 ((idx a3 a1) + 1))) a1 > 8) then some (51,(⟨a6,a7,a5,a3.set a1.toNat (w64 ((idx a3 a1) + 1)),a4.set a1.toNat a2⟩:aQ)) else (iZ a6 a7 a5 (a3.set a1.toNat (w64 ((idx a3 a1) + 1))) (a4.set a1.toNat a2)))) else (iZ a6 a7 a5 a3 a4)
def gZ (a1:Call) (a2:Int) (a6:List ByteArray) (a8:List Int) (a7:List Int) (a4:List Int) (a3:Int) (a5:List (List Int)):Option (Int×aQ) :=
 bif (a1.Kind == 4) then must (0≤a3∧a3 < (a4.length:Int)) (ja a2 a6 a8 a7 a4 a3 a5 (idx a4 a3 != a2)) else (ja a2 a6 a8 a7 a4 a3 a5 false)
def kR (a1:Call) (a2:Int) (a7:List ByteArray) (a9:List Int) (a4:List (List Int)) (a8:List Int) (a6:List Int) (a3:Int):Int→Option (Int ⊕ (Int×aQ))
 | a5=>must (0≤a3∧a3 < (a4.length:Int)) (bif decide (a5 < ((idx a4 a3).length:Int)) then must (0≤a5∧a5 < ((idx a4 a3).length:Int)) (bif (idx (idx a4 a3) a5 == a1.Arg) then out (some (3,(⟨a7,a9,a4,a8,a6⟩:aQ))) else (some (.inl (w64 (a5 + 1))))) else (must (((((idx a4 a3).length) + 1) + (((idx a4 a3).length) + 1) / 4 + 192) * 8≤281474976710656∧((idx a4 a3).length) + 1≤9223372036854775807) (out (gZ a1 a2 a7 a9 a8 a6 a3 (a4.set a3.toNat ((idx a4 a3)++([a1.Arg]:List Int)))))))
def kS (a1:Call) (a2:Int) (a5:List ByteArray) (a8:List Int) (a3:List (List Int)) (a6:List Int) (a4:List Int) (a7:Int) (a9:Bool):Option (Int×aQ) :=
 bif a9 then iter (kR a1 a2 a5 a8 a3 a6 a4 a7) 0 else (gZ a1 a2 a5 a8 a6 a4 a7 a3)
def gm (a1:Call) (a2:Int) (a7:List ByteArray) (a4:List Int) (a5:List (List Int)) (a8:List Int) (a6:List Int) (a3:Int):Option (Int×aQ) :=
 must (0≤a3∧a3 < (a4.length:Int)) ((sO a1.Kind).bind fun a9=>bif (idx a4 a3 != a9) then some (50,(⟨a7,a4,a5,a8,a6⟩:aQ)) else (bif (a1.Kind == 2) then kS a1 a2 a7 a4 a5 a8 a6 a3 true else (kS a1 a2 a7 a4 a5 a8 a6 a3 (a1.Kind == 3))))
def kT (a0:aQ) (a1:Call) (a2:Int) (a3:List Int):Option (Int×aQ) :=
 must (((a0.wrote.length + 1) + (a0.wrote.length + 1) / 4 + 192) * 24≤281474976710656∧a0.wrote.length + 1≤9223372036854775807) (must (((a0.incs.length + 1) + (a0.incs.length + 1) / 4 + 192) * 8≤281474976710656∧a0.incs.length + 1≤9223372036854775807) (must (((a0.last_.length + 1) + (a0.last_.length + 1) / 4 + 192) * 8≤281474976710656∧a0.last_.length + 1≤9223372036854775807) (gm a1 a2 (a0.keys++([a1.Key]:List ByteArray)) a3 (a0.wrote++([([]:List Int)]:List (List Int))) (a0.incs++([0]:List Int)) (a0.last_++([(-1)]:List Int)) (a0.keys.length:Int))))
def kU (a0:aQ) (a1:Call) (a2:Int):Option (Int×aQ) :=
 (sO a1.Kind).bind fun a3=>must (((a0.types.length + 1) + (a0.types.length + 1) / 4 + 192) * 8≤281474976710656∧a0.types.length + 1≤9223372036854775807) (kT a0 a1 a2 (a0.types++([a3]:List Int)))
def az (a0:aQ) (a1:Call) (a2:Int):Option (Int×aQ) :=
 (iJ a0.keys a1.Key).bind fun y5=>bif decide (y5 < 0) then bif decide ((a0.keys.length:Int) ≥ 32) then some (2,a0) else (must (((a0.keys.length + 1) + (a0.keys.length + 1) / 4 + 192) * 16≤281474976710656∧a0.keys.length + 1≤9223372036854775807) (kU a0 a1 a2)) else (gm a1 a2 a0.keys a0.types a0.wrote a0.incs a0.last_ y5)
def uT (a0:History) (a2:Int) (a3:List Call) (a1:Int):Option ((List Call×Int) ⊕ ((List ByteArray×List Int×(List (List Int))×List Int×List Int×Int) ⊕ Int)) :=
 some (.inl (a3++([(⟨(idx ((idx a0.Txns a2).Ops) a1).Kind,idx a0.Keys ((idx ((idx a0.Txns a2).Ops) a1).Key),(idx ((idx a0.Txns a2).Ops) a1).Arg,(idx ((idx a0.Txns a2).Ops) a1).Got,(idx ((idx a0.Txns a2).Ops) a1).Vals⟩:Call)]:List Call),w64 (a1 + 1)))
def pJ (a0:History) (a3:Int) (a1:List Call) (a2:Int) (a4:Bool):Option ((List Call×Int) ⊕ ((List ByteArray×List Int×(List (List Int))×List Int×List Int×Int) ⊕ Int)) :=
 bif a4 then out (out (some 1)) else (must (0≤(idx ((idx a0.Txns a3).Ops) a2).Key∧(idx ((idx a0.Txns a3).Ops) a2).Key < (a0.Keys.length:Int)) (must (((a1.length + 1) + (a1.length + 1) / 4 + 192) * 64≤281474976710656∧a1.length + 1≤9223372036854775807) (uT a0 a3 a1 a2)))
def iK (a8:Int) (a3:List Call):(List ByteArray×List Int×(List (List Int))×List Int×List Int×Int)→Option ((List ByteArray×List Int×(List (List Int))×List Int×List Int×Int) ⊕ ((List Call×Int) ⊕ ((List ByteArray×List Int×(List (List Int))×List Int×List Int×Int) ⊕ Int)))
 | (a5,a6,a4,a9,a7,a2)=>bif decide (a2 < (a3.length:Int)) then must (0≤a2∧a2 < (a3.length:Int)) ((az (⟨a5,a6,a4,a9,a7⟩:aQ) (idx a3 a2) a8).bind fun a1=>bif (a1.1 != 0) then out (out (out (some 1))) else (some (.inl (a1.2.keys,a1.2.types,a1.2.wrote,a1.2.incs,a1.2.last_,w64 (a2 + 1))))) else (out (out (some (.inl (a5,a6,a4,a9,a7,w64 (a8 + 1))))))
def iL (a0:History) (a4:List ByteArray) (a7:List Int) (a5:List (List Int)) (a9:List Int) (a8:List Int) (a1:Int):(List Call×Int)→Option ((List Call×Int) ⊕ ((List ByteArray×List Int×(List (List Int))×List Int×List Int×Int) ⊕ Int))
 | (a3,a2)=>bif decide (a2 < (((idx a0.Txns a1).Ops).length:Int)) then must (0≤a2∧a2 < (((idx a0.Txns a1).Ops).length:Int)) (bif decide ((idx ((idx a0.Txns a1).Ops) a2).Key < 0) then pJ a0 a1 a3 a2 true else (pJ a0 a1 a3 a2 (decide ((idx ((idx a0.Txns a1).Ops) a2).Key ≥ (a0.Keys.length:Int))))) else ((jH ([(⟨0,(idx a0.Txns a1).Status,a3⟩:Event)]:List Event)).bind fun a6=>bif (a6 != 0) then out (out (some 1)) else (iter (iK a1 a3) (a4,a7,a5,a9,a8,0)))
def lK (a0:History) (a2:List ByteArray) (a5:List Int) (a3:List (List Int)) (a7:List Int) (a6:List Int) (a1:Int) (a4:Bool):Option ((List ByteArray×List Int×(List (List Int))×List Int×List Int×Int) ⊕ Int) :=
 bif a4 then out (some 1) else (iter (iL a0 a2 a5 a3 a7 a6 a1) ([],0))
def lL (a0:History):(List ByteArray×List Int×(List (List Int))×List Int×List Int×Int)→Option ((List ByteArray×List Int×(List (List Int))×List Int×List Int×Int) ⊕ Int)
 | (a2,a4,a3,a6,a5,a1)=>bif decide (a1 < (a0.Txns.length:Int)) then must (0≤a1∧a1 < (a0.Txns.length:Int)) ((aX a0.Txns a1).bind fun a7=>bif !a7 then lK a0 a2 a4 a3 a6 a5 a1 true else (lK a0 a2 a4 a3 a6 a5 a1 (decide ((((idx a0.Txns a1).Ops).length:Int) > 16)))) else (out (some 0))
def jB (a0:History) (a1:Bool):Option Int :=
 bif a1 then some 1 else (iter (lL a0) ([],[],[],[],[],0))
def aJ (a0:History):Option Int :=
 (fF a0.Keys).bind fun a1=>bif !a1 then jB a0 true else (jB a0 (decide ((a0.Txns.length:Int) > 32)))
def wM (a0:Int):Option Bool :=
 some (decide (a0≤4))
def qh (a0:History) (a1:Ask):Option Int :=
 must (0≤a1.Txn∧a1.Txn < (a0.Txns.length:Int)) (must (0≤a1.Place∧a1.Place < (((idx a0.Txns a1.Txn).Ops).length:Int)) ((sO ((idx ((idx a0.Txns a1.Txn).Ops) a1.Place).Kind)).bind fun a2=>some a2))
def pM (a2:Int) (a1:List Int):Option ((List Int×Int) ⊕ (List Int)) :=
 some (.inl (a1,w64 (a2 + 1)))
def pO (a0:History) (a1:Int) (a2:List Int) (a3:Int) (a4:Bool):Option ((List Int×Int) ⊕ (List Int)) :=
 bif a4 then must (((a2.length + 1) + (a2.length + 1) / 4 + 192) * 8≤281474976710656∧a2.length + 1≤9223372036854775807) (pM a3 (a2++([(idx ((idx a0.Txns a1).Ops) a3).Arg]:List Int))) else (pM a3 a2)
def uU (a0:History) (a1:Int) (a2:Int):(List Int×Int)→Option ((List Int×Int) ⊕ (List Int))
 | (a4,a3)=>must (0≤a1∧a1 < (a0.Txns.length:Int)) (bif decide (a3 < (((idx a0.Txns a1).Ops).length:Int)) then must (0≤a3∧a3 < (((idx a0.Txns a1).Ops).length:Int)) (bif ((idx ((idx a0.Txns a1).Ops) a3).Key == a2) then (wM ((idx ((idx a0.Txns a1).Ops) a3).Kind)).bind fun a5=>pO a0 a1 a4 a3 a5 else (pO a0 a1 a4 a3 false)) else (out (some a4)))
def aZ (a0:History) (a1:Int) (a2:Int):Option (List Int) :=
 iter (uU a0 a1 a2) ([],0)
def nY (a1:Int) (a2:List Int):Option ((List Int×Int) ⊕ (List Int)) :=
 some (.inl (a2,w64 (a1 + 1)))
def kJ (a1:List Int) (a2:Int) (a3:Bool):Option ((List Int×Int) ⊕ (List Int)) :=
 bif a3 then must (((a1.length + 1) + (a1.length + 1) / 4 + 192) * 8≤281474976710656∧a1.length + 1≤9223372036854775807) (nY a2 (a1++([a2]:List Int))) else (nY a2 a1)
def tT (a0:History) (a1:Ask):(List Int×Int)→Option ((List Int×Int) ⊕ (List Int))
 | (a3,a2)=>bif decide (a2 < (a0.Txns.length:Int)) then bif (a2 != a1.Txn) then must (0≤a2∧a2 < (a0.Txns.length:Int)) (bif ((idx a0.Txns a2).Status != 2) then (aZ a0 a2 a1.Key).bind fun a4=>kJ a3 a2 (decide ((a4.length:Int) > 0)) else (kJ a3 a2 false)) else (kJ a3 a2 false) else (out (some a3))
def bq (a0:History) (a1:Ask):Option (List Int) :=
 iter (tT a0 a1) ([],0)
def wN (y7:List Int):(Int×Int)→Option ((Int×Int) ⊕ Int)
 | (a2,a1)=>bif decide (a1 < (y7.length:Int)) then must (0≤a1∧a1 < (y7.length:Int)) (some (.inl (w64 (a2 + (idx y7 a1)),w64 (a1 + 1)))) else (out (some a2))
def lc (a0:History) (a1:Int) (a2:Int):Option Int :=
 (aZ a0 a1 a2).bind fun y7=>iter (wN y7) (0,0)
def nZ (a1:Int) (a2:Int):Option ((Int×Int) ⊕ ((List Bool×Int) ⊕ (List Int))) :=
 some (.inl (a2,w64 (a1 + 1)))
def og (a1:Int) (a2:List Bool):Option ((List Bool×Int) ⊕ ((Int×Int) ⊕ ((List Bool×Int) ⊕ (List Int)))) :=
 some (.inl (a2,w64 (a1 + 1)))
def oh (a3:Int) (a2:List Bool) (a1:Int) (a4:Bool):Option ((List Bool×Int) ⊕ ((Int×Int) ⊕ ((List Bool×Int) ⊕ (List Int)))) :=
 bif a4 then must (0≤a1∧a1 < (a2.length:Int)) (bif idx a2 a1 then og a1 (a2.set a1.toNat true) else (must (0≤a1∧a1 < (far:Int)) (og a1 (a2.set a1.toNat (dA .i64 (fP .i64 a3 a1) 1 == 1))))) else (out (out (some (.inl (a2,w64 (a3 + 1))))))
def tV (a1:Ask) (y9:List Int) (a4:Int) (a5:Int):(List Bool×Int)→Option ((List Bool×Int) ⊕ ((Int×Int) ⊕ ((List Bool×Int) ⊕ (List Int))))
 | (a3,a2)=>bif decide (a2 < (y9.length:Int)) then must (0≤(0:Int)∧(0:Int) < (a1.Base.length:Int)) (oh a4 a3 a2 (a5 == idx a1.Base (0:Int))) else (oh a4 a3 a2 false)
def tX (a0:History) (a1:Ask) (y9:List Int) (a5:List Bool) (a4:Int):(Int×Int)→Option ((Int×Int) ⊕ ((List Bool×Int) ⊕ (List Int)))
 | (a3,a2)=>bif decide (a2 < (y9.length:Int)) then must (0≤a2∧a2 < (far:Int)) (bif (dA .i64 (fP .i64 a4 a2) 1 == 1) then must (0≤a2∧a2 < (y9.length:Int)) ((lc a0 (idx y9 a2) a1.Key).bind fun a6=>nZ a2 (w64 (a3 + a6))) else (nZ a2 a3)) else (iter (tV a1 y9 a4 a3) (a5,0))
def om (a2:Int) (a1:List Int):Option ((List Int×Int) ⊕ ((List Bool×Int) ⊕ (List Int))) :=
 some (.inl (a1,w64 (a2 + 1)))
def tY (y9:List Int) (a3:List Bool):(List Int×Int)→Option ((List Int×Int) ⊕ ((List Bool×Int) ⊕ (List Int)))
 | (a2,a1)=>bif decide (a1 < (y9.length:Int)) then must (0≤a1∧a1 < (a3.length:Int)) (bif idx a3 a1 then must (0≤a1∧a1 < (y9.length:Int)) (must (((a2.length + 1) + (a2.length + 1) / 4 + 192) * 8≤281474976710656∧a2.length + 1≤9223372036854775807) (om a1 (a2++([idx y9 a1]:List Int)))) else (om a1 a2)) else (out (out (some a2)))
def tZ (a0:History) (a1:Ask) (y9:List Int):(List Bool×Int)→Option ((List Bool×Int) ⊕ (List Int))
 | (a2,a3)=>must (0≤(y9.length:Int)∧(y9.length:Int) < (far:Int)) (bif decide (a3 < Fg .i64 1 (y9.length:Int)) then iter (tX a0 a1 y9 a2 a3) (0,0) else (iter (tY y9 a2) ([],0)))
def aT (a0:History) (a1:Ask):Option (List Int) :=
 (bq a0 a1).bind fun y9=>must (0≤(y9.length:Int)∧(y9.length:Int)≤9223372036854775807∧(1:Int) * (y9.length:Int)≤281474976710656) (iter (tZ a0 a1 y9) (List.replicate (y9.length:Int).toNat (default:Bool),1))
def mR (a0:List Int) (a1:List Int):Int→Option (Int ⊕ Bool)
 | a2=>bif decide (a2 < (a0.length:Int)) then must (0≤a2∧a2 < (a0.length:Int)) (must (0≤a2∧a2 < (a1.length:Int)) (bif (idx a0 a2 != idx a1 a2) then out (some false) else (some (.inl (w64 (a2 + 1)))))) else (out (some true))
def eT (a0:List Int) (a1:List Int):Option Bool :=
 bif ((a0.length:Int) != (a1.length:Int)) then some false else (iter (mR a0 a1) 0)
def ru (a0:List Int) (a1:List Int):Option Bool :=
 bif decide ((a1.length:Int) > (a0.length:Int)) then some false else (must (0≤(0:Int)∧(0:Int)≤(a1.length:Int)∧(a1.length:Int)≤(a0.length:Int)) ((eT (kP a0 (0:Int) (a1.length:Int)) a1).bind fun a2=>some a2))
def qC (a2:Int) (a1:Int):Option ((Int×Int) ⊕ ((List Int×List Int) ⊕ (List Int×Bool))) :=
 some (.inl (a1,w64 (a2 + 1)))
def vK (a0:History) (a1:Ask) (a2:List Int) (a4:List Int) (a5:Int):Int→Option (Int ⊕ ((Int×Int) ⊕ ((List Int×List Int) ⊕ (List Int×Bool))))
 | a3=>bif decide (a3 < (a2.length:Int)) then must (0≤a3∧a3 < (a2.length:Int)) (bif (idx a2 a3 == a5) then out (out (out (some (([]:List Int),false)))) else (some (.inl (w64 (a3 + 1))))) else (must (((a2.length + 1) + (a2.length + 1) / 4 + 192) * 8≤281474976710656∧a2.length + 1≤9223372036854775807) ((aZ a0 a5 a1.Key).bind fun a6=>must (0≤(a6.length:Int)∧(a6.length:Int)≤(a4.length:Int)∧(a4.length:Int)≤(a4.length:Int)) (out (out (some (.inl (a2++([a5]:List Int),kP a4 (a6.length:Int) (a4.length:Int))))))))
def vL (a0:History) (a1:Ask) (y9:List Int) (a6:List Int) (a4:List Int):(Int×Int)→Option ((Int×Int) ⊕ ((List Int×List Int) ⊕ (List Int×Bool)))
 | (a3,a2)=>bif decide (a2 < (y9.length:Int)) then must (0≤a2∧a2 < (y9.length:Int)) ((aZ a0 (idx y9 a2) a1.Key).bind fun a5=>(ru a4 a5).bind fun a7=>bif a7 then qC a2 (idx y9 a2) else (qC a2 a3)) else (bif decide (a3 < 0) then out (out (some (([]:List Int),false))) else (iter (vK a0 a1 a6 a4 a3) 0))
def mD (a0:History) (a1:Ask) (y9:List Int):(List Int×List Int)→Option ((List Int×List Int) ⊕ (List Int×Bool))
 | (a3,a2)=>bif decide ((a2.length:Int) > 0) then iter (vL a0 a1 y9 a3 a2) ((-1),0) else (out (some (a3,true)))
def dz (a0:History) (a1:Ask):Option (List Int×Bool) :=
 (bq a0 a1).bind fun y9=>iter (mD a0 a1 y9) ([],a1.Base)
def uV (a0:List Int) (a1:Int):Int→Option (Int ⊕ Bool)
 | a2=>bif decide (a2 < (a0.length:Int)) then must (0≤a2∧a2 < (a0.length:Int)) (bif (idx a0 a2 == a1) then out (some true) else (some (.inl (w64 (a2 + 1))))) else (out (some false))
def jI (a0:List Int) (a1:Int):Option Bool :=
 iter (uV a0 a1) 0
def ry (a2:Int) (a3:List Int) (a1:Int):Option ((List Int×Int×Int) ⊕ (List Int×Bool)) :=
 some (.inl (a3,a1,w64 (a2 + 1)))
def rz (a1:Int) (a2:Int):Option ((Int×Int) ⊕ ((List Int×Int×Int) ⊕ (List Int×Bool))) :=
 some (.inl (a2,w64 (a1 + 1)))
def rA (y9:List Int) (a1:List Int) (a3:Int) (a2:Int) (a4:Int) (a5:Bool):Option ((Int×Int) ⊕ ((List Int×Int×Int) ⊕ (List Int×Bool))) :=
 bif a5 then out (out (some (([]:List Int),false))) else (bif decide (a4 > 0) then must (((a1.length + 1) + (a1.length + 1) / 4 + 192) * 8≤281474976710656∧a1.length + 1≤9223372036854775807) (out (ry a2 (a1++([idx y9 a2]:List Int)) (w64 (a3 + a4)))) else (out (ry a2 a1 a3)))
def wO (a1:Ask) (y9:List Int) (a7:List Int) (a5:Int) (a6:Int) (a4:List Int):(Int×Int)→Option ((Int×Int) ⊕ ((List Int×Int×Int) ⊕ (List Int×Bool)))
 | (a3,a2)=>bif decide (a2 < (a4.length:Int)) then must (0≤a2∧a2 < (a4.length:Int)) ((jI a1.Base (idx a4 a2)).bind fun a8=>bif a8 then rz a2 (w64 (a3 + 1)) else (rz a2 a3)) else (bif decide (a3 > 0) then rA y9 a7 a5 a6 a3 (decide (a3 < (a4.length:Int))) else (rA y9 a7 a5 a6 a3 false))
def wP (a0:History) (a1:Ask) (y9:List Int):(List Int×Int×Int)→Option ((List Int×Int×Int) ⊕ (List Int×Bool))
 | (a3,a4,a2)=>bif decide (a2 < (y9.length:Int)) then must (0≤a2∧a2 < (y9.length:Int)) ((aZ a0 (idx y9 a2) a1.Key).bind fun a5=>iter (wO a1 y9 a3 a4 a2 a5) (0,0)) else (bif (a4 != (a1.Base.length:Int)) then out (some (([]:List Int),false)) else (out (some (a3,true))))
def cZ (a0:History) (a1:Ask):Option (List Int×Bool) :=
 (bq a0 a1).bind fun y9=>iter (wP a0 a1 y9) ([],0,0)
def sP (a1:List Int):Option (List Int) :=
 some a1
def jJ (a1:List Int):Option (List Int) :=
 some a1
def sQ (a1:Int) (a2:List Int):Option ((List Int×Int) ⊕ (List Int)) :=
 some (.inl (a2,w64 (a1 + 1)))
def sS (a0:History) (a1:Ask) (a5:List Int):(List Int×Int)→Option ((List Int×Int) ⊕ (List Int))
 | (a3,a2)=>bif decide (a2 < (a5.length:Int)) then must (0≤a2∧a2 < (a5.length:Int)) ((aZ a0 (idx a5 a2) a1.Key).bind fun a4=>must (0≤w64 ((a4.length:Int) - 1)∧w64 ((a4.length:Int) - 1) < (a4.length:Int)) (must (0≤(0:Int)∧(0:Int) < (a1.Base.length:Int)) (bif (idx a4 (w64 ((a4.length:Int) - 1)) == idx a1.Base (0:Int)) then must (((a3.length + 1) + (a3.length + 1) / 4 + 192) * 8≤281474976710656∧a3.length + 1≤9223372036854775807) (sQ a2 (a3++([idx a5 a2]:List Int))) else (sQ a2 a3)))) else (out (jJ a3))
def dC (a0:History) (a1:Ask):Option (List Int) :=
 (qh a0 a1).bind fun y7=>bif (y7 == 4) then (aT a0 a1).bind fun a3=>must (0≤(0:Int)∧(0:Int) < (a1.Base.length:Int)) (bif (idx a1.Base (0:Int) == 0) then must (((1 + a3.length) + (1 + a3.length) / 4 + 192) * 8≤281474976710656∧1 + a3.length≤9223372036854775807) (sP (([(-1)]:List Int)++a3)) else (sP a3)) else (bif ((a1.Base.length:Int) == 0) then some ([(-1)]:List Int) else (bif (y7 == 1) then (bq a0 a1).bind fun a5=>iter (sS a0 a1 a5) ([],0) else (bif (y7 == 2) then (dz a0 a1).bind fun a2=>bif a2.2 then must (0≤w64 ((a2.1.length:Int) - 1)∧w64 ((a2.1.length:Int) - 1) < (a2.1.length:Int)) (must (((0 + 1) + (0 + 1) / 4 + 192) * 8≤281474976710656∧0 + 1≤9223372036854775807) (jJ (([]:List Int)++([idx a2.1 (w64 ((a2.1.length:Int) - 1))]:List Int)))) else (jJ []) else ((cZ a0 a1).bind fun a4=>bif a4.2 then jJ a4.1 else (jJ [])))))
def uu (a0:History) (a1:Ask):Option (List Int×Bool) :=
 (qh a0 a1).bind fun a3=>bif (a3 == 2) then (dz a0 a1).bind fun a2=>some (a2.1,a2.2) else (bif (a3 == 3) then (cZ a0 a1).bind fun a4=>some (a4.1,a4.2) else (some (([]:List Int),false)))
def rJ (a0:Int):Option Bool :=
 bif decide (a0 ≥ 1) then some (decide (a0≤8)) else (some false)
def ae:(List (Int×Int)):=([((1,2):Int×Int),((2,6):Int×Int),((1,3):Int×Int),((3,4):Int×Int),((4,5):Int×Int),((5,6):Int×Int),((6,7):Int×Int),((7,8):Int×Int)]:List (Int×Int))
def jX:Option (List (Int×Int)) :=
 some ae
def zW:Option (List Int) :=
 (jX).bind fun y3=>(jX).bind fun a1=>(jX).bind fun a4=>(jX).bind fun a6=>(jX).bind fun a2=>(jX).bind fun a5=>(jX).bind fun a3=>(jX).bind fun a7=>some ([0,510,452,504,496,480,448,384,256]:List Int)
def jC (a0:Int) (a1:Int):Option Bool :=
 (rJ a0).bind fun a3=>bif a3 then (rJ a1).bind fun a4=>bif a4 then (zW).bind fun a2=>must (0≤a0∧a0 < ((9:Nat):Int)) (must (0≤a1∧a1 < (far:Int)) (some (dA .u16 (fP .u16 (idx ([idx a2 (0:Int),idx a2 (1:Int),idx a2 (2:Int),idx a2 (3:Int),idx a2 (4:Int),idx a2 (5:Int),idx a2 (6:Int),idx a2 (7:Int),idx a2 (8:Int)]:List Int) a0) a1) 1 == 1))) else (some false) else (some false)
def yQ {σ:Type} (Y:σ→(Int×ByteArray)→Option (Bool×σ)) (s0:σ):Option σ :=
 (Y s0 (1,(⟨#[114,101,97,100,45,99,111,109,109,105,116,116,101,100]⟩:ByteArray))).bind fun y1=>bif !y1.1 then some y1.2 else ((Y y1.2 (2,(⟨#[99,117,114,115,111,114,45,115,116,97,98,108,101]⟩:ByteArray))).bind fun y4=>bif !y4.1 then some y4.2 else ((Y y4.2 (3,(⟨#[114,101,97,100,45,97,116,111,109,105,99]⟩:ByteArray))).bind fun y7=>bif !y7.1 then some y7.2 else ((Y y7.2 (4,(⟨#[99,97,117,115,97,108]⟩:ByteArray))).bind fun a1=>bif !a1.1 then some a1.2 else ((Y a1.2 (5,(⟨#[112,114,101,102,105,120]⟩:ByteArray))).bind fun a5=>bif !a5.1 then some a5.2 else ((Y a5.2 (6,(⟨#[115,110,97,112,115,104,111,116]⟩:ByteArray))).bind fun a2=>bif !a2.1 then some a2.2 else ((Y a2.2 (7,(⟨#[115,101,114,105,97,108,105,122,97,98,108,101]⟩:ByteArray))).bind fun a3=>bif !a3.1 then some a3.2 else ((Y a3.2 (8,(⟨#[115,116,114,105,99,116]⟩:ByteArray))).bind fun a4=>bif !a4.1 then some a4.2 else (some a4.2))))))))
def uM (a0:Int):(Unit ⊕ ByteArray)→(Int×ByteArray)→Option (Bool×(Unit ⊕ ByteArray))
 | .inl _,(a1,a2)=>bif (a1 == a0) then some (false,.inr a2) else (some (true,.inl ()))
 | .inr _,_=>none
def BJ:(Unit ⊕ ByteArray)→Option (ByteArray×Int)
 | .inl _=>some ((⟨#[]⟩:ByteArray),1)
 | .inr a1=>some (a1,0)
def iT (a0:Int):Option (ByteArray×Int) :=
 (yQ (uM a0) (.inl ())).bind fun a1=>BJ a1
def yR (a1:Int) (a3:List bQ×Int):Int→Option (Int ⊕ (bQ×Bool×Int))
 | a2=>bif decide (a2 < (a3.1.length:Int)) then must (0≤a2∧a2 < (a3.1.length:Int)) ((jC ((idx a3.1 a2).Level) a1).bind fun a4=>bif a4 then out (some ((⟨(idx a3.1 a2).Kind,(idx a3.1 a2).Level,((idx a3.1 a2).Spot),(idx a3.1 a2).Cycle⟩:bQ),true,0)) else (some (.inl (w64 (a2 + 1))))) else (out (some ((⟨0,0,(⟨0,0⟩:Spot),([]:List Edge)⟩:bQ),false,0)))
def jl (a0:History) (a1:Int):Option (bQ×Bool×Int) :=
 (iT a1).bind fun a3=>bif (a3.2 != 0) then some ((⟨0,0,(⟨0,0⟩:Spot),([]:List Edge)⟩:bQ),false,a3.2) else ((bW a0).bind fun a2=>bif (a2.2 != 0) then some ((⟨0,0,(⟨0,0⟩:Spot),([]:List Edge)⟩:bQ),false,a2.2) else (iter (yR a1 a2) 0))
def fo:(List (Int×Int)):=([((1,2):Int×Int),((2,6):Int×Int),((1,3):Int×Int),((3,4):Int×Int),((4,5):Int×Int),((5,6):Int×Int),((6,7):Int×Int),((7,8):Int×Int)]:List (Int×Int))
def xA:Option (List (Int×Int)) :=
 some fo
def lM (a2:Int) (a1:Bool):Option (Int ⊕ Bool) :=
 bif a1 then out (some true) else (some (.inl (w64 (a2 + 1))))
def zX (rec:Int→Int→Option Bool) (a0:Int) (a1:Int):Int→Option (Int ⊕ Bool)
 | a2=>bif decide (a2 < (fo.length:Int)) then must (0≤a2∧a2 < (fo.length:Int)) (bif ((idx fo a2).1 == a0) then (rec ((idx fo a2).2) a1).bind fun a3=>lM a2 a3 else (lM a2 false)) else (out (some false))
def lN (rec:Int→Int→Option Bool) (a0:Int) (a1:Int) (b9:Bool):Option Bool :=
 bif b9 then some false else (bif (a0 == a1) then some true else ((xA).bind fun a2=>iter (zX rec a0 a1) 0))
def yS (rec:Int→Int→Option Bool) (a0:Int) (a1:Int):Option Bool :=
 bif decide (a0 < 1) then lN rec a0 a1 true else (bif decide (a0 > 8) then lN rec a0 a1 true else (bif decide (a1 < 1) then lN rec a0 a1 true else (lN rec a0 a1 (decide (a1 > 8)))))
def sU:Nat→Int→Int→Option Bool
 | 0=>fun _ _=>none
 | k + 1=>yS (sU k)
def dH (a0:Int) (a1:Int):Option Bool:=sU 64 a0 a1
def fB (a0:History) (a1:Int) (a2:Int) (a4:bQ×Bool×Int) (a3:bQ×Bool×Int) (a6:Bool):Option Bool :=
 bif a6 then some true else (bif !a4.2.1 then bif !a3.2.1 then some true else ((fA a0 a3.1).bind fun a7=>bif a7 then (jC a3.1.Level a2).bind fun a5=>some a5 else (some false)) else (bif a3.2.1 then (fA a0 a4.1).bind fun b0=>bif b0 then (jC a4.1.Level a1).bind fun a8=>bif a8 then bif !a3.2.1 then some true else ((fA a0 a3.1).bind fun a9=>bif a9 then (jC a3.1.Level a2).bind fun b1=>some b1 else (some false)) else (some false) else (some false) else (some false)))
def dO (a0:History) (a1:Int) (a2:Int):Option Bool :=
 (oK).bind fun y8=>bif !y8 then some false else ((jl a0 a1).bind fun a4=>(jl a0 a2).bind fun a3=>bif (a4.2.2 != 0) then fB a0 a1 a2 a4 a3 true else (bif (a3.2.2 != 0) then fB a0 a1 a2 a4 a3 true else ((jC a1 a2).bind fun a5=>fB a0 a1 a2 a4 a3 (!a5))))
end
end Go.Proofs.YtfpeabnehpclnaaGreatT
