import Derived.Test.YtfpeabnehpclnaaGreatY
namespace Go.Proofs.YtfpeabnehpclnaaGreatT
open Go Go.Proofs Go.Proofs.YtfpeabnehpclnaaGreatE
set_option linter.unusedVariables false
set_option linter.unusedSimpArgs false
set_option maxHeartbeats 0
set_option maxRecDepth 4096
structure dG where
 key:ByteArray
 arg:Int
 deriving Inhabited,DecidableEq
def dG.enc (x:dG):List Value:=[.string x.key,.int .i64 x.arg]
abbrev Ij:Ty dG:=Ty.flat 2 dG.enc (fun _=>rfl) (fun _=>IU rfl)
instance : Flat Ij dG.enc:=⟨Iff.rfl,Iff.rfl⟩
structure bu where
 keys:List ByteArray
 at_:List (ByteArray×Int)
 types:List Int
 facts:List (dG×Unit)
 incs:List (ByteArray×(List Int))
 deriving Inhabited
structure Call where
 Kind:Int
 Key:ByteArray
 Arg:Int
 Got:Bool
 Vals:List Int
 deriving Inhabited
abbrev Al:Ty Call:=Ty.iso (bV (aF .i64) (bV iL (bV (aF .i64) (bV qD (cZ 2 (aF .i64)))))) (fun g:Call=>(g.Kind,g.Key,g.Arg,g.Got,g.Vals))
abbrev wJ (N:BM):Ty Call:=Ty.iso (bV (aF .i64) (bV iL (bV (aF .i64) (bV qD (JS N (aF .i64)))))) (fun g:Call=>(g.Kind,g.Key,g.Arg,g.Got,g.Vals))
theorem JZ (N:BM):vz N (wJ N) Al:=Cs (jq lV (jq lV (jq lV (jq lV Ej))))
structure Event where
 Proc:Int
 Kind:Int
 Calls:List Call
 deriving Inhabited
abbrev Ik:Ty Event:=Ty.iso (bV (aF .i64) (bV (aF .i64) (cZ 129 Al))) (fun g:Event=>(g.Proc,g.Kind,g.Calls))
structure Op where
 Kind:Int
 Key:Int
 Arg:Int
 Got:Bool
 Vals:List Int
 deriving Inhabited
abbrev kOp:Ty Op:=Ty.iso (bV (aF .i64) (bV (aF .i64) (bV (aF .i64) (bV qD (cZ 2 (aF .i64)))))) (fun g:Op=>(g.Kind,g.Key,g.Arg,g.Got,g.Vals))
structure Txn where
 Proc:Int
 Status:Int
 From:Int
 To:Int
 Ops:List Op
 deriving Inhabited
abbrev kV:Ty Txn:=Ty.iso (bV (aF .i64) (bV (aF .i64) (bV (aF .i64) (bV (aF .i64) (cZ 70 kOp))))) (fun g:Txn=>(g.Proc,g.Status,g.From,g.To,g.Ops))
structure History where
 Keys:List ByteArray
 Txns:List Txn
 deriving Inhabited
structure Ask where
 Txn:Int
 Place:Int
 Key:Int
 Base:List Int
 deriving Inhabited
abbrev Gm:Ty Ask:=Ty.iso (bV (aF .i64) (bV (aF .i64) (bV (aF .i64) (cZ 2 (aF .i64))))) (fun g:Ask=>(g.Txn,g.Place,g.Key,g.Base))
structure gQ where
 Txn:Int
 Place:Int
 deriving Inhabited,DecidableEq
def gQ.enc (x:gQ):List Value:=[.int .i64 x.Txn,.int .i64 x.Place]
abbrev Gn:Ty gQ:=Ty.flat 2 gQ.enc (fun _=>rfl) (fun _=>IU rfl)
instance : Flat Gn gQ.enc:=⟨Iff.rfl,Iff.rfl⟩
structure eO where
 asks:List Ask
 bad:List gQ
 deriving Inhabited
structure aN where
 txn:Int
 args:List Int
 deriving Inhabited
abbrev gu:Ty aN:=Ty.iso (bV (aF .i64) (cZ 2 (aF .i64))) (fun g:aN=>(g.txn,g.args))
structure aH where
 Ask:Ask
 sources:List Int
 parts:List Int
 made:Bool
 kind:Int
 deriving Inhabited
abbrev iB:Ty aH:=Ty.iso (bV Gm (bV (cZ 3 (aF .i64)) (bV (cZ 3 (aF .i64)) (bV qD (aF .i64))))) (fun g:aH=>(g.Ask,g.sources,g.parts,g.made,g.kind))
structure Edge where
 From:Int
 To:Int
 Kind:Int
 Key:Int
 deriving Inhabited,DecidableEq
def Edge.enc (x:Edge):List Value:=[.int .i64 x.From,.int .i64 x.To,.int .i64 x.Kind,.int .i64 x.Key]
abbrev xq:Ty Edge:=Ty.flat 4 Edge.enc (fun _=>rfl) (fun _=>IU rfl)
instance : Flat xq Edge.enc:=⟨Iff.rfl,Iff.rfl⟩
structure az where
 h:History
 asks:List aH
 edges:List Edge
 deriving Inhabited
structure fT where
 N:Int
 Edges:List Edge
 deriving Inhabited
structure dO where
 h:History
 order:List Int
 at_:List (Int×Int)
 deriving Inhabited
structure Exec where
 Order:List Int
 Picks:List Int
 deriving Inhabited
structure aK where
 keys:List ByteArray
 types:List Int
 wrote:List (List Int)
 incs:List Int
 last_:List Int
 deriving Inhabited
abbrev jP (N:BM):Ty aH:=(Ty.iso (bV (Ty.iso (bV (aF .i64) (bV (aF .i64) (bV (aF .i64) (JS N (aF .i64))))) (fun g:Ask=>(g.Txn,g.Place,g.Key,g.Base))) (bV (GZ (aF .i64)) (bV (GZ (aF .i64)) (bV qD (aF .i64))))) (fun g:aH=>(g.Ask,g.sources,g.parts,g.made,g.kind)))
theorem zx (N:BM):vz N (jP N) iB:=(Cs (jq (Cs (jq lV (jq lV (jq lV Ej)))) (jq Ei (jq Ei (jq lV lV)))))
abbrev Rw2 (A:Option Addr) (c:Nat) (l:List Int):cu := .row (aF .i64) 2 A l.length c l
abbrev Rw3 (A:Option Addr) (c:Nat) (l:List Int):cu := .row (aF .i64) 3 A l.length c l
abbrev Rn3 (A:Option Addr) (n c:Nat) (l:List Int):cu := .row (aF .i64) 3 A n c l
abbrev Rw9 (A:Option Addr) (c:Nat) (l:List ByteArray):cu := .row iL 9 A l.length c l
abbrev Rn9 (A:Option Addr) (n c:Nat) (l:List ByteArray):cu := .row iL 9 A n c l
abbrev KJ (A:Option Addr) (c:Nat) (l:List gQ):cu := .row Gn 27 A l.length c l
abbrev jU (A:Option Addr) (c:Nat) (l:List Edge):cu := .row xq 43 A l.length c l
abbrev MZ (A:Option Addr) (c:Nat) (l:List Txn):cu := .row kV 65 A l.length c l
abbrev KL (A:Option Addr) (c:Nat) (l:List Op):cu := .row kOp 70 A l.length c l
abbrev PD (A:Option Addr) (n c:Nat) (l:List Op):cu := .row kOp 70 A n c l
abbrev Na (A:Option Addr) (c:Nat) (l:List Ask):cu := .row Gm 81 A l.length c l
abbrev Gp (A:Option Addr) (c:Nat) (l:List aN):cu := .row gu 209 A l.length c l
abbrev Or2 (A:Option Addr) (c:Nat) (l:List Int):cu:=orA noM (aF .i64) 2 A l.length c l
abbrev Or3 (A:Option Addr) (c:Nat) (l:List Int):cu:=orA noM (aF .i64) 3 A l.length c l
abbrev EN (b:Nat) (m:List (Int×Int)):cu:=Ew (fun x:Int => .int .i64 x) (fun x:Int => .int .i64 x) b m
abbrev Dt (b:Nat) (m:List (Int×Int)):cu:=Ew (fun x:Int => .int .i64 x) (fun x:Int => .int .i64 x) b m
abbrev Am (b:Nat) (m:List (ByteArray×Int)):cu:=Ew (fun x:ByteArray => .string x) (fun x:Int => .int .i64 x) b m
abbrev Ao (b:Nat) (m:List (dG×Unit)):cu:=Ew (fun x:dG => .agg #[.string x.key,.int .i64 x.arg]) (fun _:Unit => .agg #[]) b m
abbrev EO (b:Nat) (m:List (ByteArray×(List Int))):cu:=uX (fun x:ByteArray => .string x) (cZ 3 (aF .i64)) b m
abbrev EP (b:Nat) (m:List (Int×(List Int))):cu:=uX (fun x:Int => .int .i64 x) (cZ 2 (aF .i64)) b m
abbrev Du (b:Nat) (m:List (Int×Unit)):cu:=Ew (fun x:Int => .int .i64 x) (fun _:Unit => .agg #[]) b m
abbrev uP (x:History) (A0:Option Addr) (c0:Nat) (A1:Option Addr) (c1:Nat):List Value:=[vS A0 x.Keys.length c0,vS A1 x.Txns.length c1]
abbrev uQ (x:History) (A0:Option Addr) (c0:Nat) (A1:Option Addr) (c1:Nat):Value := .agg (uP x A0 c0 A1 c1).toArray
abbrev jV (b:Nat) (x:History) (A0:Option Addr) (c0:Nat) (A1:Option Addr) (c1:Nat):cu := .blk b 25 (uP x A0 c0 A1 c1)
abbrev KM (x:fT) (A1:Option Addr) (c1:Nat):List Value:=[vI x.N,vS A1 x.Edges.length c1]
abbrev OZ (x:fT) (A1:Option Addr) (c1:Nat):Value := .agg (KM x A1 c1).toArray
abbrev Il (b:Nat) (x:fT) (A1:Option Addr) (c1:Nat):cu := .blk b 38 (KM x A1 c1)
abbrev KN (x:Edge):List Value:=[vI x.From,vI x.To,vI x.Kind,vI x.Key]
abbrev KO (x:Edge):Value := .agg (KN x).toArray
abbrev OA (b:Nat) (x:Edge):cu := .blk b 43 (KN x)
abbrev Nb (x:Exec) (A0:Option Addr) (c0:Nat) (A1:Option Addr) (c1:Nat):List Value:=[vS A0 x.Order.length c0,vS A1 x.Picks.length c1]
abbrev Pb (x:Exec) (A0:Option Addr) (c0:Nat) (A1:Option Addr) (c1:Nat):Value := .agg (Nb x A0 c0 A1 c1).toArray
abbrev Nc (b:Nat) (x:Exec) (A0:Option Addr) (c0:Nat) (A1:Option Addr) (c1:Nat):cu := .blk b 60 (Nb x A0 c0 A1 c1)
abbrev xD (x:Txn) (A4:Option Addr) (c4:Nat):List Value:=[vI x.Proc,vI x.Status,vI x.From,vI x.To,vS A4 x.Ops.length c4]
abbrev Ka (x:Txn) (A4:Option Addr) (c4:Nat):Value := .agg (xD x A4 c4).toArray
abbrev BI (b:Nat) (x:Txn) (A4:Option Addr) (c4:Nat):cu := .blk b 65 (xD x A4 c4)
abbrev Gq (x:Op) (A4:Option Addr) (c4:Nat):List Value:=[vI x.Kind,vI x.Key,vI x.Arg,vB x.Got,vS A4 x.Vals.length c4]
abbrev PE (x:Op) (A4:Option Addr) (c4:Nat):Value := .agg (Gq x A4 c4).toArray
abbrev zy (b:Nat) (x:Op) (A4:Option Addr) (c4:Nat):cu := .blk b 70 (Gq x A4 c4)
abbrev BJ (x:Ask) (A3:Option Addr) (c3:Nat):List Value:=[vI x.Txn,vI x.Place,vI x.Key,vS A3 x.Base.length c3]
abbrev EA (x:Ask) (A3:Option Addr) (c3:Nat):Value := .agg (BJ x A3 c3).toArray
abbrev zU (b:Nat) (x:Ask) (A3:Option Addr) (c3:Nat):cu := .blk b 81 (BJ x A3 c3)
abbrev PG (x:az) (A0:Option Addr) (c0:Nat) (A1:Option Addr) (c1:Nat) (A2:Option Addr) (c2:Nat) (A3:Option Addr) (c3:Nat):List Value:=[vS A0 x.h.Keys.length c0,vS A1 x.h.Txns.length c1,vS A2 x.asks.length c2,vS A3 x.edges.length c3]
abbrev EB (b:Nat) (x:az) (A0:Option Addr) (c0:Nat) (A1:Option Addr) (c1:Nat) (A2:Option Addr) (c2:Nat) (A3:Option Addr) (c3:Nat):cu := .blk b 93 (PG x A0 c0 A1 c1 A2 c2 A3 c3)
abbrev Im (x:aH) (A3:Option Addr) (c3:Nat) (A4:Option Addr) (c4:Nat) (A5:Option Addr) (c5:Nat):List Value:=[vI x.Ask.Txn,vI x.Ask.Place,vI x.Ask.Key,vS A3 x.Ask.Base.length c3,vS A4 x.sources.length c4,vS A5 x.parts.length c5,vB x.made,vI x.kind]
abbrev Nf (x:aH) (A3:Option Addr) (c3:Nat) (A4:Option Addr) (c4:Nat) (A5:Option Addr) (c5:Nat):Value := .agg (Im x A3 c3 A4 c4 A5 c5).toArray
abbrev zz (b:Nat) (x:aH) (A3:Option Addr) (c3:Nat) (A4:Option Addr) (c4:Nat) (A5:Option Addr) (c5:Nat):cu := .blk b 96 (Im x A3 c3 A4 c4 A5 c5)
abbrev Gr (x:Event) (A2:Option Addr) (c2:Nat):List Value:=[vI x.Proc,vI x.Kind,vS A2 x.Calls.length c2]
abbrev Pd (x:Event) (A2:Option Addr) (c2:Nat):Value := .agg (Gr x A2 c2).toArray
abbrev Ou (b:Nat) (x:Event) (A2:Option Addr) (c2:Nat):cu := .blk b 124 (Gr x A2 c2)
abbrev Dv (x:Call) (A4:Option Addr) (c4:Nat):List Value:=[vI x.Kind,.string x.Key,vI x.Arg,vB x.Got,vS A4 x.Vals.length c4]
abbrev Gs (x:Call) (A4:Option Addr) (c4:Nat):Value := .agg (Dv x A4 c4).toArray
abbrev qH (b:Nat) (x:Call) (A4:Option Addr) (c4:Nat):cu := .blk b 129 (Dv x A4 c4)
abbrev KP (x:eO) (A0:Option Addr) (c0:Nat) (A1:Option Addr) (c1:Nat):List Value:=[vS A0 x.asks.length c0,vS A1 x.bad.length c1]
abbrev Pe (x:eO) (A0:Option Addr) (c0:Nat) (A1:Option Addr) (c1:Nat):Value := .agg (KP x A0 c0 A1 c1).toArray
abbrev EQ (x:dO) (A0:Option Addr) (c0:Nat) (A1:Option Addr) (c1:Nat) (A2:Option Addr) (c2:Nat) (b3:Nat):List Value:=[vS A0 x.h.Keys.length c0,vS A1 x.h.Txns.length c1,vS A2 x.order.length c2,.map (some b3)]
abbrev Jh (x:dO) (A0:Option Addr) (c0:Nat) (A1:Option Addr) (c1:Nat) (A2:Option Addr) (c2:Nat) (b3:Nat):Value := .agg (EQ x A0 c0 A1 c1 A2 c2 b3).toArray
abbrev wm (b:Nat) (x:dO) (A0:Option Addr) (c0:Nat) (A1:Option Addr) (c1:Nat) (A2:Option Addr) (c2:Nat) (b3:Nat):cu := .blk b 184 (EQ x A0 c0 A1 c1 A2 c2 b3)
abbrev Dw (x:aN) (A1:Option Addr) (c1:Nat):List Value:=[vI x.txn,vS A1 x.args.length c1]
abbrev KQ (x:aN) (A1:Option Addr) (c1:Nat):Value := .agg (Dw x A1 c1).toArray
abbrev ER (b:Nat) (x:aN) (A1:Option Addr) (c1:Nat):cu := .blk b 209 (Dw x A1 c1)
abbrev PH (b:Nat) (x0:Int) (A1:Option Addr) (c1:Nat) (x1:List Edge):List cu:=[.blk b 38 [vI x0,vS A1 x1.length c1],jU A1 c1 x1]
abbrev KR (b:Nat) (x:fT) (A1:Option Addr) (c1:Nat):List cu:=PH b x.N A1 c1 x.Edges
abbrev xX (b:Nat) (A0:Option Addr) (c0:Nat) (x0:List Ask) (A1:Option Addr) (c1:Nat) (x1:List gQ):List cu:=[.blk b 132 [vS A0 x0.length c0,vS A1 x1.length c1],Na A0 c0 x0,KJ A1 c1 x1]
abbrev Ov (b:Nat) (x:eO) (A0:Option Addr) (c0:Nat) (A1:Option Addr) (c1:Nat):List cu:=xX b A0 c0 x.asks A1 c1 x.bad
abbrev xY (b:Nat) (A0:Option Addr) (c0:Nat) (x0:List ByteArray) (b1:Nat) (x1:List (ByteArray×Int)) (A2:Option Addr) (c2:Nat) (x2:List Int) (b3:Nat) (x3:List (dG×Unit)) (b4:Nat) (x4:List (ByteArray×(List Int))):List cu:=[.blk b 199 [vS A0 x0.length c0,.map (some b1),vS A2 x2.length c2,.map (some b3),.map (some b4)],Rw9 A0 c0 x0,Am b1 x1,Rw3 A2 c2 x2,Ao b3 x3,EO b4 x4]
abbrev KS (b:Nat) (x:bu) (A0:Option Addr) (c0:Nat) (b1:Nat) (A2:Option Addr) (c2:Nat) (b3:Nat) (b4:Nat):List cu:=xY b A0 c0 x.keys b1 x.at_ A2 c2 x.types b3 x.facts b4 x.incs
theorem pR {H:BM} {x:Txn} {cs:List Value} (h:kV.rd H x cs):∃ A4 c4,cs=xD x A4 c4∧x.Ops.length≤c4∧rdS kOp H A4 x.Ops:=by
 obtain ⟨_,_,rfl,rfl,⟨_,_,rfl,rfl,⟨_,_,rfl,rfl,⟨_,_,rfl,rfl,⟨A0,c0,rfl,l0,r0⟩⟩⟩⟩⟩:=h;exact ⟨A0,c0,rfl,l0,r0⟩
theorem KT {H:BM} {x:Op} {cs:List Value} (h:kOp.rd H x cs):∃ A4 c4,cs=Gq x A4 c4∧x.Vals.length≤c4∧rdS (aF .i64) H A4 x.Vals:=by
 obtain ⟨_,_,rfl,rfl,⟨_,_,rfl,rfl,⟨_,_,rfl,rfl,⟨_,_,rfl,rfl,⟨A0,c0,rfl,l0,r0⟩⟩⟩⟩⟩:=h;exact ⟨A0,c0,rfl,l0,r0⟩
theorem KU {H:BM} {x:Ask} {cs:List Value} (h:Gm.rd H x cs):∃ A3 c3,cs=BJ x A3 c3∧x.Base.length≤c3∧rdS (aF .i64) H A3 x.Base:=by
 obtain ⟨_,_,rfl,rfl,⟨_,_,rfl,rfl,⟨_,_,rfl,rfl,⟨A0,c0,rfl,l0,r0⟩⟩⟩⟩:=h;exact ⟨A0,c0,rfl,l0,r0⟩
theorem Cw {H:BM} {x:aH} {cs:List Value} (h:iB.rd H x cs):∃ A3 c3 A4 c4 A5 c5,cs=Im x A3 c3 A4 c4 A5 c5∧x.Ask.Base.length≤c3∧rdS (aF .i64) H A3 x.Ask.Base∧x.sources.length≤c4∧rdS (aF .i64) H A4 x.sources∧x.parts.length≤c5∧rdS (aF .i64) H A5 x.parts:=by
 obtain ⟨_,_,rfl,⟨_,_,rfl,rfl,⟨_,_,rfl,rfl,⟨_,_,rfl,rfl,⟨A0,c0,rfl,l0,r0⟩⟩⟩⟩,⟨_,_,rfl,⟨A1,c1,rfl,l1,r1⟩,⟨_,_,rfl,⟨A2,c2,rfl,l2,r2⟩,⟨_,_,rfl,rfl,rfl⟩⟩⟩⟩:=h;exact ⟨A0,c0,A1,c1,A2,c2,rfl,l0,r0,l1,r1,l2,r2⟩
theorem Ng {H:BM} {x:Event} {cs:List Value} (h:Ik.rd H x cs):∃ A2 c2,cs=Gr x A2 c2∧x.Calls.length≤c2∧rdS Al H A2 x.Calls:=by
 obtain ⟨_,_,rfl,rfl,⟨_,_,rfl,rfl,⟨A0,c0,rfl,l0,r0⟩⟩⟩:=h;exact ⟨A0,c0,rfl,l0,r0⟩
theorem OB {H:BM} {x:Call} {cs:List Value} (h:Al.rd H x cs):∃ A4 c4,cs=Dv x A4 c4∧x.Vals.length≤c4∧rdS (aF .i64) H A4 x.Vals:=by
 obtain ⟨_,_,rfl,rfl,⟨_,_,rfl,rfl,⟨_,_,rfl,rfl,⟨_,_,rfl,rfl,⟨A0,c0,rfl,l0,r0⟩⟩⟩⟩⟩:=h;exact ⟨A0,c0,rfl,l0,r0⟩
theorem gm {H:BM} {x:aN} {cs:List Value} (h:gu.rd H x cs):∃ A1 c1,cs=Dw x A1 c1∧x.args.length≤c1∧rdS (aF .i64) H A1 x.args:=by
 obtain ⟨_,_,rfl,rfl,⟨A0,c0,rfl,l0,r0⟩⟩:=h;exact ⟨A0,c0,rfl,l0,r0⟩
theorem KV (x:Txn) {R4:List cu} {c4:List Value} (h4:Mk (cZ 70 kOp) R4 x.Ops c4):Mk kV ([]++([]++([]++([]++R4)))) x ([vI x.Proc]++([vI x.Status]++([vI x.From]++([vI x.To]++c4)))):=vZ (g:=fun g:Txn=>(g.Proc,g.Status,g.From,g.To,g.Ops)) (x:=x) (eD (ow _ _ rfl) (eD (ow _ _ rfl) (eD (ow _ _ rfl) (eD (ow _ _ rfl) h4))))
theorem KW (x:Op) {R4:List cu} {c4:List Value} (h4:Mk (cZ 2 (aF .i64)) R4 x.Vals c4):Mk kOp ([]++([]++([]++([]++R4)))) x ([vI x.Kind]++([vI x.Key]++([vI x.Arg]++([vB x.Got]++c4)))):=vZ (g:=fun g:Op=>(g.Kind,g.Key,g.Arg,g.Got,g.Vals)) (x:=x) (eD (ow _ _ rfl) (eD (ow _ _ rfl) (eD (ow _ _ rfl) (eD (ow _ _ rfl) h4))))
theorem Ow (x:Ask) {R3:List cu} {c3:List Value} (h3:Mk (cZ 2 (aF .i64)) R3 x.Base c3):Mk Gm ([]++([]++([]++R3))) x ([vI x.Txn]++([vI x.Place]++([vI x.Key]++c3))):=vZ (g:=fun g:Ask=>(g.Txn,g.Place,g.Key,g.Base)) (x:=x) (eD (ow _ _ rfl) (eD (ow _ _ rfl) (eD (ow _ _ rfl) h3)))
theorem EC (x:aN) {R1:List cu} {c1:List Value} (h1:Mk (cZ 2 (aF .i64)) R1 x.args c1):Mk gu ([]++R1) x ([vI x.txn]++c1):=vZ (g:=fun g:aN=>(g.txn,g.args)) (x:=x) (eD (ow _ _ rfl) h1)
noncomputable def lG (a0:List ByteArray) (a1:ByteArray):Int→Option (Int ⊕ Int)
 | a2=>bif decide (a2 < (a0.length:Int)) then must (0≤a2∧a2 < (a0.length:Int)) (bif sEq a1 (idx a0 a2) then out (some a2) else (some (.inl (w64 (a2 + 1))))) else (out (some (-1)))
noncomputable def slices_Index_string (a0:List ByteArray) (a1:ByteArray):Option Int :=
 iter (lG a0 a1) 0
noncomputable def slices_Contains_string (a0:List ByteArray) (a1:ByteArray):Option Bool :=
 (slices_Index_string a0 a1).bind fun y3=>some (decide (y3 ≥ 0))
noncomputable def oP:Option bu :=
 some (⟨([]:List ByteArray),([]:List (ByteArray×Int)),([]:List Int),([]:List (dG×Unit)),([]:List (ByteArray×(List Int)))⟩:bu)
noncomputable def wK (a0:Int):Option (Int×Int) :=
 bif (a0 == 5) then some (0,1) else (bif (a0 == 8) then some (1,1) else (some (0,64)))
noncomputable def rH (a0:Call) (a1:Int) (a2:Bool):Option (Int ⊕ Bool) :=
 bif a2 then must (0≤w64 (a1 - 1)∧w64 (a1 - 1) < (a0.Vals.length:Int)) (must (0≤a1∧a1 < (a0.Vals.length:Int)) (bif decide (idx a0.Vals (w64 (a1 - 1)) ≥ idx a0.Vals a1) then out (some false) else (some (.inl (w64 (a1 + 1)))))) else (out (some true))
noncomputable def rJ (a0:Call):Int→Option (Int ⊕ Bool)
 | a1=>bif (a0.Kind == 7) then rH a0 a1 (decide (a1 < (a0.Vals.length:Int))) else (rH a0 a1 false)
noncomputable def rM (a0:Call) (a1:Bool):Option Bool :=
 bif a1 then some false else (iter (rJ a0) 1)
noncomputable def rO (a0:Call) (a2:Bool):Option Bool :=
 bif a2 then some false else (bif !a0.Got then some ((a0.Vals.length:Int) == 0) else ((wK a0.Kind).bind fun a1=>bif decide ((a0.Vals.length:Int) < a1.1) then rM a0 true else (rM a0 (decide ((a0.Vals.length:Int) > a1.2)))))
noncomputable def mi (a0:Call) (a1:Int) (a2:Bool):Option Bool :=
 bif a2 then some false else (bif decide (a0.Kind≤4) then bif !a0.Got then bif ((a0.Vals.length:Int) == 0) then bif (a0.Kind != 4) then some true else (bif decide ((-1048576)≤a0.Arg) then some (decide (a0.Arg≤1048576)) else (some false)) else (some false) else (some false) else (bif (a0.Arg != 0) then rO a0 true else (rO a0 (a0.Got != (a1 == 1)))))
noncomputable def cB (a0:Call) (a1:Int):Option Bool :=
 bif decide (a0.Kind < 1) then mi a0 a1 true else (bif decide (a0.Kind > 8) then mi a0 a1 true else (bif sEq a0.Key (⟨#[]⟩:ByteArray) then mi a0 a1 true else (mi a0 a1 (decide ((a0.Key.size:Int) > 32)))))
noncomputable def tN (a0:Call) (a1:Event):Option Bool :=
 (cB a0 a1.Kind).bind fun y5=>some (!y5)
noncomputable def fP (a0:List Call) (a1c0:Event):Int→Option (Int ⊕ Int)
 | a1=>bif decide (a1 < (a0.length:Int)) then must (0≤a1∧a1 < (a0.length:Int)) ((tN (idx a0 a1) a1c0).bind fun a2=>bif a2 then out (some a1) else (some (.inl (w64 (a1 + 1))))) else (out (some (-1)))
noncomputable def bK (a0:List Call) (a1c0:Event):Option Int :=
 iter (fP a0 a1c0) 0
noncomputable def dM (a0:List Call) (a1c0:Event):Option Bool :=
 (bK a0 a1c0).bind fun y3=>some (decide (y3 ≥ 0))
noncomputable def oJ (a0:List Event) (a1:Int) (a3:Bool):Option (Int ⊕ Int) :=
 bif a3 then out (some 1) else ((dM ((idx a0 a1).Calls) (idx a0 a1)).bind fun a2=>bif a2 then out (some 1) else (some (.inl (w64 (a1 + 1)))))
noncomputable def vE (a0:List Event):Int→Option (Int ⊕ Int)
 | a1=>bif decide (a1 < (a0.length:Int)) then must (0≤a1∧a1 < (a0.length:Int)) (bif decide ((idx a0 a1).Kind < 0) then oJ a0 a1 true else (bif decide ((idx a0 a1).Kind > 3) then oJ a0 a1 true else (oJ a0 a1 (decide ((((idx a0 a1).Calls).length:Int) > 16))))) else (out (some 0))
noncomputable def gG (a0:List Event):Option Int :=
 bif decide ((a0.length:Int) > 256) then some 1 else (iter (vE a0) 0)
noncomputable def ul (a0:History) (a1:Txn) (a3:List Call) (a2:Int):Option ((List Call×Int) ⊕ (Event×Bool)) :=
 some (.inl (a3++([(⟨(idx a1.Ops a2).Kind,idx a0.Keys ((idx a1.Ops a2).Key),(idx a1.Ops a2).Arg,(idx a1.Ops a2).Got,(idx a1.Ops a2).Vals⟩:Call)]:List Call),w64 (a2 + 1)))
noncomputable def pU (a0:History) (a1:Txn) (a2:List Call) (a3:Int) (a4:Bool):Option ((List Call×Int) ⊕ (Event×Bool)) :=
 bif a4 then out (some ((⟨0,a1.Status,a2⟩:Event),false)) else (must (0≤(idx a1.Ops a3).Key∧(idx a1.Ops a3).Key < (a0.Keys.length:Int)) (must (((a2.length + 1) + (a2.length + 1) / 4 + 192) * 64≤281474976710656∧a2.length + 1≤9223372036854775807) (ul a0 a1 a2 a3)))
noncomputable def um (a0:History) (a1:Txn):(List Call×Int)→Option ((List Call×Int) ⊕ (Event×Bool))
 | (a3,a2)=>bif decide (a2 < (a1.Ops.length:Int)) then must (0≤a2∧a2 < (a1.Ops.length:Int)) (bif decide ((idx a1.Ops a2).Key < 0) then pU a0 a1 a3 a2 true else (pU a0 a1 a3 a2 (decide ((idx a1.Ops a2).Key ≥ (a0.Keys.length:Int))))) else ((gG ([(⟨0,a1.Status,a3⟩:Event)]:List Event)).bind fun a4=>out (some ((⟨0,a1.Status,a3⟩:Event),(a4 == 0))))
noncomputable def eG (a0:History) (a1:Txn):Option (Event×Bool) :=
 iter (um a0 a1) ([],0)
noncomputable def pV (a0:Txn) (a1:Txn):Option Bool :=
 bif (a0.Proc == a1.Proc) then bif (a0.To == (-1)) then some true else (some (decide (a0.To ≥ a1.From))) else (some false)
noncomputable def fI (a0:List Txn) (a1c0:Txn):Int→Option (Int ⊕ Int)
 | a1=>bif decide (a1 < (a0.length:Int)) then must (0≤a1∧a1 < (a0.length:Int)) ((pV (idx a0 a1) a1c0).bind fun a2=>bif a2 then out (some a1) else (some (.inl (w64 (a1 + 1))))) else (out (some (-1)))
noncomputable def bG (a0:List Txn) (a1c0:Txn):Option Int :=
 iter (fI a0 a1c0) 0
noncomputable def dK (a0:List Txn) (a1c0:Txn):Option Bool :=
 (bG a0 a1c0).bind fun y3=>some (decide (y3 ≥ 0))
noncomputable def lX (a0:List Txn) (a1:Txn) (a3:Bool):Option Bool :=
 bif a3 then some false else ((dK a0 a1).bind fun a2=>some (!a2))
noncomputable def oQ (a0:List Txn) (a1:Txn):Option Bool :=
 bif decide (a1.From < 0) then lX a0 a1 true else (bif decide ((a0.length:Int) > 0) then must (0≤w64 ((a0.length:Int) - 1)∧w64 ((a0.length:Int) - 1) < (a0.length:Int)) (lX a0 a1 (decide ((idx a0 (w64 ((a0.length:Int) - 1))).From ≥ a1.From))) else (lX a0 a1 false))
noncomputable def oU (a0:List Txn) (a1:Txn) (a2:Bool):Option Bool :=
 bif a2 then some false else (oQ a0 a1)
noncomputable def oV (a0:List Txn) (a1:Txn) (a2:Bool):Option Bool :=
 bif a2 then bif decide (a1.To≤a1.From) then some false else (oQ a0 a1) else (bif (a1.Status == 3) then bif (a1.To != (-1)) then oU a0 a1 (decide (a1.To≤a1.From)) else (oU a0 a1 false) else (some false))
noncomputable def bY (a0:List Txn) (a1:Txn):Option Bool :=
 bif (a1.Status == 1) then oV a0 a1 (a1.Status == 1) else (oV a0 a1 (a1.Status == 2))
noncomputable def nU (a0:Int):Option Int :=
 some (w64 ((dw .i64 (w64 (a0 - 1)) 3) + 1))
noncomputable def ib (a2:List ByteArray) (a1:List (ByteArray×Int)) (a3:List Int) (a0:List (dG×Unit)) (a4:List (ByteArray×(List Int))):Option (Int×bu) :=
 some (0,(⟨a2,a1,a3,a0,a4⟩:bu))
noncomputable def mq (a0:bu) (a1:Call) (a3:List ByteArray) (a2:List (ByteArray×Int)) (a4:List Int):Option (Int×bu) :=
 bif nT a0.facts (⟨a1.Key,a1.Arg⟩:dG) then some (3,(⟨a3,a2,a4,a0.facts,a0.incs⟩:bu)) else (ib a3 a2 a4 (gP a0.facts (⟨a1.Key,a1.Arg⟩:dG) ()) a0.incs)
noncomputable def jw (a0:bu) (a1:Call) (a4:List ByteArray) (a3:List (ByteArray×Int)) (a5:List Int) (a2:List (ByteArray×(List Int))):Option (Int×bu) :=
 bif decide (((mat a2 a1.Key).length:Int) > 8) then some (51,(⟨a4,a3,a5,a0.facts,a2⟩:bu)) else (ib a4 a3 a5 a0.facts a2)
noncomputable def jy (a0:bu) (a1:Call) (a2:Int) (a4:List ByteArray) (a3:List (ByteArray×Int)) (a5:List Int) (a6:Bool):Option (Int×bu) :=
 bif a6 then must (((((mat a0.incs a1.Key).length) + 1) + (((mat a0.incs a1.Key).length) + 1) / 4 + 192) * 8≤281474976710656∧((mat a0.incs a1.Key).length) + 1≤9223372036854775807) (jw a0 a1 a4 a3 a5 (gP a0.incs a1.Key ((mat a0.incs a1.Key)++([a2]:List Int)))) else (jw a0 a1 a4 a3 a5 a0.incs)
noncomputable def jA (a0:bu) (a1:Call) (a2:Int) (a4:List ByteArray) (a3:List (ByteArray×Int)) (a5:List Int) (a6:Bool):Option (Int×bu) :=
 bif a6 then mq a0 a1 a4 a3 a5 else (bif (a1.Kind == 4) then bif (((mat a0.incs a1.Key).length:Int) == 0) then jy a0 a1 a2 a4 a3 a5 true else (must (0≤w64 (((mat a0.incs a1.Key).length:Int) - 1)∧w64 (((mat a0.incs a1.Key).length:Int) - 1) < ((mat a0.incs a1.Key).length:Int)) (jy a0 a1 a2 a4 a3 a5 (idx (mat a0.incs a1.Key) (w64 (((mat a0.incs a1.Key).length:Int) - 1)) != a2))) else (ib a4 a3 a5 a0.facts a0.incs))
noncomputable def ig (a0:bu) (a1:Call) (a2:Int) (a5:List ByteArray) (a4:List (ByteArray×Int)) (a3:List Int) (a6:Int):Option (Int×bu) :=
 must (0≤a6∧a6 < (a3.length:Int)) ((nU a1.Kind).bind fun a7=>bif (idx a3 a6 != a7) then some (50,(⟨a5,a4,a3,a0.facts,a0.incs⟩:bu)) else (bif (a1.Kind == 2) then jA a0 a1 a2 a5 a4 a3 (a1.Kind == 2) else (jA a0 a1 a2 a5 a4 a3 (a1.Kind == 3))))
noncomputable def mr (a0:bu) (a1:Call) (a2:Int):Option (Int×bu) :=
 (nU a1.Kind).bind fun a3=>must (((a0.types.length + 1) + (a0.types.length + 1) / 4 + 192) * 8≤281474976710656∧a0.types.length + 1≤9223372036854775807) (ig a0 a1 a2 (a0.keys++([a1.Key]:List ByteArray)) (gP a0.at_ a1.Key (a0.keys.length:Int)) (a0.types++([a3]:List Int)) (a0.keys.length:Int))
noncomputable def aB (a0:bu) (a1:Call) (a2:Int):Option (Int×bu) :=
 bif !(nT a0.at_ a1.Key) then bif ((a0.keys.length:Int) == 32) then some (2,a0) else (must (((a0.keys.length + 1) + (a0.keys.length + 1) / 4 + 192) * 16≤281474976710656∧a0.keys.length + 1≤9223372036854775807) (mr a0 a1 a2)) else (ig a0 a1 a2 a0.keys a0.at_ a0.types (mat a0.at_ a1.Key))
noncomputable def nC (a0:Int) (a1:Bool):Option (Int ⊕ Int) :=
 bif a1 then out (some 1) else (some (.inl (w64 (a0 + 1))))
noncomputable def pW (a5:Int) (a2:Event×Bool):(List ByteArray×(List (ByteArray×Int))×List Int×(List (dG×Unit))×(List (ByteArray×(List Int)))×Int)→Option ((List ByteArray×(List (ByteArray×Int))×List Int×(List (dG×Unit))×(List (ByteArray×(List Int)))×Int) ⊕ ((List ByteArray×(List (ByteArray×Int))×List Int×(List (dG×Unit))×(List (ByteArray×(List Int)))×Int) ⊕ (Int ⊕ Int)))
 | (a4,a3,a6,a7,a8,a1)=>bif decide (a1 < (a2.1.Calls.length:Int)) then must (0≤a1∧a1 < (a2.1.Calls.length:Int)) ((aB (⟨a4,a3,a6,a7,a8⟩:bu) (idx a2.1.Calls a1) a5).bind fun a0=>bif (a0.1 != 0) then out (out (out (some 1))) else (some (.inl (a0.2.keys,a0.2.at_,a0.2.types,a0.2.facts,a0.2.incs,w64 (a1 + 1))))) else (out (some (.inl (a4,a3,a6,a7,a8,w64 (a5 + 1)))))
noncomputable def pX (a3:List ByteArray) (a2:List (ByteArray×Int)) (a0:List Int) (a7:List (dG×Unit)) (a4:List (ByteArray×(List Int))) (a1:Int) (a6:Event×Bool) (a5:Bool):Option ((List ByteArray×(List (ByteArray×Int))×List Int×(List (dG×Unit))×(List (ByteArray×(List Int)))×Int) ⊕ (Int ⊕ Int)) :=
 bif a5 then out (out (some 1)) else (iter (pW a1 a6) (a3,a2,a0,a7,a4,0))
noncomputable def nD (a0:History):(List ByteArray×(List (ByteArray×Int))×List Int×(List (dG×Unit))×(List (ByteArray×(List Int)))×Int)→Option ((List ByteArray×(List (ByteArray×Int))×List Int×(List (dG×Unit))×(List (ByteArray×(List Int)))×Int) ⊕ (Int ⊕ Int))
 | (a5,a4,a3,a7,a6,a1)=>bif decide (a1 < (a0.Txns.length:Int)) then must (0≤a1∧a1 < (a0.Txns.length:Int)) ((eG a0 (idx a0.Txns a1)).bind fun a2=>bif !a2.2 then pX a5 a4 a3 a7 a6 a1 a2 true else (must (0≤(0:Int)∧(0:Int)≤a1∧a1≤(a0.Txns.length:Int)) ((bY (eT a0.Txns (0:Int) a1) (idx a0.Txns a1)).bind fun a8=>pX a5 a4 a3 a7 a6 a1 a2 (!a8)))) else (out (out (some 0)))
noncomputable def uo (a0:History):Int→Option (Int ⊕ Int)
 | a1=>bif decide (a1 < (a0.Keys.length:Int)) then must (0≤a1∧a1 < (a0.Keys.length:Int)) (bif sEq (idx a0.Keys a1) (⟨#[]⟩:ByteArray) then nC a1 true else (bif decide (((idx a0.Keys a1).size:Int) > 32) then nC a1 true else (must (0≤(0:Int)∧(0:Int)≤a1∧a1≤(a0.Keys.length:Int)) ((slices_Contains_string (eT a0.Keys (0:Int) a1) (idx a0.Keys a1)).bind fun a3=>nC a1 a3)))) else ((oP).bind fun a2=>iter (nD a0) (a2.keys,a2.at_,a2.types,a2.facts,a2.incs,0))
noncomputable def pY (a0:History) (b7:Bool):Option Int :=
 bif b7 then some 1 else (iter (uo a0) 0)
noncomputable def aC (a0:History):Option Int :=
 bif decide ((a0.Keys.length:Int) > 32) then pY a0 true else (pY a0 (decide ((a0.Txns.length:Int) > 32)))
noncomputable def fJ (a0:List Int):Option (List Int) :=
 must (a0.length * 8≤140737488355328) (some a0)
noncomputable def jW (a0:Int):Option Int :=
 bif (a0 == 1) then some 280 else (bif (a0 == 2) then some 281 else (bif (a0 == 3) then some 282 else (bif (a0 == 4) then some 283 else (some (-1)))))
noncomputable def jX (a0:Unit) (a1:List Int):Option Bool :=
 some (decide ((a1.length:Int)≤1))
noncomputable def nV (a0:Unit) (a1:List Int):Option Bool :=
 some (decide ((a1.length:Int)≤64))
noncomputable def pg (a1:List Int):Int→Option (Int ⊕ Bool)
 | a0=>bif decide (a0 < (a1.length:Int)) then must (0≤w64 (a0 - 1)∧w64 (a0 - 1) < (a1.length:Int)) (must (0≤a0∧a0 < (a1.length:Int)) (bif decide (idx a1 (w64 (a0 - 1)) ≥ idx a1 a0) then out (some false) else (some (.inl (w64 (a0 + 1)))))) else (out (some (decide ((a1.length:Int)≤64))))
noncomputable def gy (a0:Unit) (a1:List Int):Option Bool :=
 iter (pg a1) 1
noncomputable def kN (a0:Unit) (a1:List Int):Option Bool :=
 some ((a1.length:Int) == 1)
noncomputable def jY (a0:Int) (a1:List Int):Option Int :=
 (jW a0).bind fun y8=>bif (y8 == (280:Int)) then (jX () a1).bind fun a2=>bif !a2 then some 80 else (some 0) else (bif (y8 == (281:Int)) then (nV () a1).bind fun a5=>bif !a5 then some 80 else (some 0) else (bif (y8 == (282:Int)) then (gy () a1).bind fun a4=>bif !a4 then some 80 else (some 0) else (bif (y8 == (283:Int)) then (kN () a1).bind fun a3=>bif !a3 then some 80 else (some 0) else (bif (y8 == ((-1):Int)) then some 1 else none))))
noncomputable def gT (a0:Unit) (a1:List Int) (a2:List Int):Option (List Int×Bool) :=
 bif ((a1.length:Int) == 1) then must (0≤(0:Int)∧(0:Int) < (a1.length:Int)) (must (0≤w64 ((a2.length:Int) - 1)∧w64 ((a2.length:Int) - 1) < (a2.length:Int)) (some (([]:List Int),(idx a1 (0:Int) == idx a2 (w64 ((a2.length:Int) - 1)))))) else (some (([]:List Int),false))
noncomputable def qI (a0:List Int) (a1:List Int):Int→Option (Int ⊕ Bool)
 | a2=>bif decide (a2 < (a0.length:Int)) then must (0≤a2∧a2 < (a0.length:Int)) (must (0≤a2∧a2 < (a1.length:Int)) (bif (idx a0 a2 != idx a1 a2) then out (some false) else (some (.inl (w64 (a2 + 1)))))) else (out (some true))
noncomputable def eu (a0:List Int) (a1:List Int):Option Bool :=
 bif ((a0.length:Int) != (a1.length:Int)) then some false else (iter (qI a0 a1) 0)
noncomputable def ik (a1:List Int) (a2:List Int) (a0:Bool):Option (List Int×Bool) :=
 bif a0 then some (([]:List Int),false) else (must (0≤(0:Int)∧(0:Int)≤(w64 ((a1.length:Int) - (a2.length:Int)))∧(w64 ((a1.length:Int) - (a2.length:Int)))≤(a1.length:Int)) ((fJ (eT a1 (0:Int) (w64 ((a1.length:Int) - (a2.length:Int))))).bind fun a3=>some (a3,true)))
noncomputable def dP (a0:Unit) (a1:List Int) (a2:List Int):Option (List Int×Bool) :=
 bif decide (w64 ((a1.length:Int) - (a2.length:Int)) < 0) then ik a1 a2 true else (must (0≤(w64 ((a1.length:Int) - (a2.length:Int)))∧(w64 ((a1.length:Int) - (a2.length:Int)))≤(a1.length:Int)∧(a1.length:Int)≤(a1.length:Int)) ((eu (eT a1 (w64 ((a1.length:Int) - (a2.length:Int))) (a1.length:Int)) a2).bind fun a3=>ik a1 a2 (!a3)))
noncomputable def lY (a0:Int):Option Bool :=
 some (a0 != a0)
noncomputable def nE (a0:Int) (a1:Int):Option Bool :=
 (lY a0).bind fun y7=>bif y7 then (lY a1).bind fun a2=>bif !a2 then some true else (some (decide (a0 < a1))) else (some (decide (a0 < a1)))
noncomputable def ji (a0:Int):Option Bool :=
 some (a0 != a0)
noncomputable def iQ (a1:Int) (a0:Int):Option ((Int×Int) ⊕ (Int×Bool)) :=
 some (.inl (a1,a0))
noncomputable def iR (a0:List Int) (a1:Int):(Int×Int)→Option ((Int×Int) ⊕ (Int×Bool))
 | (a2,a3)=>bif decide (a2 < a3) then must (0≤(1:Int)∧(1:Int) < (far:Int)) (must (0≤w64 (eU .u64 (IntKind.wrap .u64 (w64 (a2 + a3))) (1:Int))∧w64 (eU .u64 (IntKind.wrap .u64 (w64 (a2 + a3))) (1:Int)) < (a0.length:Int)) ((nE (idx a0 (w64 (eU .u64 (IntKind.wrap .u64 (w64 (a2 + a3))) (1:Int)))) a1).bind fun a5=>bif a5 then iQ (w64 ((w64 (eU .u64 (IntKind.wrap .u64 (w64 (a2 + a3))) (1:Int))) + 1)) a3 else (iQ a2 (w64 (eU .u64 (IntKind.wrap .u64 (w64 (a2 + a3))) (1:Int)))))) else (bif decide (a2 < (a0.length:Int)) then must (0≤a2∧a2 < (a0.length:Int)) (bif (idx a0 a2 == a1) then out (some (a2,true)) else ((ji (idx a0 a2)).bind fun a4=>bif a4 then (ji a1).bind fun a6=>out (some (a2,a6)) else (out (some (a2,false))))) else (out (some (a2,false))))
noncomputable def bJ (a0:List Int) (a1:Int):Option (Int×Bool) :=
 iter (iR a0 a1) (0,(a0.length:Int))
noncomputable def iT (a0:List Int) (a1 a2:Int):Option (List Int) :=
 must (0≤a1∧a1≤a2∧a2≤(a0.length:Int)) (some (a0.take a1.toNat++a0.drop a2.toNat))
noncomputable def jZ (a2:List Int):(List Int×Int)→Option ((List Int×Int) ⊕ (List Int×Bool))
 | (a1,a0)=>bif decide (a0 < (a2.length:Int)) then must (0≤a0∧a0 < (a2.length:Int)) ((bJ a1 (idx a2 a0)).bind fun a3=>bif !a3.2 then out (some (([]:List Int),false)) else ((iT a1 a3.1 (w64 (a3.1 + 1))).bind fun a4=>some (.inl (a4,w64 (a0 + 1))))) else (out (some (a1,true)))
noncomputable def eX (a0:Unit) (a1:List Int) (a2:List Int):Option (List Int×Bool) :=
 (fJ a1).bind fun y7=>iter (jZ a2) (y7,0)
noncomputable def iE (a2:List Int):(Int×Int)→Option ((Int×Int) ⊕ (List Int×Bool))
 | (a1,a0)=>bif decide (a0 < (a2.length:Int)) then must (0≤a0∧a0 < (a2.length:Int)) (some (.inl (w64 (a1 - (idx a2 a0)),w64 (a0 + 1)))) else (out (some (([a1]:List Int),true)))
noncomputable def dQ (a0:Unit) (a1:List Int) (a2:List Int):Option (List Int×Bool) :=
 must (0≤(0:Int)∧(0:Int) < (a1.length:Int)) (iter (iE a2) (idx a1 (0:Int),0))
noncomputable def jQ (a0:Int) (a1:List Int) (a2:List Int) (b9:Bool):Option (List Int×Bool) :=
 bif b9 then some (([]:List Int),false) else ((jW a0).bind fun a3=>bif (a3 == (280:Int)) then (gT () a1 a2).bind fun a4=>some (a4.1,a4.2) else (bif (a3 == (281:Int)) then (dP () a1 a2).bind fun a6=>some (a6.1,a6.2) else (bif (a3 == (282:Int)) then (eX () a1 a2).bind fun a7=>some (a7.1,a7.2) else (bif (a3 == (283:Int)) then (dQ () a1 a2).bind fun a5=>some (a5.1,a5.2) else (bif (a3 == ((-1):Int)) then none else none)))))
noncomputable def gz (a0:Int) (a1:List Int) (a2:List Int):Option (List Int×Bool) :=
 (jY a0 a1).bind fun a3=>bif (a3 != 0) then jQ a0 a1 a2 true else (jQ a0 a1 a2 ((a2.length:Int) == 0))
noncomputable def gV (a2:Int) (a0:List Ask) (a3:List gQ) (a1:List (Int×(List Int))):Option ((List Ask×List gQ×(List (Int×(List Int)))×Int) ⊕ eO) :=
 some (.inl (a0,a3,a1,w64 (a2 + 1)))
noncomputable def kP (a1:History) (a2:Int) (a4:List Ask) (a3:List gQ) (a5:List (Int×(List Int))) (a0:Int) (a6:List Int) (a7:Bool):Option ((List Ask×List gQ×(List (Int×(List Int)))×Int) ⊕ eO) :=
 bif !a7 then must (((a3.length + 1) + (a3.length + 1) / 4 + 192) * 16≤281474976710656∧a3.length + 1≤9223372036854775807) (gV a0 a4 (a3++([(⟨a2,a0⟩:gQ)]:List gQ)) a5) else (must (((a4.length + 1) + (a4.length + 1) / 4 + 192) * 48≤281474976710656∧a4.length + 1≤9223372036854775807) (gV a0 (a4++([(⟨a2,a0,(idx ((idx a1.Txns a2).Ops) a0).Key,a6⟩:Ask)]:List Ask)) a3 a5))
noncomputable def kQ (a1:History) (a2:Int) (a5:List Ask) (a3:List gQ) (a4:List (Int×(List Int))) (a0:Int) (a6:List Int×Bool) (a7:Bool):Option ((List Ask×List gQ×(List (Int×(List Int)))×Int) ⊕ eO) :=
 bif a7 then gV a0 a5 a3 a4 else (kP a1 a2 a5 a3 a4 a0 a6.1 a6.2)
noncomputable def oz (a1:History) (a2:Int):(List Ask×List gQ×(List (Int×(List Int)))×Int)→Option ((List Ask×List gQ×(List (Int×(List Int)))×Int) ⊕ eO)
 | (a5,a4,a3,a0)=>bif decide (a0 < (((idx a1.Txns a2).Ops).length:Int)) then must (0≤a0∧a0 < (((idx a1.Txns a2).Ops).length:Int)) (bif decide ((idx ((idx a1.Txns a2).Ops) a0).Kind≤4) then must (((((mat a3 ((idx ((idx a1.Txns a2).Ops) a0).Key)).length) + 1) + (((mat a3 ((idx ((idx a1.Txns a2).Ops) a0).Key)).length) + 1) / 4 + 192) * 8≤281474976710656∧((mat a3 ((idx ((idx a1.Txns a2).Ops) a0).Key)).length) + 1≤9223372036854775807) (gV a0 a5 a4 (gP a3 ((idx ((idx a1.Txns a2).Ops) a0).Key) ((mat a3 ((idx ((idx a1.Txns a2).Ops) a0).Key))++([(idx ((idx a1.Txns a2).Ops) a0).Arg]:List Int)))) else ((fJ ((idx ((idx a1.Txns a2).Ops) a0).Vals)).bind fun a7=>bif decide (((mat a3 ((idx ((idx a1.Txns a2).Ops) a0).Key)).length:Int) > 0) then (gz (w64 (((idx ((idx a1.Txns a2).Ops) a0).Kind) - 4)) ((idx ((idx a1.Txns a2).Ops) a0).Vals) (mat a3 ((idx ((idx a1.Txns a2).Ops) a0).Key))).bind fun a6=>bif a6.2 then kQ a1 a2 a5 a4 a3 a0 a6 ((idx ((idx a1.Txns a2).Ops) a0).Kind == 5) else (kQ a1 a2 a5 a4 a3 a0 a6 false) else (kP a1 a2 a5 a4 a3 a0 a7 true))) else (out (some (⟨a5,a4⟩:eO)))
noncomputable def aY (a0:eO) (a1:History) (a2:Int):Option eO :=
 must (0≤a2∧a2 < (a1.Txns.length:Int)) (bif ((idx a1.Txns a2).Status != 1) then some a0 else (iter (oz a1 a2) (a0.asks,a0.bad,[],0)))
noncomputable def wL (a0:History):(List Ask×List gQ×Int)→Option ((List Ask×List gQ×Int) ⊕ (eO×Int))
 | (a3,a4,a1)=>bif decide (a1 < (a0.Txns.length:Int)) then (aY (⟨a3,a4⟩:eO) a0 a1).bind fun a2=>some (.inl (a2.asks,a2.bad,w64 (a1 + 1))) else (out (some ((⟨a3,a4⟩:eO),0)))
noncomputable def kW (a0:History):Option (eO×Int) :=
 (aC a0).bind fun a1=>bif (a1 != 0) then some ((⟨([]:List Ask),([]:List gQ)⟩:eO),a1) else (iter (wL a0) ([],[],0))
noncomputable def kF (a0:History):Option (List Ask×Int) :=
 (kW a0).bind fun a1=>some (a1.1.asks,a1.2)
noncomputable def vF (a0:History) (a1:Int) (a3:Int):Int→Option (Int ⊕ (Int ⊕ Int))
 | a2=>bif decide (a2 < (((idx a0.Txns a3).Ops).length:Int)) then must (0≤a2∧a2 < (((idx a0.Txns a3).Ops).length:Int)) (bif ((idx ((idx a0.Txns a3).Ops) a2).Key == a1) then (nU ((idx ((idx a0.Txns a3).Ops) a2).Kind)).bind fun a4=>out (out (some a4)) else (some (.inl (w64 (a2 + 1))))) else (out (some (.inl (w64 (a3 + 1)))))
noncomputable def vG (a0:History) (a1:Int):Int→Option (Int ⊕ Int)
 | a2=>bif decide (a2 < (a0.Txns.length:Int)) then must (0≤a2∧a2 < (a0.Txns.length:Int)) (iter (vF a0 a1 a2) 0) else (out (some 0))
noncomputable def eP (a0:History) (a1:Int):Option Int :=
 (aC a0).bind fun y8=>bif (y8 != 0) then some 0 else (iter (vG a0 a1) 0)
noncomputable def qa (a0:Int) (a1:List Int):Option ((List Int×Int) ⊕ (List Int)) :=
 some (.inl (a1,w64 (a0 + 1)))
noncomputable def qb (a0:Txn) (a1:List Int) (a2:Int) (a3:Bool):Option ((List Int×Int) ⊕ (List Int)) :=
 bif a3 then must (((a1.length + 1) + (a1.length + 1) / 4 + 192) * 8≤281474976710656∧a1.length + 1≤9223372036854775807) (qa a2 (a1++([(idx a0.Ops a2).Arg]:List Int))) else (qa a2 a1)
noncomputable def uq (a0:Txn) (a1:Int):(List Int×Int)→Option ((List Int×Int) ⊕ (List Int))
 | (a3,a2)=>bif decide (a2 < (a0.Ops.length:Int)) then must (0≤a2∧a2 < (a0.Ops.length:Int)) (bif ((idx a0.Ops a2).Key == a1) then qb a0 a3 a2 (decide ((idx a0.Ops a2).Kind≤4)) else (qb a0 a3 a2 false)) else (out (some a3))
noncomputable def dS (a0:Txn) (a1:Int):Option (List Int) :=
 iter (uq a0 a1) ([],0)
noncomputable def nG (a0:History) (a1:Int) (a2:Int) (a4:Bool):Option (List Int×Bool) :=
 bif a4 then some (([]:List Int),false) else (must (0≤a1∧a1 < (a0.Txns.length:Int)) ((dS (idx a0.Txns a1) a2).bind fun a3=>some (a3,decide ((a3.length:Int) > 0))))
noncomputable def fU (a0:History) (a1:Int) (a2:Int):Option (List Int×Bool) :=
 bif decide (a1 < 0) then nG a0 a1 a2 true else (bif decide (a1 ≥ (a0.Txns.length:Int)) then nG a0 a1 a2 true else ((aC a0).bind fun a3=>nG a0 a1 a2 (a3 != 0)))
noncomputable def nW (a0:Int) (a1:List Int):Option ((List Int×Int) ⊕ (List Int)) :=
 some (.inl (a1,w64 (a0 + 1)))
noncomputable def nX (a0:List Int) (a1:Int) (a2:Bool):Option ((List Int×Int) ⊕ (List Int)) :=
 bif a2 then must (((a0.length + 1) + (a0.length + 1) / 4 + 192) * 8≤281474976710656∧a0.length + 1≤9223372036854775807) (nW a1 (a0++([a1]:List Int))) else (nW a1 a0)
noncomputable def ru (a0:History) (a1:Int):(List Int×Int)→Option ((List Int×Int) ⊕ (List Int))
 | (a3,a2)=>bif decide (a2 < (a0.Txns.length:Int)) then must (0≤a2∧a2 < (a0.Txns.length:Int)) (bif ((idx a0.Txns a2).Status != 2) then (dS (idx a0.Txns a2) a1).bind fun a4=>nX a3 a2 (decide ((a4.length:Int) > 0)) else (nX a3 a2 false)) else (out (some a3))
noncomputable def dH (a0:History) (a1:Int):Option (List Int) :=
 (aC a0).bind fun y8=>bif (y8 != 0) then some ([]:List Int) else (iter (ru a0 a1) ([],0))
noncomputable def nY (a1:Int) (a0:List aN):Option ((List aN×Int) ⊕ (List aN)) :=
 some (.inl (a0,w64 (a1 + 1)))
noncomputable def nZ (a3:List Int) (a0:List aN) (a1:Int) (a2:List Int×Bool) (a4:Bool):Option ((List aN×Int) ⊕ (List aN)) :=
 bif a4 then must (((a0.length + 1) + (a0.length + 1) / 4 + 192) * 32≤281474976710656∧a0.length + 1≤9223372036854775807) (nY a1 (a0++([(⟨idx a3 a1,a2.1⟩:aN)]:List aN))) else (nY a1 a0)
noncomputable def ry (a0:History) (a1:Ask) (a3:List Int):(List aN×Int)→Option ((List aN×Int) ⊕ (List aN))
 | (a5,a2)=>bif decide (a2 < (a3.length:Int)) then must (0≤a2∧a2 < (a3.length:Int)) ((fU a0 (idx a3 a2) a1.Key).bind fun a4=>bif a4.2 then nZ a3 a5 a2 a4 (idx a3 a2 != a1.Txn) else (nZ a3 a5 a2 a4 false)) else (out (some a5))
noncomputable def bT (a0:History) (a1:Ask):Option (List aN) :=
 (dH a0 a1.Key).bind fun a2=>iter (ry a0 a1 a2) ([],0)
noncomputable def oC (a0:List Int) (a1:Int):Int→Option (Int ⊕ Int)
 | a2=>bif decide (a2 < (a0.length:Int)) then must (0≤a2∧a2 < (a0.length:Int)) (bif (a1 == idx a0 a2) then out (some a2) else (some (.inl (w64 (a2 + 1))))) else (out (some (-1)))
noncomputable def slices_Index_int (a0:List Int) (a1:Int):Option Int :=
 iter (oC a0 a1) 0
noncomputable def slices_Contains_int (a0:List Int) (a1:Int):Option Bool :=
 (slices_Index_int a0 a1).bind fun y3=>some (decide (y3 ≥ 0))
noncomputable def rP (a0:aN) (a1:List Int):Option Bool :=
 must (0≤(0:Int)∧(0:Int) < (a0.args.length:Int)) (must (0≤(0:Int)∧(0:Int) < (a1.length:Int)) (some (idx a0.args (0:Int) == idx a1 (0:Int))))
noncomputable def fF (a0:List aN) (a1c0:List Int):Int→Option (Int ⊕ Int)
 | a1=>bif decide (a1 < (a0.length:Int)) then must (0≤a1∧a1 < (a0.length:Int)) ((rP (idx a0 a1) a1c0).bind fun a2=>bif a2 then out (some a1) else (some (.inl (w64 (a1 + 1))))) else (out (some (-1)))
noncomputable def bE (a0:List aN) (a1c0:List Int):Option Int :=
 iter (fF a0 a1c0) 0
noncomputable def kX (a1:List aN) (a2:List Int) (a3:List Int) (a0:Int) (a4:Bool):Option ((List Int×List Int) ⊕ (List Int×Bool)) :=
 bif a4 then out (some (([]:List Int),false)) else (must (0≤a0∧a0 < (a1.length:Int)) (must (((a3.length + 1) + (a3.length + 1) / 4 + 192) * 8≤281474976710656∧a3.length + 1≤9223372036854775807) (must (0≤(((idx a1 a0).args).length:Int)∧(((idx a1 a0).args).length:Int)≤(a2.length:Int)∧(a2.length:Int)≤(a2.length:Int)) (some (.inl (eT a2 (((idx a1 a0).args).length:Int) (a2.length:Int),a3++([(idx a1 a0).txn]:List Int)))))))
noncomputable def qc (a1:List aN):(List Int×List Int)→Option ((List Int×List Int) ⊕ (List Int×Bool))
 | (a2,a3)=>bif decide ((a2.length:Int) > 0) then (bE a1 a2).bind fun a0=>bif decide (a0 < 0) then kX a1 a2 a3 a0 true else (must (0≤a0∧a0 < (a1.length:Int)) (bif decide ((((idx a1 a0).args).length:Int) > (a2.length:Int)) then kX a1 a2 a3 a0 true else (must (0≤(0:Int)∧(0:Int)≤(((idx a1 a0).args).length:Int)∧(((idx a1 a0).args).length:Int)≤(a2.length:Int)) ((eu ((idx a1 a0).args) (eT a2 (0:Int) (((idx a1 a0).args).length:Int))).bind fun a4=>bif !a4 then kX a1 a2 a3 a0 true else ((slices_Contains_int a3 ((idx a1 a0).txn)).bind fun a5=>kX a1 a2 a3 a0 a5))))) else (out (some (a3,true)))
noncomputable def eH (a0:List Int) (a1:List aN):Option (List Int×Bool) :=
 iter (qc a1) (a0,[])
noncomputable def rQ (a1:Int) (a0:List Int) (a2:List (Int×Unit)):Option ((List Int×(List (Int×Unit))×Int) ⊕ (((List (Int×Unit))×Int) ⊕ (List Int×Bool))) :=
 some (.inl (a0,a2,w64 (a1 + 1)))
noncomputable def rR (a0:Int) (a2:List (Int×Unit)) (a1:Int):Option (((List (Int×Unit))×Int×Int) ⊕ ((List Int×(List (Int×Unit))×Int) ⊕ (((List (Int×Unit))×Int) ⊕ (List Int×Bool)))) :=
 some (.inl (a2,a1,w64 (a0 + 1)))
noncomputable def rT (a1:List aN) (a0:List Int) (a2:Int) (a3:List (Int×Unit)) (a5:Int) (a4:Bool):Option (((List (Int×Unit))×Int×Int) ⊕ ((List Int×(List (Int×Unit))×Int) ⊕ (((List (Int×Unit))×Int) ⊕ (List Int×Bool)))) :=
 bif a4 then out (out (out (some (([]:List Int),false)))) else (bif decide (a5 > 0) then must (((a0.length + 1) + (a0.length + 1) / 4 + 192) * 8≤281474976710656∧a0.length + 1≤9223372036854775807) (out (rQ a2 (a0++([(idx a1 a2).txn]:List Int)) a3)) else (out (rQ a2 a0 a3)))
noncomputable def vH (a1:List aN) (a5:List Int) (a2:Int):((List (Int×Unit))×Int×Int)→Option (((List (Int×Unit))×Int×Int) ⊕ ((List Int×(List (Int×Unit))×Int) ⊕ (((List (Int×Unit))×Int) ⊕ (List Int×Bool))))
 | (a4,a3,a0)=>bif decide (a0 < (((idx a1 a2).args).length:Int)) then must (0≤a0∧a0 < (((idx a1 a2).args).length:Int)) (bif nT a4 (idx ((idx a1 a2).args) a0) then rR a0 (Dc a4 (idx ((idx a1 a2).args) a0)) (w64 (a3 + 1)) else (rR a0 a4 a3)) else (bif decide (a3 > 0) then rT a1 a5 a2 a4 a3 (decide (a3 < (((idx a1 a2).args).length:Int))) else (rT a1 a5 a2 a4 a3 false))
noncomputable def vJ (a1:List aN):(List Int×(List (Int×Unit))×Int)→Option ((List Int×(List (Int×Unit))×Int) ⊕ (((List (Int×Unit))×Int) ⊕ (List Int×Bool)))
 | (a3,a2,a0)=>bif decide (a0 < (a1.length:Int)) then must (0≤a0∧a0 < (a1.length:Int)) (iter (vH a1 a3 a0) (a2,0,0)) else (bif decide ((a2.length:Int) > 0) then out (out (some (([]:List Int),false))) else (out (out (some (a3,true)))))
noncomputable def vK (a0:List Int) (a1:List aN):((List (Int×Unit))×Int)→Option (((List (Int×Unit))×Int) ⊕ (List Int×Bool))
 | (a3,a2)=>bif decide (a2 < (a0.length:Int)) then must (0≤a2∧a2 < (a0.length:Int)) (some (.inl (gP a3 (idx a0 a2) (),w64 (a2 + 1)))) else (iter (vJ a1) ([],a3,0))
noncomputable def bX (a0:List Int) (a1:List aN):Option (List Int×Bool) :=
 iter (vK a0 a1) ([],0)
noncomputable def gF (a0:History) (a1:Ask):Option (List Int×Bool) :=
 (eP a0 a1.Key).bind fun a2=>bif (a2 == 2) then (bT a0 a1).bind fun a6=>(eH a1.Base a6).bind fun a4=>some (a4.1,a4.2) else (bif (a2 == 3) then (bT a0 a1).bind fun a5=>(bX a1.Base a5).bind fun a3=>some (a3.1,a3.2) else (some (([]:List Int),false)))
noncomputable def oD (a0:Int) (a2:Int) (a3:List aN) (a4:Int) (rec:Int→Int→Int→(List aN)→Int→Int→Option Int) (a6:Int):(Int×Int)→Option ((Int×Int) ⊕ Int)
 | (a5,a1)=>bif decide (a1 < (((idx a3 a0).args).length:Int)) then must (0≤a1∧a1 < (((idx a3 a0).args).length:Int)) (some (.inl (w64 (a5 + (idx ((idx a3 a0).args) a1)),w64 (a1 + 1)))) else (must (0≤a0∧a0 < (far:Int)) ((rec (w64 (a0 + 1)) a5 (bOr .u64 a2 (Da .u64 1 a0)) a3 a4 a6).bind fun a7=>out (some a7)))
noncomputable def jB (rec:Int→Int→Int→(List aN)→Int→Int→Option Int) (a0:Int) (a1:Int) (a2:Int) (a3:List aN) (a4:Int) (a5:Int):Option Int :=
 bif (a0 == (a3.length:Int)) then bif (a1 == a4) then some (bOr .u64 a5 a2) else (some a5) else ((rec (w64 (a0 + 1)) a1 a2 a3 a4 a5).bind fun a6=>must (0≤a0∧a0 < (a3.length:Int)) (iter (oD a0 a2 a3 a4 rec a6) (a1,0)))
noncomputable def fV:Nat→Int→Int→Int→(List aN)→Int→Int→Option Int
 | 0=>fun _ _ _ _ _ _=>none
 | k + 1=>jB (fV k)
noncomputable def bA (a0:Int) (a1:Int) (a2:Int) (a3:List aN) (a4:Int) (a5:Int):Option Int:=fV 64 a0 a1 a2 a3 a4 a5
noncomputable def mU (a1:Int) (a0:List Int):Option ((List Int×Int) ⊕ (List Int)) :=
 some (.inl (a0,w64 (a1 + 1)))
noncomputable def qd (a1:List aN) (a3:Int):(List Int×Int)→Option ((List Int×Int) ⊕ (List Int))
 | (a2,a0)=>bif decide (a0 < (a1.length:Int)) then must (0≤a0∧a0 < (a1.length:Int)) (must (0≤a0∧a0 < (far:Int)) (bif (dw .u64 (eU .u64 a3 a0) 1 == 1) then must (((a2.length + 1) + (a2.length + 1) / 4 + 192) * 8≤281474976710656∧a2.length + 1≤9223372036854775807) (mU a0 (a2++([(idx a1 a0).txn]:List Int))) else (mU a0 a2))) else (out (some a2))
noncomputable def dY (a0:Int) (a1:List aN):Option (List Int) :=
 (bA 0 0 0 a1 a0 0).bind fun a2=>iter (qd a1 a2) ([],0)
noncomputable def fD (a0:List Int):Option (List Int) :=
 some a0
noncomputable def mV (a0:History) (a1:Ask) (a2:List Int):Option (List Int) :=
 must (0≤(0:Int)∧(0:Int) < (a1.Base.length:Int)) ((bT a0 a1).bind fun a4=>(dY (idx a1.Base (0:Int)) a4).bind fun a3=>must (((a2.length + a3.length) + (a2.length + a3.length) / 4 + 192) * 8≤281474976710656∧a2.length + a3.length≤9223372036854775807) (fD (a2++a3)))
noncomputable def mW (a0:Int) (a1:List Int):Option ((List Int×Int) ⊕ (List Int)) :=
 some (.inl (a1,w64 (a0 + 1)))
noncomputable def mX (a1:Ask) (a2:List aN):(List Int×Int)→Option ((List Int×Int) ⊕ (List Int))
 | (a3,a0)=>bif decide (a0 < (a2.length:Int)) then must (0≤a0∧a0 < (a2.length:Int)) (must (0≤w64 ((((idx a2 a0).args).length:Int) - 1)∧w64 ((((idx a2 a0).args).length:Int) - 1) < (((idx a2 a0).args).length:Int)) (must (0≤(0:Int)∧(0:Int) < (a1.Base.length:Int)) (bif (idx ((idx a2 a0).args) (w64 ((((idx a2 a0).args).length:Int) - 1)) == idx a1.Base (0:Int)) then must (((a3.length + 1) + (a3.length + 1) / 4 + 192) * 8≤281474976710656∧a3.length + 1≤9223372036854775807) (mW a0 (a3++([(idx a2 a0).txn]:List Int))) else (mW a0 a3)))) else (out (fD a3))
noncomputable def aU (a0:History) (a1:Ask):Option (List Int) :=
 (eP a0 a1.Key).bind fun a3=>bif (a3 == 4) then must (0≤(0:Int)∧(0:Int) < (a1.Base.length:Int)) (bif (idx a1.Base (0:Int) == 0) then must (((0 + 1) + (0 + 1) / 4 + 192) * 8≤281474976710656∧0 + 1≤9223372036854775807) (mV a0 a1 (([]:List Int)++([(-1)]:List Int))) else (mV a0 a1 [])) else (bif ((a1.Base.length:Int) == 0) then fD ([(-1)]:List Int) else (bif (a3 == 1) then (bT a0 a1).bind fun a4=>iter (mX a1 a4) ([],0) else (bif (a3 == 2) then (gF a0 a1).bind fun a2=>bif a2.2 then must (0≤(w64 ((a2.1.length:Int) - 1))∧(w64 ((a2.1.length:Int) - 1))≤(a2.1.length:Int)∧(a2.1.length:Int)≤(a2.1.length:Int)) (fD (eT a2.1 (w64 ((a2.1.length:Int) - 1)) (a2.1.length:Int))) else (fD []) else ((gF a0 a1).bind fun a5=>fD a5.1))))
noncomputable def nH (a0:Ask) (a1:Ask):Option Bool :=
 bif (a1.Txn == a0.Txn) then bif (a1.Place == a0.Place) then bif (a1.Key == a0.Key) then (eu a1.Base a0.Base).bind fun a2=>some a2 else (some false) else (some false) else (some false)
noncomputable def fK (a0:List Ask) (a1c0:Ask):Int→Option (Int ⊕ Int)
 | a1=>bif decide (a1 < (a0.length:Int)) then must (0≤a1∧a1 < (a0.length:Int)) ((nH (idx a0 a1) a1c0).bind fun a2=>bif a2 then out (some a1) else (some (.inl (w64 (a1 + 1))))) else (out (some (-1)))
noncomputable def bH (a0:List Ask) (a1c0:Ask):Option Int :=
 iter (fK a0 a1c0) 0
noncomputable def dL (a0:List Ask) (a1c0:Ask):Option Bool :=
 (bH a0 a1c0).bind fun y3=>some (decide (y3 ≥ 0))
noncomputable def og (a0:History) (a1:Ask):Option Int :=
 (kF a0).bind fun y9=>bif (y9.2 != 0) then some y9.2 else ((dL y9.1 a1).bind fun a2=>bif a2 then some 0 else (some 1))
noncomputable def nI (a0:History) (a1:Ask):Option (List Int×Int) :=
 (og a0 a1).bind fun a2=>bif (a2 != 0) then some (([]:List Int),a2) else ((aU a0 a1).bind fun a3=>some (a3,0))
noncomputable def qf (a0:History) (a1:Ask):Option (List Int×Bool×Int) :=
 (og a0 a1).bind fun a3=>bif (a3 != 0) then some (([]:List Int),false,a3) else ((gF a0 a1).bind fun a2=>some (a2.1,a2.2,0))
noncomputable def gX (a0:az) (a1:Int):Option Bool :=
 must (0≤a1∧a1 < (a0.h.Txns.length:Int)) (some ((idx a0.h.Txns a1).Status == 1))
noncomputable def fq (a0:az) (a1:Int) (a2:Int) (a3:Int) (a4:Int):Option az :=
 must (((a0.edges.length + 1) + (a0.edges.length + 1) / 4 + 192) * 32≤281474976710656∧a0.edges.length + 1≤9223372036854775807) (some (⟨a0.h,a0.asks,a0.edges++([(⟨a1,a2,a3,a4⟩:Edge)]:List Edge)⟩:az))
noncomputable def ja (a2:Int) (a1:List Int) (a0:List (Int×Int)):Option ((List Int×(List (Int×Int))×Int) ⊕ az) :=
 some (.inl (a1,a0,w64 (a2 - 1)))
noncomputable def jb (a0:az) (a2:List (Int×Int)) (a1:Int) (a3:List Int):Option ((List Int×(List (Int×Int))×Int) ⊕ az) :=
 must (0≤a1∧a1 < (a0.h.Txns.length:Int)) (ja a1 a3 (gP a2 ((idx a0.h.Txns a1).Proc) a1))
noncomputable def jc (a0:Int) (a1:List Edge):Option ((List Edge×Int) ⊕ ((List Int×(List (Int×Int))×Int) ⊕ az)) :=
 some (.inl (a1,w64 (a0 + 1)))
noncomputable def jd (a0:az) (a2:List Int):(List Edge×Int)→Option ((List Edge×Int) ⊕ ((List Int×(List (Int×Int))×Int) ⊕ az))
 | (a3,a1)=>bif decide (a1 < (a2.length:Int)) then must (0≤a1∧a1 < (a2.length:Int)) (bif decide (idx a2 a1 ≥ 0) then (fq (⟨a0.h,a0.asks,a3⟩:az) a1 (idx a2 a1) 1 (-1)).bind fun a4=>jc a1 a4.edges else (jc a1 a3)) else (out (out (some (⟨a0.h,a0.asks,a3⟩:az))))
noncomputable def je (a0:az):(List Int×(List (Int×Int))×Int)→Option ((List Int×(List (Int×Int))×Int) ⊕ az)
 | (a2,a3,a1)=>bif decide (a1 ≥ 0) then must (0≤a1∧a1 < (a2.length:Int)) ((gX a0 a1).bind fun a4=>bif !a4 then ja a1 (a2.set a1.toNat (-1)) a3 else (must (0≤a1∧a1 < (a0.h.Txns.length:Int)) (bif nT a3 ((idx a0.h.Txns a1).Proc) then must (0≤a1∧a1 < ((a2.set a1.toNat (-1)).length:Int)) (jb a0 a3 a1 ((a2.set a1.toNat (-1)).set a1.toNat (mat a3 ((idx a0.h.Txns a1).Proc)))) else (jb a0 a3 a1 (a2.set a1.toNat (-1)))))) else (iter (jd a0 a2) (a0.edges,0))
noncomputable def aM (a0:az):Option az :=
 must (0≤(a0.h.Txns.length:Int)∧(a0.h.Txns.length:Int)≤9223372036854775807∧(8:Int) * (a0.h.Txns.length:Int)≤281474976710656) (iter (je a0) (List.replicate (a0.h.Txns.length:Int).toNat (default:Int),[],w64 (((a0.h.Txns.length:Int).toNat:Int) - 1)))
noncomputable def lH (a1:Int) (a0:List Edge):Option ((List Edge×Int) ⊕ ((List Edge×Int) ⊕ az)) :=
 some (.inl (a0,w64 (a1 + 1)))
noncomputable def jk (a0:az) (a3:Int) (a2:List Edge) (a1:Int) (a4:Bool):Option ((List Edge×Int) ⊕ ((List Edge×Int) ⊕ az)) :=
 bif a4 then (fq (⟨a0.h,a0.asks,a2⟩:az) a3 a1 2 (-1)).bind fun a5=>lH a1 a5.edges else (lH a1 a2)
noncomputable def pq (a0:az) (a3:Int):(List Edge×Int)→Option ((List Edge×Int) ⊕ ((List Edge×Int) ⊕ az))
 | (a2,a1)=>bif decide (a1 < (a0.h.Txns.length:Int)) then must (0≤a1∧a1 < (a0.h.Txns.length:Int)) ((gX (⟨a0.h,a0.asks,a2⟩:az) a3).bind fun a5=>bif a5 then (gX (⟨a0.h,a0.asks,a2⟩:az) a1).bind fun a4=>bif a4 then jk a0 a3 a2 a1 (decide ((idx a0.h.Txns a3).To < (idx a0.h.Txns a1).From)) else (jk a0 a3 a2 a1 false) else (jk a0 a3 a2 a1 false)) else (out (some (.inl (a2,w64 (a3 + 1)))))
noncomputable def pu (a0:az):(List Edge×Int)→Option ((List Edge×Int) ⊕ az)
 | (a2,a1)=>bif decide (a1 < (a0.h.Txns.length:Int)) then must (0≤a1∧a1 < (a0.h.Txns.length:Int)) (iter (pq a0 a1) (a2,0)) else (out (some (⟨a0.h,a0.asks,a2⟩:az)))
noncomputable def bI (a0:az):Option az :=
 iter (pu a0) (a0.edges,0)
noncomputable def jh (a0:Int) (a1:aH) (a2:az):Option Bool :=
 bif (a0 == a1.Ask.Txn) then some true else ((gX a2 a0).bind fun y5=>some (!y5))
noncomputable def jR (a0:aH) (a1:Int):Option Bool :=
 bif ((a0.sources.length:Int) == 1) then must (0≤(0:Int)∧(0:Int) < (a0.sources.length:Int)) (some (idx a0.sources (0:Int) == a1)) else (some false)
noncomputable def kg (a0:aH) (a1:Int) (a2:aH):Option Bool :=
 bif (a0.Ask.Txn == a1) then bif (a0.Ask.Key == a2.Ask.Key) then must (0≤(0:Int)∧(0:Int) < (a2.sources.length:Int)) ((jR a0 (idx a2.sources (0:Int))).bind fun a3=>some a3) else (some false) else (some false)
noncomputable def eZ (a0:List aH) (a1c0:Int) (a1c1:aH):Int→Option (Int ⊕ Int)
 | a1=>bif decide (a1 < (a0.length:Int)) then must (0≤a1∧a1 < (a0.length:Int)) ((kg (⟨((idx a0 a1).Ask),(idx a0 a1).sources,(idx a0 a1).parts,(idx a0 a1).made,(idx a0 a1).kind⟩:aH) a1c0 a1c1).bind fun a2=>bif a2 then out (some a1) else (some (.inl (w64 (a1 + 1))))) else (out (some (-1)))
noncomputable def aX (a0:List aH) (a1c0:Int) (a1c1:aH):Option Int :=
 iter (eZ a0 a1c0 a1c1) 0
noncomputable def dm (a0:List aH) (a1c0:Int) (a1c1:aH):Option Bool :=
 (aX a0 a1c0 a1c1).bind fun y3=>some (decide (y3 ≥ 0))
noncomputable def gH (a0:az) (a1:aH) (a2:Int) (a4:Bool):Option Bool :=
 bif a4 then some false else ((dm a0.asks a2 a1).bind fun a3=>some a3)
noncomputable def dW (a0:az) (a1:aH) (a2:Int):Option Bool :=
 (jR a1 (-1)).bind fun a3=>bif a3 then some true else (bif a1.made then (slices_Contains_int a1.parts a2).bind fun a4=>some (!a4) else (bif (a1.kind != 1) then gH a0 a1 a2 true else (bif ((a1.sources.length:Int) != 1) then gH a0 a1 a2 true else (must (0≤(0:Int)∧(0:Int) < (a1.sources.length:Int)) (gH a0 a1 a2 (idx a1.sources (0:Int) == a2))))))
noncomputable def fC (a0:List Int) (a1c0:aH) (a1c1:az):Int→Option (Int ⊕ Int)
 | a1=>bif decide (a1 < (a0.length:Int)) then must (0≤a1∧a1 < (a0.length:Int)) ((jh (idx a0 a1) a1c0 a1c1).bind fun a2=>bif a2 then out (some a1) else (some (.inl (w64 (a1 + 1))))) else (out (some (-1)))
noncomputable def bB (a0:List Int) (a1c0:aH) (a1c1:az):Option Int :=
 iter (fC a0 a1c0 a1c1) 0
noncomputable def fu (a0:List Int) (a1c0:aH) (a1c1:az):List Int×Int→Option ((List Int×Int) ⊕ List Int)
 | (l,x)=>bif decide (x < (a0.length:Int)) then must (0≤x∧x < (a0.length:Int)) ((jh (idx a0 x) a1c0 a1c1).bind fun y=>bif !y then (some (.inl (l++[idx a0 x],w64 (x + 1)))) else (some (.inl (l,w64 (x + 1))))) else (out (some l))
noncomputable def bq (a0:List Int) (a1c0:aH) (a1c1:az):Option (List Int) :=
 (bB a0 a1c0 a1c1).bind fun i=>bif i == -1 then some a0 else must (0≤i∧i < (a0.length:Int)) (iter (fu a0 a1c0 a1c1) (a0.take i.toNat,w64 (i + 1)))
noncomputable def mY (a0:Int) (a1:List Edge):Option ((List Edge×Int) ⊕ az) :=
 some (.inl (a1,w64 (a0 + 1)))
noncomputable def qg (a0:az) (a1:aH) (a4:List Int):(List Edge×Int)→Option ((List Edge×Int) ⊕ az)
 | (a3,a2)=>bif decide (a2 < (a4.length:Int)) then must (0≤a2∧a2 < (a4.length:Int)) ((dW (⟨a0.h,a0.asks,a3⟩:az) a1 (idx a4 a2)).bind fun a6=>bif a6 then (fq (⟨a0.h,a0.asks,a3⟩:az) a1.Ask.Txn (idx a4 a2) 16 a1.Ask.Key).bind fun a5=>mY a2 a5.edges else (mY a2 a3)) else (out (some (⟨a0.h,a0.asks,a3⟩:az)))
noncomputable def iM (a0:az) (a1:aH) (a2:List Int) (a3:List Edge):Option az :=
 iter (qg a0 a1 a2) (a3,0)
noncomputable def ko (a0:Int) (a1:List Edge):Option ((List Edge×Int) ⊕ az) :=
 some (.inl (a1,w64 (a0 + 1)))
noncomputable def mZ (a1:Int) (a0:List Edge):Option ((List Edge×Int) ⊕ ((List Edge×Int) ⊕ az)) :=
 some (.inl (a0,w64 (a1 + 1)))
noncomputable def ng (a0:az) (a1:aH) (a3:List Int) (a5:Int):(List Edge×Int)→Option ((List Edge×Int) ⊕ ((List Edge×Int) ⊕ az))
 | (a4,a2)=>bif decide (a2 < (a3.length:Int)) then must (0≤a2∧a2 < (a3.length:Int)) ((slices_Contains_int a1.parts (idx a3 a2)).bind fun a6=>bif !a6 then (fq (⟨a0.h,a0.asks,a4⟩:az) (idx a1.parts a5) (idx a3 a2) 8 a1.Ask.Key).bind fun a7=>mZ a2 a7.edges else (mZ a2 a4)) else (out (ko a5 a4))
noncomputable def ni (a0:az) (a1:aH) (a5:List Int) (a3:List Edge) (a2:Int) (a4:Bool):Option ((List Edge×Int) ⊕ az) :=
 bif a4 then must (0≤w64 (a2 + 1)∧w64 (a2 + 1) < (a1.parts.length:Int)) ((fq (⟨a0.h,a0.asks,a3⟩:az) (idx a1.parts a2) (idx a1.parts (w64 (a2 + 1))) 8 a1.Ask.Key).bind fun a6=>ko a2 a6.edges) else (iter (ng a0 a1 a5 a2) (a3,0))
noncomputable def nk (a0:az) (a1:aH) (a4:List Int):(List Edge×Int)→Option ((List Edge×Int) ⊕ az)
 | (a3,a2)=>bif decide (a2 < (a1.parts.length:Int)) then must (0≤a2∧a2 < (a1.parts.length:Int)) (bif (a1.kind == 2) then ni a0 a1 a4 a3 a2 (decide (w64 (a2 + 1) < (a1.parts.length:Int))) else (ni a0 a1 a4 a3 a2 false)) else (out (iM a0 a1 a4 a3))
noncomputable def gU (a0:az) (a1:aH) (a2:List Edge):Option az :=
 (dH a0.h a1.Ask.Key).bind fun a4=>(bq a4 a1 (⟨a0.h,a0.asks,a2⟩:az)).bind fun a3=>bif a1.made then iter (nk a0 a1 a3) (a2,0) else (iM a0 a1 a3 a2)
noncomputable def fM (a0:az) (a1:aH) (a2:Bool):Option az :=
 bif a2 then must (0≤(0:Int)∧(0:Int) < (a1.sources.length:Int)) ((fq a0 (idx a1.sources (0:Int)) a1.Ask.Txn 4 a1.Ask.Key).bind fun a3=>gU a0 a1 a3.edges) else (gU a0 a1 a0.edges)
noncomputable def av (a0:az) (a1:aH):Option az :=
 bif ((a1.sources.length:Int) == 1) then must (0≤(0:Int)∧(0:Int) < (a1.sources.length:Int)) (fM a0 a1 (decide (idx a1.sources (0:Int) ≥ 0))) else (fM a0 a1 false)
noncomputable def vL (a0:Int) (a1:List aH):Option ((List aH×Int) ⊕ (fT×Int)) :=
 some (.inl (a1,w64 (a0 + 1)))
noncomputable def rU (a6:List Ask×Int) (a0:List aH) (a1:Int) (a5:Int) (a2:List Int×Int) (a3:List Int×Bool×Int) (a4:Bool):Option ((List aH×Int) ⊕ (fT×Int)) :=
 must (((a0.length + 1) + (a0.length + 1) / 4 + 192) * 112≤281474976710656∧a0.length + 1≤9223372036854775807) (vL a1 (a0++([(⟨(idx a6.1 a1),a2.1,a3.1,a4,a5⟩:aH)]:List aH)))
noncomputable def vM (a0:History) (a2:List Ask×Int) (a6:List aH) (a1:Int) (a5:Int):Option ((List aH×Int) ⊕ (fT×Int)) :=
 (nI a0 (idx a2.1 a1)).bind fun a4=>(qf a0 (idx a2.1 a1)).bind fun a3=>bif a3.2.1 then rU a2 a6 a1 a5 a4 a3 (decide ((((idx a2.1 a1).Base).length:Int) > 0)) else (rU a2 a6 a1 a5 a4 a3 false)
noncomputable def rV (a0:History) (a2:List aH):(List Edge×Int)→Option ((List Edge×Int) ⊕ ((List aH×Int) ⊕ (fT×Int)))
 | (a3,a1)=>bif decide (a1 < (a2.length:Int)) then must (0≤a1∧a1 < (a2.length:Int)) ((av (⟨a0,a2,a3⟩:az) (⟨((idx a2 a1).Ask),(idx a2 a1).sources,(idx a2 a1).parts,(idx a2 a1).made,(idx a2 a1).kind⟩:aH)).bind fun a4=>some (.inl (a4.edges,w64 (a1 + 1)))) else (out (out (some ((⟨(a0.Txns.length:Int),a3⟩:fT),0))))
noncomputable def vN (a0:History) (a2:List Ask×Int):(List aH×Int)→Option ((List aH×Int) ⊕ (fT×Int))
 | (a3,a1)=>bif decide (a1 < (a2.1.length:Int)) then must (0≤a1∧a1 < (a2.1.length:Int)) ((eP a0 ((idx a2.1 a1).Key)).bind fun a4=>vM a0 a2 a3 a1 a4) else ((aM (⟨a0,a3,([]:List Edge)⟩:az)).bind fun a6=>(bI (⟨a0,a3,a6.edges⟩:az)).bind fun a5=>iter (rV a0 a3) (a5.edges,0))
noncomputable def cK (a0:History):Option (fT×Int) :=
 (kF a0).bind fun a1=>bif (a1.2 != 0) then some ((⟨0,([]:List Edge)⟩:fT),a1.2) else (iter (vN a0 a1) ([],0))
noncomputable def zA (a0:History) (a4:List Txn) (a1:Int):(List Op×Int)→Option ((List Op×Int) ⊕ ((List Txn×Int) ⊕ History))
 | (a3,a2)=>bif decide (a2 < (((idx a0.Txns a1).Ops).length:Int)) then must (0≤a2∧a2 < (((idx a0.Txns a1).Ops).length:Int)) (must (((0 + (((idx ((idx a0.Txns a1).Ops) a2).Vals).length)) + (0 + (((idx ((idx a0.Txns a1).Ops) a2).Vals).length)) / 4 + 192) * 8≤281474976710656∧0 + (((idx ((idx a0.Txns a1).Ops) a2).Vals).length)≤9223372036854775807) (must (((a3.length + 1) + (a3.length + 1) / 4 + 192) * 56≤281474976710656∧a3.length + 1≤9223372036854775807) (some (.inl (a3++([(⟨(idx ((idx a0.Txns a1).Ops) a2).Kind,(idx ((idx a0.Txns a1).Ops) a2).Key,(idx ((idx a0.Txns a1).Ops) a2).Arg,(idx ((idx a0.Txns a1).Ops) a2).Got,([]:List Int)++((idx ((idx a0.Txns a1).Ops) a2).Vals)⟩:Op)]:List Op),w64 (a2 + 1)))))) else (must (((a4.length + 1) + (a4.length + 1) / 4 + 192) * 56≤281474976710656∧a4.length + 1≤9223372036854775807) (out (some (.inl (a4++([(⟨(idx a0.Txns a1).Proc,(idx a0.Txns a1).Status,(idx a0.Txns a1).From,(idx a0.Txns a1).To,a3⟩:Txn)]:List Txn),w64 (a1 + 1))))))
noncomputable def zB (a0:History):(List Txn×Int)→Option ((List Txn×Int) ⊕ History)
 | (a2,a1)=>bif decide (a1 < (a0.Txns.length:Int)) then must (0≤a1∧a1 < (a0.Txns.length:Int)) (iter (zA a0 a2 a1) ([],0)) else (out (some (⟨([]:List ByteArray)++a0.Keys,a2⟩:History)))
noncomputable def oh (a0:History):Option History :=
 must (((0 + a0.Keys.length) + (0 + a0.Keys.length) / 4 + 192) * 16≤281474976710656∧0 + a0.Keys.length≤9223372036854775807) (iter (zB a0) ([],0))
noncomputable def kY (a0:List Int) (a1:List Int):Int→Option (Int ⊕ Bool)
 | a2=>bif decide (a2 < (a0.length:Int)) then must (0≤a2∧a2 < (a0.length:Int)) (must (0≤a2∧a2 < (a1.length:Int)) (bif (idx a0 a2 != idx a1 a2) then out (some false) else (some (.inl (w64 (a2 + 1)))))) else (out (some true))
noncomputable def dF (a0:List Int) (a1:List Int):Option Bool :=
 bif ((a0.length:Int) != (a1.length:Int)) then some false else (iter (kY a0 a1) 0)
noncomputable def iU (a0:Int) (a1:Bool):Option (Int ⊕ (Int ⊕ (Int ⊕ Bool))) :=
 bif a1 then out (out (out (some false))) else (some (.inl (w64 (a0 + 1))))
noncomputable def zC (a0:History) (a1:History) (a3:Int) (a2:Int):Option (Int ⊕ (Int ⊕ (Int ⊕ Bool))) :=
 bif ((idx ((idx a0.Txns a3).Ops) a2).Kind != (idx ((idx a1.Txns a3).Ops) a2).Kind) then iU a2 true else (bif ((idx ((idx a0.Txns a3).Ops) a2).Key != (idx ((idx a1.Txns a3).Ops) a2).Key) then iU a2 true else (bif ((idx ((idx a0.Txns a3).Ops) a2).Arg != (idx ((idx a1.Txns a3).Ops) a2).Arg) then iU a2 true else (bif ((idx ((idx a0.Txns a3).Ops) a2).Got != (idx ((idx a1.Txns a3).Ops) a2).Got) then iU a2 true else ((dF ((idx ((idx a0.Txns a3).Ops) a2).Vals) ((idx ((idx a1.Txns a3).Ops) a2).Vals)).bind fun a4=>iU a2 (!a4)))))
noncomputable def zD (a0:History) (a1:History) (a3:Int):Int→Option (Int ⊕ (Int ⊕ (Int ⊕ Bool)))
 | a2=>bif decide (a2 < (((idx a0.Txns a3).Ops).length:Int)) then must (0≤a2∧a2 < (((idx a0.Txns a3).Ops).length:Int)) (must (0≤a2∧a2 < (((idx a1.Txns a3).Ops).length:Int)) (zC a0 a1 a3 a2)) else (out (some (.inl (w64 (a3 + 1)))))
noncomputable def iV (a0:History) (a1:History) (a2:Int) (a3:Bool):Option (Int ⊕ (Int ⊕ Bool)) :=
 bif a3 then out (out (some false)) else (iter (zD a0 a1 a2) 0)
noncomputable def zF (a0:History) (a1:History) (a2:Int):Option (Int ⊕ (Int ⊕ Bool)) :=
 bif ((idx a0.Txns a2).Proc != (idx a1.Txns a2).Proc) then iV a0 a1 a2 true else (bif ((idx a0.Txns a2).Status != (idx a1.Txns a2).Status) then iV a0 a1 a2 true else (bif ((idx a0.Txns a2).From != (idx a1.Txns a2).From) then iV a0 a1 a2 true else (bif ((idx a0.Txns a2).To != (idx a1.Txns a2).To) then iV a0 a1 a2 true else (iV a0 a1 a2 ((((idx a0.Txns a2).Ops).length:Int) != (((idx a1.Txns a2).Ops).length:Int))))))
noncomputable def zG (a0:History) (a1:History):Int→Option (Int ⊕ (Int ⊕ Bool))
 | a2=>bif decide (a2 < (a0.Txns.length:Int)) then must (0≤a2∧a2 < (a0.Txns.length:Int)) (must (0≤a2∧a2 < (a1.Txns.length:Int)) (zF a0 a1 a2)) else (out (out (some true)))
noncomputable def zH (a0:History) (a1:History):Int→Option (Int ⊕ Bool)
 | a2=>bif decide (a2 < (a0.Keys.length:Int)) then must (0≤a2∧a2 < (a0.Keys.length:Int)) (must (0≤a2∧a2 < (a1.Keys.length:Int)) (bif !(sEq (idx a0.Keys a2) (idx a1.Keys a2)) then out (some false) else (some (.inl (w64 (a2 + 1)))))) else (iter (zG a0 a1) 0)
noncomputable def sQ (a0:History) (a1:History) (b9:Bool):Option Bool :=
 bif b9 then some false else (iter (zH a0 a1) 0)
noncomputable def bn (a0:History) (a1:History):Option Bool :=
 bif ((a0.Keys.length:Int) != (a1.Keys.length:Int)) then sQ a0 a1 true else (sQ a0 a1 ((a0.Txns.length:Int) != (a1.Txns.length:Int)))
noncomputable def BK (a0:History):Option (List gQ×Int) :=
 (kW a0).bind fun a1=>some (a1.1.bad,a1.2)
noncomputable def uY (a0:History) (a1:List Int) (a3:List (Int×Int)) (a2:Int) (a4:Bool):Option (((List (Int×Int))×Int) ⊕ (dO×Bool)) :=
 bif a4 then out (some ((⟨a0,a1,a3⟩:dO),false)) else (some (.inl (gP a3 (idx a1 a2) a2,w64 (a2 + 1))))
noncomputable def xZ (a0:History) (a1:List Int) (a2:List (Int×Int)) (a3:Int) (a4:Bool):Option (Int ⊕ (((List (Int×Int))×Int) ⊕ (dO×Bool))) :=
 bif a4 then out (out (some ((⟨a0,a1,a2⟩:dO),false))) else (some (.inl (w64 (a3 + 1))))
noncomputable def Cx (a0:History) (a1:List Int) (a3:List (Int×Int)):Int→Option (Int ⊕ (((List (Int×Int))×Int) ⊕ (dO×Bool)))
 | a2=>bif decide (a2 < (a0.Txns.length:Int)) then must (0≤a2∧a2 < (a0.Txns.length:Int)) (bif !(nT a3 a2) then xZ a0 a1 a3 a2 ((idx a0.Txns a2).Status == 1) else (xZ a0 a1 a3 a2 false)) else (out (out (some ((⟨a0,a1,a3⟩:dO),true))))
noncomputable def Cy (a0:History) (a1:List Int):((List (Int×Int))×Int)→Option (((List (Int×Int))×Int) ⊕ (dO×Bool))
 | (a3,a2)=>bif decide (a2 < (a1.length:Int)) then must (0≤a2∧a2 < (a1.length:Int)) (bif decide (idx a1 a2 < 0) then uY a0 a1 a3 a2 true else (bif decide (idx a1 a2 ≥ (a0.Txns.length:Int)) then uY a0 a1 a3 a2 true else (must (0≤idx a1 a2∧idx a1 a2 < (a0.Txns.length:Int)) (uY a0 a1 a3 a2 ((idx a0.Txns (idx a1 a2)).Status == 2))))) else (bif ((a3.length:Int) != (a1.length:Int)) then out (some ((⟨a0,a1,a3⟩:dO),false)) else (iter (Cx a0 a1 a3) 0))
noncomputable def iq (a0:History) (a1:List Int):Option (dO×Bool) :=
 iter (Cy a0 a1) ([],0)
noncomputable def lI (a0:Int) (a1:List (Int×Int)):Option (((List (Int×Int))×Int) ⊕ Bool) :=
 some (.inl (a1,w64 (a0 + 1)))
noncomputable def lJ (a0:dO) (a2:List (Int×Int)) (a1:Int) (a3:Bool):Option (((List (Int×Int))×Int) ⊕ Bool) :=
 bif a3 then out (some false) else (lI a1 (gP a2 ((idx a0.h.Txns a1).Proc) (IR (mat a0.at_ a1) (mat a2 ((idx a0.h.Txns a1).Proc)))))
noncomputable def qh (a0:dO):((List (Int×Int))×Int)→Option (((List (Int×Int))×Int) ⊕ Bool)
 | (a2,a1)=>bif decide (a1 < (a0.h.Txns.length:Int)) then must (0≤a1∧a1 < (a0.h.Txns.length:Int)) (bif !(nT a0.at_ a1) then lI a1 a2 else (bif nT a2 ((idx a0.h.Txns a1).Proc) then lJ a0 a2 a1 (decide (mat a2 ((idx a0.h.Txns a1).Proc) > mat a0.at_ a1)) else (lJ a0 a2 a1 false))) else (out (some true))
noncomputable def dh (a0:dO):Option Bool :=
 iter (qh a0) ([],0)
noncomputable def oF (a0:dO) (a1:Ask) (a2:Int) (b9:Bool):Option Bool :=
 bif b9 then some false else ((fU a0.h a2 a1.Key).bind fun a3=>some a3.2)
noncomputable def iC (a0:dO) (a1:Ask) (a2:Int):Option Bool :=
 bif !(nT a0.at_ a2) then oF a0 a1 a2 true else (oF a0 a1 a2 (decide (mat a0.at_ a2 ≥ mat a0.at_ a1.Txn)))
noncomputable def uZ (a0:List Int):Option (List Int):=must (a0.length < 4611686018427387904) (some (a0.mergeSort fun x y=>decide (x≤y)))
noncomputable def mD (a0:List Int):Option (List Int) :=
 some a0
noncomputable def qJ (a1:List Int):(Int×Int)→Option ((Int×Int) ⊕ (List Int))
 | (a2,a0)=>bif decide (a0 < (a1.length:Int)) then must (0≤a0∧a0 < (a1.length:Int)) (some (.inl (w64 (a2 + (idx a1 a0)),w64 (a0 + 1)))) else (out (some ([a2]:List Int)))
noncomputable def mE (a0:dO) (a1:Int) (a2:List Int):Option (List Int) :=
 (eP a0.h a1).bind fun a3=>bif (a3 == 1) then must (0≤(IR 0 (w64 ((a2.length:Int) - 1)))∧(IR 0 (w64 ((a2.length:Int) - 1)))≤(a2.length:Int)∧(a2.length:Int)≤(a2.length:Int)) (some (eT a2 (IR 0 (w64 ((a2.length:Int) - 1))) (a2.length:Int))) else (bif (a3 == 3) then (uZ a2).bind fun a4=>mD a4 else (bif (a3 == 4) then iter (qJ a2) (0,0) else (mD a2)))
noncomputable def mF (a1:Int) (a0:List Int):Option ((List Int×Int) ⊕ ((List Int×Int) ⊕ (List Int))) :=
 some (.inl (a0,w64 (a1 + 1)))
noncomputable def mG (a0:dO) (a2:Int) (a5:Int) (a1:List Int) (a3:Int) (a4:Bool):Option ((List Int×Int) ⊕ ((List Int×Int) ⊕ (List Int))) :=
 bif a4 then must (((a1.length + 1) + (a1.length + 1) / 4 + 192) * 8≤281474976710656∧a1.length + 1≤9223372036854775807) (mF a3 (a1++([(idx ((idx a0.h.Txns (idx (eT a0.order (0:Int) (w64 ((mat a0.at_ a2) + 1))) a5)).Ops) a3).Arg]:List Int))) else (mF a3 a1)
noncomputable def qK (a0:dO) (a1:Int) (a2:Int) (a3:Int):(List Int×Int)→Option ((List Int×Int) ⊕ ((List Int×Int) ⊕ (List Int)))
 | (a5,a4)=>bif decide (a4 < (((idx a0.h.Txns (idx (eT a0.order (0:Int) (w64 ((mat a0.at_ a2) + 1))) a3)).Ops).length:Int)) then must (0≤a4∧a4 < (((idx a0.h.Txns (idx (eT a0.order (0:Int) (w64 ((mat a0.at_ a2) + 1))) a3)).Ops).length:Int)) (bif ((idx ((idx a0.h.Txns (idx (eT a0.order (0:Int) (w64 ((mat a0.at_ a2) + 1))) a3)).Ops) a4).Key == a1) then mG a0 a2 a3 a5 a4 (decide ((idx ((idx a0.h.Txns (idx (eT a0.order (0:Int) (w64 ((mat a0.at_ a2) + 1))) a3)).Ops) a4).Kind≤4)) else (mG a0 a2 a3 a5 a4 false)) else (out (some (.inl (a5,w64 (a3 + 1)))))
noncomputable def qL (a0:dO) (a1:Int) (a2:Int):(List Int×Int)→Option ((List Int×Int) ⊕ (List Int))
 | (a4,a3)=>bif decide (a3 < ((eT a0.order (0:Int) (w64 ((mat a0.at_ a2) + 1))).length:Int)) then must (0≤a3∧a3 < ((eT a0.order (0:Int) (w64 ((mat a0.at_ a2) + 1))).length:Int)) (must (0≤idx (eT a0.order (0:Int) (w64 ((mat a0.at_ a2) + 1))) a3∧idx (eT a0.order (0:Int) (w64 ((mat a0.at_ a2) + 1))) a3 < (a0.h.Txns.length:Int)) (iter (qK a0 a1 a2 a3) (a4,0))) else (out (mE a0 a1 a4))
noncomputable def aR (a0:dO) (a1:Int) (a2:Int):Option (List Int) :=
 bif decide (a2 ≥ 0) then must (0≤(0:Int)∧(0:Int)≤(w64 ((mat a0.at_ a2) + 1))∧(w64 ((mat a0.at_ a2) + 1))≤(a0.order.length:Int)) (iter (qL a0 a1 a2) ([],0)) else (mE a0 a1 [])
noncomputable def yc (a1:Exec) (a2:List Ask×Int) (a4:dO×Bool) (a0:Int) (a3:Bool):Option (Int ⊕ (Int×Int)) :=
 bif a3 then out (some (5,0)) else (must (0≤a0∧a0 < (a1.Picks.length:Int)) ((aR a4.1 ((idx a2.1 a0).Key) (idx a1.Picks a0)).bind fun a6=>(eu a6 ((idx a2.1 a0).Base)).bind fun a5=>bif !a5 then out (some (6,0)) else (some (.inl (w64 (a0 + 1))))))
noncomputable def Cz (a1:Exec) (a2:List Ask×Int) (a3:dO×Bool):Int→Option (Int ⊕ (Int×Int))
 | a0=>bif decide (a0 < (a2.1.length:Int)) then must (0≤a0∧a0 < (a2.1.length:Int)) (must (0≤a0∧a0 < (a1.Picks.length:Int)) (bif (idx a1.Picks a0 != (-1)) then (iC a3.1 (idx a2.1 a0) (idx a1.Picks a0)).bind fun a4=>yc a1 a2 a3 a0 (!a4) else (yc a1 a2 a3 a0 false))) else (out (some (0,0)))
noncomputable def oK (a0:History) (a1:Exec):Option (Int×Int) :=
 (kF a0).bind fun a2=>bif (a2.2 != 0) then some (0,a2.2) else ((BK a0).bind fun a5=>bif decide ((a5.1.length:Int) > 0) then some (1,0) else ((iq a0 a1.Order).bind fun a3=>bif !a3.2 then some (2,0) else (bif ((a1.Picks.length:Int) != (a2.1.length:Int)) then some (3,0) else ((dh a3.1).bind fun a4=>bif !a4 then some (4,0) else (iter (Cz a1 a2 a3) 0)))))
noncomputable def wM (a1:Exec) (a2:Edge) (a3:Bool):Option Bool :=
 bif a3 then some false else ((slices_Index_int a1.Order a2.From).bind fun a0=>(slices_Index_int a1.Order a2.To).bind fun a4=>bif decide (a0 ≥ 0) then some (decide (a0 < a4)) else (some false))
noncomputable def rz (a0:History) (a1:Exec) (a2:Edge):Option Bool :=
 (oK a0 a1).bind fun a3=>bif (a3.2 != 0) then wM a1 a2 true else (wM a1 a2 (a3.1 != 0))
noncomputable def om (a0:Int):Option Op :=
 some (⟨5,0,0,true,([a0]:List Int)⟩:Op)
noncomputable def kr:Option Bool :=
 (om 1).bind fun a1=>(om 1).bind fun a2=>(cK (⟨([(⟨#[120]⟩:ByteArray)]:List ByteArray),([(⟨0,1,0,9,([(⟨1,0,1,false,([]:List Int)⟩:Op)]:List Op)⟩:Txn),(⟨1,1,2,5,([a1,(⟨1,0,2,false,([]:List Int)⟩:Op)]:List Op)⟩:Txn),(⟨2,1,3,4,([a2,(⟨1,0,3,false,([]:List Int)⟩:Op)]:List Op)⟩:Txn)]:List Txn)⟩:History)).bind fun a0=>bif (a0.2 == 0) then bif (a0.1.N == 3) then bif ((a0.1.Edges.length:Int) == 4) then must (0≤(1:Int)∧(1:Int) < (a0.1.Edges.length:Int)) (bif (((idx a0.1.Edges (1:Int)).From == 1) && (((idx a0.1.Edges (1:Int)).To == 2) && (((idx a0.1.Edges (1:Int)).Kind == 16) && (((idx a0.1.Edges (1:Int)).Key == 0) && true)))) then must (0≤(0:Int)∧(0:Int) < (a0.1.Edges.length:Int)) ((rz (⟨([(⟨#[120]⟩:ByteArray)]:List ByteArray),([(⟨0,1,0,9,([(⟨1,0,1,false,([]:List Int)⟩:Op)]:List Op)⟩:Txn),(⟨1,1,2,5,([a1,(⟨1,0,2,false,([]:List Int)⟩:Op)]:List Op)⟩:Txn),(⟨2,1,3,4,([a2,(⟨1,0,3,false,([]:List Int)⟩:Op)]:List Op)⟩:Txn)]:List Txn)⟩:History) (⟨([0,1,2]:List Int),([0,0]:List Int)⟩:Exec) (idx a0.1.Edges (0:Int))).bind fun a3=>some a3) else (some false)) else (some false) else (some false) else (some false)
noncomputable def sS (a0:List ByteArray) (a1:ByteArray):Int→Option (Int ⊕ Int)
 | a2=>bif decide (a2 < (a0.length:Int)) then must (0≤a2∧a2 < (a0.length:Int)) (bif sEq (idx a0 a2) a1 then out (some a2) else (some (.inl (w64 (a2 + 1))))) else (out (some (-1)))
noncomputable def gI (a0:List ByteArray) (a1:ByteArray):Option Int :=
 iter (sS a0 a1) 0
noncomputable def ku (a0:Int) (a1:Bool):Option (Int ⊕ Bool) :=
 bif a1 then out (some false) else (some (.inl (w64 (a0 + 1))))
noncomputable def rW (a0:List ByteArray):Int→Option (Int ⊕ Bool)
 | a1=>bif decide (a1 < (a0.length:Int)) then must (0≤a1∧a1 < (a0.length:Int)) (bif decide (((idx a0 a1).size:Int) < 1) then ku a1 true else (bif decide (((idx a0 a1).size:Int) > 32) then ku a1 true else (must (0≤(0:Int)∧(0:Int)≤a1∧a1≤(a0.length:Int)) ((gI (eT a0 (0:Int) a1) (idx a0 a1)).bind fun a2=>ku a1 (decide (a2 ≥ 0)))))) else (out (some (decide ((a0.length:Int)≤32))))
noncomputable def dZ (a0:List ByteArray):Option Bool :=
 iter (rW a0) 0
noncomputable def jC (a0:Int) (a1:Bool):Option (Int ⊕ Bool) :=
 bif a1 then out (some false) else (some (.inl (w64 (a0 + 1))))
noncomputable def mH (a0:List Txn) (a1:Int):Int→Option (Int ⊕ Bool)
 | a2=>bif decide (a2 < a1) then must (0≤a2∧a2 < (a0.length:Int)) (bif ((idx a0 a2).Proc == (idx a0 a1).Proc) then bif ((idx a0 a2).To == (-1)) then jC a2 true else (jC a2 (decide ((idx a0 a2).To ≥ (idx a0 a1).From))) else (jC a2 false)) else (out (some true))
noncomputable def mI (a0:List Txn) (a1:Int) (a2:Bool):Option Bool :=
 bif a2 then some false else (iter (mH a0 a1) 0)
noncomputable def dR (a0:List Txn) (a1:Int) (a2:Bool):Option Bool :=
 bif a2 then some false else (bif decide (a1 > 0) then must (0≤w64 (a1 - 1)∧w64 (a1 - 1) < (a0.length:Int)) (mI a0 a1 (decide ((idx a0 a1).From≤(idx a0 (w64 (a1 - 1))).From))) else (mI a0 a1 false))
noncomputable def aS (a0:List Txn) (a1:Int):Option Bool :=
 must (0≤a1∧a1 < (a0.length:Int)) (bif decide ((idx a0 a1).Status < 1) then dR a0 a1 true else (bif decide ((idx a0 a1).Status > 3) then dR a0 a1 true else (bif decide ((idx a0 a1).From < 0) then dR a0 a1 true else (bif ((idx a0 a1).To != (-1)) then bif decide ((idx a0 a1).To≤(idx a0 a1).From) then dR a0 a1 true else (bif ((idx a0 a1).To == (-1)) then dR a0 a1 ((idx a0 a1).Status != 3) else (dR a0 a1 false)) else (bif ((idx a0 a1).To == (-1)) then dR a0 a1 ((idx a0 a1).Status != 3) else (dR a0 a1 false))))))
noncomputable def kR (a0:Call):Option Bool :=
 some (decide ((a0.Vals.length:Int)≤64))
noncomputable def oG (a0:Call):Int→Option (Int ⊕ Bool)
 | a1=>bif decide (a1 < (a0.Vals.length:Int)) then must (0≤a1∧a1 < (a0.Vals.length:Int)) (must (0≤w64 (a1 - 1)∧w64 (a1 - 1) < (a0.Vals.length:Int)) (bif decide (idx a0.Vals a1≤idx a0.Vals (w64 (a1 - 1))) then out (some false) else (some (.inl (w64 (a1 + 1)))))) else (out (kR a0))
noncomputable def iW (a0:Call) (a1:Bool):Option Bool :=
 bif a1 then some false else (bif (a0.Kind == 5) then some (decide ((a0.Vals.length:Int)≤1)) else (bif (a0.Kind == 8) then bif !a0.Got then some true else (some ((a0.Vals.length:Int) == 1)) else (bif (a0.Kind == 7) then iter (oG a0) 1 else (kR a0))))
noncomputable def iX (a0:Call) (a1:Int) (a2:Bool):Option Bool :=
 bif a2 then some false else (bif decide (a0.Kind≤4) then bif !a0.Got then bif ((a0.Vals.length:Int) == 0) then bif (a0.Kind != 4) then some true else (bif decide (a0.Arg ≥ (-1048576)) then some (decide (a0.Arg≤1048576)) else (some false)) else (some false) else (some false) else (bif (a0.Arg != 0) then iW a0 true else (bif (a0.Got != (a1 == 1)) then iW a0 true else (bif !a0.Got then iW a0 (decide ((a0.Vals.length:Int) > 0)) else (iW a0 false)))))
noncomputable def bD (a0:Call) (a1:Int):Option Bool :=
 bif decide (a0.Kind < 1) then iX a0 a1 true else (bif decide (a0.Kind > 8) then iX a0 a1 true else (bif decide ((a0.Key.size:Int) < 1) then iX a0 a1 true else (iX a0 a1 (decide ((a0.Key.size:Int) > 32)))))
noncomputable def nJ (a0:Event):Int→Option (Int ⊕ Bool)
 | a1=>bif decide (a1 < (a0.Calls.length:Int)) then must (0≤a1∧a1 < (a0.Calls.length:Int)) ((bD (idx a0.Calls a1) a0.Kind).bind fun a2=>bif !a2 then out (some false) else (some (.inl (w64 (a1 + 1))))) else (out (some true))
noncomputable def kw (a0:Event) (b9:Bool):Option Bool :=
 bif b9 then some false else (iter (nJ a0) 0)
noncomputable def dN (a0:Event):Option Bool :=
 bif decide (a0.Kind < 0) then kw a0 true else (bif decide (a0.Kind > 3) then kw a0 true else (kw a0 (decide ((a0.Calls.length:Int) > 16))))
noncomputable def rX (a0:List Event):Int→Option (Int ⊕ Int)
 | a1=>bif decide (a1 < (a0.length:Int)) then must (0≤a1∧a1 < (a0.length:Int)) ((dN (idx a0 a1)).bind fun a2=>bif !a2 then out (some 1) else (some (.inl (w64 (a1 + 1))))) else (out (some 0))
noncomputable def iN (a0:List Event):Option Int :=
 bif decide ((a0.length:Int) > 256) then some 1 else (iter (rX a0) 0)
noncomputable def jl (a0:Int):Option Int :=
 some (w64 (((w64 (a0 - 1)).tmod (4:Int)) + 1))
noncomputable def gY (a3:List ByteArray) (a0:List Int) (a4:List (List Int)) (a2:List Int) (a1:List Int):Option (Int×aK) :=
 some (0,(⟨a3,a0,a4,a2,a1⟩:aK))
noncomputable def gZ (a2:Int) (a5:List ByteArray) (a4:List Int) (a1:List Int) (a3:List Int) (a0:Int) (a6:List (List Int)) (a7:Bool):Option (Int×aK) :=
 bif a7 then must (0≤a0∧a0 < (a3.length:Int)) (must (0≤a0∧a0 < (a1.length:Int)) (bif decide (idx (a1.set a0.toNat (w64 ((idx a1 a0) + 1))) a0 > 8) then some (51,(⟨a5,a4,a6,a1.set a0.toNat (w64 ((idx a1 a0) + 1)),a3.set a0.toNat a2⟩:aK)) else (gY a5 a4 a6 (a1.set a0.toNat (w64 ((idx a1 a0) + 1))) (a3.set a0.toNat a2)))) else (gY a5 a4 a6 a1 a3)
noncomputable def fQ (a1:Call) (a2:Int) (a6:List ByteArray) (a5:List Int) (a4:List Int) (a3:List Int) (a0:Int) (a7:List (List Int)):Option (Int×aK) :=
 bif (a1.Kind == 4) then must (0≤a0∧a0 < (a3.length:Int)) (gZ a2 a6 a5 a4 a3 a0 a7 (idx a3 a0 != a2)) else (gZ a2 a6 a5 a4 a3 a0 a7 false)
noncomputable def jK (a1:Call) (a2:Int) (a8:List ByteArray) (a6:List Int) (a3:List (List Int)) (a5:List Int) (a7:List Int) (a0:Int):Int→Option (Int ⊕ (Int×aK))
 | a4=>must (0≤a0∧a0 < (a3.length:Int)) (bif decide (a4 < ((idx a3 a0).length:Int)) then must (0≤a4∧a4 < ((idx a3 a0).length:Int)) (bif (idx (idx a3 a0) a4 == a1.Arg) then out (some (3,(⟨a8,a6,a3,a5,a7⟩:aK))) else (some (.inl (w64 (a4 + 1))))) else (must (((((idx a3 a0).length) + 1) + (((idx a3 a0).length) + 1) / 4 + 192) * 8≤281474976710656∧((idx a3 a0).length) + 1≤9223372036854775807) (out (fQ a1 a2 a8 a6 a5 a7 a0 (a3.set a0.toNat ((idx a3 a0)++([a1.Arg]:List Int)))))))
noncomputable def jL (a1:Call) (a2:Int) (a7:List ByteArray) (a4:List Int) (a0:List (List Int)) (a3:List Int) (a5:List Int) (a6:Int) (a8:Bool):Option (Int×aK) :=
 bif a8 then iter (jK a1 a2 a7 a4 a0 a3 a5 a6) 0 else (fQ a1 a2 a7 a4 a3 a5 a6 a0)
noncomputable def fe (a1:Call) (a2:Int) (a7:List ByteArray) (a0:List Int) (a4:List (List Int)) (a5:List Int) (a6:List Int) (a3:Int):Option (Int×aK) :=
 must (0≤a3∧a3 < (a0.length:Int)) ((jl a1.Kind).bind fun a8=>bif (idx a0 a3 != a8) then some (50,(⟨a7,a0,a4,a5,a6⟩:aK)) else (bif (a1.Kind == 2) then jL a1 a2 a7 a0 a4 a5 a6 a3 true else (jL a1 a2 a7 a0 a4 a5 a6 a3 (a1.Kind == 3))))
noncomputable def jM (a0:aK) (a1:Call) (a2:Int) (a3:List Int):Option (Int×aK) :=
 must (((a0.wrote.length + 1) + (a0.wrote.length + 1) / 4 + 192) * 24≤281474976710656∧a0.wrote.length + 1≤9223372036854775807) (must (((a0.incs.length + 1) + (a0.incs.length + 1) / 4 + 192) * 8≤281474976710656∧a0.incs.length + 1≤9223372036854775807) (must (((a0.last_.length + 1) + (a0.last_.length + 1) / 4 + 192) * 8≤281474976710656∧a0.last_.length + 1≤9223372036854775807) (fe a1 a2 (a0.keys++([a1.Key]:List ByteArray)) a3 (a0.wrote++([([]:List Int)]:List (List Int))) (a0.incs++([0]:List Int)) (a0.last_++([(-1)]:List Int)) (a0.keys.length:Int))))
noncomputable def jN (a0:aK) (a1:Call) (a2:Int):Option (Int×aK) :=
 (jl a1.Kind).bind fun a3=>must (((a0.types.length + 1) + (a0.types.length + 1) / 4 + 192) * 8≤281474976710656∧a0.types.length + 1≤9223372036854775807) (jM a0 a1 a2 (a0.types++([a3]:List Int)))
noncomputable def aj (a0:aK) (a1:Call) (a2:Int):Option (Int×aK) :=
 (gI a0.keys a1.Key).bind fun y5=>bif decide (y5 < 0) then bif decide ((a0.keys.length:Int) ≥ 32) then some (2,a0) else (must (((a0.keys.length + 1) + (a0.keys.length + 1) / 4 + 192) * 16≤281474976710656∧a0.keys.length + 1≤9223372036854775807) (jN a0 a1 a2)) else (fe a1 a2 a0.keys a0.types a0.wrote a0.incs a0.last_ y5)
noncomputable def rY (a0:History) (a2:Int) (a3:List Call) (a1:Int):Option ((List Call×Int) ⊕ ((List ByteArray×List Int×(List (List Int))×List Int×List Int×Int) ⊕ Int)) :=
 some (.inl (a3++([(⟨(idx ((idx a0.Txns a2).Ops) a1).Kind,idx a0.Keys ((idx ((idx a0.Txns a2).Ops) a1).Key),(idx ((idx a0.Txns a2).Ops) a1).Arg,(idx ((idx a0.Txns a2).Ops) a1).Got,(idx ((idx a0.Txns a2).Ops) a1).Vals⟩:Call)]:List Call),w64 (a1 + 1)))
noncomputable def nK (a0:History) (a2:Int) (a1:List Call) (a3:Int) (a4:Bool):Option ((List Call×Int) ⊕ ((List ByteArray×List Int×(List (List Int))×List Int×List Int×Int) ⊕ Int)) :=
 bif a4 then out (out (some 1)) else (must (0≤(idx ((idx a0.Txns a2).Ops) a3).Key∧(idx ((idx a0.Txns a2).Ops) a3).Key < (a0.Keys.length:Int)) (must (((a1.length + 1) + (a1.length + 1) / 4 + 192) * 64≤281474976710656∧a1.length + 1≤9223372036854775807) (rY a0 a2 a1 a3)))
noncomputable def gJ (a3:Int) (a2:List Call):(List ByteArray×List Int×(List (List Int))×List Int×List Int×Int)→Option ((List ByteArray×List Int×(List (List Int))×List Int×List Int×Int) ⊕ ((List Call×Int) ⊕ ((List ByteArray×List Int×(List (List Int))×List Int×List Int×Int) ⊕ Int)))
 | (a4,a8,a7,a6,a5,a1)=>bif decide (a1 < (a2.length:Int)) then must (0≤a1∧a1 < (a2.length:Int)) ((aj (⟨a4,a8,a7,a6,a5⟩:aK) (idx a2 a1) a3).bind fun a0=>bif (a0.1 != 0) then out (out (out (some 1))) else (some (.inl (a0.2.keys,a0.2.types,a0.2.wrote,a0.2.incs,a0.2.last_,w64 (a1 + 1))))) else (out (out (some (.inl (a4,a8,a7,a6,a5,w64 (a3 + 1))))))
noncomputable def gK (a0:History) (a6:List ByteArray) (a4:List Int) (a8:List (List Int)) (a7:List Int) (a5:List Int) (a1:Int):(List Call×Int)→Option ((List Call×Int) ⊕ ((List ByteArray×List Int×(List (List Int))×List Int×List Int×Int) ⊕ Int))
 | (a3,a2)=>bif decide (a2 < (((idx a0.Txns a1).Ops).length:Int)) then must (0≤a2∧a2 < (((idx a0.Txns a1).Ops).length:Int)) (bif decide ((idx ((idx a0.Txns a1).Ops) a2).Key < 0) then nK a0 a1 a3 a2 true else (nK a0 a1 a3 a2 (decide ((idx ((idx a0.Txns a1).Ops) a2).Key ≥ (a0.Keys.length:Int))))) else ((iN ([(⟨0,(idx a0.Txns a1).Status,a3⟩:Event)]:List Event)).bind fun a9=>bif (a9 != 0) then out (out (some 1)) else (iter (gJ a1 a3) (a6,a4,a8,a7,a5,0)))
noncomputable def ky (a0:History) (a4:List ByteArray) (a2:List Int) (a7:List (List Int)) (a5:List Int) (a3:List Int) (a1:Int) (a6:Bool):Option ((List ByteArray×List Int×(List (List Int))×List Int×List Int×Int) ⊕ Int) :=
 bif a6 then out (some 1) else (iter (gK a0 a4 a2 a7 a5 a3 a1) ([],0))
noncomputable def kz (a0:History):(List ByteArray×List Int×(List (List Int))×List Int×List Int×Int)→Option ((List ByteArray×List Int×(List (List Int))×List Int×List Int×Int) ⊕ Int)
 | (a4,a2,a6,a5,a3,a1)=>bif decide (a1 < (a0.Txns.length:Int)) then must (0≤a1∧a1 < (a0.Txns.length:Int)) ((aS a0.Txns a1).bind fun a7=>bif !a7 then ky a0 a4 a2 a6 a5 a3 a1 true else (ky a0 a4 a2 a6 a5 a3 a1 (decide ((((idx a0.Txns a1).Ops).length:Int) > 16)))) else (out (some 0))
noncomputable def iI (a0:History) (a1:Bool):Option Int :=
 bif a1 then some 1 else (iter (kz a0) ([],[],[],[],[],0))
noncomputable def ax (a0:History):Option Int :=
 (dZ a0.Keys).bind fun a1=>bif !a1 then iI a0 true else (iI a0 (decide ((a0.Txns.length:Int) > 32)))
noncomputable def lK (a0:Int):Option Bool :=
 some (decide (a0≤4))
noncomputable def kC (a0:Bool):Option Int :=
 bif !a0 then some 80 else (some 0)
noncomputable def rZ (a1:Int) (a0:Bool):Option ((Bool×Int) ⊕ Int) :=
 some (.inl (a0,w64 (a1 + 1)))
noncomputable def yf (a1:List Int):(Bool×Int)→Option ((Bool×Int) ⊕ Int)
 | (a2,a0)=>bif decide (a0 < (a1.length:Int)) then bif a2 then must (0≤w64 (a0 - 1)∧w64 (a0 - 1) < (a1.length:Int)) (must (0≤a0∧a0 < (a1.length:Int)) (rZ a0 (decide (idx a1 (w64 (a0 - 1)) < idx a1 a0)))) else (rZ a0 false) else (out (kC a2))
noncomputable def si (a0:Int) (a1:List Int) (b5:Bool):Option Int :=
 bif b5 then some 1 else (bif (a0 == 1) then kC (decide ((a1.length:Int)≤1)) else (bif (a0 == 4) then kC ((a1.length:Int) == 1) else (bif (a0 == 3) then iter (yf a1) (decide ((a1.length:Int)≤64),1) else (kC (decide ((a1.length:Int)≤64))))))
noncomputable def dI (a0:Int) (a1:List Int):Option Int :=
 bif decide (a0 < 1) then si a0 a1 true else (si a0 a1 (decide (a0 > 4)))
noncomputable def Ap (a0:List Int) (a1:Int):Int→Option (Int ⊕ Bool)
 | a2=>bif decide (a2 < (a0.length:Int)) then must (0≤a2∧a2 < (a0.length:Int)) (bif (idx a0 a2 == a1) then out (some true) else (some (.inl (w64 (a2 + 1))))) else (out (some false))
noncomputable def nL (a0:List Int) (a1:Int):Option Bool :=
 iter (Ap a0 a1) 0
noncomputable def xE (a2:List Int):(Int×Int)→Option ((Int×Int) ⊕ (List Int×Bool))
 | (a1,a0)=>bif decide (a0 < (a2.length:Int)) then must (0≤a0∧a0 < (a2.length:Int)) (some (.inl (w64 (a1 - (idx a2 a0)),w64 (a0 + 1)))) else (out (some (([a1]:List Int),true)))
noncomputable def xG (a1:List Int) (a2:List Int):Int→Option (Int ⊕ (List Int×Bool))
 | a0=>bif decide (a0 < (a2.length:Int)) then must (0≤w64 ((w64 ((a1.length:Int) - (a2.length:Int))) + a0)∧w64 ((w64 ((a1.length:Int) - (a2.length:Int))) + a0) < (a1.length:Int)) (must (0≤a0∧a0 < (a2.length:Int)) (bif (idx a1 (w64 ((w64 ((a1.length:Int) - (a2.length:Int))) + a0)) != idx a2 a0) then out (some (([]:List Int),false)) else (some (.inl (w64 (a0 + 1)))))) else (must (0≤(0:Int)∧(0:Int)≤(w64 ((a1.length:Int) - (a2.length:Int)))∧(w64 ((a1.length:Int) - (a2.length:Int)))≤(a1.length:Int)) (must (((0 + ((eT a1 (0:Int) (w64 ((a1.length:Int) - (a2.length:Int)))).length)) + (0 + ((eT a1 (0:Int) (w64 ((a1.length:Int) - (a2.length:Int)))).length)) / 4 + 192) * 8≤281474976710656∧0 + ((eT a1 (0:Int) (w64 ((a1.length:Int) - (a2.length:Int)))).length)≤9223372036854775807) (out (some (([]:List Int)++(eT a1 (0:Int) (w64 ((a1.length:Int) - (a2.length:Int)))),true)))))
noncomputable def qM (a0:Int) (a1:Bool):Option (Int ⊕ (List Int×Bool)) :=
 bif a1 then out (some (([]:List Int),false)) else (some (.inl (w64 (a0 + 1))))
noncomputable def qN (a0:Int) (a1:List Int):Option ((List Int×Int) ⊕ (Int ⊕ (List Int×Bool))) :=
 some (.inl (a1,w64 (a0 + 1)))
noncomputable def xH (a1:List Int) (a2:List Int):(List Int×Int)→Option ((List Int×Int) ⊕ (Int ⊕ (List Int×Bool)))
 | (a3,a0)=>bif decide (a0 < (a1.length:Int)) then must (0≤a0∧a0 < (a1.length:Int)) ((nL a2 (idx a1 a0)).bind fun a4=>bif !a4 then must (((a3.length + 1) + (a3.length + 1) / 4 + 192) * 8≤281474976710656∧a3.length + 1≤9223372036854775807) (qN a0 (a3++([idx a1 a0]:List Int))) else (qN a0 a3)) else (out (out (some (a3,true))))
noncomputable def xI (a1:List Int) (a2:List Int):Int→Option (Int ⊕ (List Int×Bool))
 | a0=>bif decide (a0 < (a2.length:Int)) then must (0≤a0∧a0 < (a2.length:Int)) ((nL a1 (idx a2 a0)).bind fun a3=>bif !a3 then qM a0 true else (must (0≤(0:Int)∧(0:Int)≤a0∧a0≤(a2.length:Int)) ((nL (eT a2 (0:Int) a0) (idx a2 a0)).bind fun a4=>qM a0 a4))) else (iter (xH a1 a2) ([],0))
noncomputable def qO (a0:Int) (a1:List Int) (a2:List Int) (b9:Bool):Option (List Int×Bool) :=
 bif b9 then some (([]:List Int),false) else (bif (a0 == 1) then bif ((a1.length:Int) == 1) then must (0≤(0:Int)∧(0:Int) < (a1.length:Int)) (must (0≤w64 ((a2.length:Int) - 1)∧w64 ((a2.length:Int) - 1) < (a2.length:Int)) (some (([]:List Int),(idx a1 (0:Int) == idx a2 (w64 ((a2.length:Int) - 1)))))) else (some (([]:List Int),false)) else (bif (a0 == 4) then must (0≤(0:Int)∧(0:Int) < (a1.length:Int)) (iter (xE a2) (idx a1 (0:Int),0)) else (bif (a0 == 2) then bif decide ((a2.length:Int) > (a1.length:Int)) then some (([]:List Int),false) else (iter (xG a1 a2) 0) else (iter (xI a1 a2) 0))))
noncomputable def bM (a0:Int) (a1:List Int) (a2:List Int):Option (List Int×Bool) :=
 (dI a0 a1).bind fun a3=>bif (a3 != 0) then qO a0 a1 a2 true else (qO a0 a1 a2 ((a2.length:Int) == 0))
noncomputable def nu (a2:Int) (a1:List Ask) (a0:List gQ):Option ((List Ask×List gQ×Int) ⊕ (List Ask×List gQ)) :=
 some (.inl (a1,a0,w64 (a2 + 1)))
noncomputable def ve (a1:Int) (a0:List Int):Option ((List Int×Int) ⊕ ((List Ask×List gQ×Int) ⊕ (List Ask×List gQ))) :=
 some (.inl (a0,w64 (a1 + 1)))
noncomputable def vg (a0:History) (a1:Int) (a3:List Int) (a2:Int) (a4:Bool):Option ((List Int×Int) ⊕ ((List Ask×List gQ×Int) ⊕ (List Ask×List gQ))) :=
 bif a4 then must (0≤a2∧a2 < (((idx a0.Txns a1).Ops).length:Int)) (must (((a3.length + 1) + (a3.length + 1) / 4 + 192) * 8≤281474976710656∧a3.length + 1≤9223372036854775807) (ve a2 (a3++([(idx ((idx a0.Txns a1).Ops) a2).Arg]:List Int)))) else (ve a2 a3)
noncomputable def vk (a0:History) (a1:Int) (a2:List Ask) (a4:List gQ) (a3:Int) (a5:List Int):Option ((List Int×Int) ⊕ ((List Ask×List gQ×Int) ⊕ (List Ask×List gQ))) :=
 must (((a2.length + 1) + (a2.length + 1) / 4 + 192) * 48≤281474976710656∧a2.length + 1≤9223372036854775807) (out (nu a3 (a2++([(⟨a1,a3,(idx ((idx a0.Txns a1).Ops) a3).Key,a5⟩:Ask)]:List Ask)) a4))
noncomputable def Aq (a0:History) (a1:Int) (a5:List Ask) (a4:List gQ) (a2:Int):(List Int×Int)→Option ((List Int×Int) ⊕ ((List Ask×List gQ×Int) ⊕ (List Ask×List gQ)))
 | (a6,a3)=>bif decide (a3 < a2) then must (0≤a3∧a3 < (((idx a0.Txns a1).Ops).length:Int)) (bif ((idx ((idx a0.Txns a1).Ops) a3).Key == (idx ((idx a0.Txns a1).Ops) a2).Key) then (lK ((idx ((idx a0.Txns a1).Ops) a3).Kind)).bind fun a9=>vg a0 a1 a6 a3 a9 else (vg a0 a1 a6 a3 false)) else (must (((0 + (((idx ((idx a0.Txns a1).Ops) a2).Vals).length)) + (0 + (((idx ((idx a0.Txns a1).Ops) a2).Vals).length)) / 4 + 192) * 8≤281474976710656∧0 + (((idx ((idx a0.Txns a1).Ops) a2).Vals).length)≤9223372036854775807) (bif decide ((a6.length:Int) > 0) then (jl ((idx ((idx a0.Txns a1).Ops) a2).Kind)).bind fun a8=>(bM a8 ((idx ((idx a0.Txns a1).Ops) a2).Vals) a6).bind fun a7=>bif !a7.2 then must (((a4.length + 1) + (a4.length + 1) / 4 + 192) * 16≤281474976710656∧a4.length + 1≤9223372036854775807) (out (nu a2 a5 (a4++([(⟨a1,a2⟩:gQ)]:List gQ)))) else (bif ((idx ((idx a0.Txns a1).Ops) a2).Kind == 5) then out (nu a2 a5 a4) else (vk a0 a1 a5 a4 a2 a7.1)) else (vk a0 a1 a5 a4 a2 (([]:List Int)++((idx ((idx a0.Txns a1).Ops) a2).Vals)))))
noncomputable def Ar (a0:History) (a1:Int):(List Ask×List gQ×Int)→Option ((List Ask×List gQ×Int) ⊕ (List Ask×List gQ))
 | (a4,a3,a2)=>bif decide (a2 < (((idx a0.Txns a1).Ops).length:Int)) then must (0≤a2∧a2 < (((idx a0.Txns a1).Ops).length:Int)) ((lK ((idx ((idx a0.Txns a1).Ops) a2).Kind)).bind fun a5=>bif a5 then nu a2 a4 a3 else (iter (Aq a0 a1 a4 a3 a2) ([],0))) else (out (some (a4,a3)))
noncomputable def dz (a0:History) (a1:Int):Option (List Ask×List gQ) :=
 must (0≤a1∧a1 < (a0.Txns.length:Int)) (bif ((idx a0.Txns a1).Status != 1) then some (([]:List Ask),([]:List gQ)) else (iter (Ar a0 a1) ([],[],0)))
noncomputable def zV (a0:History):(List Ask×List gQ×Int)→Option ((List Ask×List gQ×Int) ⊕ (List Ask×List gQ))
 | (a3,a2,a4)=>bif decide (a4 < (a0.Txns.length:Int)) then (dz a0 a4).bind fun a1=>must (((a3.length + a1.1.length) + (a3.length + a1.1.length) / 4 + 192) * 48≤281474976710656∧a3.length + a1.1.length≤9223372036854775807) (must (((a2.length + a1.2.length) + (a2.length + a1.2.length) / 4 + 192) * 16≤281474976710656∧a2.length + a1.2.length≤9223372036854775807) (some (.inl (a3++a1.1,a2++a1.2,w64 (a4 + 1))))) else (out (some (a3,a2)))
noncomputable def oW (a0:History):Option (List Ask×List gQ) :=
 iter (zV a0) ([],[],0)
noncomputable def sj (a0:Int) (a1:List Edge):Option ((List Edge×Int) ⊕ (List Edge)) :=
 some (.inl (a1,w64 (a0 + 1)))
noncomputable def su (a0:Int) (a1:List Edge):Option ((List Edge×Int) ⊕ (List Edge)) :=
 sj a0 a1
noncomputable def sw (a0:List Edge) (a2:Int) (a1:Int) (a3:Bool):Option (Int ⊕ ((List Edge×Int) ⊕ (List Edge))) :=
 bif a3 then must (((a0.length + 1) + (a0.length + 1) / 4 + 192) * 32≤281474976710656∧a0.length + 1≤9223372036854775807) (out (su a2 (a0++([(⟨a2,a1,1,(-1)⟩:Edge)]:List Edge)))) else (some (.inl (w64 (a1 + 1))))
noncomputable def yg (a0:History) (a3:List Edge) (a2:Int):Int→Option (Int ⊕ ((List Edge×Int) ⊕ (List Edge)))
 | a1=>bif decide (a1 < (a0.Txns.length:Int)) then must (0≤a1∧a1 < (a0.Txns.length:Int)) (bif ((idx a0.Txns a1).Status == 1) then sw a3 a2 a1 ((idx a0.Txns a1).Proc == (idx a0.Txns a2).Proc) else (sw a3 a2 a1 false)) else (out (su a2 a3))
noncomputable def sD (a1:Int) (a0:List Edge):Option ((List Edge×Int) ⊕ ((List Edge×Int) ⊕ ((List Edge×Int) ⊕ (List Edge)))) :=
 some (.inl (a0,w64 (a1 + 1)))
noncomputable def nM (a2:Int) (a0:List Edge) (a1:Int) (a3:Bool):Option ((List Edge×Int) ⊕ ((List Edge×Int) ⊕ ((List Edge×Int) ⊕ (List Edge)))) :=
 bif a3 then must (((a0.length + 1) + (a0.length + 1) / 4 + 192) * 32≤281474976710656∧a0.length + 1≤9223372036854775807) (sD a1 (a0++([(⟨a2,a1,2,(-1)⟩:Edge)]:List Edge))) else (sD a1 a0)
noncomputable def yh (a0:History) (a1:Int):(List Edge×Int)→Option ((List Edge×Int) ⊕ ((List Edge×Int) ⊕ ((List Edge×Int) ⊕ (List Edge))))
 | (a3,a2)=>bif decide (a2 < (a0.Txns.length:Int)) then must (0≤a1∧a1 < (a0.Txns.length:Int)) (bif ((idx a0.Txns a1).Status == 1) then must (0≤a2∧a2 < (a0.Txns.length:Int)) (bif ((idx a0.Txns a2).Status == 1) then nM a1 a3 a2 (decide ((idx a0.Txns a1).To < (idx a0.Txns a2).From)) else (nM a1 a3 a2 false)) else (nM a1 a3 a2 false)) else (out (some (.inl (a3,w64 (a1 + 1)))))
noncomputable def yj (a0:History):(List Edge×Int)→Option ((List Edge×Int) ⊕ ((List Edge×Int) ⊕ (List Edge)))
 | (a2,a1)=>bif decide (a1 < (a0.Txns.length:Int)) then iter (yh a0 a1) (a2,0) else (out (out (some a2)))
noncomputable def yl (a0:History):(List Edge×Int)→Option ((List Edge×Int) ⊕ (List Edge))
 | (a2,a1)=>bif decide (a1 < (a0.Txns.length:Int)) then must (0≤a1∧a1 < (a0.Txns.length:Int)) (bif ((idx a0.Txns a1).Status != 1) then sj a1 a2 else (iter (yg a0 a2 a1) (w64 (a1 + 1)))) else (iter (yj a0) (a2,0))
noncomputable def aV (a0:History):Option (List Edge) :=
 iter (yl a0) ([],0)
noncomputable def oo (a0:History) (a1:Ask):Option Int :=
 must (0≤a1.Txn∧a1.Txn < (a0.Txns.length:Int)) (must (0≤a1.Place∧a1.Place < (((idx a0.Txns a1.Txn).Ops).length:Int)) ((jl ((idx ((idx a0.Txns a1.Txn).Ops) a1.Place).Kind)).bind fun a2=>some a2))
noncomputable def nN (a0:Int) (a1:List Int):Option ((List Int×Int) ⊕ (List Int)) :=
 some (.inl (a1,w64 (a0 + 1)))
noncomputable def nO (a0:History) (a1:Int) (a2:List Int) (a3:Int) (a4:Bool):Option ((List Int×Int) ⊕ (List Int)) :=
 bif a4 then must (((a2.length + 1) + (a2.length + 1) / 4 + 192) * 8≤281474976710656∧a2.length + 1≤9223372036854775807) (nN a3 (a2++([(idx ((idx a0.Txns a1).Ops) a3).Arg]:List Int))) else (nN a3 a2)
noncomputable def sF (a0:History) (a1:Int) (a2:Int):(List Int×Int)→Option ((List Int×Int) ⊕ (List Int))
 | (a4,a3)=>must (0≤a1∧a1 < (a0.Txns.length:Int)) (bif decide (a3 < (((idx a0.Txns a1).Ops).length:Int)) then must (0≤a3∧a3 < (((idx a0.Txns a1).Ops).length:Int)) (bif ((idx ((idx a0.Txns a1).Ops) a3).Key == a2) then (lK ((idx ((idx a0.Txns a1).Ops) a3).Kind)).bind fun a5=>nO a0 a1 a4 a3 a5 else (nO a0 a1 a4 a3 false)) else (out (some a4)))
noncomputable def aP (a0:History) (a1:Int) (a2:Int):Option (List Int) :=
 iter (sF a0 a1 a2) ([],0)
noncomputable def mJ (a1:Int) (a0:List Int):Option ((List Int×Int) ⊕ (List Int)) :=
 some (.inl (a0,w64 (a1 + 1)))
noncomputable def jD (a0:List Int) (a1:Int) (a2:Bool):Option ((List Int×Int) ⊕ (List Int)) :=
 bif a2 then must (((a0.length + 1) + (a0.length + 1) / 4 + 192) * 8≤281474976710656∧a0.length + 1≤9223372036854775807) (mJ a1 (a0++([a1]:List Int))) else (mJ a1 a0)
noncomputable def qP (a0:History) (a1:Ask):(List Int×Int)→Option ((List Int×Int) ⊕ (List Int))
 | (a3,a2)=>bif decide (a2 < (a0.Txns.length:Int)) then bif (a2 != a1.Txn) then must (0≤a2∧a2 < (a0.Txns.length:Int)) (bif ((idx a0.Txns a2).Status != 2) then (aP a0 a2 a1.Key).bind fun a4=>jD a3 a2 (decide ((a4.length:Int) > 0)) else (jD a3 a2 false)) else (jD a3 a2 false) else (out (some a3))
noncomputable def aT (a0:History) (a1:Ask):Option (List Int) :=
 iter (qP a0 a1) ([],0)
noncomputable def ut (y7:List Int):(Int×Int)→Option ((Int×Int) ⊕ Int)
 | (a1,a0)=>bif decide (a0 < (y7.length:Int)) then must (0≤a0∧a0 < (y7.length:Int)) (some (.inl (w64 (a1 + (idx y7 a0)),w64 (a0 + 1)))) else (out (some a1))
noncomputable def jS (a0:History) (a1:Int) (a2:Int):Option Int :=
 (aP a0 a1 a2).bind fun y7=>iter (ut y7) (0,0)
noncomputable def mK (a1:Int) (a0:Int):Option ((Int×Int) ⊕ ((List Bool×Int) ⊕ (List Int))) :=
 some (.inl (a0,w64 (a1 + 1)))
noncomputable def mM (a0:Int) (a1:List Bool):Option ((List Bool×Int) ⊕ ((Int×Int) ⊕ ((List Bool×Int) ⊕ (List Int)))) :=
 some (.inl (a1,w64 (a0 + 1)))
noncomputable def mO (a2:Int) (a1:List Bool) (a0:Int) (a3:Bool):Option ((List Bool×Int) ⊕ ((Int×Int) ⊕ ((List Bool×Int) ⊕ (List Int)))) :=
 bif a3 then must (0≤a0∧a0 < (a1.length:Int)) (bif idx a1 a0 then mM a0 (a1.set a0.toNat true) else (must (0≤a0∧a0 < (far:Int)) (mM a0 (a1.set a0.toNat (dw .i64 (eU .i64 a2 a0) 1 == 1))))) else (out (out (some (.inl (a1,w64 (a2 + 1))))))
noncomputable def qQ (a1:Ask) (y9:List Int) (a2:Int) (a4:Int):(List Bool×Int)→Option ((List Bool×Int) ⊕ ((Int×Int) ⊕ ((List Bool×Int) ⊕ (List Int))))
 | (a3,a0)=>bif decide (a0 < (y9.length:Int)) then must (0≤(0:Int)∧(0:Int) < (a1.Base.length:Int)) (mO a2 a3 a0 (a4 == idx a1.Base (0:Int))) else (mO a2 a3 a0 false)
noncomputable def qR (a0:History) (a1:Ask) (y9:List Int) (a6:List Bool) (a4:Int):(Int×Int)→Option ((Int×Int) ⊕ ((List Bool×Int) ⊕ (List Int)))
 | (a3,a2)=>bif decide (a2 < (y9.length:Int)) then must (0≤a2∧a2 < (far:Int)) (bif (dw .i64 (eU .i64 a4 a2) 1 == 1) then must (0≤a2∧a2 < (y9.length:Int)) ((jS a0 (idx y9 a2) a1.Key).bind fun a5=>mK a2 (w64 (a3 + a5))) else (mK a2 a3)) else (iter (qQ a1 y9 a4 a3) (a6,0))
noncomputable def mP (a1:Int) (a0:List Int):Option ((List Int×Int) ⊕ ((List Bool×Int) ⊕ (List Int))) :=
 some (.inl (a0,w64 (a1 + 1)))
noncomputable def qU (y9:List Int) (a2:List Bool):(List Int×Int)→Option ((List Int×Int) ⊕ ((List Bool×Int) ⊕ (List Int)))
 | (a1,a0)=>bif decide (a0 < (y9.length:Int)) then must (0≤a0∧a0 < (a2.length:Int)) (bif idx a2 a0 then must (0≤a0∧a0 < (y9.length:Int)) (must (((a1.length + 1) + (a1.length + 1) / 4 + 192) * 8≤281474976710656∧a1.length + 1≤9223372036854775807) (mP a0 (a1++([idx y9 a0]:List Int)))) else (mP a0 a1)) else (out (out (some a1)))
noncomputable def qV (a0:History) (a1:Ask) (y9:List Int):(List Bool×Int)→Option ((List Bool×Int) ⊕ (List Int))
 | (a3,a2)=>must (0≤(y9.length:Int)∧(y9.length:Int) < (far:Int)) (bif decide (a2 < Da .i64 1 (y9.length:Int)) then iter (qR a0 a1 y9 a3 a2) (0,0) else (iter (qU y9 a3) ([],0)))
noncomputable def aO (a0:History) (a1:Ask):Option (List Int) :=
 (aT a0 a1).bind fun y9=>must (0≤(y9.length:Int)∧(y9.length:Int)≤9223372036854775807∧(1:Int) * (y9.length:Int)≤281474976710656) (iter (qV a0 a1 y9) (List.replicate (y9.length:Int).toNat (default:Bool),1))
noncomputable def pz (a0:List Int) (a1:List Int):Option Bool :=
 bif decide ((a1.length:Int) > (a0.length:Int)) then some false else (must (0≤(0:Int)∧(0:Int)≤(a1.length:Int)∧(a1.length:Int)≤(a0.length:Int)) ((dF (eT a0 (0:Int) (a1.length:Int)) a1).bind fun a2=>some a2))
noncomputable def oH (a1:Int) (a0:Int):Option ((Int×Int) ⊕ ((List Int×List Int) ⊕ (List Int×Bool))) :=
 some (.inl (a0,w64 (a1 + 1)))
noncomputable def sU (a0:History) (a1:Ask) (a2:List Int) (a3:List Int) (a5:Int):Int→Option (Int ⊕ ((Int×Int) ⊕ ((List Int×List Int) ⊕ (List Int×Bool))))
 | a4=>bif decide (a4 < (a2.length:Int)) then must (0≤a4∧a4 < (a2.length:Int)) (bif (idx a2 a4 == a5) then out (out (out (some (([]:List Int),false)))) else (some (.inl (w64 (a4 + 1))))) else (must (((a2.length + 1) + (a2.length + 1) / 4 + 192) * 8≤281474976710656∧a2.length + 1≤9223372036854775807) ((aP a0 a5 a1.Key).bind fun a6=>must (0≤(a6.length:Int)∧(a6.length:Int)≤(a3.length:Int)∧(a3.length:Int)≤(a3.length:Int)) (out (out (some (.inl (a2++([a5]:List Int),eT a3 (a6.length:Int) (a3.length:Int))))))))
noncomputable def sV (a0:History) (a1:Ask) (y9:List Int) (a6:List Int) (a4:List Int):(Int×Int)→Option ((Int×Int) ⊕ ((List Int×List Int) ⊕ (List Int×Bool)))
 | (a3,a2)=>bif decide (a2 < (y9.length:Int)) then must (0≤a2∧a2 < (y9.length:Int)) ((aP a0 (idx y9 a2) a1.Key).bind fun a5=>(pz a4 a5).bind fun a7=>bif a7 then oH a2 (idx y9 a2) else (oH a2 a3)) else (bif decide (a3 < 0) then out (out (some (([]:List Int),false))) else (iter (sU a0 a1 a6 a4 a3) 0))
noncomputable def kS (a0:History) (a1:Ask) (y9:List Int):(List Int×List Int)→Option ((List Int×List Int) ⊕ (List Int×Bool))
 | (a2,a3)=>bif decide ((a3.length:Int) > 0) then iter (sV a0 a1 y9 a2 a3) ((-1),0) else (out (some (a2,true)))
noncomputable def bU (a0:History) (a1:Ask):Option (List Int×Bool) :=
 (aT a0 a1).bind fun y9=>iter (kS a0 a1 y9) ([],a1.Base)
noncomputable def sG (a0:List Int) (a1:Int):Int→Option (Int ⊕ Bool)
 | a2=>bif decide (a2 < (a0.length:Int)) then must (0≤a2∧a2 < (a0.length:Int)) (bif (idx a0 a2 == a1) then out (some true) else (some (.inl (w64 (a2 + 1))))) else (out (some false))
noncomputable def iO (a0:List Int) (a1:Int):Option Bool :=
 iter (sG a0 a1) 0
noncomputable def pE (a0:Int) (a2:List Int) (a1:Int):Option ((List Int×Int×Int) ⊕ (List Int×Bool)) :=
 some (.inl (a2,a1,w64 (a0 + 1)))
noncomputable def pF (a1:Int) (a0:Int):Option ((Int×Int) ⊕ ((List Int×Int×Int) ⊕ (List Int×Bool))) :=
 some (.inl (a0,w64 (a1 + 1)))
noncomputable def pG (y9:List Int) (a0:List Int) (a3:Int) (a1:Int) (a2:Int) (a4:Bool):Option ((Int×Int) ⊕ ((List Int×Int×Int) ⊕ (List Int×Bool))) :=
 bif a4 then out (out (some (([]:List Int),false))) else (bif decide (a2 > 0) then must (((a0.length + 1) + (a0.length + 1) / 4 + 192) * 8≤281474976710656∧a0.length + 1≤9223372036854775807) (out (pE a1 (a0++([idx y9 a1]:List Int)) (w64 (a3 + a2)))) else (out (pE a1 a0 a3)))
noncomputable def uu (a1:Ask) (y9:List Int) (a6:List Int) (a5:Int) (a4:Int) (a3:List Int):(Int×Int)→Option ((Int×Int) ⊕ ((List Int×Int×Int) ⊕ (List Int×Bool)))
 | (a2,a0)=>bif decide (a0 < (a3.length:Int)) then must (0≤a0∧a0 < (a3.length:Int)) ((iO a1.Base (idx a3 a0)).bind fun a7=>bif a7 then pF a0 (w64 (a2 + 1)) else (pF a0 a2)) else (bif decide (a2 > 0) then pG y9 a6 a5 a4 a2 (decide (a2 < (a3.length:Int))) else (pG y9 a6 a5 a4 a2 false))
noncomputable def uw (a0:History) (a1:Ask) (y9:List Int):(List Int×Int×Int)→Option ((List Int×Int×Int) ⊕ (List Int×Bool))
 | (a4,a3,a2)=>bif decide (a2 < (y9.length:Int)) then must (0≤a2∧a2 < (y9.length:Int)) ((aP a0 (idx y9 a2) a1.Key).bind fun a5=>iter (uu a1 y9 a4 a3 a2 a5) (0,0)) else (bif (a3 != (a1.Base.length:Int)) then out (some (([]:List Int),false)) else (out (some (a4,true))))
noncomputable def bL (a0:History) (a1:Ask):Option (List Int×Bool) :=
 (aT a0 a1).bind fun y9=>iter (uw a0 a1 y9) ([],0,0)
noncomputable def qi (a0:List Int):Option (List Int) :=
 some a0
noncomputable def iP (a0:List Int):Option (List Int) :=
 some a0
noncomputable def qj (a0:Int) (a1:List Int):Option ((List Int×Int) ⊕ (List Int)) :=
 some (.inl (a1,w64 (a0 + 1)))
noncomputable def ql (a0:History) (a1:Ask) (a5:List Int):(List Int×Int)→Option ((List Int×Int) ⊕ (List Int))
 | (a3,a2)=>bif decide (a2 < (a5.length:Int)) then must (0≤a2∧a2 < (a5.length:Int)) ((aP a0 (idx a5 a2) a1.Key).bind fun a4=>must (0≤w64 ((a4.length:Int) - 1)∧w64 ((a4.length:Int) - 1) < (a4.length:Int)) (must (0≤(0:Int)∧(0:Int) < (a1.Base.length:Int)) (bif (idx a4 (w64 ((a4.length:Int) - 1)) == idx a1.Base (0:Int)) then must (((a3.length + 1) + (a3.length + 1) / 4 + 192) * 8≤281474976710656∧a3.length + 1≤9223372036854775807) (qj a2 (a3++([idx a5 a2]:List Int))) else (qj a2 a3)))) else (out (iP a3))
noncomputable def bR (a0:History) (a1:Ask):Option (List Int) :=
 (oo a0 a1).bind fun y7=>bif (y7 == 4) then (aO a0 a1).bind fun a3=>must (0≤(0:Int)∧(0:Int) < (a1.Base.length:Int)) (bif (idx a1.Base (0:Int) == 0) then must (((1 + a3.length) + (1 + a3.length) / 4 + 192) * 8≤281474976710656∧1 + a3.length≤9223372036854775807) (qi (([(-1)]:List Int)++a3)) else (qi a3)) else (bif ((a1.Base.length:Int) == 0) then some ([(-1)]:List Int) else (bif (y7 == 1) then (aT a0 a1).bind fun a5=>iter (ql a0 a1 a5) ([],0) else (bif (y7 == 2) then (bU a0 a1).bind fun a2=>bif a2.2 then must (0≤w64 ((a2.1.length:Int) - 1)∧w64 ((a2.1.length:Int) - 1) < (a2.1.length:Int)) (must (((0 + 1) + (0 + 1) / 4 + 192) * 8≤281474976710656∧0 + 1≤9223372036854775807) (iP (([]:List Int)++([idx a2.1 (w64 ((a2.1.length:Int) - 1))]:List Int)))) else (iP []) else ((bL a0 a1).bind fun a4=>bif a4.2 then iP a4.1 else (iP [])))))
noncomputable def wo (a0:History) (a1:Ask):Option (Int×Bool) :=
 (bR a0 a1).bind fun y9=>bif ((y9.length:Int) != 1) then some (0,false) else (must (0≤(0:Int)∧(0:Int) < (y9.length:Int)) (some (idx y9 (0:Int),true)))
noncomputable def oq (a0:History) (a1:Ask):Option (List Int×Bool) :=
 (oo a0 a1).bind fun a2=>bif (a2 == 2) then (bU a0 a1).bind fun a3=>some (a3.1,a3.2) else (bif (a2 == 3) then (bL a0 a1).bind fun a4=>some (a4.1,a4.2) else (some (([]:List Int),false)))
noncomputable def qm (a1:Int) (a0:List Int):Option ((List Int×Int) ⊕ (List Int)) :=
 some (.inl (a0,w64 (a1 + 1)))
noncomputable def lL (a0:List Int) (a1:Int) (a2:Bool):Option ((List Int×Int) ⊕ (List Int)) :=
 bif a2 then must (((a0.length + 1) + (a0.length + 1) / 4 + 192) * 8≤281474976710656∧a0.length + 1≤9223372036854775807) (qm a1 (a0++([a1]:List Int))) else (qm a1 a0)
noncomputable def wN (a0:History) (a1:Int) (a2:Int):(List Int×Int)→Option ((List Int×Int) ⊕ (List Int))
 | (a4,a3)=>bif decide (a3 < (a0.Txns.length:Int)) then bif (a3 != a2) then must (0≤a3∧a3 < (a0.Txns.length:Int)) (bif ((idx a0.Txns a3).Status == 1) then (aP a0 a3 a1).bind fun a5=>lL a4 a3 (decide ((a5.length:Int) > 0)) else (lL a4 a3 false)) else (lL a4 a3 false) else (out (some a4))
noncomputable def dU (a0:History) (a1:Int) (a2:Int):Option (List Int) :=
 iter (wN a0 a1 a2) ([],0)
noncomputable def Au (a0:List Int) (a1:Int):Int→Option (Int ⊕ Bool)
 | a2=>bif decide (a2 < (a0.length:Int)) then must (0≤a2∧a2 < (a0.length:Int)) (bif (idx a0 a2 == a1) then out (some true) else (some (.inl (w64 (a2 + 1))))) else (out (some false))
noncomputable def nP (a0:List Int) (a1:Int):Option Bool :=
 iter (Au a0 a1) 0
noncomputable def sW (a0:Int):Option (Int ⊕ Bool) :=
 some (.inl (w64 (a0 + 1)))
noncomputable def sZ (a1:Int) (a0:Bool):Option (Int ⊕ Bool) :=
 bif a0 then out (some true) else (sW a1)
noncomputable def tq (a0:History) (a1:List Ask) (a4:Int) (a2:Int) (a5:Bool):Option (Int ⊕ Bool) :=
 bif a5 then must (0≤a2∧a2 < (a1.length:Int)) ((wo a0 (idx a1 a2)).bind fun a3=>bif a3.2 then sZ a2 (a3.1 == a4) else (sZ a2 false)) else (sW a2)
noncomputable def zI (a0:History) (a1:List Ask) (a2:Int) (a3:Int) (a4:Int):Int→Option (Int ⊕ Bool)
 | a5=>bif decide (a5 < (a1.length:Int)) then must (0≤a5∧a5 < (a1.length:Int)) (bif ((idx a1 a5).Txn == a2) then tq a0 a1 a4 a5 ((idx a1 a5).Key == a3) else (tq a0 a1 a4 a5 false)) else (out (some false))
noncomputable def dX (a0:History) (a1:List Ask) (a2:Int) (a3:Int) (a4:Int):Option Bool :=
 iter (zI a0 a1 a2 a3 a4) 0
noncomputable def uy (a0:Int) (a1:List Edge):Option ((List Edge×Int) ⊕ (List Edge)) :=
 some (.inl (a1,w64 (a0 + 1)))
noncomputable def uz (a1:Int) (a0:List Edge):Option ((List Edge×Int) ⊕ ((List Edge×Int) ⊕ (List Edge))) :=
 some (.inl (a0,w64 (a1 + 1)))
noncomputable def zW (a2:Ask) (a5:List Int×Bool) (a3:List Int) (a4:Int):(List Edge×Int)→Option ((List Edge×Int) ⊕ ((List Edge×Int) ⊕ (List Edge)))
 | (a1,a0)=>bif decide (a0 < (a3.length:Int)) then must (0≤a0∧a0 < (a3.length:Int)) ((nP a5.1 (idx a3 a0)).bind fun a6=>bif !a6 then must (0≤a4∧a4 < (a5.1.length:Int)) (must (((a1.length + 1) + (a1.length + 1) / 4 + 192) * 32≤281474976710656∧a1.length + 1≤9223372036854775807) (uz a0 (a1++([(⟨idx a5.1 a4,idx a3 a0,8,a2.Key⟩:Edge)]:List Edge)))) else (uz a0 a1)) else (out (uy a4 a1))
noncomputable def uA (a2:Ask) (a1:List Int×Bool) (a4:List Int) (a3:List Edge) (a0:Int) (a5:Bool):Option ((List Edge×Int) ⊕ (List Edge)) :=
 bif a5 then must (0≤a0∧a0 < (a1.1.length:Int)) (must (0≤w64 (a0 + 1)∧w64 (a0 + 1) < (a1.1.length:Int)) (must (((a3.length + 1) + (a3.length + 1) / 4 + 192) * 32≤281474976710656∧a3.length + 1≤9223372036854775807) (uy a0 (a3++([(⟨idx a1.1 a0,idx a1.1 (w64 (a0 + 1)),8,a2.Key⟩:Edge)]:List Edge))))) else (iter (zW a2 a1 a4 a0) (a3,0))
noncomputable def tu (a1:Int) (a0:List Edge):Option ((List Edge×Int) ⊕ ((List Edge×Int) ⊕ (List Edge))) :=
 some (.inl (a0,w64 (a1 + 1)))
noncomputable def tC (a2:Ask) (a3:List Int) (a1:List Edge) (a0:Int) (a4:Bool):Option ((List Edge×Int) ⊕ ((List Edge×Int) ⊕ (List Edge))) :=
 bif a4 then must (0≤a0∧a0 < (a3.length:Int)) (must (((a1.length + 1) + (a1.length + 1) / 4 + 192) * 32≤281474976710656∧a1.length + 1≤9223372036854775807) (tu a0 (a1++([(⟨a2.Txn,idx a3 a0,16,a2.Key⟩:Edge)]:List Edge)))) else (tu a0 a1)
noncomputable def kT (a0:History) (a1:List Ask) (a2:Ask) (a7:Int×Bool) (a4:List Int) (a5:List Edge) (a3:Int) (a9:Bool) (a6:Bool):Option ((List Edge×Int) ⊕ ((List Edge×Int) ⊕ (List Edge))) :=
 bif a6 then must (0≤a3∧a3 < (a4.length:Int)) ((dX a0 a1 (idx a4 a3) a2.Key a7.1).bind fun a8=>tC a2 a4 a5 a3 a8) else (tC a2 a4 a5 a3 a9)
noncomputable def iY (a0:History) (a1:List Ask) (a2:Ask) (a8:Int) (a3:Int×Bool) (a5:List Int) (a6:List Edge) (a4:Int) (a7:Bool):Option ((List Edge×Int) ⊕ ((List Edge×Int) ⊕ (List Edge))) :=
 bif (a8 == 1) then bif a3.2 then bif (a3.1 != (-1)) then must (0≤a4∧a4 < (a5.length:Int)) (kT a0 a1 a2 a3 a5 a6 a4 a7 (idx a5 a4 != a3.1)) else (kT a0 a1 a2 a3 a5 a6 a4 a7 false) else (kT a0 a1 a2 a3 a5 a6 a4 a7 false) else (kT a0 a1 a2 a3 a5 a6 a4 a7 false)
noncomputable def zX (a0:History) (a1:List Ask) (a2:Ask) (a7:Int) (a5:Int×Bool) (a8:List Int×Bool) (a9:Bool) (a4:List Int):(List Edge×Int)→Option ((List Edge×Int) ⊕ ((List Edge×Int) ⊕ (List Edge)))
 | (a6,a3)=>bif decide (a3 < (a4.length:Int)) then bif a5.2 then bif (a5.1 == (-1)) then iY a0 a1 a2 a7 a5 a4 a6 a3 true else (bif a9 then must (0≤a3∧a3 < (a4.length:Int)) ((nP a8.1 (idx a4 a3)).bind fun b0=>iY a0 a1 a2 a7 a5 a4 a6 a3 (!b0)) else (iY a0 a1 a2 a7 a5 a4 a6 a3 false)) else (bif a9 then must (0≤a3∧a3 < (a4.length:Int)) ((nP a8.1 (idx a4 a3)).bind fun b1=>iY a0 a1 a2 a7 a5 a4 a6 a3 (!b1)) else (iY a0 a1 a2 a7 a5 a4 a6 a3 false)) else (out (out (some a6)))
noncomputable def uB (a0:History) (a1:List Ask) (a2:Ask) (a7:Int) (a8:Int×Bool) (a3:List Int×Bool) (b0:Bool) (a4:List Int) (a6:List Edge) (a5:Int) (a9:Bool):Option ((List Edge×Int) ⊕ (List Edge)) :=
 bif a9 then bif (a7 == 2) then uA a2 a3 a4 a6 a5 (decide (w64 (a5 + 1) < (a3.1.length:Int))) else (uA a2 a3 a4 a6 a5 false) else (iter (zX a0 a1 a2 a7 a8 a3 b0 a4) (a6,0))
noncomputable def zY (a0:History) (a1:List Ask) (a2:Ask) (a6:Int) (a7:Int×Bool) (a3:List Int×Bool) (a4:Bool) (a8:List Int):(List Edge×Int)→Option ((List Edge×Int) ⊕ (List Edge))
 | (a9,a5)=>bif decide (a5 < (a3.1.length:Int)) then uB a0 a1 a2 a6 a7 a3 a4 a8 a9 a5 a4 else (uB a0 a1 a2 a6 a7 a3 a4 a8 a9 a5 false)
noncomputable def uC (a0:History) (a1:List Ask) (a2:Ask) (a3:Int) (a4:Int×Bool) (a7:List Edge) (a5:List Int×Bool) (a6:Bool):Option (List Edge) :=
 (dU a0 a2.Key a2.Txn).bind fun a8=>iter (zY a0 a1 a2 a3 a4 a5 a6 a8) (a7,0)
noncomputable def uD (a0:History) (a1:List Ask) (a2:Ask) (a5:Int) (a6:Int×Bool) (a4:List Edge):Option (List Edge) :=
 (oq a0 a2).bind fun a3=>bif a3.2 then uC a0 a1 a2 a5 a6 a4 a3 (decide ((a2.Base.length:Int) > 0)) else (uC a0 a1 a2 a5 a6 a4 a3 false)
noncomputable def tF (a0:History) (a1:List Ask) (a2:Ask) (a4:Int) (a3:Int×Bool) (a5:Bool):Option (List Edge) :=
 bif a5 then must (((0 + 1) + (0 + 1) / 4 + 192) * 32≤281474976710656∧0 + 1≤9223372036854775807) (uD a0 a1 a2 a4 a3 (([]:List Edge)++([(⟨a3.1,a2.Txn,4,a2.Key⟩:Edge)]:List Edge))) else (uD a0 a1 a2 a4 a3 [])
noncomputable def aG (a0:History) (a1:List Ask) (a2:Ask):Option (List Edge) :=
 must (0≤a2.Txn∧a2.Txn < (a0.Txns.length:Int)) (must (0≤a2.Place∧a2.Place < (((idx a0.Txns a2.Txn).Ops).length:Int)) ((jl ((idx ((idx a0.Txns a2.Txn).Ops) a2.Place).Kind)).bind fun a4=>(wo a0 a2).bind fun a3=>bif a3.2 then tF a0 a1 a2 a4 a3 (a3.1 != (-1)) else (tF a0 a1 a2 a4 a3 false)))
noncomputable def Av (a0:Int) (a1:List Edge):Option ((List Edge×Int) ⊕ fT) :=
 some (.inl (a1,w64 (a0 + 1)))
noncomputable def Aw (a0:History) (a3:List Ask×List gQ):(List Edge×Int)→Option ((List Edge×Int) ⊕ fT)
 | (a2,a1)=>bif decide (a1 < (a3.1.length:Int)) then must (0≤a1∧a1 < (a3.1.length:Int)) ((aG a0 a3.1 (idx a3.1 a1)).bind fun a4=>must (((a2.length + a4.length) + (a2.length + a4.length) / 4 + 192) * 32≤281474976710656∧a2.length + a4.length≤9223372036854775807) (Av a1 (a2++a4))) else (out (some (⟨(a0.Txns.length:Int),a2⟩:fT)))
noncomputable def Ay (a0:History) (a2:List Edge):Option fT :=
 (oW a0).bind fun a1=>iter (Aw a0 a1) (a2,0)
noncomputable def jm (a0:History):Option fT :=
 (aV a0).bind fun a1=>Ay a0 a1
noncomputable def Az (a0:History):Option (fT×Int) :=
 (ax a0).bind fun a2=>bif (a2 != 0) then some ((⟨0,([]:List Edge)⟩:fT),1) else ((jm a0).bind fun a1=>some (a1,0))
noncomputable def vO (a0:List Edge) (a1:List Edge):Int→Option (Int ⊕ Bool)
 | a2=>bif decide (a2 < (a0.length:Int)) then must (0≤a2∧a2 < (a0.length:Int)) (must (0≤a2∧a2 < (a1.length:Int)) (bif !(((idx a0 a2).From == (idx a1 a2).From) && (((idx a0 a2).To == (idx a1 a2).To) && (((idx a0 a2).Kind == (idx a1 a2).Kind) && (((idx a0 a2).Key == (idx a1 a2).Key) && true)))) then out (some false) else (some (.inl (w64 (a2 + 1)))))) else (out (some true))
noncomputable def mQ (a0:List Edge) (a1:List Edge):Option Bool :=
 bif ((a0.length:Int) != (a1.length:Int)) then some false else (iter (vO a0 a1) 0)
noncomputable def jE (a1:List Int) (a2:List Int) (a0:Int) (a3:Bool):Option ((List Int×Int) ⊕ (List Int×Bool)) :=
 bif a3 then out (some (([]:List Int),false)) else (must (0≤idx a1 a0∧idx a1 a0 < (a2.length:Int)) (some (.inl (a2.set (idx a1 a0).toNat (w64 (a0 + 1)),w64 (a0 + 1)))))
noncomputable def qW (a0:Int) (a1:Bool):Option (Int ⊕ ((List Int×Int) ⊕ (List Int×Bool))) :=
 bif a1 then out (out (some (([]:List Int),false))) else (some (.inl (w64 (a0 + 1))))
noncomputable def xJ (a0:History) (a2:List Int):Int→Option (Int ⊕ ((List Int×Int) ⊕ (List Int×Bool)))
 | a1=>bif decide (a1 < (a0.Txns.length:Int)) then must (0≤a1∧a1 < (a0.Txns.length:Int)) (bif ((idx a0.Txns a1).Status == 1) then must (0≤a1∧a1 < (a2.length:Int)) (qW a1 (idx a2 a1 == 0)) else (qW a1 false)) else (out (out (some (a2,true))))
noncomputable def xK (a0:History) (a1:List Int):(List Int×Int)→Option ((List Int×Int) ⊕ (List Int×Bool))
 | (a3,a2)=>bif decide (a2 < (a1.length:Int)) then must (0≤a2∧a2 < (a1.length:Int)) (bif decide (idx a1 a2 < 0) then jE a1 a3 a2 true else (bif decide (idx a1 a2 ≥ (a0.Txns.length:Int)) then jE a1 a3 a2 true else (must (0≤idx a1 a2∧idx a1 a2 < (a3.length:Int)) (bif (idx a3 (idx a1 a2) != 0) then jE a1 a3 a2 true else (must (0≤idx a1 a2∧idx a1 a2 < (a0.Txns.length:Int)) (jE a1 a3 a2 ((idx a0.Txns (idx a1 a2)).Status == 2))))))) else (iter (xJ a0 a3) 0)
noncomputable def dA (a0:History) (a1:List Int):Option (List Int×Bool) :=
 must (0≤(a0.Txns.length:Int)∧(a0.Txns.length:Int)≤9223372036854775807∧(8:Int) * (a0.Txns.length:Int)≤281474976710656) (iter (xK a0 a1) (List.replicate (a0.Txns.length:Int).toNat (default:Int),0))
noncomputable def xL (a1:List Int) (a0:Int):Option ((List Int×Int) ⊕ ((List Int×Int) ⊕ (List Int))) :=
 some (.inl ((a1.set a0.toNat (idx a1 (w64 (a0 - 1)))).set (w64 (a0 - 1)).toNat (idx a1 a0),w64 (a0 - 1)))
noncomputable def qX (a3:Int) (a1:List Int) (a0:Int) (a2:Bool):Option ((List Int×Int) ⊕ ((List Int×Int) ⊕ (List Int))) :=
 bif a2 then must (0≤w64 (a0 - 1)∧w64 (a0 - 1) < (a1.length:Int)) (must (0≤a0∧a0 < (a1.length:Int)) (xL a1 a0)) else (out (some (.inl (a1,w64 (a3 + 1)))))
noncomputable def xM (a2:Int):(List Int×Int)→Option ((List Int×Int) ⊕ ((List Int×Int) ⊕ (List Int)))
 | (a1,a0)=>bif decide (a0 > 0) then must (0≤a0∧a0 < (a1.length:Int)) (must (0≤w64 (a0 - 1)∧w64 (a0 - 1) < (a1.length:Int)) (qX a2 a1 a0 (decide (idx a1 a0 < idx a1 (w64 (a0 - 1)))))) else (qX a2 a1 a0 false)
noncomputable def xN (a0:List Int):(List Int×Int)→Option ((List Int×Int) ⊕ (List Int))
 | (a1,a2)=>bif decide (a2 < (a0.length:Int)) then must (0≤a2∧a2 < (a0.length:Int)) (must (((a1.length + 1) + (a1.length + 1) / 4 + 192) * 8≤281474976710656∧a1.length + 1≤9223372036854775807) (iter (xM a2) (a1++([idx a0 a2]:List Int),w64 (((a1++([idx a0 a2]:List Int)).length:Int) - 1)))) else (out (some a1))
noncomputable def eB (a0:List Int):Option (List Int) :=
 iter (xN a0) ([],0)
noncomputable def iw (a0:List Int):Option (List Int) :=
 some a0
noncomputable def xO (a1:List Int):(Int×Int)→Option ((Int×Int) ⊕ (List Int))
 | (a2,a0)=>bif decide (a0 < (a1.length:Int)) then must (0≤a0∧a0 < (a1.length:Int)) (some (.inl (w64 (a2 + (idx a1 a0)),w64 (a0 + 1)))) else (out (iw ([a2]:List Int)))
noncomputable def qY (a2:Int) (a0:List Int):Option (List Int) :=
 bif (a2 == 1) then bif decide ((a0.length:Int) > 0) then must (0≤(w64 ((a0.length:Int) - 1))∧(w64 ((a0.length:Int) - 1))≤(a0.length:Int)∧(a0.length:Int)≤(a0.length:Int)) (iw (eT a0 (w64 ((a0.length:Int) - 1)) (a0.length:Int))) else (iw a0) else (bif (a2 == 3) then (eB a0).bind fun a1=>iw a1 else (bif (a2 == 4) then iter (xO a0) (0,0) else (iw a0)))
noncomputable def qZ (a0:History) (a1:List Int) (a2:Int) (a3:Int) (a4:Int) (a5:List Int) (a7:Int) (a8:Bool):Option ((List Int×Int) ⊕ (List Int)) :=
 bif a8 then must (0≤a7∧a7 < (a1.length:Int)) ((aP a0 (idx a1 a7) a3).bind fun a6=>must (((a5.length + a6.length) + (a5.length + a6.length) / 4 + 192) * 8≤281474976710656∧a5.length + a6.length≤9223372036854775807) (bif (idx a1 a7 == a4) then out (qY a2 (a5++a6)) else (some (.inl (a5++a6,w64 (a7 + 1)))))) else (out (qY a2 a5))
noncomputable def xP (a0:History) (a1:List Int) (a2:Int) (a3:Int) (a4:Int):(List Int×Int)→Option ((List Int×Int) ⊕ (List Int))
 | (a6,a5)=>bif decide (a5 < (a1.length:Int)) then qZ a0 a1 a2 a3 a4 a6 a5 (decide (a4 ≥ 0)) else (qZ a0 a1 a2 a3 a4 a6 a5 false)
noncomputable def bS (a0:History) (a1:List Int) (a2:Int) (a3:Int) (a4:Int):Option (List Int) :=
 iter (xP a0 a1 a2 a3 a4) ([],0)
noncomputable def fZ (a0:History) (a1:List Int) (a3:Ask) (a4:Int) (a6:Bool):Option Int :=
 bif a6 then some 5 else (must (0≤a3.Txn∧a3.Txn < (a0.Txns.length:Int)) (must (0≤a3.Place∧a3.Place < (((idx a0.Txns a3.Txn).Ops).length:Int)) ((jl ((idx ((idx a0.Txns a3.Txn).Ops) a3.Place).Kind)).bind fun a2=>(bS a0 a1 a2 a3.Key a4).bind fun a5=>(dF a5 a3.Base).bind fun a7=>bif !a7 then some 6 else (some 0))))
noncomputable def fO (a0:History) (a1:List Int) (a2:List Int) (a3:Ask) (a4:Int):Option Int :=
 bif (a4 != (-1)) then bif decide (a4 < 0) then fZ a0 a1 a3 a4 true else (bif decide (a4 ≥ (a2.length:Int)) then fZ a0 a1 a3 a4 true else (must (0≤a4∧a4 < (a2.length:Int)) (bif (idx a2 a4 == 0) then fZ a0 a1 a3 a4 true else ((aP a0 a4 a3.Key).bind fun a5=>bif ((a5.length:Int) == 0) then fZ a0 a1 a3 a4 true else (must (0≤a3.Txn∧a3.Txn < (a2.length:Int)) (fZ a0 a1 a3 a4 (decide (idx a2 a4 ≥ idx a2 a3.Txn)))))))) else (fZ a0 a1 a3 a4 false)
noncomputable def oI (a0:Int) (a1:Bool):Option (Int ⊕ (Int ⊕ Int)) :=
 bif a1 then out (out (some 4)) else (some (.inl (w64 (a0 + 1))))
noncomputable def zJ (a0:History) (a3:List Int×Bool) (a2:Int):Int→Option (Int ⊕ (Int ⊕ Int))
 | a1=>bif decide (a1 < a2) then must (0≤a2∧a2 < (a0.Txns.length:Int)) (must (0≤a1∧a1 < (a0.Txns.length:Int)) (bif ((idx a0.Txns a2).Proc == (idx a0.Txns a1).Proc) then must (0≤a2∧a2 < (a3.1.length:Int)) (bif (idx a3.1 a2 != 0) then must (0≤a1∧a1 < (a3.1.length:Int)) (oI a1 (decide (idx a3.1 a1 > idx a3.1 a2))) else (oI a1 false)) else (oI a1 false))) else (out (some (.inl (w64 (a2 + 1)))))
noncomputable def zK (a0:History) (a1:Exec) (a3:List Ask×List gQ) (a5:List Int×Bool):Int→Option (Int ⊕ (Int ⊕ Int))
 | a2=>bif decide (a2 < (a3.1.length:Int)) then must (0≤a2∧a2 < (a3.1.length:Int)) (must (0≤a2∧a2 < (a1.Picks.length:Int)) ((fO a0 a1.Order a5.1 (idx a3.1 a2) (idx a1.Picks a2)).bind fun a4=>bif (a4 != 0) then out (out (some a4)) else (some (.inl (w64 (a2 + 1)))))) else (out (out (some 0)))
noncomputable def zL (a0:History) (a1:Exec) (a4:List Ask×List gQ) (a3:List Int×Bool):Int→Option (Int ⊕ Int)
 | a2=>bif decide (a2 < (a0.Txns.length:Int)) then iter (zJ a0 a3 a2) 0 else (iter (zK a0 a1 a4 a3) 0)
noncomputable def eQ (a0:History) (a1:Exec):Option Int :=
 (oW a0).bind fun a2=>bif decide ((a2.2.length:Int) > 0) then some 1 else ((dA a0 a1.Order).bind fun a3=>bif !a3.2 then some 2 else (bif ((a1.Picks.length:Int) != (a2.1.length:Int)) then some 3 else (iter (zL a0 a1 a2 a3) 0)))
noncomputable def CU (a0:History) (a1:Exec):Option (Int×Int) :=
 (ax a0).bind fun a3=>bif (a3 != 0) then some (0,1) else ((eQ a0 a1).bind fun a2=>some (a2,0))
noncomputable def gW (a0:History) (a1:Exec) (a2:Edge) (a4:Bool):Option Bool :=
 bif a4 then some false else ((dA a0 a1.Order).bind fun a3=>must (0≤a2.From∧a2.From < (a3.1.length:Int)) (bif (idx a3.1 a2.From != 0) then must (0≤a2.To∧a2.To < (a3.1.length:Int)) (bif (idx a3.1 a2.To != 0) then some (decide (idx a3.1 a2.From < idx a3.1 a2.To)) else (some false)) else (some false)))
noncomputable def iD (a0:History) (a1:Exec) (a2:Edge):Option Bool :=
 (CU a0 a1).bind fun y9=>bif (y9.2 != 0) then gW a0 a1 a2 true else (bif (y9.1 != 0) then gW a0 a1 a2 true else (bif decide (a2.From < 0) then gW a0 a1 a2 true else (bif decide (a2.From ≥ (a0.Txns.length:Int)) then gW a0 a1 a2 true else (bif decide (a2.To < 0) then gW a0 a1 a2 true else (gW a0 a1 a2 (decide (a2.To ≥ (a0.Txns.length:Int))))))))
noncomputable def vQ (a4:fT×Int) (a3:fT×Int):(List Edge×Int)→Option ((List Edge×Int) ⊕ Bool)
 | (a0,a1)=>bif decide (a1 < (a0.length:Int)) then must (0≤a1∧a1 < (a0.length:Int)) (some (.inl (a0.set a1.toNat (⟨0,0,99,0⟩:Edge),w64 (a1 + 1)))) else (must (((a0.length + 2) + (a0.length + 2) / 4 + 192) * 32≤281474976710656∧a0.length + 2≤9223372036854775807) ((mQ a4.1.Edges a3.1.Edges).bind fun a2=>out (some a2)))
noncomputable def oL (a0:fT×Int) (a2:fT×Int) (a1:fT×Int) (a3:Bool):Option Bool :=
 bif a3 then some false else (iter (vQ a2 a1) (a0.1.Edges,0))
noncomputable def iy (a0:History):Option Bool :=
 (kr).bind fun y8=>bif !y8 then some false else ((cK a0).bind fun a2=>(cK a0).bind fun a3=>(Az a0).bind fun a1=>bif (a2.2 != a1.2) then oL a2 a3 a1 true else (oL a2 a3 a1 (a3.2 != a1.2)))
noncomputable def mo (a0:Int) (a1:fT):Option Bool :=
 bif decide (a0 ≥ 0) then some (decide (a0 < a1.N)) else (some false)
noncomputable def rA (a0:Int):Option Int :=
 must (0≤(1:Int)∧(1:Int) < (far:Int)) (must (0≤(2:Int)∧(2:Int) < (far:Int)) (must (0≤(4:Int)∧(4:Int) < (far:Int)) (must (0≤(8:Int)∧(8:Int) < (far:Int)) (must (0≤(16:Int)∧(16:Int) < (far:Int)) (must (0≤(32:Int)∧(32:Int) < (far:Int)) (some (dw .i64 (w64 (IntKind.wrap .u64 ((IntKind.wrap .u64 ((IntKind.wrap .u64 ((dw .u64 (IntKind.wrap .u64 ((eU .u64 (IntKind.wrap .u64 ((dw .u64 (eU .u64 (IntKind.wrap .u64 ((dw .u64 (eU .u64 a0 (1:Int)) 6148914691236517205) + (dw .u64 a0 6148914691236517205))) (2:Int)) 3689348814741910323) + (dw .u64 (IntKind.wrap .u64 ((dw .u64 (eU .u64 a0 (1:Int)) 6148914691236517205) + (dw .u64 a0 6148914691236517205))) 3689348814741910323))) (4:Int)) + (IntKind.wrap .u64 ((dw .u64 (eU .u64 (IntKind.wrap .u64 ((dw .u64 (eU .u64 a0 (1:Int)) 6148914691236517205) + (dw .u64 a0 6148914691236517205))) (2:Int)) 3689348814741910323) + (dw .u64 (IntKind.wrap .u64 ((dw .u64 (eU .u64 a0 (1:Int)) 6148914691236517205) + (dw .u64 a0 6148914691236517205))) 3689348814741910323))))) 1085102592571150095) + (eU .u64 (dw .u64 (IntKind.wrap .u64 ((eU .u64 (IntKind.wrap .u64 ((dw .u64 (eU .u64 (IntKind.wrap .u64 ((dw .u64 (eU .u64 a0 (1:Int)) 6148914691236517205) + (dw .u64 a0 6148914691236517205))) (2:Int)) 3689348814741910323) + (dw .u64 (IntKind.wrap .u64 ((dw .u64 (eU .u64 a0 (1:Int)) 6148914691236517205) + (dw .u64 a0 6148914691236517205))) 3689348814741910323))) (4:Int)) + (IntKind.wrap .u64 ((dw .u64 (eU .u64 (IntKind.wrap .u64 ((dw .u64 (eU .u64 a0 (1:Int)) 6148914691236517205) + (dw .u64 a0 6148914691236517205))) (2:Int)) 3689348814741910323) + (dw .u64 (IntKind.wrap .u64 ((dw .u64 (eU .u64 a0 (1:Int)) 6148914691236517205) + (dw .u64 a0 6148914691236517205))) 3689348814741910323))))) 1085102592571150095) (8:Int)))) + (eU .u64 (IntKind.wrap .u64 ((dw .u64 (IntKind.wrap .u64 ((eU .u64 (IntKind.wrap .u64 ((dw .u64 (eU .u64 (IntKind.wrap .u64 ((dw .u64 (eU .u64 a0 (1:Int)) 6148914691236517205) + (dw .u64 a0 6148914691236517205))) (2:Int)) 3689348814741910323) + (dw .u64 (IntKind.wrap .u64 ((dw .u64 (eU .u64 a0 (1:Int)) 6148914691236517205) + (dw .u64 a0 6148914691236517205))) 3689348814741910323))) (4:Int)) + (IntKind.wrap .u64 ((dw .u64 (eU .u64 (IntKind.wrap .u64 ((dw .u64 (eU .u64 a0 (1:Int)) 6148914691236517205) + (dw .u64 a0 6148914691236517205))) (2:Int)) 3689348814741910323) + (dw .u64 (IntKind.wrap .u64 ((dw .u64 (eU .u64 a0 (1:Int)) 6148914691236517205) + (dw .u64 a0 6148914691236517205))) 3689348814741910323))))) 1085102592571150095) + (eU .u64 (dw .u64 (IntKind.wrap .u64 ((eU .u64 (IntKind.wrap .u64 ((dw .u64 (eU .u64 (IntKind.wrap .u64 ((dw .u64 (eU .u64 a0 (1:Int)) 6148914691236517205) + (dw .u64 a0 6148914691236517205))) (2:Int)) 3689348814741910323) + (dw .u64 (IntKind.wrap .u64 ((dw .u64 (eU .u64 a0 (1:Int)) 6148914691236517205) + (dw .u64 a0 6148914691236517205))) 3689348814741910323))) (4:Int)) + (IntKind.wrap .u64 ((dw .u64 (eU .u64 (IntKind.wrap .u64 ((dw .u64 (eU .u64 a0 (1:Int)) 6148914691236517205) + (dw .u64 a0 6148914691236517205))) (2:Int)) 3689348814741910323) + (dw .u64 (IntKind.wrap .u64 ((dw .u64 (eU .u64 a0 (1:Int)) 6148914691236517205) + (dw .u64 a0 6148914691236517205))) 3689348814741910323))))) 1085102592571150095) (8:Int)))) (16:Int)))) + (eU .u64 (IntKind.wrap .u64 ((IntKind.wrap .u64 ((dw .u64 (IntKind.wrap .u64 ((eU .u64 (IntKind.wrap .u64 ((dw .u64 (eU .u64 (IntKind.wrap .u64 ((dw .u64 (eU .u64 a0 (1:Int)) 6148914691236517205) + (dw .u64 a0 6148914691236517205))) (2:Int)) 3689348814741910323) + (dw .u64 (IntKind.wrap .u64 ((dw .u64 (eU .u64 a0 (1:Int)) 6148914691236517205) + (dw .u64 a0 6148914691236517205))) 3689348814741910323))) (4:Int)) + (IntKind.wrap .u64 ((dw .u64 (eU .u64 (IntKind.wrap .u64 ((dw .u64 (eU .u64 a0 (1:Int)) 6148914691236517205) + (dw .u64 a0 6148914691236517205))) (2:Int)) 3689348814741910323) + (dw .u64 (IntKind.wrap .u64 ((dw .u64 (eU .u64 a0 (1:Int)) 6148914691236517205) + (dw .u64 a0 6148914691236517205))) 3689348814741910323))))) 1085102592571150095) + (eU .u64 (dw .u64 (IntKind.wrap .u64 ((eU .u64 (IntKind.wrap .u64 ((dw .u64 (eU .u64 (IntKind.wrap .u64 ((dw .u64 (eU .u64 a0 (1:Int)) 6148914691236517205) + (dw .u64 a0 6148914691236517205))) (2:Int)) 3689348814741910323) + (dw .u64 (IntKind.wrap .u64 ((dw .u64 (eU .u64 a0 (1:Int)) 6148914691236517205) + (dw .u64 a0 6148914691236517205))) 3689348814741910323))) (4:Int)) + (IntKind.wrap .u64 ((dw .u64 (eU .u64 (IntKind.wrap .u64 ((dw .u64 (eU .u64 a0 (1:Int)) 6148914691236517205) + (dw .u64 a0 6148914691236517205))) (2:Int)) 3689348814741910323) + (dw .u64 (IntKind.wrap .u64 ((dw .u64 (eU .u64 a0 (1:Int)) 6148914691236517205) + (dw .u64 a0 6148914691236517205))) 3689348814741910323))))) 1085102592571150095) (8:Int)))) + (eU .u64 (IntKind.wrap .u64 ((dw .u64 (IntKind.wrap .u64 ((eU .u64 (IntKind.wrap .u64 ((dw .u64 (eU .u64 (IntKind.wrap .u64 ((dw .u64 (eU .u64 a0 (1:Int)) 6148914691236517205) + (dw .u64 a0 6148914691236517205))) (2:Int)) 3689348814741910323) + (dw .u64 (IntKind.wrap .u64 ((dw .u64 (eU .u64 a0 (1:Int)) 6148914691236517205) + (dw .u64 a0 6148914691236517205))) 3689348814741910323))) (4:Int)) + (IntKind.wrap .u64 ((dw .u64 (eU .u64 (IntKind.wrap .u64 ((dw .u64 (eU .u64 a0 (1:Int)) 6148914691236517205) + (dw .u64 a0 6148914691236517205))) (2:Int)) 3689348814741910323) + (dw .u64 (IntKind.wrap .u64 ((dw .u64 (eU .u64 a0 (1:Int)) 6148914691236517205) + (dw .u64 a0 6148914691236517205))) 3689348814741910323))))) 1085102592571150095) + (eU .u64 (dw .u64 (IntKind.wrap .u64 ((eU .u64 (IntKind.wrap .u64 ((dw .u64 (eU .u64 (IntKind.wrap .u64 ((dw .u64 (eU .u64 a0 (1:Int)) 6148914691236517205) + (dw .u64 a0 6148914691236517205))) (2:Int)) 3689348814741910323) + (dw .u64 (IntKind.wrap .u64 ((dw .u64 (eU .u64 a0 (1:Int)) 6148914691236517205) + (dw .u64 a0 6148914691236517205))) 3689348814741910323))) (4:Int)) + (IntKind.wrap .u64 ((dw .u64 (eU .u64 (IntKind.wrap .u64 ((dw .u64 (eU .u64 a0 (1:Int)) 6148914691236517205) + (dw .u64 a0 6148914691236517205))) (2:Int)) 3689348814741910323) + (dw .u64 (IntKind.wrap .u64 ((dw .u64 (eU .u64 a0 (1:Int)) 6148914691236517205) + (dw .u64 a0 6148914691236517205))) 3689348814741910323))))) 1085102592571150095) (8:Int)))) (16:Int)))) (32:Int))))) 127)))))))
noncomputable def kZ (a0:Int):Option Int :=
 (rA a0).bind fun y3=>some y3
noncomputable def iJ (a0:Int) (a1:Bool):Option (Int ⊕ Int) :=
 bif a1 then out (some 60) else (some (.inl (w64 (a0 + 1))))
noncomputable def ym (a0:fT):Int→Option (Int ⊕ Int)
 | a1=>bif decide (a1 < (a0.Edges.length:Int)) then must (0≤a1∧a1 < (a0.Edges.length:Int)) ((mo ((idx a0.Edges a1).From) a0).bind fun a3=>bif !a3 then iJ a1 true else ((mo ((idx a0.Edges a1).To) a0).bind fun a4=>bif !a4 then iJ a1 true else (bif decide ((idx a0.Edges a1).Kind < 1) then iJ a1 true else (bif decide ((idx a0.Edges a1).Kind > 16) then iJ a1 true else ((kZ (IntKind.wrap .u64 ((idx a0.Edges a1).Kind))).bind fun a2=>iJ a1 (a2 != 1)))))) else (out (some 0))
noncomputable def lc (a0:fT) (b9:Bool):Option Int :=
 bif b9 then some 60 else (iter (ym a0) 0)
noncomputable def di (a0:fT):Option Int :=
 bif decide (a0.N < 0) then lc a0 true else (bif decide (a0.N > 64) then lc a0 true else (lc a0 (decide ((a0.Edges.length:Int) > 262144))))
noncomputable def aL (a0:Int) (a1:Bool):Option (Int ⊕ Bool) :=
 bif !a1 then out (some false) else (some (.inl (w64 (a0 + 1))))
noncomputable def gp (a0:History) (a2:fT×Int) (a1:Int) (a5:List Int×Bool) (a4:List Int×Bool) (a3:Bool):Option (Int ⊕ Bool) :=
 bif ((idx a2.1.Edges a1).Kind == 1) then bif a3 then bif ((idx a2.1.Edges a1).Key == (-1)) then bif ((idx a0.Txns ((idx a2.1.Edges a1).From)).Proc == (idx a0.Txns ((idx a2.1.Edges a1).To)).Proc) then bif decide ((idx a2.1.Edges a1).From < (idx a2.1.Edges a1).To) then bif ((idx a0.Txns ((idx a2.1.Edges a1).From)).Status == 1) then aL a1 ((idx a0.Txns ((idx a2.1.Edges a1).To)).Status == 1) else (aL a1 false) else (aL a1 false) else (aL a1 false) else (aL a1 false) else (aL a1 false) else (bif ((idx a2.1.Edges a1).Kind == 2) then bif a3 then bif ((idx a2.1.Edges a1).Key == (-1)) then bif ((idx a0.Txns ((idx a2.1.Edges a1).From)).Status == 1) then bif ((idx a0.Txns ((idx a2.1.Edges a1).To)).Status == 1) then aL a1 (decide ((idx a0.Txns ((idx a2.1.Edges a1).From)).To < (idx a0.Txns ((idx a2.1.Edges a1).To)).From)) else (aL a1 false) else (aL a1 false) else (aL a1 false) else (aL a1 false) else (bif ((idx a2.1.Edges a1).Kind == 4) then bif a3 then bif a5.2 then aL a1 ((idx a0.Txns ((idx a2.1.Edges a1).To)).Status == 1) else (aL a1 false) else (aL a1 false) else (bif ((idx a2.1.Edges a1).Kind == 8) then bif a3 then bif a5.2 then aL a1 a4.2 else (aL a1 false) else (aL a1 false) else (bif a3 then bif a4.2 then bif ((idx a0.Txns ((idx a2.1.Edges a1).From)).Status == 1) then aL a1 ((idx a0.Txns ((idx a2.1.Edges a1).To)).Status == 1) else (aL a1 false) else (aL a1 false) else (aL a1 false)))))
noncomputable def kG (a0:History) (a1:fT×Int) (a2:Int):Option (Int ⊕ Bool) :=
 (fU a0 ((idx a1.1.Edges a2).From) ((idx a1.1.Edges a2).Key)).bind fun a3=>(fU a0 ((idx a1.1.Edges a2).To) ((idx a1.1.Edges a2).Key)).bind fun a4=>bif ((idx a1.1.Edges a2).From != (idx a1.1.Edges a2).To) then bif ((idx a0.Txns ((idx a1.1.Edges a2).From)).Status != 2) then gp a0 a1 a2 a3 a4 ((idx a0.Txns ((idx a1.1.Edges a2).To)).Status != 2) else (gp a0 a1 a2 a3 a4 false) else (gp a0 a1 a2 a3 a4 false)
noncomputable def kH (a0:History) (a2:fT×Int):Int→Option (Int ⊕ Bool)
 | a1=>bif decide (a1 < (a2.1.Edges.length:Int)) then must (0≤a1∧a1 < (a2.1.Edges.length:Int)) (must (0≤(idx a2.1.Edges a1).From∧(idx a2.1.Edges a1).From < (a0.Txns.length:Int)) (must (0≤(idx a2.1.Edges a1).To∧(idx a2.1.Edges a1).To < (a0.Txns.length:Int)) (kG a0 a2 a1))) else (out (some true))
noncomputable def iF (a0:History) (a1:fT×Int) (a2:Bool):Option Bool :=
 bif a2 then some false else (iter (kH a0 a1) 0)
noncomputable def ai (a0:History):Option Bool :=
 (kr).bind fun y8=>bif !y8 then some false else ((cK a0).bind fun a1=>bif (a1.2 != 0) then some ((a1.1.Edges.length:Int) == 0) else (bif (a1.1.N != (a0.Txns.length:Int)) then iF a0 a1 true else ((di a1.1).bind fun a2=>iF a0 a1 (a2 != 0))))
end Go.Proofs.YtfpeabnehpclnaaGreatT
