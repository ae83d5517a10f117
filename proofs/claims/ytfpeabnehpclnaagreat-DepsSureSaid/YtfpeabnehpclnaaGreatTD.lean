import Derived.Test.YtfpeabnehpclnaaGreatY
namespace Go.Proofs.YtfpeabnehpclnaaGreatT
open Go Go.Proofs Go.Proofs.YtfpeabnehpclnaaGreatE
set_option linter.unusedVariables false
set_option linter.unusedSimpArgs false
set_option maxHeartbeats 0
set_option maxRecDepth 4096
structure di where
 key:ByteArray
 arg:Int
 deriving Inhabited,DecidableEq
def di.enc (x:di):List Value:=[.string x.key,.int .i64 x.arg]
abbrev Hg:Ty di:=Ty.flat 2 di.enc (fun _=>rfl) (fun _=>Ih rfl)
instance : Flat Hg di.enc:=⟨Iff.rfl,Iff.rfl⟩
structure bF where
 keys:List ByteArray
 at_:List (ByteArray×Int)
 types:List Int
 facts:List (di×Unit)
 incs:List (ByteArray×(List Int))
 deriving Inhabited
structure Call where
 Kind:Int
 Key:ByteArray
 Arg:Int
 Got:Bool
 Vals:List Int
 deriving Inhabited
abbrev zT:Ty Call:=Ty.iso (bO (ay .i64) (bO fT (bO (ay .i64) (bO oV (bI 2 (ay .i64)))))) (fun g:Call=>(g.Kind,g.Key,g.Arg,g.Got,g.Vals))
abbrev pz (N:BM):Ty Call:=Ty.iso (bO (ay .i64) (bO fT (bO (ay .i64) (bO oV (Jh N (ay .i64)))))) (fun g:Call=>(g.Kind,g.Key,g.Arg,g.Got,g.Vals))
theorem Es (N:BM):uM N (pz N) zT:=Ch (jN mI (jN mI (jN mI (jN mI DJ))))
structure Event where
 Proc:Int
 Kind:Int
 Calls:List Call
 deriving Inhabited
abbrev CX:Ty Event:=Ty.iso (bO (ay .i64) (bO (ay .i64) (bI 129 zT))) (fun g:Event=>(g.Proc,g.Kind,g.Calls))
structure Op where
 Kind:Int
 Key:Int
 Arg:Int
 Got:Bool
 Vals:List Int
 deriving Inhabited
abbrev kOp:Ty Op:=Ty.iso (bO (ay .i64) (bO (ay .i64) (bO (ay .i64) (bO oV (bI 2 (ay .i64)))))) (fun g:Op=>(g.Kind,g.Key,g.Arg,g.Got,g.Vals))
structure Txn where
 Proc:Int
 Status:Int
 From:Int
 To:Int
 Ops:List Op
 deriving Inhabited
abbrev jk:Ty Txn:=Ty.iso (bO (ay .i64) (bO (ay .i64) (bO (ay .i64) (bO (ay .i64) (bI 70 kOp))))) (fun g:Txn=>(g.Proc,g.Status,g.From,g.To,g.Ops))
structure History where
 Keys:List ByteArray
 Txns:List Txn
 deriving Inhabited
structure Ask where
 Txn:Int
 Place:Int
 Key:Int
 Base:List Int
 deriving Inhabited
abbrev Cv:Ty Ask:=Ty.iso (bO (ay .i64) (bO (ay .i64) (bO (ay .i64) (bI 2 (ay .i64))))) (fun g:Ask=>(g.Txn,g.Place,g.Key,g.Base))
structure gp where
 Txn:Int
 Place:Int
 deriving Inhabited,DecidableEq
def gp.enc (x:gp):List Value:=[.int .i64 x.Txn,.int .i64 x.Place]
abbrev AJ:Ty gp:=Ty.flat 2 gp.enc (fun _=>rfl) (fun _=>Ih rfl)
instance : Flat AJ gp.enc:=⟨Iff.rfl,Iff.rfl⟩
structure eP where
 asks:List Ask
 bad:List gp
 deriving Inhabited
structure aQ where
 txn:Int
 args:List Int
 deriving Inhabited
abbrev gJ:Ty aQ:=Ty.iso (bO (ay .i64) (bI 2 (ay .i64))) (fun g:aQ=>(g.txn,g.args))
structure aP where
 Ask:Ask
 sources:List Int
 parts:List Int
 made:Bool
 kind:Int
 deriving Inhabited
abbrev iV:Ty aP:=Ty.iso (bO Cv (bO (bI 3 (ay .i64)) (bO (bI 3 (ay .i64)) (bO oV (ay .i64))))) (fun g:aP=>(g.Ask,g.sources,g.parts,g.made,g.kind))
structure Edge where
 From:Int
 To:Int
 Kind:Int
 Key:Int
 deriving Inhabited,DecidableEq
def Edge.enc (x:Edge):List Value:=[.int .i64 x.From,.int .i64 x.To,.int .i64 x.Kind,.int .i64 x.Key]
abbrev yj:Ty Edge:=Ty.flat 4 Edge.enc (fun _=>rfl) (fun _=>Ih rfl)
instance : Flat yj Edge.enc:=⟨Iff.rfl,Iff.rfl⟩
structure aH where
 h:History
 asks:List aP
 edges:List Edge
 deriving Inhabited
structure jJ where
 N:Int
 Edges:List Edge
 deriving Inhabited
structure cK where
 h:History
 order:List Int
 at_:List (Int×Int)
 deriving Inhabited
structure Exec where
 Order:List Int
 Picks:List Int
 deriving Inhabited
structure aI where
 keys:List ByteArray
 types:List Int
 wrote:List (List Int)
 incs:List Int
 last_:List Int
 deriving Inhabited
abbrev kF (N:BM):Ty aP:=(Ty.iso (bO (Ty.iso (bO (ay .i64) (bO (ay .i64) (bO (ay .i64) (Jh N (ay .i64))))) (fun g:Ask=>(g.Txn,g.Place,g.Key,g.Base))) (bO (Gs (ay .i64)) (bO (Gs (ay .i64)) (bO oV (ay .i64))))) (fun g:aP=>(g.Ask,g.sources,g.parts,g.made,g.kind)))
theorem zC (N:BM):uM N (kF N) iV:=(Ch (jN (Ch (jN mI (jN mI (jN mI DJ)))) (jN DD (jN DD (jN mI mI)))))
abbrev Rw2 (A:Option Addr) (c:Nat) (l:List Int):bT := .row (ay .i64) 2 A l.length c l
abbrev Rw3 (A:Option Addr) (c:Nat) (l:List Int):bT := .row (ay .i64) 3 A l.length c l
abbrev Rn3 (A:Option Addr) (n c:Nat) (l:List Int):bT := .row (ay .i64) 3 A n c l
abbrev Rw9 (A:Option Addr) (c:Nat) (l:List ByteArray):bT := .row fT 9 A l.length c l
abbrev Rn9 (A:Option Addr) (n c:Nat) (l:List ByteArray):bT := .row fT 9 A n c l
abbrev vL (A:Option Addr) (c:Nat) (l:List gp):bT := .row AJ 27 A l.length c l
abbrev lc (A:Option Addr) (c:Nat) (l:List Edge):bT := .row yj 43 A l.length c l
abbrev LP (A:Option Addr) (c:Nat) (l:List Txn):bT := .row jk 65 A l.length c l
abbrev FO (A:Option Addr) (c:Nat) (l:List (List Int)):bT := .row (bI 2 (ay .i64)) 66 A l.length c l
abbrev JK (A:Option Addr) (c:Nat) (l:List Op):bT := .row kOp 70 A l.length c l
abbrev NY (A:Option Addr) (n c:Nat) (l:List Op):bT := .row kOp 70 A n c l
abbrev yl (A:Option Addr) (c:Nat) (l:List Ask):bT := .row Cv 81 A l.length c l
abbrev FP (A:Option Addr) (c:Nat) (l:List aQ):bT := .row gJ 209 A l.length c l
abbrev Or2 (A:Option Addr) (c:Nat) (l:List Int):bT:=orA noM (ay .i64) 2 A l.length c l
abbrev Or3 (A:Option Addr) (c:Nat) (l:List Int):bT:=orA noM (ay .i64) 3 A l.length c l
abbrev Et (b:Nat) (m:List (Int×Int)):bT:=Ea (fun x:Int => .int .i64 x) (fun x:Int => .int .i64 x) b m
abbrev CY (b:Nat) (m:List (Int×Int)):bT:=Ea (fun x:Int => .int .i64 x) (fun x:Int => .int .i64 x) b m
abbrev AL (b:Nat) (m:List (ByteArray×Int)):bT:=Ea (fun x:ByteArray => .string x) (fun x:Int => .int .i64 x) b m
abbrev AO (b:Nat) (m:List (di×Unit)):bT:=Ea (fun x:di => .agg #[.string x.key,.int .i64 x.arg]) (fun _:Unit => .agg #[]) b m
abbrev Eu (b:Nat) (m:List (ByteArray×(List Int))):bT:=uW (fun x:ByteArray => .string x) (bI 3 (ay .i64)) b m
abbrev Ev (b:Nat) (m:List (Int×(List Int))):bT:=uW (fun x:Int => .int .i64 x) (bI 2 (ay .i64)) b m
abbrev CZ (b:Nat) (m:List (Int×Unit)):bT:=Ea (fun x:Int => .int .i64 x) (fun _:Unit => .agg #[]) b m
abbrev oK (x:History) (A0:Option Addr) (c0:Nat) (A1:Option Addr) (c1:Nat):List Value:=[vS A0 x.Keys.length c0,vS A1 x.Txns.length c1]
abbrev oL (x:History) (A0:Option Addr) (c0:Nat) (A1:Option Addr) (c1:Nat):Value := .agg (oK x A0 c0 A1 c1).toArray
abbrev fQ (b:Nat) (x:History) (A0:Option Addr) (c0:Nat) (A1:Option Addr) (c1:Nat):bT := .blk b 25 (oK x A0 c0 A1 c1)
abbrev Nv (x:jJ) (A1:Option Addr) (c1:Nat):List Value:=[vI x.N,vS A1 x.Edges.length c1]
abbrev NZ (x:jJ) (A1:Option Addr) (c1:Nat):Value := .agg (Nv x A1 c1).toArray
abbrev LQ (b:Nat) (x:jJ) (A1:Option Addr) (c1:Nat):bT := .blk b 38 (Nv x A1 c1)
abbrev JL (x:Edge):List Value:=[vI x.From,vI x.To,vI x.Kind,vI x.Key]
abbrev Hl (x:Edge):Value := .agg (JL x).toArray
abbrev NJ (b:Nat) (x:Edge):bT := .blk b 43 (JL x)
abbrev FQ (x:Exec) (A0:Option Addr) (c0:Nat) (A1:Option Addr) (c1:Nat):List Value:=[vS A0 x.Order.length c0,vS A1 x.Picks.length c1]
abbrev Jo (x:Exec) (A0:Option Addr) (c0:Nat) (A1:Option Addr) (c1:Nat):Value := .agg (FQ x A0 c0 A1 c1).toArray
abbrev Eg (b:Nat) (x:Exec) (A0:Option Addr) (c0:Nat) (A1:Option Addr) (c1:Nat):bT := .blk b 60 (FQ x A0 c0 A1 c1)
abbrev ym (x:Txn) (A4:Option Addr) (c4:Nat):List Value:=[vI x.Proc,vI x.Status,vI x.From,vI x.To,vS A4 x.Ops.length c4]
abbrev Jp (x:Txn) (A4:Option Addr) (c4:Nat):Value := .agg (ym x A4 c4).toArray
abbrev pQ (b:Nat) (x:Txn) (A4:Option Addr) (c4:Nat):bT := .blk b 65 (ym x A4 c4)
abbrev Da (x:Op) (A4:Option Addr) (c4:Nat):List Value:=[vI x.Kind,vI x.Key,vI x.Arg,vB x.Got,vS A4 x.Vals.length c4]
abbrev Oa (x:Op) (A4:Option Addr) (c4:Nat):Value := .agg (Da x A4 c4).toArray
abbrev pR (b:Nat) (x:Op) (A4:Option Addr) (c4:Nat):bT := .blk b 70 (Da x A4 c4)
abbrev AP (x:Ask) (A3:Option Addr) (c3:Nat):List Value:=[vI x.Txn,vI x.Place,vI x.Key,vS A3 x.Base.length c3]
abbrev Db (x:Ask) (A3:Option Addr) (c3:Nat):Value := .agg (AP x A3 c3).toArray
abbrev zD (b:Nat) (x:Ask) (A3:Option Addr) (c3:Nat):bT := .blk b 81 (AP x A3 c3)
abbrev Ob (x:aH) (A0:Option Addr) (c0:Nat) (A1:Option Addr) (c1:Nat) (A2:Option Addr) (c2:Nat) (A3:Option Addr) (c3:Nat):List Value:=[vS A0 x.h.Keys.length c0,vS A1 x.h.Txns.length c1,vS A2 x.asks.length c2,vS A3 x.edges.length c3]
abbrev Eh (b:Nat) (x:aH) (A0:Option Addr) (c0:Nat) (A1:Option Addr) (c1:Nat) (A2:Option Addr) (c2:Nat) (A3:Option Addr) (c3:Nat):bT := .blk b 93 (Ob x A0 c0 A1 c1 A2 c2 A3 c3)
abbrev Hm (x:aP) (A3:Option Addr) (c3:Nat) (A4:Option Addr) (c4:Nat) (A5:Option Addr) (c5:Nat):List Value:=[vI x.Ask.Txn,vI x.Ask.Place,vI x.Ask.Key,vS A3 x.Ask.Base.length c3,vS A4 x.sources.length c4,vS A5 x.parts.length c5,vB x.made,vI x.kind]
abbrev LU (x:aP) (A3:Option Addr) (c3:Nat) (A4:Option Addr) (c4:Nat) (A5:Option Addr) (c5:Nat):Value := .agg (Hm x A3 c3 A4 c4 A5 c5).toArray
abbrev zF (b:Nat) (x:aP) (A3:Option Addr) (c3:Nat) (A4:Option Addr) (c4:Nat) (A5:Option Addr) (c5:Nat):bT := .blk b 96 (Hm x A3 c3 A4 c4 A5 c5)
abbrev Ew (x:Event) (A2:Option Addr) (c2:Nat):List Value:=[vI x.Proc,vI x.Kind,vS A2 x.Calls.length c2]
abbrev Nk (x:Event) (A2:Option Addr) (c2:Nat):Value := .agg (Ew x A2 c2).toArray
abbrev Iw (b:Nat) (x:Event) (A2:Option Addr) (c2:Nat):bT := .blk b 124 (Ew x A2 c2)
abbrev AQ (x:Call) (A4:Option Addr) (c4:Nat):List Value:=[vI x.Kind,.string x.Key,vI x.Arg,vB x.Got,vS A4 x.Vals.length c4]
abbrev Dc (x:Call) (A4:Option Addr) (c4:Nat):Value := .agg (AQ x A4 c4).toArray
abbrev gV (b:Nat) (x:Call) (A4:Option Addr) (c4:Nat):bT := .blk b 129 (AQ x A4 c4)
abbrev JM (x:eP) (A0:Option Addr) (c0:Nat) (A1:Option Addr) (c1:Nat):List Value:=[vS A0 x.asks.length c0,vS A1 x.bad.length c1]
abbrev NK (x:eP) (A0:Option Addr) (c0:Nat) (A1:Option Addr) (c1:Nat):Value := .agg (JM x A0 c0 A1 c1).toArray
abbrev NL (x:aI) (A0:Option Addr) (c0:Nat) (A1:Option Addr) (c1:Nat) (A2:Option Addr) (c2:Nat) (A3:Option Addr) (c3:Nat) (A4:Option Addr) (c4:Nat):List Value:=[vS A0 x.keys.length c0,vS A1 x.types.length c1,vS A2 x.wrote.length c2,vS A3 x.incs.length c3,vS A4 x.last_.length c4]
abbrev Nl (b:Nat) (x:aI) (A0:Option Addr) (c0:Nat) (A1:Option Addr) (c1:Nat) (A2:Option Addr) (c2:Nat) (A3:Option Addr) (c3:Nat) (A4:Option Addr) (c4:Nat):bT := .blk b 149 (NL x A0 c0 A1 c1 A2 c2 A3 c3 A4 c4)
abbrev Ex (x:cK) (A0:Option Addr) (c0:Nat) (A1:Option Addr) (c1:Nat) (A2:Option Addr) (c2:Nat) (b3:Nat):List Value:=[vS A0 x.h.Keys.length c0,vS A1 x.h.Txns.length c1,vS A2 x.order.length c2,.map (some b3)]
abbrev Iy (x:cK) (A0:Option Addr) (c0:Nat) (A1:Option Addr) (c1:Nat) (A2:Option Addr) (c2:Nat) (b3:Nat):Value := .agg (Ex x A0 c0 A1 c1 A2 c2 b3).toArray
abbrev wG (b:Nat) (x:cK) (A0:Option Addr) (c0:Nat) (A1:Option Addr) (c1:Nat) (A2:Option Addr) (c2:Nat) (b3:Nat):bT := .blk b 184 (Ex x A0 c0 A1 c1 A2 c2 b3)
abbrev De (x:aQ) (A1:Option Addr) (c1:Nat):List Value:=[vI x.txn,vS A1 x.args.length c1]
abbrev JN (x:aQ) (A1:Option Addr) (c1:Nat):Value := .agg (De x A1 c1).toArray
abbrev Ey (b:Nat) (x:aQ) (A1:Option Addr) (c1:Nat):bT := .blk b 209 (De x A1 c1)
abbrev yn (b:Nat) (A0:Option Addr) (c0:Nat) (x0:List Ask) (A1:Option Addr) (c1:Nat) (x1:List gp):List bT:=[.blk b 132 [vS A0 x0.length c0,vS A1 x1.length c1],yl A0 c0 x0,vL A1 c1 x1]
abbrev Nn (b:Nat) (x:eP) (A0:Option Addr) (c0:Nat) (A1:Option Addr) (c1:Nat):List bT:=yn b A0 c0 x.asks A1 c1 x.bad
abbrev qX (b:Nat) (A0:Option Addr) (c0:Nat) (x0:List ByteArray) (A1:Option Addr) (c1:Nat) (x1:List Int) (A2:Option Addr) (c2:Nat) (x2:List (List Int)) (A3:Option Addr) (c3:Nat) (x3:List Int) (A4:Option Addr) (c4:Nat) (x4:List Int):List bT:=[.blk b 149 [vS A0 x0.length c0,vS A1 x1.length c1,vS A2 x2.length c2,vS A3 x3.length c3,vS A4 x4.length c4],Rw9 A0 c0 x0,Rw3 A1 c1 x1,FO A2 c2 x2,Rw3 A3 c3 x3,Rw3 A4 c4 x4]
abbrev Np (b:Nat) (x:aI) (A0:Option Addr) (c0:Nat) (A1:Option Addr) (c1:Nat) (A2:Option Addr) (c2:Nat) (A3:Option Addr) (c3:Nat) (A4:Option Addr) (c4:Nat):List bT:=qX b A0 c0 x.keys A1 c1 x.types A2 c2 x.wrote A3 c3 x.incs A4 c4 x.last_
abbrev yo (b:Nat) (A0:Option Addr) (c0:Nat) (x0:List ByteArray) (b1:Nat) (x1:List (ByteArray×Int)) (A2:Option Addr) (c2:Nat) (x2:List Int) (b3:Nat) (x3:List (di×Unit)) (b4:Nat) (x4:List (ByteArray×(List Int))):List bT:=[.blk b 199 [vS A0 x0.length c0,.map (some b1),vS A2 x2.length c2,.map (some b3),.map (some b4)],Rw9 A0 c0 x0,AL b1 x1,Rw3 A2 c2 x2,AO b3 x3,Eu b4 x4]
abbrev JO (b:Nat) (x:bF) (A0:Option Addr) (c0:Nat) (b1:Nat) (A2:Option Addr) (c2:Nat) (b3:Nat) (b4:Nat):List bT:=yo b A0 c0 x.keys b1 x.at_ A2 c2 x.types b3 x.facts b4 x.incs
theorem jK {H:BM} {x:Txn} {cs:List Value} (h:jk.rd H x cs):∃ A4 c4,cs=ym x A4 c4∧x.Ops.length≤c4∧rdS kOp H A4 x.Ops:=by
 obtain ⟨_,_,rfl,rfl,⟨_,_,rfl,rfl,⟨_,_,rfl,rfl,⟨_,_,rfl,rfl,⟨A0,c0,rfl,l0,r0⟩⟩⟩⟩⟩:=h;exact ⟨A0,c0,rfl,l0,r0⟩
theorem Cw {H:BM} {x:Op} {cs:List Value} (h:kOp.rd H x cs):∃ A4 c4,cs=Da x A4 c4∧x.Vals.length≤c4∧rdS (ay .i64) H A4 x.Vals:=by
 obtain ⟨_,_,rfl,rfl,⟨_,_,rfl,rfl,⟨_,_,rfl,rfl,⟨_,_,rfl,rfl,⟨A0,c0,rfl,l0,r0⟩⟩⟩⟩⟩:=h;exact ⟨A0,c0,rfl,l0,r0⟩
theorem Iz {H:BM} {x:Ask} {cs:List Value} (h:Cv.rd H x cs):∃ A3 c3,cs=AP x A3 c3∧x.Base.length≤c3∧rdS (ay .i64) H A3 x.Base:=by
 obtain ⟨_,_,rfl,rfl,⟨_,_,rfl,rfl,⟨_,_,rfl,rfl,⟨A0,c0,rfl,l0,r0⟩⟩⟩⟩:=h;exact ⟨A0,c0,rfl,l0,r0⟩
theorem Cm {H:BM} {x:aP} {cs:List Value} (h:iV.rd H x cs):∃ A3 c3 A4 c4 A5 c5,cs=Hm x A3 c3 A4 c4 A5 c5∧x.Ask.Base.length≤c3∧rdS (ay .i64) H A3 x.Ask.Base∧x.sources.length≤c4∧rdS (ay .i64) H A4 x.sources∧x.parts.length≤c5∧rdS (ay .i64) H A5 x.parts:=by
 obtain ⟨_,_,rfl,⟨_,_,rfl,rfl,⟨_,_,rfl,rfl,⟨_,_,rfl,rfl,⟨A0,c0,rfl,l0,r0⟩⟩⟩⟩,⟨_,_,rfl,⟨A1,c1,rfl,l1,r1⟩,⟨_,_,rfl,⟨A2,c2,rfl,l2,r2⟩,⟨_,_,rfl,rfl,rfl⟩⟩⟩⟩:=h;exact ⟨A0,c0,A1,c1,A2,c2,rfl,l0,r0,l1,r1,l2,r2⟩
theorem IA {H:BM} {x:Event} {cs:List Value} (h:CX.rd H x cs):∃ A2 c2,cs=Ew x A2 c2∧x.Calls.length≤c2∧rdS zT H A2 x.Calls:=by
 obtain ⟨_,_,rfl,rfl,⟨_,_,rfl,rfl,⟨A0,c0,rfl,l0,r0⟩⟩⟩:=h;exact ⟨A0,c0,rfl,l0,r0⟩
theorem JP {H:BM} {x:Call} {cs:List Value} (h:zT.rd H x cs):∃ A4 c4,cs=AQ x A4 c4∧x.Vals.length≤c4∧rdS (ay .i64) H A4 x.Vals:=by
 obtain ⟨_,_,rfl,rfl,⟨_,_,rfl,rfl,⟨_,_,rfl,rfl,⟨_,_,rfl,rfl,⟨A0,c0,rfl,l0,r0⟩⟩⟩⟩⟩:=h;exact ⟨A0,c0,rfl,l0,r0⟩
theorem gz {H:BM} {x:aQ} {cs:List Value} (h:gJ.rd H x cs):∃ A1 c1,cs=De x A1 c1∧x.args.length≤c1∧rdS (ay .i64) H A1 x.args:=by
 obtain ⟨_,_,rfl,rfl,⟨A0,c0,rfl,l0,r0⟩⟩:=h;exact ⟨A0,c0,rfl,l0,r0⟩
theorem JQ (x:Txn) {R4:List bT} {c4:List Value} (h4:Mk (bI 70 kOp) R4 x.Ops c4):Mk jk ([]++([]++([]++([]++R4)))) x ([vI x.Proc]++([vI x.Status]++([vI x.From]++([vI x.To]++c4)))):=sO (g:=fun g:Txn=>(g.Proc,g.Status,g.From,g.To,g.Ops)) (x:=x) (dD (oD _ _ rfl) (dD (oD _ _ rfl) (dD (oD _ _ rfl) (dD (oD _ _ rfl) h4))))
theorem JR (x:Op) {R4:List bT} {c4:List Value} (h4:Mk (bI 2 (ay .i64)) R4 x.Vals c4):Mk kOp ([]++([]++([]++([]++R4)))) x ([vI x.Kind]++([vI x.Key]++([vI x.Arg]++([vB x.Got]++c4)))):=sO (g:=fun g:Op=>(g.Kind,g.Key,g.Arg,g.Got,g.Vals)) (x:=x) (dD (oD _ _ rfl) (dD (oD _ _ rfl) (dD (oD _ _ rfl) (dD (oD _ _ rfl) h4))))
theorem JS (x:Ask) {R3:List bT} {c3:List Value} (h3:Mk (bI 2 (ay .i64)) R3 x.Base c3):Mk Cv ([]++([]++([]++R3))) x ([vI x.Txn]++([vI x.Place]++([vI x.Key]++c3))):=sO (g:=fun g:Ask=>(g.Txn,g.Place,g.Key,g.Base)) (x:=x) (dD (oD _ _ rfl) (dD (oD _ _ rfl) (dD (oD _ _ rfl) h3)))
theorem Ei (x:aQ) {R1:List bT} {c1:List Value} (h1:Mk (bI 2 (ay .i64)) R1 x.args c1):Mk gJ ([]++R1) x ([vI x.txn]++c1):=sO (g:=fun g:aQ=>(g.txn,g.args)) (x:=x) (dD (oD _ _ rfl) h1)
noncomputable def mf (a0:List ByteArray) (a1:ByteArray):Int→Option (Int ⊕ Int)
 | a2=>bif decide (a2 < (a0.length:Int)) then must (0≤a2∧a2 < (a0.length:Int)) (bif sEq a1 (idx a0 a2) then out (some a2) else (some (.inl (w64 (a2 + 1))))) else (out (some (-1)))
noncomputable def slices_Index_string (a0:List ByteArray) (a1:ByteArray):Option Int :=
 iter (mf a0 a1) 0
noncomputable def slices_Contains_string (a0:List ByteArray) (a1:ByteArray):Option Bool :=
 (slices_Index_string a0 a1).bind fun y3=>some (decide (y3 ≥ 0))
noncomputable def oW:Option bF :=
 some (⟨([]:List ByteArray),([]:List (ByteArray×Int)),([]:List Int),([]:List (di×Unit)),([]:List (ByteArray×(List Int)))⟩:bF)
noncomputable def xc (a0:Int):Option (Int×Int) :=
 bif (a0 == 5) then some (0,1) else (bif (a0 == 8) then some (1,1) else (some (0,64)))
noncomputable def rQ (a0:Call) (a1:Int) (a2:Bool):Option (Int ⊕ Bool) :=
 bif a2 then must (0≤w64 (a1 - 1)∧w64 (a1 - 1) < (a0.Vals.length:Int)) (must (0≤a1∧a1 < (a0.Vals.length:Int)) (bif decide (idx a0.Vals (w64 (a1 - 1)) ≥ idx a0.Vals a1) then out (some false) else (some (.inl (w64 (a1 + 1)))))) else (out (some true))
noncomputable def rR (a0:Call):Int→Option (Int ⊕ Bool)
 | a1=>bif (a0.Kind == 7) then rQ a0 a1 (decide (a1 < (a0.Vals.length:Int))) else (rQ a0 a1 false)
noncomputable def rT (a0:Call) (a1:Bool):Option Bool :=
 bif a1 then some false else (iter (rR a0) 1)
noncomputable def rU (a0:Call) (a2:Bool):Option Bool :=
 bif a2 then some false else (bif !a0.Got then some ((a0.Vals.length:Int) == 0) else ((xc a0.Kind).bind fun a1=>bif decide ((a0.Vals.length:Int) < a1.1) then rT a0 true else (rT a0 (decide ((a0.Vals.length:Int) > a1.2)))))
noncomputable def mV (a0:Call) (a1:Int) (a2:Bool):Option Bool :=
 bif a2 then some false else (bif decide (a0.Kind≤4) then bif !a0.Got then bif ((a0.Vals.length:Int) == 0) then bif (a0.Kind != 4) then some true else (bif decide ((-1048576)≤a0.Arg) then some (decide (a0.Arg≤1048576)) else (some false)) else (some false) else (some false) else (bif (a0.Arg != 0) then rU a0 true else (rU a0 (a0.Got != (a1 == 1)))))
noncomputable def bY (a0:Call) (a1:Int):Option Bool :=
 bif decide (a0.Kind < 1) then mV a0 a1 true else (bif decide (a0.Kind > 8) then mV a0 a1 true else (bif sEq a0.Key (⟨#[]⟩:ByteArray) then mV a0 a1 true else (mV a0 a1 (decide ((a0.Key.size:Int) > 32)))))
noncomputable def tH (a0:Call) (a1:Event):Option Bool :=
 (bY a0 a1.Kind).bind fun y5=>some (!y5)
noncomputable def fU (a0:List Call) (a1c0:Event):Int→Option (Int ⊕ Int)
 | a1=>bif decide (a1 < (a0.length:Int)) then must (0≤a1∧a1 < (a0.length:Int)) ((tH (idx a0 a1) a1c0).bind fun a2=>bif a2 then out (some a1) else (some (.inl (w64 (a1 + 1))))) else (out (some (-1)))
noncomputable def bL (a0:List Call) (a1c0:Event):Option Int :=
 iter (fU a0 a1c0) 0
noncomputable def dH (a0:List Call) (a1c0:Event):Option Bool :=
 (bL a0 a1c0).bind fun y3=>some (decide (y3 ≥ 0))
noncomputable def oM (a0:List Event) (a1:Int) (a2:Bool):Option (Int ⊕ Int) :=
 bif a2 then out (some 1) else ((dH ((idx a0 a1).Calls) (idx a0 a1)).bind fun a3=>bif a3 then out (some 1) else (some (.inl (w64 (a1 + 1)))))
noncomputable def vM (a0:List Event):Int→Option (Int ⊕ Int)
 | a1=>bif decide (a1 < (a0.length:Int)) then must (0≤a1∧a1 < (a0.length:Int)) (bif decide ((idx a0 a1).Kind < 0) then oM a0 a1 true else (bif decide ((idx a0 a1).Kind > 3) then oM a0 a1 true else (oM a0 a1 (decide ((((idx a0 a1).Calls).length:Int) > 16))))) else (out (some 0))
noncomputable def gN (a0:List Event):Option Int :=
 bif decide ((a0.length:Int) > 256) then some 1 else (iter (vM a0) 0)
noncomputable def tZ (a0:History) (a1:Txn) (a3:List Call) (a2:Int):Option ((List Call×Int) ⊕ (Event×Bool)) :=
 some (.inl (a3++([(⟨(idx a1.Ops a2).Kind,idx a0.Keys ((idx a1.Ops a2).Key),(idx a1.Ops a2).Arg,(idx a1.Ops a2).Got,(idx a1.Ops a2).Vals⟩:Call)]:List Call),w64 (a2 + 1)))
noncomputable def pU (a0:History) (a1:Txn) (a2:List Call) (a3:Int) (a4:Bool):Option ((List Call×Int) ⊕ (Event×Bool)) :=
 bif a4 then out (some ((⟨0,a1.Status,a2⟩:Event),false)) else (must (0≤(idx a1.Ops a3).Key∧(idx a1.Ops a3).Key < (a0.Keys.length:Int)) (must (((a2.length + 1) + (a2.length + 1) / 4 + 192) * 64≤281474976710656∧a2.length + 1≤9223372036854775807) (tZ a0 a1 a2 a3)))
noncomputable def uf (a0:History) (a1:Txn):(List Call×Int)→Option ((List Call×Int) ⊕ (Event×Bool))
 | (a3,a2)=>bif decide (a2 < (a1.Ops.length:Int)) then must (0≤a2∧a2 < (a1.Ops.length:Int)) (bif decide ((idx a1.Ops a2).Key < 0) then pU a0 a1 a3 a2 true else (pU a0 a1 a3 a2 (decide ((idx a1.Ops a2).Key ≥ (a0.Keys.length:Int))))) else ((gN ([(⟨0,a1.Status,a3⟩:Event)]:List Event)).bind fun a4=>out (some ((⟨0,a1.Status,a3⟩:Event),(a4 == 0))))
noncomputable def eH (a0:History) (a1:Txn):Option (Event×Bool) :=
 iter (uf a0 a1) ([],0)
noncomputable def pV (a0:Txn) (a1:Txn):Option Bool :=
 bif (a0.Proc == a1.Proc) then bif (a0.To == (-1)) then some true else (some (decide (a0.To ≥ a1.From))) else (some false)
noncomputable def fF (a0:List Txn) (a1c0:Txn):Int→Option (Int ⊕ Int)
 | a1=>bif decide (a1 < (a0.length:Int)) then must (0≤a1∧a1 < (a0.length:Int)) ((pV (idx a0 a1) a1c0).bind fun a2=>bif a2 then out (some a1) else (some (.inl (w64 (a1 + 1))))) else (out (some (-1)))
noncomputable def bJ (a0:List Txn) (a1c0:Txn):Option Int :=
 iter (fF a0 a1c0) 0
noncomputable def dB (a0:List Txn) (a1c0:Txn):Option Bool :=
 (bJ a0 a1c0).bind fun y3=>some (decide (y3 ≥ 0))
noncomputable def mO (a0:List Txn) (a1:Txn) (a2:Bool):Option Bool :=
 bif a2 then some false else ((dB a0 a1).bind fun a3=>some (!a3))
noncomputable def oZ (a0:List Txn) (a1:Txn):Option Bool :=
 bif decide (a1.From < 0) then mO a0 a1 true else (bif decide ((a0.length:Int) > 0) then must (0≤w64 ((a0.length:Int) - 1)∧w64 ((a0.length:Int) - 1) < (a0.length:Int)) (mO a0 a1 (decide ((idx a0 (w64 ((a0.length:Int) - 1))).From ≥ a1.From))) else (mO a0 a1 false))
noncomputable def pg (a0:List Txn) (a1:Txn) (a2:Bool):Option Bool :=
 bif a2 then some false else (oZ a0 a1)
noncomputable def pq (a0:List Txn) (a1:Txn) (a2:Bool):Option Bool :=
 bif a2 then bif decide (a1.To≤a1.From) then some false else (oZ a0 a1) else (bif (a1.Status == 3) then bif (a1.To != (-1)) then pg a0 a1 (decide (a1.To≤a1.From)) else (pg a0 a1 false) else (some false))
noncomputable def bU (a0:List Txn) (a1:Txn):Option Bool :=
 bif (a1.Status == 1) then pq a0 a1 (a1.Status == 1) else (pq a0 a1 (a1.Status == 2))
noncomputable def om (a0:Int):Option Int :=
 some (w64 ((dh .i64 (w64 (a0 - 1)) 3) + 1))
noncomputable def iJ (a3:List ByteArray) (a0:List (ByteArray×Int)) (a1:List Int) (a4:List (di×Unit)) (a2:List (ByteArray×(List Int))):Option (Int×bF) :=
 some (0,(⟨a3,a0,a1,a4,a2⟩:bF))
noncomputable def mW (a0:bF) (a1:Call) (a3:List ByteArray) (a2:List (ByteArray×Int)) (a4:List Int):Option (Int×bF) :=
 bif ma a0.facts (⟨a1.Key,a1.Arg⟩:di) then some (3,(⟨a3,a2,a4,a0.facts,a0.incs⟩:bF)) else (iJ a3 a2 a4 (iA a0.facts (⟨a1.Key,a1.Arg⟩:di) ()) a0.incs)
noncomputable def jP (a0:bF) (a1:Call) (a4:List ByteArray) (a3:List (ByteArray×Int)) (a5:List Int) (a2:List (ByteArray×(List Int))):Option (Int×bF) :=
 bif decide (((mat a2 a1.Key).length:Int) > 8) then some (51,(⟨a4,a3,a5,a0.facts,a2⟩:bF)) else (iJ a4 a3 a5 a0.facts a2)
noncomputable def jQ (a0:bF) (a1:Call) (a2:Int) (a4:List ByteArray) (a3:List (ByteArray×Int)) (a5:List Int) (a6:Bool):Option (Int×bF) :=
 bif a6 then must (((((mat a0.incs a1.Key).length) + 1) + (((mat a0.incs a1.Key).length) + 1) / 4 + 192) * 8≤281474976710656∧((mat a0.incs a1.Key).length) + 1≤9223372036854775807) (jP a0 a1 a4 a3 a5 (iA a0.incs a1.Key ((mat a0.incs a1.Key)++([a2]:List Int)))) else (jP a0 a1 a4 a3 a5 a0.incs)
noncomputable def jR (a0:bF) (a1:Call) (a2:Int) (a4:List ByteArray) (a3:List (ByteArray×Int)) (a5:List Int) (a6:Bool):Option (Int×bF) :=
 bif a6 then mW a0 a1 a4 a3 a5 else (bif (a1.Kind == 4) then bif (((mat a0.incs a1.Key).length:Int) == 0) then jQ a0 a1 a2 a4 a3 a5 true else (must (0≤w64 (((mat a0.incs a1.Key).length:Int) - 1)∧w64 (((mat a0.incs a1.Key).length:Int) - 1) < ((mat a0.incs a1.Key).length:Int)) (jQ a0 a1 a2 a4 a3 a5 (idx (mat a0.incs a1.Key) (w64 (((mat a0.incs a1.Key).length:Int) - 1)) != a2))) else (iJ a4 a3 a5 a0.facts a0.incs))
noncomputable def iK (a0:bF) (a1:Call) (a2:Int) (a6:List ByteArray) (a4:List (ByteArray×Int)) (a3:List Int) (a5:Int):Option (Int×bF) :=
 must (0≤a5∧a5 < (a3.length:Int)) ((om a1.Kind).bind fun a7=>bif (idx a3 a5 != a7) then some (50,(⟨a6,a4,a3,a0.facts,a0.incs⟩:bF)) else (bif (a1.Kind == 2) then jR a0 a1 a2 a6 a4 a3 (a1.Kind == 2) else (jR a0 a1 a2 a6 a4 a3 (a1.Kind == 3))))
noncomputable def mX (a0:bF) (a1:Call) (a2:Int):Option (Int×bF) :=
 (om a1.Kind).bind fun a3=>must (((a0.types.length + 1) + (a0.types.length + 1) / 4 + 192) * 8≤281474976710656∧a0.types.length + 1≤9223372036854775807) (iK a0 a1 a2 (a0.keys++([a1.Key]:List ByteArray)) (iA a0.at_ a1.Key (a0.keys.length:Int)) (a0.types++([a3]:List Int)) (a0.keys.length:Int))
noncomputable def aC (a0:bF) (a1:Call) (a2:Int):Option (Int×bF) :=
 bif !(ma a0.at_ a1.Key) then bif ((a0.keys.length:Int) == 32) then some (2,a0) else (must (((a0.keys.length + 1) + (a0.keys.length + 1) / 4 + 192) * 16≤281474976710656∧a0.keys.length + 1≤9223372036854775807) (mX a0 a1 a2)) else (iK a0 a1 a2 a0.keys a0.at_ a0.types (mat a0.at_ a1.Key))
noncomputable def nN (a0:Int) (a1:Bool):Option (Int ⊕ Int) :=
 bif a1 then out (some 1) else (some (.inl (w64 (a0 + 1))))
noncomputable def pW (a5:Int) (a2:Event×Bool):(List ByteArray×(List (ByteArray×Int))×List Int×(List (di×Unit))×(List (ByteArray×(List Int)))×Int)→Option ((List ByteArray×(List (ByteArray×Int))×List Int×(List (di×Unit))×(List (ByteArray×(List Int)))×Int) ⊕ ((List ByteArray×(List (ByteArray×Int))×List Int×(List (di×Unit))×(List (ByteArray×(List Int)))×Int) ⊕ (Int ⊕ Int)))
 | (a4,a7,a8,a3,a6,a1)=>bif decide (a1 < (a2.1.Calls.length:Int)) then must (0≤a1∧a1 < (a2.1.Calls.length:Int)) ((aC (⟨a4,a7,a8,a3,a6⟩:bF) (idx a2.1.Calls a1) a5).bind fun a0=>bif (a0.1 != 0) then out (out (out (some 1))) else (some (.inl (a0.2.keys,a0.2.at_,a0.2.types,a0.2.facts,a0.2.incs,w64 (a1 + 1))))) else (out (some (.inl (a4,a7,a8,a3,a6,w64 (a5 + 1)))))
noncomputable def pX (a7:List ByteArray) (a4:List (ByteArray×Int)) (a5:List Int) (a0:List (di×Unit)) (a2:List (ByteArray×(List Int))) (a1:Int) (a6:Event×Bool) (a3:Bool):Option ((List ByteArray×(List (ByteArray×Int))×List Int×(List (di×Unit))×(List (ByteArray×(List Int)))×Int) ⊕ (Int ⊕ Int)) :=
 bif a3 then out (out (some 1)) else (iter (pW a1 a6) (a7,a4,a5,a0,a2,0))
noncomputable def nO (a0:History):(List ByteArray×(List (ByteArray×Int))×List Int×(List (di×Unit))×(List (ByteArray×(List Int)))×Int)→Option ((List ByteArray×(List (ByteArray×Int))×List Int×(List (di×Unit))×(List (ByteArray×(List Int)))×Int) ⊕ (Int ⊕ Int))
 | (a7,a5,a6,a3,a4,a1)=>bif decide (a1 < (a0.Txns.length:Int)) then must (0≤a1∧a1 < (a0.Txns.length:Int)) ((eH a0 (idx a0.Txns a1)).bind fun a2=>bif !a2.2 then pX a7 a5 a6 a3 a4 a1 a2 true else (must (0≤(0:Int)∧(0:Int)≤a1∧a1≤(a0.Txns.length:Int)) ((bU (eD a0.Txns (0:Int) a1) (idx a0.Txns a1)).bind fun a8=>pX a7 a5 a6 a3 a4 a1 a2 (!a8)))) else (out (out (some 0)))
noncomputable def ug (a0:History):Int→Option (Int ⊕ Int)
 | a1=>bif decide (a1 < (a0.Keys.length:Int)) then must (0≤a1∧a1 < (a0.Keys.length:Int)) (bif sEq (idx a0.Keys a1) (⟨#[]⟩:ByteArray) then nN a1 true else (bif decide (((idx a0.Keys a1).size:Int) > 32) then nN a1 true else (must (0≤(0:Int)∧(0:Int)≤a1∧a1≤(a0.Keys.length:Int)) ((slices_Contains_string (eD a0.Keys (0:Int) a1) (idx a0.Keys a1)).bind fun a3=>nN a1 a3)))) else ((oW).bind fun a2=>iter (nO a0) (a2.keys,a2.at_,a2.types,a2.facts,a2.incs,0))
noncomputable def pY (a0:History) (b7:Bool):Option Int :=
 bif b7 then some 1 else (iter (ug a0) 0)
noncomputable def aZ (a0:History):Option Int :=
 bif decide ((a0.Keys.length:Int) > 32) then pY a0 true else (pY a0 (decide ((a0.Txns.length:Int) > 32)))
noncomputable def fG (a0:List Int):Option (List Int) :=
 must (a0.length * 8≤140737488355328) (some a0)
noncomputable def kJ (a0:Int):Option Int :=
 bif (a0 == 1) then some 280 else (bif (a0 == 2) then some 281 else (bif (a0 == 3) then some 282 else (bif (a0 == 4) then some 283 else (some (-1)))))
noncomputable def kK (a0:Unit) (a1:List Int):Option Bool :=
 some (decide ((a1.length:Int)≤1))
noncomputable def oo (a0:Unit) (a1:List Int):Option Bool :=
 some (decide ((a1.length:Int)≤64))
noncomputable def pE (a1:List Int):Int→Option (Int ⊕ Bool)
 | a0=>bif decide (a0 < (a1.length:Int)) then must (0≤w64 (a0 - 1)∧w64 (a0 - 1) < (a1.length:Int)) (must (0≤a0∧a0 < (a1.length:Int)) (bif decide (idx a1 (w64 (a0 - 1)) ≥ idx a1 a0) then out (some false) else (some (.inl (w64 (a0 + 1)))))) else (out (some (decide ((a1.length:Int)≤64))))
noncomputable def gL (a0:Unit) (a1:List Int):Option Bool :=
 iter (pE a1) 1
noncomputable def lC (a0:Unit) (a1:List Int):Option Bool :=
 some ((a1.length:Int) == 1)
noncomputable def kM (a0:Int) (a1:List Int):Option Int :=
 (kJ a0).bind fun y8=>bif (y8 == (280:Int)) then (kK () a1).bind fun a4=>bif !a4 then some 80 else (some 0) else (bif (y8 == (281:Int)) then (oo () a1).bind fun a2=>bif !a2 then some 80 else (some 0) else (bif (y8 == (282:Int)) then (gL () a1).bind fun a3=>bif !a3 then some 80 else (some 0) else (bif (y8 == (283:Int)) then (lC () a1).bind fun a5=>bif !a5 then some 80 else (some 0) else (bif (y8 == ((-1):Int)) then some 1 else none))))
noncomputable def gY (a0:Unit) (a1:List Int) (a2:List Int):Option (List Int×Bool) :=
 bif ((a1.length:Int) == 1) then must (0≤(0:Int)∧(0:Int) < (a1.length:Int)) (must (0≤w64 ((a2.length:Int) - 1)∧w64 ((a2.length:Int) - 1) < (a2.length:Int)) (some (([]:List Int),(idx a1 (0:Int) == idx a2 (w64 ((a2.length:Int) - 1)))))) else (some (([]:List Int),false))
noncomputable def qY (a0:List Int) (a1:List Int):Int→Option (Int ⊕ Bool)
 | a2=>bif decide (a2 < (a0.length:Int)) then must (0≤a2∧a2 < (a0.length:Int)) (must (0≤a2∧a2 < (a1.length:Int)) (bif (idx a0 a2 != idx a1 a2) then out (some false) else (some (.inl (w64 (a2 + 1)))))) else (out (some true))
noncomputable def dO (a0:List Int) (a1:List Int):Option Bool :=
 bif ((a0.length:Int) != (a1.length:Int)) then some false else (iter (qY a0 a1) 0)
noncomputable def iL (a1:List Int) (a2:List Int) (a0:Bool):Option (List Int×Bool) :=
 bif a0 then some (([]:List Int),false) else (must (0≤(0:Int)∧(0:Int)≤(w64 ((a1.length:Int) - (a2.length:Int)))∧(w64 ((a1.length:Int) - (a2.length:Int)))≤(a1.length:Int)) ((fG (eD a1 (0:Int) (w64 ((a1.length:Int) - (a2.length:Int))))).bind fun a3=>some (a3,true)))
noncomputable def dP (a0:Unit) (a1:List Int) (a2:List Int):Option (List Int×Bool) :=
 bif decide (w64 ((a1.length:Int) - (a2.length:Int)) < 0) then iL a1 a2 true else (must (0≤(w64 ((a1.length:Int) - (a2.length:Int)))∧(w64 ((a1.length:Int) - (a2.length:Int)))≤(a1.length:Int)∧(a1.length:Int)≤(a1.length:Int)) ((dO (eD a1 (w64 ((a1.length:Int) - (a2.length:Int))) (a1.length:Int)) a2).bind fun a3=>iL a1 a2 (!a3)))
noncomputable def mP (a0:Int):Option Bool :=
 some (a0 != a0)
noncomputable def nP (a0:Int) (a1:Int):Option Bool :=
 (mP a0).bind fun y7=>bif y7 then (mP a1).bind fun a2=>bif !a2 then some true else (some (decide (a0 < a1))) else (some (decide (a0 < a1)))
noncomputable def jL (a0:Int):Option Bool :=
 some (a0 != a0)
noncomputable def jo (a0:Int) (a1:Int):Option ((Int×Int) ⊕ (Int×Bool)) :=
 some (.inl (a0,a1))
noncomputable def jq (a0:List Int) (a1:Int):(Int×Int)→Option ((Int×Int) ⊕ (Int×Bool))
 | (a2,a3)=>bif decide (a2 < a3) then must (0≤(1:Int)∧(1:Int) < (far:Int)) (must (0≤w64 (fA .u64 (IntKind.wrap .u64 (w64 (a2 + a3))) (1:Int))∧w64 (fA .u64 (IntKind.wrap .u64 (w64 (a2 + a3))) (1:Int)) < (a0.length:Int)) ((nP (idx a0 (w64 (fA .u64 (IntKind.wrap .u64 (w64 (a2 + a3))) (1:Int)))) a1).bind fun a6=>bif a6 then jo (w64 ((w64 (fA .u64 (IntKind.wrap .u64 (w64 (a2 + a3))) (1:Int))) + 1)) a3 else (jo a2 (w64 (fA .u64 (IntKind.wrap .u64 (w64 (a2 + a3))) (1:Int)))))) else (bif decide (a2 < (a0.length:Int)) then must (0≤a2∧a2 < (a0.length:Int)) (bif (idx a0 a2 == a1) then out (some (a2,true)) else ((jL (idx a0 a2)).bind fun a5=>bif a5 then (jL a1).bind fun a4=>out (some (a2,a4)) else (out (some (a2,false))))) else (out (some (a2,false))))
noncomputable def bK (a0:List Int) (a1:Int):Option (Int×Bool) :=
 iter (jq a0 a1) (0,(a0.length:Int))
noncomputable def jv (a0:List Int) (a1 a2:Int):Option (List Int) :=
 must (0≤a1∧a1≤a2∧a2≤(a0.length:Int)) (some (a0.take a1.toNat++a0.drop a2.toNat))
noncomputable def kN (a2:List Int):(List Int×Int)→Option ((List Int×Int) ⊕ (List Int×Bool))
 | (a1,a0)=>bif decide (a0 < (a2.length:Int)) then must (0≤a0∧a0 < (a2.length:Int)) ((bK a1 (idx a2 a0)).bind fun a3=>bif !a3.2 then out (some (([]:List Int),false)) else ((jv a1 a3.1 (w64 (a3.1 + 1))).bind fun a4=>some (.inl (a4,w64 (a0 + 1))))) else (out (some (a1,true)))
noncomputable def eY (a0:Unit) (a1:List Int) (a2:List Int):Option (List Int×Bool) :=
 (fG a1).bind fun y7=>iter (kN a2) (y7,0)
noncomputable def iY (a2:List Int):(Int×Int)→Option ((Int×Int) ⊕ (List Int×Bool))
 | (a1,a0)=>bif decide (a0 < (a2.length:Int)) then must (0≤a0∧a0 < (a2.length:Int)) (some (.inl (w64 (a1 - (idx a2 a0)),w64 (a0 + 1)))) else (out (some (([a1]:List Int),true)))
noncomputable def dS (a0:Unit) (a1:List Int) (a2:List Int):Option (List Int×Bool) :=
 must (0≤(0:Int)∧(0:Int) < (a1.length:Int)) (iter (iY a2) (idx a1 (0:Int),0))
noncomputable def kG (a0:Int) (a1:List Int) (a2:List Int) (b9:Bool):Option (List Int×Bool) :=
 bif b9 then some (([]:List Int),false) else ((kJ a0).bind fun a3=>bif (a3 == (280:Int)) then (gY () a1 a2).bind fun a7=>some (a7.1,a7.2) else (bif (a3 == (281:Int)) then (dP () a1 a2).bind fun a4=>some (a4.1,a4.2) else (bif (a3 == (282:Int)) then (eY () a1 a2).bind fun a5=>some (a5.1,a5.2) else (bif (a3 == (283:Int)) then (dS () a1 a2).bind fun a6=>some (a6.1,a6.2) else (bif (a3 == ((-1):Int)) then none else none)))))
noncomputable def gM (a0:Int) (a1:List Int) (a2:List Int):Option (List Int×Bool) :=
 (kM a0 a1).bind fun a3=>bif (a3 != 0) then kG a0 a1 a2 true else (kG a0 a1 a2 ((a2.length:Int) == 0))
noncomputable def iq (a2:Int) (a1:List Ask) (a3:List gp) (a0:List (Int×(List Int))):Option ((List Ask×List gp×(List (Int×(List Int)))×Int) ⊕ eP) :=
 some (.inl (a1,a3,a0,w64 (a2 + 1)))
noncomputable def lD (a1:History) (a2:Int) (a3:List Ask) (a4:List gp) (a5:List (Int×(List Int))) (a0:Int) (a7:List Int) (a6:Bool):Option ((List Ask×List gp×(List (Int×(List Int)))×Int) ⊕ eP) :=
 bif !a6 then must (((a4.length + 1) + (a4.length + 1) / 4 + 192) * 16≤281474976710656∧a4.length + 1≤9223372036854775807) (iq a0 a3 (a4++([(⟨a2,a0⟩:gp)]:List gp)) a5) else (must (((a3.length + 1) + (a3.length + 1) / 4 + 192) * 48≤281474976710656∧a3.length + 1≤9223372036854775807) (iq a0 (a3++([(⟨a2,a0,(idx ((idx a1.Txns a2).Ops) a0).Key,a7⟩:Ask)]:List Ask)) a4 a5))
noncomputable def lF (a1:History) (a2:Int) (a4:List Ask) (a5:List gp) (a0:List (Int×(List Int))) (a3:Int) (a6:List Int×Bool) (a7:Bool):Option ((List Ask×List gp×(List (Int×(List Int)))×Int) ⊕ eP) :=
 bif a7 then iq a3 a4 a5 a0 else (lD a1 a2 a4 a5 a0 a3 a6.1 a6.2)
noncomputable def oF (a1:History) (a2:Int):(List Ask×List gp×(List (Int×(List Int)))×Int)→Option ((List Ask×List gp×(List (Int×(List Int)))×Int) ⊕ eP)
 | (a4,a5,a3,a0)=>bif decide (a0 < (((idx a1.Txns a2).Ops).length:Int)) then must (0≤a0∧a0 < (((idx a1.Txns a2).Ops).length:Int)) (bif decide ((idx ((idx a1.Txns a2).Ops) a0).Kind≤4) then must (((((mat a3 ((idx ((idx a1.Txns a2).Ops) a0).Key)).length) + 1) + (((mat a3 ((idx ((idx a1.Txns a2).Ops) a0).Key)).length) + 1) / 4 + 192) * 8≤281474976710656∧((mat a3 ((idx ((idx a1.Txns a2).Ops) a0).Key)).length) + 1≤9223372036854775807) (iq a0 a4 a5 (iA a3 ((idx ((idx a1.Txns a2).Ops) a0).Key) ((mat a3 ((idx ((idx a1.Txns a2).Ops) a0).Key))++([(idx ((idx a1.Txns a2).Ops) a0).Arg]:List Int)))) else ((fG ((idx ((idx a1.Txns a2).Ops) a0).Vals)).bind fun a7=>bif decide (((mat a3 ((idx ((idx a1.Txns a2).Ops) a0).Key)).length:Int) > 0) then (gM (w64 (((idx ((idx a1.Txns a2).Ops) a0).Kind) - 4)) ((idx ((idx a1.Txns a2).Ops) a0).Vals) (mat a3 ((idx ((idx a1.Txns a2).Ops) a0).Key))).bind fun a6=>bif a6.2 then lF a1 a2 a4 a5 a3 a0 a6 ((idx ((idx a1.Txns a2).Ops) a0).Kind == 5) else (lF a1 a2 a4 a5 a3 a0 a6 false) else (lD a1 a2 a4 a5 a3 a0 a7 true))) else (out (some (⟨a4,a5⟩:eP)))
noncomputable def bv (a0:eP) (a1:History) (a2:Int):Option eP :=
 must (0≤a2∧a2 < (a1.Txns.length:Int)) (bif ((idx a1.Txns a2).Status != 1) then some a0 else (iter (oF a1 a2) (a0.asks,a0.bad,[],0)))
noncomputable def xe (a0:History):(List Ask×List gp×Int)→Option ((List Ask×List gp×Int) ⊕ (eP×Int))
 | (a3,a4,a1)=>bif decide (a1 < (a0.Txns.length:Int)) then (bv (⟨a3,a4⟩:eP) a0 a1).bind fun a2=>some (.inl (a2.asks,a2.bad,w64 (a1 + 1))) else (out (some ((⟨a3,a4⟩:eP),0)))
noncomputable def lM (a0:History):Option (eP×Int) :=
 (aZ a0).bind fun a1=>bif (a1 != 0) then some ((⟨([]:List Ask),([]:List gp)⟩:eP),a1) else (iter (xe a0) ([],[],0))
noncomputable def nQ (a0:History):Option (List Ask×Int) :=
 (lM a0).bind fun a1=>some (a1.1.asks,a1.2)
noncomputable def vN (a0:History) (a1:Int) (a3:Int):Int→Option (Int ⊕ (Int ⊕ Int))
 | a2=>bif decide (a2 < (((idx a0.Txns a3).Ops).length:Int)) then must (0≤a2∧a2 < (((idx a0.Txns a3).Ops).length:Int)) (bif ((idx ((idx a0.Txns a3).Ops) a2).Key == a1) then (om ((idx ((idx a0.Txns a3).Ops) a2).Kind)).bind fun a4=>out (out (some a4)) else (some (.inl (w64 (a2 + 1))))) else (out (some (.inl (w64 (a3 + 1)))))
noncomputable def vO (a0:History) (a1:Int):Int→Option (Int ⊕ Int)
 | a2=>bif decide (a2 < (a0.Txns.length:Int)) then must (0≤a2∧a2 < (a0.Txns.length:Int)) (iter (vN a0 a1 a2) 0) else (out (some 0))
noncomputable def fw (a0:History) (a1:Int):Option Int :=
 (aZ a0).bind fun y8=>bif (y8 != 0) then some 0 else (iter (vO a0 a1) 0)
noncomputable def qa (a1:Int) (a0:List Int):Option ((List Int×Int) ⊕ (List Int)) :=
 some (.inl (a0,w64 (a1 + 1)))
noncomputable def qb (a0:Txn) (a1:List Int) (a2:Int) (a3:Bool):Option ((List Int×Int) ⊕ (List Int)) :=
 bif a3 then must (((a1.length + 1) + (a1.length + 1) / 4 + 192) * 8≤281474976710656∧a1.length + 1≤9223372036854775807) (qa a2 (a1++([(idx a0.Ops a2).Arg]:List Int))) else (qa a2 a1)
noncomputable def uh (a0:Txn) (a1:Int):(List Int×Int)→Option ((List Int×Int) ⊕ (List Int))
 | (a3,a2)=>bif decide (a2 < (a0.Ops.length:Int)) then must (0≤a2∧a2 < (a0.Ops.length:Int)) (bif ((idx a0.Ops a2).Key == a1) then qb a0 a3 a2 (decide ((idx a0.Ops a2).Kind≤4)) else (qb a0 a3 a2 false)) else (out (some a3))
noncomputable def dU (a0:Txn) (a1:Int):Option (List Int) :=
 iter (uh a0 a1) ([],0)
noncomputable def nR (a0:History) (a1:Int) (a2:Int) (a4:Bool):Option (List Int×Bool) :=
 bif a4 then some (([]:List Int),false) else (must (0≤a1∧a1 < (a0.Txns.length:Int)) ((dU (idx a0.Txns a1) a2).bind fun a3=>some (a3,decide ((a3.length:Int) > 0))))
noncomputable def gm (a0:History) (a1:Int) (a2:Int):Option (List Int×Bool) :=
 bif decide (a1 < 0) then nR a0 a1 a2 true else (bif decide (a1 ≥ (a0.Txns.length:Int)) then nR a0 a1 a2 true else ((aZ a0).bind fun a3=>nR a0 a1 a2 (a3 != 0)))
noncomputable def rE (a1:Int) (a0:List Int):Option ((List Int×Int) ⊕ (List Int)) :=
 some (.inl (a0,w64 (a1 + 1)))
noncomputable def rF (a0:List Int) (a1:Int) (a2:Bool):Option ((List Int×Int) ⊕ (List Int)) :=
 bif a2 then must (((a0.length + 1) + (a0.length + 1) / 4 + 192) * 8≤281474976710656∧a0.length + 1≤9223372036854775807) (rE a1 (a0++([a1]:List Int))) else (rE a1 a0)
noncomputable def wH (a0:History) (a1:Int):(List Int×Int)→Option ((List Int×Int) ⊕ (List Int))
 | (a3,a2)=>bif decide (a2 < (a0.Txns.length:Int)) then must (0≤a2∧a2 < (a0.Txns.length:Int)) (bif ((idx a0.Txns a2).Status != 2) then (dU (idx a0.Txns a2) a1).bind fun a4=>rF a3 a2 (decide ((a4.length:Int) > 0)) else (rF a3 a2 false)) else (out (some a3))
noncomputable def eF (a0:History) (a1:Int):Option (List Int) :=
 (aZ a0).bind fun y8=>bif (y8 != 0) then some ([]:List Int) else (iter (wH a0 a1) ([],0))
noncomputable def rG (a0:Int) (a1:List aQ):Option ((List aQ×Int) ⊕ (List aQ)) :=
 some (.inl (a1,w64 (a0 + 1)))
noncomputable def rH (a3:List Int) (a0:List aQ) (a1:Int) (a4:List Int×Bool) (a2:Bool):Option ((List aQ×Int) ⊕ (List aQ)) :=
 bif a2 then must (((a0.length + 1) + (a0.length + 1) / 4 + 192) * 32≤281474976710656∧a0.length + 1≤9223372036854775807) (rG a1 (a0++([(⟨idx a3 a1,a4.1⟩:aQ)]:List aQ))) else (rG a1 a0)
noncomputable def wI (a0:History) (a1:Ask) (a3:List Int):(List aQ×Int)→Option ((List aQ×Int) ⊕ (List aQ))
 | (a5,a2)=>bif decide (a2 < (a3.length:Int)) then must (0≤a2∧a2 < (a3.length:Int)) ((gm a0 (idx a3 a2) a1.Key).bind fun a4=>bif a4.2 then rH a3 a5 a2 a4 (idx a3 a2 != a1.Txn) else (rH a3 a5 a2 a4 false)) else (out (some a5))
noncomputable def dN (a0:History) (a1:Ask):Option (List aQ) :=
 (eF a0 a1.Key).bind fun a2=>iter (wI a0 a1 a2) ([],0)
noncomputable def oG (a0:List Int) (a1:Int):Int→Option (Int ⊕ Int)
 | a2=>bif decide (a2 < (a0.length:Int)) then must (0≤a2∧a2 < (a0.length:Int)) (bif (a1 == idx a0 a2) then out (some a2) else (some (.inl (w64 (a2 + 1))))) else (out (some (-1)))
noncomputable def slices_Index_int (a0:List Int) (a1:Int):Option Int :=
 iter (oG a0 a1) 0
noncomputable def slices_Contains_int (a0:List Int) (a1:Int):Option Bool :=
 (slices_Index_int a0 a1).bind fun y3=>some (decide (y3 ≥ 0))
noncomputable def vQ (a0:aQ) (a1:List Int):Option Bool :=
 must (0≤(0:Int)∧(0:Int) < (a0.args.length:Int)) (must (0≤(0:Int)∧(0:Int) < (a1.length:Int)) (some (idx a0.args (0:Int) == idx a1 (0:Int))))
noncomputable def iX (a0:List aQ) (a1c0:List Int):Int→Option (Int ⊕ Int)
 | a1=>bif decide (a1 < (a0.length:Int)) then must (0≤a1∧a1 < (a0.length:Int)) ((vQ (idx a0 a1) a1c0).bind fun a2=>bif a2 then out (some a1) else (some (.inl (w64 (a1 + 1))))) else (out (some (-1)))
noncomputable def df (a0:List aQ) (a1c0:List Int):Option Int :=
 iter (iX a0 a1c0) 0
noncomputable def nS (a1:List aQ) (a2:List Int) (a3:List Int) (a0:Int) (a4:Bool):Option ((List Int×List Int) ⊕ (List Int×Bool)) :=
 bif a4 then out (some (([]:List Int),false)) else (must (0≤a0∧a0 < (a1.length:Int)) (must (((a3.length + 1) + (a3.length + 1) / 4 + 192) * 8≤281474976710656∧a3.length + 1≤9223372036854775807) (must (0≤(((idx a1 a0).args).length:Int)∧(((idx a1 a0).args).length:Int)≤(a2.length:Int)∧(a2.length:Int)≤(a2.length:Int)) (some (.inl (eD a2 (((idx a1 a0).args).length:Int) (a2.length:Int),a3++([(idx a1 a0).txn]:List Int)))))))
noncomputable def yu (a1:List aQ):(List Int×List Int)→Option ((List Int×List Int) ⊕ (List Int×Bool))
 | (a2,a3)=>bif decide ((a2.length:Int) > 0) then (df a1 a2).bind fun a0=>bif decide (a0 < 0) then nS a1 a2 a3 a0 true else (must (0≤a0∧a0 < (a1.length:Int)) (bif decide ((((idx a1 a0).args).length:Int) > (a2.length:Int)) then nS a1 a2 a3 a0 true else (must (0≤(0:Int)∧(0:Int)≤(((idx a1 a0).args).length:Int)∧(((idx a1 a0).args).length:Int)≤(a2.length:Int)) ((dO ((idx a1 a0).args) (eD a2 (0:Int) (((idx a1 a0).args).length:Int))).bind fun a5=>bif !a5 then nS a1 a2 a3 a0 true else ((slices_Contains_int a3 ((idx a1 a0).txn)).bind fun a4=>nS a1 a2 a3 a0 a4))))) else (out (some (a3,true)))
noncomputable def iB (a0:List Int) (a1:List aQ):Option (List Int×Bool) :=
 iter (yu a1) (a0,[])
noncomputable def vR (a2:Int) (a1:List Int) (a0:List (Int×Unit)):Option ((List Int×(List (Int×Unit))×Int) ⊕ (((List (Int×Unit))×Int) ⊕ (List Int×Bool))) :=
 some (.inl (a1,a0,w64 (a2 + 1)))
noncomputable def vT (a0:Int) (a1:List (Int×Unit)) (a2:Int):Option (((List (Int×Unit))×Int×Int) ⊕ ((List Int×(List (Int×Unit))×Int) ⊕ (((List (Int×Unit))×Int) ⊕ (List Int×Bool)))) :=
 some (.inl (a1,a2,w64 (a0 + 1)))
noncomputable def vU (a1:List aQ) (a0:List Int) (a2:Int) (a3:List (Int×Unit)) (a4:Int) (a5:Bool):Option (((List (Int×Unit))×Int×Int) ⊕ ((List Int×(List (Int×Unit))×Int) ⊕ (((List (Int×Unit))×Int) ⊕ (List Int×Bool)))) :=
 bif a5 then out (out (out (some (([]:List Int),false)))) else (bif decide (a4 > 0) then must (((a0.length + 1) + (a0.length + 1) / 4 + 192) * 8≤281474976710656∧a0.length + 1≤9223372036854775807) (out (vR a2 (a0++([(idx a1 a2).txn]:List Int)) a3)) else (out (vR a2 a0 a3)))
noncomputable def zU (a1:List aQ) (a5:List Int) (a2:Int):((List (Int×Unit))×Int×Int)→Option (((List (Int×Unit))×Int×Int) ⊕ ((List Int×(List (Int×Unit))×Int) ⊕ (((List (Int×Unit))×Int) ⊕ (List Int×Bool))))
 | (a4,a3,a0)=>bif decide (a0 < (((idx a1 a2).args).length:Int)) then must (0≤a0∧a0 < (((idx a1 a2).args).length:Int)) (bif ma a4 (idx ((idx a1 a2).args) a0) then vT a0 (Ep a4 (idx ((idx a1 a2).args) a0)) (w64 (a3 + 1)) else (vT a0 a4 a3)) else (bif decide (a3 > 0) then vU a1 a5 a2 a4 a3 (decide (a3 < (((idx a1 a2).args).length:Int))) else (vU a1 a5 a2 a4 a3 false))
noncomputable def zV (a1:List aQ):(List Int×(List (Int×Unit))×Int)→Option ((List Int×(List (Int×Unit))×Int) ⊕ (((List (Int×Unit))×Int) ⊕ (List Int×Bool)))
 | (a3,a2,a0)=>bif decide (a0 < (a1.length:Int)) then must (0≤a0∧a0 < (a1.length:Int)) (iter (zU a1 a3 a0) (a2,0,0)) else (bif decide ((a2.length:Int) > 0) then out (out (some (([]:List Int),false))) else (out (out (some (a3,true)))))
noncomputable def zW (a0:List Int) (a1:List aQ):((List (Int×Unit))×Int)→Option (((List (Int×Unit))×Int) ⊕ (List Int×Bool))
 | (a3,a2)=>bif decide (a2 < (a0.length:Int)) then must (0≤a2∧a2 < (a0.length:Int)) (some (.inl (iA a3 (idx a0 a2) (),w64 (a2 + 1)))) else (iter (zV a1) ([],a3,0))
noncomputable def dL (a0:List Int) (a1:List aQ):Option (List Int×Bool) :=
 iter (zW a0 a1) ([],0)
noncomputable def qc (a0:History) (a1:Ask):Option (List Int×Bool) :=
 (fw a0 a1.Key).bind fun a2=>bif (a2 == 2) then (dN a0 a1).bind fun a6=>(iB a1.Base a6).bind fun a4=>some (a4.1,a4.2) else (bif (a2 == 3) then (dN a0 a1).bind fun a5=>(dL a1.Base a5).bind fun a3=>some (a3.1,a3.2) else (some (([]:List Int),false)))
noncomputable def sP (a0:Int) (a2:Int) (a3:List aQ) (a4:Int) (rec:Int→Int→Int→(List aQ)→Int→Int→Option Int) (a7:Int):(Int×Int)→Option ((Int×Int) ⊕ Int)
 | (a5,a1)=>bif decide (a1 < (((idx a3 a0).args).length:Int)) then must (0≤a1∧a1 < (((idx a3 a0).args).length:Int)) (some (.inl (w64 (a5 + (idx ((idx a3 a0).args) a1)),w64 (a1 + 1)))) else (must (0≤a0∧a0 < (far:Int)) ((rec (w64 (a0 + 1)) a5 (bOr .u64 a2 (Ig .u64 1 a0)) a3 a4 a7).bind fun a6=>out (some a6)))
noncomputable def mY (rec:Int→Int→Int→(List aQ)→Int→Int→Option Int) (a0:Int) (a1:Int) (a2:Int) (a3:List aQ) (a4:Int) (a5:Int):Option Int :=
 bif (a0 == (a3.length:Int)) then bif (a1 == a4) then some (bOr .u64 a5 a2) else (some a5) else ((rec (w64 (a0 + 1)) a1 a2 a3 a4 a5).bind fun a6=>must (0≤a0∧a0 < (a3.length:Int)) (iter (sP a0 a2 a3 a4 rec a6) (a1,0)))
noncomputable def jS:Nat→Int→Int→Int→(List aQ)→Int→Int→Option Int
 | 0=>fun _ _ _ _ _ _=>none
 | k + 1=>mY (jS k)
noncomputable def bQ (a0:Int) (a1:Int) (a2:Int) (a3:List aQ) (a4:Int) (a5:Int):Option Int:=jS 64 a0 a1 a2 a3 a4 a5
noncomputable def qd (a1:Int) (a0:List Int):Option ((List Int×Int) ⊕ (List Int)) :=
 some (.inl (a0,w64 (a1 + 1)))
noncomputable def uX (a1:List aQ) (a3:Int):(List Int×Int)→Option ((List Int×Int) ⊕ (List Int))
 | (a2,a0)=>bif decide (a0 < (a1.length:Int)) then must (0≤a0∧a0 < (a1.length:Int)) (must (0≤a0∧a0 < (far:Int)) (bif (dh .u64 (fA .u64 a3 a0) 1 == 1) then must (((a2.length + 1) + (a2.length + 1) / 4 + 192) * 8≤281474976710656∧a2.length + 1≤9223372036854775807) (qd a0 (a2++([(idx a1 a0).txn]:List Int))) else (qd a0 a2))) else (out (some a2))
noncomputable def gF (a0:Int) (a1:List aQ):Option (List Int) :=
 (bQ 0 0 0 a1 a0 0).bind fun a2=>iter (uX a1 a2) ([],0)
noncomputable def gZ (a0:List Int):Option (List Int) :=
 some a0
noncomputable def qf (a0:History) (a1:Ask) (a2:List Int):Option (List Int) :=
 must (0≤(0:Int)∧(0:Int) < (a1.Base.length:Int)) ((dN a0 a1).bind fun a4=>(gF (idx a1.Base (0:Int)) a4).bind fun a3=>must (((a2.length + a3.length) + (a2.length + a3.length) / 4 + 192) * 8≤281474976710656∧a2.length + a3.length≤9223372036854775807) (gZ (a2++a3)))
noncomputable def qg (a0:Int) (a1:List Int):Option ((List Int×Int) ⊕ (List Int)) :=
 some (.inl (a1,w64 (a0 + 1)))
noncomputable def uY (a1:Ask) (a2:List aQ):(List Int×Int)→Option ((List Int×Int) ⊕ (List Int))
 | (a3,a0)=>bif decide (a0 < (a2.length:Int)) then must (0≤a0∧a0 < (a2.length:Int)) (must (0≤w64 ((((idx a2 a0).args).length:Int) - 1)∧w64 ((((idx a2 a0).args).length:Int) - 1) < (((idx a2 a0).args).length:Int)) (must (0≤(0:Int)∧(0:Int) < (a1.Base.length:Int)) (bif (idx ((idx a2 a0).args) (w64 ((((idx a2 a0).args).length:Int) - 1)) == idx a1.Base (0:Int)) then must (((a3.length + 1) + (a3.length + 1) / 4 + 192) * 8≤281474976710656∧a3.length + 1≤9223372036854775807) (qg a0 (a3++([(idx a2 a0).txn]:List Int))) else (qg a0 a3)))) else (out (gZ a3))
noncomputable def bS (a0:History) (a1:Ask):Option (List Int) :=
 (fw a0 a1.Key).bind fun a3=>bif (a3 == 4) then must (0≤(0:Int)∧(0:Int) < (a1.Base.length:Int)) (bif (idx a1.Base (0:Int) == 0) then must (((0 + 1) + (0 + 1) / 4 + 192) * 8≤281474976710656∧0 + 1≤9223372036854775807) (qf a0 a1 (([]:List Int)++([(-1)]:List Int))) else (qf a0 a1 [])) else (bif ((a1.Base.length:Int) == 0) then gZ ([(-1)]:List Int) else (bif (a3 == 1) then (dN a0 a1).bind fun a5=>iter (uY a1 a5) ([],0) else (bif (a3 == 2) then (qc a0 a1).bind fun a2=>bif a2.2 then must (0≤(w64 ((a2.1.length:Int) - 1))∧(w64 ((a2.1.length:Int) - 1))≤(a2.1.length:Int)∧(a2.1.length:Int)≤(a2.1.length:Int)) (gZ (eD a2.1 (w64 ((a2.1.length:Int) - 1)) (a2.1.length:Int))) else (gZ []) else ((qc a0 a1).bind fun a4=>gZ a4.1))))
noncomputable def ui (a0:Ask) (a1:Ask):Option Bool :=
 bif (a1.Txn == a0.Txn) then bif (a1.Place == a0.Place) then bif (a1.Key == a0.Key) then (dO a1.Base a0.Base).bind fun a2=>some a2 else (some false) else (some false) else (some false)
noncomputable def jb (a0:List Ask) (a1c0:Ask):Int→Option (Int ⊕ Int)
 | a1=>bif decide (a1 < (a0.length:Int)) then must (0≤a1∧a1 < (a0.length:Int)) ((ui (idx a0 a1) a1c0).bind fun a2=>bif a2 then out (some a1) else (some (.inl (w64 (a1 + 1))))) else (out (some (-1)))
noncomputable def dm (a0:List Ask) (a1c0:Ask):Option Int :=
 iter (jb a0 a1c0) 0
noncomputable def fH (a0:List Ask) (a1c0:Ask):Option Bool :=
 (dm a0 a1c0).bind fun y3=>some (decide (y3 ≥ 0))
noncomputable def tJ (a0:History) (a1:Ask):Option Int :=
 (nQ a0).bind fun y9=>bif (y9.2 != 0) then some y9.2 else ((fH y9.1 a1).bind fun a2=>bif a2 then some 0 else (some 1))
noncomputable def uj (a0:History) (a1:Ask):Option (List Int×Int) :=
 (tJ a0 a1).bind fun a2=>bif (a2 != 0) then some (([]:List Int),a2) else ((bS a0 a1).bind fun a3=>some (a3,0))
noncomputable def xg (a0:History) (a1:Ask):Option (List Int×Bool×Int) :=
 (tJ a0 a1).bind fun a2=>bif (a2 != 0) then some (([]:List Int),false,a2) else ((qc a0 a1).bind fun a3=>some (a3.1,a3.2,0))
noncomputable def kH (a0:aH) (a1:Int):Option Bool :=
 must (0≤a1∧a1 < (a0.h.Txns.length:Int)) (some ((idx a0.h.Txns a1).Status == 1))
noncomputable def jc (a0:aH) (a1:Int) (a2:Int) (a3:Int) (a4:Int):Option aH :=
 must (((a0.edges.length + 1) + (a0.edges.length + 1) / 4 + 192) * 32≤281474976710656∧a0.edges.length + 1≤9223372036854775807) (some (⟨a0.h,a0.asks,a0.edges++([(⟨a1,a2,a3,a4⟩:Edge)]:List Edge)⟩:aH))
noncomputable def mg (a1:Int) (a2:List Int) (a0:List (Int×Int)):Option ((List Int×(List (Int×Int))×Int) ⊕ aH) :=
 some (.inl (a2,a0,w64 (a1 - 1)))
noncomputable def mh (a0:aH) (a2:List (Int×Int)) (a1:Int) (a3:List Int):Option ((List Int×(List (Int×Int))×Int) ⊕ aH) :=
 must (0≤a1∧a1 < (a0.h.Txns.length:Int)) (mg a1 a3 (iA a2 ((idx a0.h.Txns a1).Proc) a1))
noncomputable def mi (a1:Int) (a0:List Edge):Option ((List Edge×Int) ⊕ ((List Int×(List (Int×Int))×Int) ⊕ aH)) :=
 some (.inl (a0,w64 (a1 + 1)))
noncomputable def qh (a0:aH) (a2:List Int):(List Edge×Int)→Option ((List Edge×Int) ⊕ ((List Int×(List (Int×Int))×Int) ⊕ aH))
 | (a3,a1)=>bif decide (a1 < (a2.length:Int)) then must (0≤a1∧a1 < (a2.length:Int)) (bif decide (idx a2 a1 ≥ 0) then (jc (⟨a0.h,a0.asks,a3⟩:aH) a1 (idx a2 a1) 1 (-1)).bind fun a4=>mi a1 a4.edges else (mi a1 a3)) else (out (out (some (⟨a0.h,a0.asks,a3⟩:aH))))
noncomputable def qi (a0:aH):(List Int×(List (Int×Int))×Int)→Option ((List Int×(List (Int×Int))×Int) ⊕ aH)
 | (a2,a3,a1)=>bif decide (a1 ≥ 0) then must (0≤a1∧a1 < (a2.length:Int)) ((kH a0 a1).bind fun a4=>bif !a4 then mg a1 (a2.set a1.toNat (-1)) a3 else (must (0≤a1∧a1 < (a0.h.Txns.length:Int)) (bif ma a3 ((idx a0.h.Txns a1).Proc) then must (0≤a1∧a1 < ((a2.set a1.toNat (-1)).length:Int)) (mh a0 a3 a1 ((a2.set a1.toNat (-1)).set a1.toNat (mat a3 ((idx a0.h.Txns a1).Proc)))) else (mh a0 a3 a1 (a2.set a1.toNat (-1)))))) else (iter (qh a0 a2) (a0.edges,0))
noncomputable def bA (a0:aH):Option aH :=
 must (0≤(a0.h.Txns.length:Int)∧(a0.h.Txns.length:Int)≤9223372036854775807∧(8:Int) * (a0.h.Txns.length:Int)≤281474976710656) (iter (qi a0) (List.replicate (a0.h.Txns.length:Int).toNat (default:Int),[],w64 (((a0.h.Txns.length:Int).toNat:Int) - 1)))
noncomputable def pF (a1:Int) (a0:List Edge):Option ((List Edge×Int) ⊕ ((List Edge×Int) ⊕ aH)) :=
 some (.inl (a0,w64 (a1 + 1)))
noncomputable def mo (a0:aH) (a5:Int) (a2:List Edge) (a1:Int) (a4:Bool):Option ((List Edge×Int) ⊕ ((List Edge×Int) ⊕ aH)) :=
 bif a4 then (jc (⟨a0.h,a0.asks,a2⟩:aH) a5 a1 2 (-1)).bind fun a3=>pF a1 a3.edges else (pF a1 a2)
noncomputable def uk (a0:aH) (a2:Int):(List Edge×Int)→Option ((List Edge×Int) ⊕ ((List Edge×Int) ⊕ aH))
 | (a3,a1)=>bif decide (a1 < (a0.h.Txns.length:Int)) then must (0≤a1∧a1 < (a0.h.Txns.length:Int)) ((kH (⟨a0.h,a0.asks,a3⟩:aH) a2).bind fun a5=>bif a5 then (kH (⟨a0.h,a0.asks,a3⟩:aH) a1).bind fun a4=>bif a4 then mo a0 a2 a3 a1 (decide ((idx a0.h.Txns a2).To < (idx a0.h.Txns a1).From)) else (mo a0 a2 a3 a1 false) else (mo a0 a2 a3 a1 false)) else (out (some (.inl (a3,w64 (a2 + 1)))))
noncomputable def ul (a0:aH):(List Edge×Int)→Option ((List Edge×Int) ⊕ aH)
 | (a2,a1)=>bif decide (a1 < (a0.h.Txns.length:Int)) then must (0≤a1∧a1 < (a0.h.Txns.length:Int)) (iter (uk a0 a1) (a2,0)) else (out (some (⟨a0.h,a0.asks,a2⟩:aH)))
noncomputable def cB (a0:aH):Option aH :=
 iter (ul a0) (a0.edges,0)
noncomputable def oq (a0:Int) (a1:aP) (a2:aH):Option Bool :=
 bif (a0 == a1.Ask.Txn) then some true else ((kH a2 a0).bind fun y5=>some (!y5))
noncomputable def pu (a0:aP) (a1:Int):Option Bool :=
 bif ((a0.sources.length:Int) == 1) then must (0≤(0:Int)∧(0:Int) < (a0.sources.length:Int)) (some (idx a0.sources (0:Int) == a1)) else (some false)
noncomputable def qj (a0:aP) (a1:Int) (a2:aP):Option Bool :=
 bif (a0.Ask.Txn == a1) then bif (a0.Ask.Key == a2.Ask.Key) then must (0≤(0:Int)∧(0:Int) < (a2.sources.length:Int)) ((pu a0 (idx a2.sources (0:Int))).bind fun a3=>some a3) else (some false) else (some false)
noncomputable def gW (a0:List aP) (a1c0:Int) (a1c1:aP):Int→Option (Int ⊕ Int)
 | a1=>bif decide (a1 < (a0.length:Int)) then must (0≤a1∧a1 < (a0.length:Int)) ((qj (⟨((idx a0 a1).Ask),(idx a0 a1).sources,(idx a0 a1).parts,(idx a0 a1).made,(idx a0 a1).kind⟩:aP) a1c0 a1c1).bind fun a2=>bif a2 then out (some a1) else (some (.inl (w64 (a1 + 1))))) else (out (some (-1)))
noncomputable def bX (a0:List aP) (a1c0:Int) (a1c1:aP):Option Int :=
 iter (gW a0 a1c0 a1c1) 0
noncomputable def fe (a0:List aP) (a1c0:Int) (a1c1:aP):Option Bool :=
 (bX a0 a1c0 a1c1).bind fun y3=>some (decide (y3 ≥ 0))
noncomputable def mq (a0:aH) (a1:aP) (a2:Int) (a3:Bool):Option Bool :=
 bif a3 then some false else ((fe a0.asks a2 a1).bind fun a4=>some a4)
noncomputable def iC (a0:aH) (a1:aP) (a2:Int):Option Bool :=
 (pu a1 (-1)).bind fun a4=>bif a4 then some true else (bif a1.made then (slices_Contains_int a1.parts a2).bind fun a3=>some (!a3) else (bif (a1.kind != 1) then mq a0 a1 a2 true else (bif ((a1.sources.length:Int) != 1) then mq a0 a1 a2 true else (must (0≤(0:Int)∧(0:Int) < (a1.sources.length:Int)) (mq a0 a1 a2 (idx a1.sources (0:Int) == a2))))))
noncomputable def iM (a0:List Int) (a1c0:aP) (a1c1:aH):Int→Option (Int ⊕ Int)
 | a1=>bif decide (a1 < (a0.length:Int)) then must (0≤a1∧a1 < (a0.length:Int)) ((oq (idx a0 a1) a1c0 a1c1).bind fun a2=>bif a2 then out (some a1) else (some (.inl (w64 (a1 + 1))))) else (out (some (-1)))
noncomputable def cO (a0:List Int) (a1c0:aP) (a1c1:aH):Option Int :=
 iter (iM a0 a1c0 a1c1) 0
noncomputable def iD (a0:List Int) (a1c0:aP) (a1c1:aH):List Int×Int→Option ((List Int×Int) ⊕ List Int)
 | (l,x)=>bif decide (x < (a0.length:Int)) then must (0≤x∧x < (a0.length:Int)) ((oq (idx a0 x) a1c0 a1c1).bind fun y=>bif !y then (some (.inl (l++[idx a0 x],w64 (x + 1)))) else (some (.inl (l,w64 (x + 1))))) else (out (some l))
noncomputable def cu (a0:List Int) (a1c0:aP) (a1c1:aH):Option (List Int) :=
 (cO a0 a1c0 a1c1).bind fun i=>bif i == -1 then some a0 else must (0≤i∧i < (a0.length:Int)) (iter (iD a0 a1c0 a1c1) (a0.take i.toNat,w64 (i + 1)))
noncomputable def ql (a0:Int) (a1:List Edge):Option ((List Edge×Int) ⊕ aH) :=
 some (.inl (a1,w64 (a0 + 1)))
noncomputable def uZ (a0:aH) (a1:aP) (a3:List Int):(List Edge×Int)→Option ((List Edge×Int) ⊕ aH)
 | (a4,a2)=>bif decide (a2 < (a3.length:Int)) then must (0≤a2∧a2 < (a3.length:Int)) ((iC (⟨a0.h,a0.asks,a4⟩:aH) a1 (idx a3 a2)).bind fun a5=>bif a5 then (jc (⟨a0.h,a0.asks,a4⟩:aH) a1.Ask.Txn (idx a3 a2) 16 a1.Ask.Key).bind fun a6=>ql a2 a6.edges else (ql a2 a4)) else (out (some (⟨a0.h,a0.asks,a4⟩:aH)))
noncomputable def qm (a0:aH) (a1:aP) (a3:List Int) (a2:List Edge):Option aH :=
 iter (uZ a0 a1 a3) (a2,0)
noncomputable def qo (a0:Int) (a1:List Edge):Option ((List Edge×Int) ⊕ aH) :=
 some (.inl (a1,w64 (a0 + 1)))
noncomputable def qp (a1:Int) (a0:List Edge):Option ((List Edge×Int) ⊕ ((List Edge×Int) ⊕ aH)) :=
 some (.inl (a0,w64 (a1 + 1)))
noncomputable def ve (a0:aH) (a1:aP) (a3:List Int) (a5:Int):(List Edge×Int)→Option ((List Edge×Int) ⊕ ((List Edge×Int) ⊕ aH))
 | (a4,a2)=>bif decide (a2 < (a3.length:Int)) then must (0≤a2∧a2 < (a3.length:Int)) ((slices_Contains_int a1.parts (idx a3 a2)).bind fun a6=>bif !a6 then (jc (⟨a0.h,a0.asks,a4⟩:aH) (idx a1.parts a5) (idx a3 a2) 8 a1.Ask.Key).bind fun a7=>qp a2 a7.edges else (qp a2 a4)) else (out (qo a5 a4))
noncomputable def qw (a0:aH) (a1:aP) (a4:List Int) (a3:List Edge) (a2:Int) (a6:Bool):Option ((List Edge×Int) ⊕ aH) :=
 bif a6 then must (0≤w64 (a2 + 1)∧w64 (a2 + 1) < (a1.parts.length:Int)) ((jc (⟨a0.h,a0.asks,a3⟩:aH) (idx a1.parts a2) (idx a1.parts (w64 (a2 + 1))) 8 a1.Ask.Key).bind fun a5=>qo a2 a5.edges) else (iter (ve a0 a1 a4 a2) (a3,0))
noncomputable def vg (a0:aH) (a1:aP) (a3:List Int):(List Edge×Int)→Option ((List Edge×Int) ⊕ aH)
 | (a4,a2)=>bif decide (a2 < (a1.parts.length:Int)) then must (0≤a2∧a2 < (a1.parts.length:Int)) (bif (a1.kind == 2) then qw a0 a1 a3 a4 a2 (decide (w64 (a2 + 1) < (a1.parts.length:Int))) else (qw a0 a1 a3 a4 a2 false)) else (out (qm a0 a1 a3 a4))
noncomputable def qx (a0:aH) (a1:aP) (a2:List Edge):Option aH :=
 (eF a0.h a1.Ask.Key).bind fun a4=>(cu a4 a1 (⟨a0.h,a0.asks,a2⟩:aH)).bind fun a3=>bif a1.made then iter (vg a0 a1 a3) (a2,0) else (qm a0 a1 a3 a2)
noncomputable def pG (a0:aH) (a1:aP) (a2:Bool):Option aH :=
 bif a2 then must (0≤(0:Int)∧(0:Int) < (a1.sources.length:Int)) ((jc a0 (idx a1.sources (0:Int)) a1.Ask.Txn 4 a1.Ask.Key).bind fun a3=>qx a0 a1 a3.edges) else (qx a0 a1 a0.edges)
noncomputable def aR (a0:aH) (a1:aP):Option aH :=
 bif ((a1.sources.length:Int) == 1) then must (0≤(0:Int)∧(0:Int) < (a1.sources.length:Int)) (pG a0 a1 (decide (idx a1.sources (0:Int) ≥ 0))) else (pG a0 a1 false)
noncomputable def zX (a0:Int) (a1:List aP):Option ((List aP×Int) ⊕ (jJ×Int)) :=
 some (.inl (a1,w64 (a0 + 1)))
noncomputable def vV (a2:List Ask×Int) (a0:List aP) (a1:Int) (a3:Int) (a4:List Int×Int) (a6:List Int×Bool×Int) (a5:Bool):Option ((List aP×Int) ⊕ (jJ×Int)) :=
 must (((a0.length + 1) + (a0.length + 1) / 4 + 192) * 112≤281474976710656∧a0.length + 1≤9223372036854775807) (zX a1 (a0++([(⟨(idx a2.1 a1),a4.1,a6.1,a5,a3⟩:aP)]:List aP)))
noncomputable def zY (a0:History) (a1:List Ask×Int) (a6:List aP) (a2:Int) (a4:Int):Option ((List aP×Int) ⊕ (jJ×Int)) :=
 (uj a0 (idx a1.1 a2)).bind fun a5=>(xg a0 (idx a1.1 a2)).bind fun a3=>bif a3.2.1 then vV a1 a6 a2 a4 a5 a3 (decide ((((idx a1.1 a2).Base).length:Int) > 0)) else (vV a1 a6 a2 a4 a5 a3 false)
noncomputable def zZ (a0:History) (a2:List aP):(List Edge×Int)→Option ((List Edge×Int) ⊕ ((List aP×Int) ⊕ (jJ×Int)))
 | (a3,a1)=>bif decide (a1 < (a2.length:Int)) then must (0≤a1∧a1 < (a2.length:Int)) ((aR (⟨a0,a2,a3⟩:aH) (⟨((idx a2 a1).Ask),(idx a2 a1).sources,(idx a2 a1).parts,(idx a2 a1).made,(idx a2 a1).kind⟩:aP)).bind fun a4=>some (.inl (a4.edges,w64 (a1 + 1)))) else (out (out (some ((⟨(a0.Txns.length:Int),a3⟩:jJ),0))))
noncomputable def Aa (a0:History) (a2:List Ask×Int):(List aP×Int)→Option ((List aP×Int) ⊕ (jJ×Int))
 | (a3,a1)=>bif decide (a1 < (a2.1.length:Int)) then must (0≤a1∧a1 < (a2.1.length:Int)) ((fw a0 ((idx a2.1 a1).Key)).bind fun a5=>zY a0 a2 a3 a1 a5) else ((bA (⟨a0,a3,([]:List Edge)⟩:aH)).bind fun a6=>(cB (⟨a0,a3,a6.edges⟩:aH)).bind fun a4=>iter (zZ a0 a3) (a4.edges,0))
noncomputable def dX (a0:History):Option (jJ×Int) :=
 (nQ a0).bind fun a1=>bif (a1.2 != 0) then some ((⟨0,([]:List Edge)⟩:jJ),a1.2) else (iter (Aa a0 a1) ([],0))
noncomputable def zG (a0:History) (a4:List Txn) (a1:Int):(List Op×Int)→Option ((List Op×Int) ⊕ ((List Txn×Int) ⊕ History))
 | (a3,a2)=>bif decide (a2 < (((idx a0.Txns a1).Ops).length:Int)) then must (0≤a2∧a2 < (((idx a0.Txns a1).Ops).length:Int)) (must (((0 + (((idx ((idx a0.Txns a1).Ops) a2).Vals).length)) + (0 + (((idx ((idx a0.Txns a1).Ops) a2).Vals).length)) / 4 + 192) * 8≤281474976710656∧0 + (((idx ((idx a0.Txns a1).Ops) a2).Vals).length)≤9223372036854775807) (must (((a3.length + 1) + (a3.length + 1) / 4 + 192) * 56≤281474976710656∧a3.length + 1≤9223372036854775807) (some (.inl (a3++([(⟨(idx ((idx a0.Txns a1).Ops) a2).Kind,(idx ((idx a0.Txns a1).Ops) a2).Key,(idx ((idx a0.Txns a1).Ops) a2).Arg,(idx ((idx a0.Txns a1).Ops) a2).Got,([]:List Int)++((idx ((idx a0.Txns a1).Ops) a2).Vals)⟩:Op)]:List Op),w64 (a2 + 1)))))) else (must (((a4.length + 1) + (a4.length + 1) / 4 + 192) * 56≤281474976710656∧a4.length + 1≤9223372036854775807) (out (some (.inl (a4++([(⟨(idx a0.Txns a1).Proc,(idx a0.Txns a1).Status,(idx a0.Txns a1).From,(idx a0.Txns a1).To,a3⟩:Txn)]:List Txn),w64 (a1 + 1))))))
noncomputable def zH (a0:History):(List Txn×Int)→Option ((List Txn×Int) ⊕ History)
 | (a2,a1)=>bif decide (a1 < (a0.Txns.length:Int)) then must (0≤a1∧a1 < (a0.Txns.length:Int)) (iter (zG a0 a2 a1) ([],0)) else (out (some (⟨([]:List ByteArray)++a0.Keys,a2⟩:History)))
noncomputable def ou (a0:History):Option History :=
 must (((0 + a0.Keys.length) + (0 + a0.Keys.length) / 4 + 192) * 16≤281474976710656∧0 + a0.Keys.length≤9223372036854775807) (iter (zH a0) ([],0))
noncomputable def lN (a0:List Int) (a1:List Int):Int→Option (Int ⊕ Bool)
 | a2=>bif decide (a2 < (a0.length:Int)) then must (0≤a2∧a2 < (a0.length:Int)) (must (0≤a2∧a2 < (a1.length:Int)) (bif (idx a0 a2 != idx a1 a2) then out (some false) else (some (.inl (w64 (a2 + 1)))))) else (out (some true))
noncomputable def dC (a0:List Int) (a1:List Int):Option Bool :=
 bif ((a0.length:Int) != (a1.length:Int)) then some false else (iter (lN a0 a1) 0)
noncomputable def jw (a1:Int) (a0:Bool):Option (Int ⊕ (Int ⊕ (Int ⊕ Bool))) :=
 bif a0 then out (out (out (some false))) else (some (.inl (w64 (a1 + 1))))
noncomputable def zI (a0:History) (a1:History) (a3:Int) (a2:Int):Option (Int ⊕ (Int ⊕ (Int ⊕ Bool))) :=
 bif ((idx ((idx a0.Txns a3).Ops) a2).Kind != (idx ((idx a1.Txns a3).Ops) a2).Kind) then jw a2 true else (bif ((idx ((idx a0.Txns a3).Ops) a2).Key != (idx ((idx a1.Txns a3).Ops) a2).Key) then jw a2 true else (bif ((idx ((idx a0.Txns a3).Ops) a2).Arg != (idx ((idx a1.Txns a3).Ops) a2).Arg) then jw a2 true else (bif ((idx ((idx a0.Txns a3).Ops) a2).Got != (idx ((idx a1.Txns a3).Ops) a2).Got) then jw a2 true else ((dC ((idx ((idx a0.Txns a3).Ops) a2).Vals) ((idx ((idx a1.Txns a3).Ops) a2).Vals)).bind fun a4=>jw a2 (!a4)))))
noncomputable def zJ (a0:History) (a1:History) (a3:Int):Int→Option (Int ⊕ (Int ⊕ (Int ⊕ Bool)))
 | a2=>bif decide (a2 < (((idx a0.Txns a3).Ops).length:Int)) then must (0≤a2∧a2 < (((idx a0.Txns a3).Ops).length:Int)) (must (0≤a2∧a2 < (((idx a1.Txns a3).Ops).length:Int)) (zI a0 a1 a3 a2)) else (out (some (.inl (w64 (a3 + 1)))))
noncomputable def jy (a0:History) (a1:History) (a3:Int) (a2:Bool):Option (Int ⊕ (Int ⊕ Bool)) :=
 bif a2 then out (out (some false)) else (iter (zJ a0 a1 a3) 0)
noncomputable def zK (a0:History) (a1:History) (a2:Int):Option (Int ⊕ (Int ⊕ Bool)) :=
 bif ((idx a0.Txns a2).Proc != (idx a1.Txns a2).Proc) then jy a0 a1 a2 true else (bif ((idx a0.Txns a2).Status != (idx a1.Txns a2).Status) then jy a0 a1 a2 true else (bif ((idx a0.Txns a2).From != (idx a1.Txns a2).From) then jy a0 a1 a2 true else (bif ((idx a0.Txns a2).To != (idx a1.Txns a2).To) then jy a0 a1 a2 true else (jy a0 a1 a2 ((((idx a0.Txns a2).Ops).length:Int) != (((idx a1.Txns a2).Ops).length:Int))))))
noncomputable def zL (a0:History) (a1:History):Int→Option (Int ⊕ (Int ⊕ Bool))
 | a2=>bif decide (a2 < (a0.Txns.length:Int)) then must (0≤a2∧a2 < (a0.Txns.length:Int)) (must (0≤a2∧a2 < (a1.Txns.length:Int)) (zK a0 a1 a2)) else (out (out (some true)))
noncomputable def zM (a0:History) (a1:History):Int→Option (Int ⊕ Bool)
 | a2=>bif decide (a2 < (a0.Keys.length:Int)) then must (0≤a2∧a2 < (a0.Keys.length:Int)) (must (0≤a2∧a2 < (a1.Keys.length:Int)) (bif !(sEq (idx a0.Keys a2) (idx a1.Keys a2)) then out (some false) else (some (.inl (w64 (a2 + 1)))))) else (iter (zL a0 a1) 0)
noncomputable def sQ (a0:History) (a1:History) (b9:Bool):Option Bool :=
 bif b9 then some false else (iter (zM a0 a1) 0)
noncomputable def bD (a0:History) (a1:History):Option Bool :=
 bif ((a0.Keys.length:Int) != (a1.Keys.length:Int)) then sQ a0 a1 true else (sQ a0 a1 ((a0.Txns.length:Int) != (a1.Txns.length:Int)))
noncomputable def wJ (a0:History):Option (List gp×Int) :=
 (lM a0).bind fun a1=>some (a1.1.bad,a1.2)
noncomputable def rX (a0:History) (a1:List Int) (a3:List (Int×Int)) (a2:Int) (a4:Bool):Option (((List (Int×Int))×Int) ⊕ (cK×Bool)) :=
 bif a4 then out (some ((⟨a0,a1,a3⟩:cK),false)) else (some (.inl (iA a3 (idx a1 a2) a2,w64 (a2 + 1))))
noncomputable def vk (a0:History) (a1:List Int) (a2:List (Int×Int)) (a3:Int) (a4:Bool):Option (Int ⊕ (((List (Int×Int))×Int) ⊕ (cK×Bool))) :=
 bif a4 then out (out (some ((⟨a0,a1,a2⟩:cK),false))) else (some (.inl (w64 (a3 + 1))))
noncomputable def vo (a0:History) (a1:List Int) (a3:List (Int×Int)):Int→Option (Int ⊕ (((List (Int×Int))×Int) ⊕ (cK×Bool)))
 | a2=>bif decide (a2 < (a0.Txns.length:Int)) then must (0≤a2∧a2 < (a0.Txns.length:Int)) (bif !(ma a3 a2) then vk a0 a1 a3 a2 ((idx a0.Txns a2).Status == 1) else (vk a0 a1 a3 a2 false)) else (out (out (some ((⟨a0,a1,a3⟩:cK),true))))
noncomputable def yw (a0:History) (a1:List Int):((List (Int×Int))×Int)→Option (((List (Int×Int))×Int) ⊕ (cK×Bool))
 | (a3,a2)=>bif decide (a2 < (a1.length:Int)) then must (0≤a2∧a2 < (a1.length:Int)) (bif decide (idx a1 a2 < 0) then rX a0 a1 a3 a2 true else (bif decide (idx a1 a2 ≥ (a0.Txns.length:Int)) then rX a0 a1 a3 a2 true else (must (0≤idx a1 a2∧idx a1 a2 < (a0.Txns.length:Int)) (rX a0 a1 a3 a2 ((idx a0.Txns (idx a1 a2)).Status == 2))))) else (bif ((a3.length:Int) != (a1.length:Int)) then out (some ((⟨a0,a1,a3⟩:cK),false)) else (iter (vo a0 a1 a3) 0))
noncomputable def fB (a0:History) (a1:List Int):Option (cK×Bool) :=
 iter (yw a0 a1) ([],0)
noncomputable def jE (a1:Int) (a0:List (Int×Int)):Option (((List (Int×Int))×Int) ⊕ Bool) :=
 some (.inl (a0,w64 (a1 + 1)))
noncomputable def jF (a0:cK) (a2:List (Int×Int)) (a1:Int) (a3:Bool):Option (((List (Int×Int))×Int) ⊕ Bool) :=
 bif a3 then out (some false) else (jE a1 (iA a2 ((idx a0.h.Txns a1).Proc) (CJ (mat a0.at_ a1) (mat a2 ((idx a0.h.Txns a1).Proc)))))
noncomputable def mr (a0:cK):((List (Int×Int))×Int)→Option (((List (Int×Int))×Int) ⊕ Bool)
 | (a2,a1)=>bif decide (a1 < (a0.h.Txns.length:Int)) then must (0≤a1∧a1 < (a0.h.Txns.length:Int)) (bif !(ma a0.at_ a1) then jE a1 a2 else (bif ma a2 ((idx a0.h.Txns a1).Proc) then jF a0 a2 a1 (decide (mat a2 ((idx a0.h.Txns a1).Proc) > mat a0.at_ a1)) else (jF a0 a2 a1 false))) else (out (some true))
noncomputable def bH (a0:cK):Option Bool :=
 iter (mr a0) ([],0)
noncomputable def lG (a0:cK) (a1:Ask) (a2:Int) (b9:Bool):Option Bool :=
 bif b9 then some false else ((gm a0.h a2 a1.Key).bind fun a3=>some a3.2)
noncomputable def fD (a0:cK) (a1:Ask) (a2:Int):Option Bool :=
 bif !(ma a0.at_ a2) then lG a0 a1 a2 true else (lG a0 a1 a2 (decide (mat a0.at_ a2 ≥ mat a0.at_ a1.Txn)))
noncomputable def qy (a0:List Int):Option (List Int):=must (a0.length < 4611686018427387904) (some (a0.mergeSort fun x y=>decide (x≤y)))
noncomputable def jT (a0:List Int):Option (List Int) :=
 some a0
noncomputable def mZ (a1:List Int):(Int×Int)→Option ((Int×Int) ⊕ (List Int))
 | (a2,a0)=>bif decide (a0 < (a1.length:Int)) then must (0≤a0∧a0 < (a1.length:Int)) (some (.inl (w64 (a2 + (idx a1 a0)),w64 (a0 + 1)))) else (out (some ([a2]:List Int)))
noncomputable def iN (a0:cK) (a1:Int) (a2:List Int):Option (List Int) :=
 (fw a0.h a1).bind fun a3=>bif (a3 == 1) then must (0≤(CJ 0 (w64 ((a2.length:Int) - 1)))∧(CJ 0 (w64 ((a2.length:Int) - 1)))≤(a2.length:Int)∧(a2.length:Int)≤(a2.length:Int)) (some (eD a2 (CJ 0 (w64 ((a2.length:Int) - 1))) (a2.length:Int))) else (bif (a3 == 3) then (qy a2).bind fun a4=>jT a4 else (bif (a3 == 4) then iter (mZ a2) (0,0) else (jT a2)))
noncomputable def jU (a1:Int) (a0:List Int):Option ((List Int×Int) ⊕ ((List Int×Int) ⊕ (List Int))) :=
 some (.inl (a0,w64 (a1 + 1)))
noncomputable def jV (a0:cK) (a2:Int) (a5:Int) (a1:List Int) (a3:Int) (a4:Bool):Option ((List Int×Int) ⊕ ((List Int×Int) ⊕ (List Int))) :=
 bif a4 then must (((a1.length + 1) + (a1.length + 1) / 4 + 192) * 8≤281474976710656∧a1.length + 1≤9223372036854775807) (jU a3 (a1++([(idx ((idx a0.h.Txns (idx (eD a0.order (0:Int) (w64 ((mat a0.at_ a2) + 1))) a5)).Ops) a3).Arg]:List Int))) else (jU a3 a1)
noncomputable def ng (a0:cK) (a1:Int) (a2:Int) (a4:Int):(List Int×Int)→Option ((List Int×Int) ⊕ ((List Int×Int) ⊕ (List Int)))
 | (a5,a3)=>bif decide (a3 < (((idx a0.h.Txns (idx (eD a0.order (0:Int) (w64 ((mat a0.at_ a2) + 1))) a4)).Ops).length:Int)) then must (0≤a3∧a3 < (((idx a0.h.Txns (idx (eD a0.order (0:Int) (w64 ((mat a0.at_ a2) + 1))) a4)).Ops).length:Int)) (bif ((idx ((idx a0.h.Txns (idx (eD a0.order (0:Int) (w64 ((mat a0.at_ a2) + 1))) a4)).Ops) a3).Key == a1) then jV a0 a2 a4 a5 a3 (decide ((idx ((idx a0.h.Txns (idx (eD a0.order (0:Int) (w64 ((mat a0.at_ a2) + 1))) a4)).Ops) a3).Kind≤4)) else (jV a0 a2 a4 a5 a3 false)) else (out (some (.inl (a5,w64 (a4 + 1)))))
noncomputable def ni (a0:cK) (a1:Int) (a2:Int):(List Int×Int)→Option ((List Int×Int) ⊕ (List Int))
 | (a4,a3)=>bif decide (a3 < ((eD a0.order (0:Int) (w64 ((mat a0.at_ a2) + 1))).length:Int)) then must (0≤a3∧a3 < ((eD a0.order (0:Int) (w64 ((mat a0.at_ a2) + 1))).length:Int)) (must (0≤idx (eD a0.order (0:Int) (w64 ((mat a0.at_ a2) + 1))) a3∧idx (eD a0.order (0:Int) (w64 ((mat a0.at_ a2) + 1))) a3 < (a0.h.Txns.length:Int)) (iter (ng a0 a1 a2 a3) (a4,0))) else (out (iN a0 a1 a4))
noncomputable def aD (a0:cK) (a1:Int) (a2:Int):Option (List Int) :=
 bif decide (a2 ≥ 0) then must (0≤(0:Int)∧(0:Int)≤(w64 ((mat a0.at_ a2) + 1))∧(w64 ((mat a0.at_ a2) + 1))≤(a0.order.length:Int)) (iter (ni a0 a1 a2) ([],0)) else (iN a0 a1 [])
noncomputable def vv (a1:Exec) (a2:List Ask×Int) (a3:cK×Bool) (a0:Int) (a4:Bool):Option (Int ⊕ (Int×Int)) :=
 bif a4 then out (some (5,0)) else (must (0≤a0∧a0 < (a1.Picks.length:Int)) ((aD a3.1 ((idx a2.1 a0).Key) (idx a1.Picks a0)).bind fun a6=>(dO a6 ((idx a2.1 a0).Base)).bind fun a5=>bif !a5 then out (some (6,0)) else (some (.inl (w64 (a0 + 1))))))
noncomputable def vw (a1:Exec) (a2:List Ask×Int) (a3:cK×Bool):Int→Option (Int ⊕ (Int×Int))
 | a0=>bif decide (a0 < (a2.1.length:Int)) then must (0≤a0∧a0 < (a2.1.length:Int)) (must (0≤a0∧a0 < (a1.Picks.length:Int)) (bif (idx a1.Picks a0 != (-1)) then (fD a3.1 (idx a2.1 a0) (idx a1.Picks a0)).bind fun a4=>vv a1 a2 a3 a0 (!a4) else (vv a1 a2 a3 a0 false))) else (out (some (0,0)))
noncomputable def iO (a0:History) (a1:Exec):Option (Int×Int) :=
 (nQ a0).bind fun a2=>bif (a2.2 != 0) then some (0,a2.2) else ((wJ a0).bind fun a4=>bif decide ((a4.1.length:Int) > 0) then some (1,0) else ((fB a0 a1.Order).bind fun a3=>bif !a3.2 then some (2,0) else (bif ((a1.Picks.length:Int) != (a2.1.length:Int)) then some (3,0) else ((bH a3.1).bind fun a5=>bif !a5 then some (4,0) else (iter (vw a1 a2 a3) 0)))))
noncomputable def ow (a1:Exec) (a2:Edge) (a3:Bool):Option Bool :=
 bif a3 then some false else ((slices_Index_int a1.Order a2.From).bind fun a0=>(slices_Index_int a1.Order a2.To).bind fun a4=>bif decide (a0 ≥ 0) then some (decide (a0 < a4)) else (some false))
noncomputable def iW (a0:History) (a1:Exec) (a2:Edge):Option Bool :=
 (iO a0 a1).bind fun a3=>bif (a3.2 != 0) then ow a1 a2 true else (ow a1 a2 (a3.1 != 0))
noncomputable def oz (a0:Int):Option Op :=
 some (⟨5,0,0,true,([a0]:List Int)⟩:Op)
noncomputable def jl:Option Bool :=
 (oz 1).bind fun a2=>(oz 1).bind fun a1=>(dX (⟨([(⟨#[120]⟩:ByteArray)]:List ByteArray),([(⟨0,1,0,9,([(⟨1,0,1,false,([]:List Int)⟩:Op)]:List Op)⟩:Txn),(⟨1,1,2,5,([a2,(⟨1,0,2,false,([]:List Int)⟩:Op)]:List Op)⟩:Txn),(⟨2,1,3,4,([a1,(⟨1,0,3,false,([]:List Int)⟩:Op)]:List Op)⟩:Txn)]:List Txn)⟩:History)).bind fun a0=>bif (a0.2 == 0) then bif (a0.1.N == 3) then bif ((a0.1.Edges.length:Int) == 4) then must (0≤(1:Int)∧(1:Int) < (a0.1.Edges.length:Int)) (bif (((idx a0.1.Edges (1:Int)).From == 1) && (((idx a0.1.Edges (1:Int)).To == 2) && (((idx a0.1.Edges (1:Int)).Kind == 16) && (((idx a0.1.Edges (1:Int)).Key == 0) && true)))) then must (0≤(0:Int)∧(0:Int) < (a0.1.Edges.length:Int)) ((iW (⟨([(⟨#[120]⟩:ByteArray)]:List ByteArray),([(⟨0,1,0,9,([(⟨1,0,1,false,([]:List Int)⟩:Op)]:List Op)⟩:Txn),(⟨1,1,2,5,([a2,(⟨1,0,2,false,([]:List Int)⟩:Op)]:List Op)⟩:Txn),(⟨2,1,3,4,([a1,(⟨1,0,3,false,([]:List Int)⟩:Op)]:List Op)⟩:Txn)]:List Txn)⟩:History) (⟨([0,1,2]:List Int),([0,0]:List Int)⟩:Exec) (idx a0.1.Edges (0:Int))).bind fun a3=>some a3) else (some false)) else (some false) else (some false) else (some false)
noncomputable def oH (a0:List ByteArray) (a1:ByteArray):Int→Option (Int ⊕ Int)
 | a2=>bif decide (a2 < (a0.length:Int)) then must (0≤a2∧a2 < (a0.length:Int)) (bif sEq (idx a0 a2) a1 then out (some a2) else (some (.inl (w64 (a2 + 1))))) else (out (some (-1)))
noncomputable def eQ (a0:List ByteArray) (a1:ByteArray):Option Int :=
 iter (oH a0 a1) 0
noncomputable def jd (a1:Int) (a0:Bool):Option (Int ⊕ Bool) :=
 bif a0 then out (some false) else (some (.inl (w64 (a1 + 1))))
noncomputable def nT (a0:List ByteArray):Int→Option (Int ⊕ Bool)
 | a1=>bif decide (a1 < (a0.length:Int)) then must (0≤a1∧a1 < (a0.length:Int)) (bif decide (((idx a0 a1).size:Int) < 1) then jd a1 true else (bif decide (((idx a0 a1).size:Int) > 32) then jd a1 true else (must (0≤(0:Int)∧(0:Int)≤a1∧a1≤(a0.length:Int)) ((eQ (eD a0 (0:Int) a1) (idx a0 a1)).bind fun a2=>jd a1 (decide (a2 ≥ 0)))))) else (out (some (decide ((a0.length:Int)≤32))))
noncomputable def cZ (a0:List ByteArray):Option Bool :=
 iter (nT a0) 0
noncomputable def iP (a1:Int) (a0:Bool):Option (Int ⊕ Bool) :=
 bif a0 then out (some false) else (some (.inl (w64 (a1 + 1))))
noncomputable def jW (a0:List Txn) (a1:Int):Int→Option (Int ⊕ Bool)
 | a2=>bif decide (a2 < a1) then must (0≤a2∧a2 < (a0.length:Int)) (bif ((idx a0 a2).Proc == (idx a0 a1).Proc) then bif ((idx a0 a2).To == (-1)) then iP a2 true else (iP a2 (decide ((idx a0 a2).To ≥ (idx a0 a1).From))) else (iP a2 false)) else (out (some true))
noncomputable def jX (a0:List Txn) (a1:Int) (a2:Bool):Option Bool :=
 bif a2 then some false else (iter (jW a0 a1) 0)
noncomputable def dJ (a0:List Txn) (a1:Int) (a2:Bool):Option Bool :=
 bif a2 then some false else (bif decide (a1 > 0) then must (0≤w64 (a1 - 1)∧w64 (a1 - 1) < (a0.length:Int)) (jX a0 a1 (decide ((idx a0 a1).From≤(idx a0 (w64 (a1 - 1))).From))) else (jX a0 a1 false))
noncomputable def aO (a0:List Txn) (a1:Int):Option Bool :=
 must (0≤a1∧a1 < (a0.length:Int)) (bif decide ((idx a0 a1).Status < 1) then dJ a0 a1 true else (bif decide ((idx a0 a1).Status > 3) then dJ a0 a1 true else (bif decide ((idx a0 a1).From < 0) then dJ a0 a1 true else (bif ((idx a0 a1).To != (-1)) then bif decide ((idx a0 a1).To≤(idx a0 a1).From) then dJ a0 a1 true else (bif ((idx a0 a1).To == (-1)) then dJ a0 a1 ((idx a0 a1).Status != 3) else (dJ a0 a1 false)) else (bif ((idx a0 a1).To == (-1)) then dJ a0 a1 ((idx a0 a1).Status != 3) else (dJ a0 a1 false))))))
noncomputable def jA (a0:Call):Option Bool :=
 some (decide ((a0.Vals.length:Int)≤64))
noncomputable def lH (a0:Call):Int→Option (Int ⊕ Bool)
 | a1=>bif decide (a1 < (a0.Vals.length:Int)) then must (0≤a1∧a1 < (a0.Vals.length:Int)) (must (0≤w64 (a1 - 1)∧w64 (a1 - 1) < (a0.Vals.length:Int)) (bif decide (idx a0.Vals a1≤idx a0.Vals (w64 (a1 - 1))) then out (some false) else (some (.inl (w64 (a1 + 1)))))) else (out (jA a0))
noncomputable def iw (a0:Call) (a1:Bool):Option Bool :=
 bif a1 then some false else (bif (a0.Kind == 5) then some (decide ((a0.Vals.length:Int)≤1)) else (bif (a0.Kind == 8) then bif !a0.Got then some true else (some ((a0.Vals.length:Int) == 1)) else (bif (a0.Kind == 7) then iter (lH a0) 1 else (jA a0))))
noncomputable def iy (a0:Call) (a1:Int) (a2:Bool):Option Bool :=
 bif a2 then some false else (bif decide (a0.Kind≤4) then bif !a0.Got then bif ((a0.Vals.length:Int) == 0) then bif (a0.Kind != 4) then some true else (bif decide (a0.Arg ≥ (-1048576)) then some (decide (a0.Arg≤1048576)) else (some false)) else (some false) else (some false) else (bif (a0.Arg != 0) then iw a0 true else (bif (a0.Got != (a1 == 1)) then iw a0 true else (bif !a0.Got then iw a0 (decide ((a0.Vals.length:Int) > 0)) else (iw a0 false)))))
noncomputable def aY (a0:Call) (a1:Int):Option Bool :=
 bif decide (a0.Kind < 1) then iy a0 a1 true else (bif decide (a0.Kind > 8) then iy a0 a1 true else (bif decide ((a0.Key.size:Int) < 1) then iy a0 a1 true else (iy a0 a1 (decide ((a0.Key.size:Int) > 32)))))
noncomputable def kP (a0:Event):Int→Option (Int ⊕ Bool)
 | a1=>bif decide (a1 < (a0.Calls.length:Int)) then must (0≤a1∧a1 < (a0.Calls.length:Int)) ((aY (idx a0.Calls a1) a0.Kind).bind fun a2=>bif !a2 then out (some false) else (some (.inl (w64 (a1 + 1))))) else (out (some true))
noncomputable def je (a0:Event) (b9:Bool):Option Bool :=
 bif b9 then some false else (iter (kP a0) 0)
noncomputable def bV (a0:Event):Option Bool :=
 bif decide (a0.Kind < 0) then je a0 true else (bif decide (a0.Kind > 3) then je a0 true else (je a0 (decide ((a0.Calls.length:Int) > 16))))
noncomputable def nU (a0:List Event):Int→Option (Int ⊕ Int)
 | a1=>bif decide (a1 < (a0.length:Int)) then must (0≤a1∧a1 < (a0.length:Int)) ((bV (idx a0 a1)).bind fun a2=>bif !a2 then out (some 1) else (some (.inl (w64 (a1 + 1))))) else (out (some 0))
noncomputable def fE (a0:List Event):Option Int :=
 bif decide ((a0.length:Int) > 256) then some 1 else (iter (nU a0) 0)
noncomputable def fI (a0:Int):Option Int :=
 some (w64 (((w64 (a0 - 1)).tmod (4:Int)) + 1))
noncomputable def fV (a4:List ByteArray) (a1:List Int) (a2:List (List Int)) (a0:List Int) (a3:List Int):Option (Int×aI) :=
 some (0,(⟨a4,a1,a2,a0,a3⟩:aI))
noncomputable def fZ (a2:Int) (a6:List ByteArray) (a4:List Int) (a1:List Int) (a3:List Int) (a0:Int) (a5:List (List Int)) (a7:Bool):Option (Int×aI) :=
 bif a7 then must (0≤a0∧a0 < (a3.length:Int)) (must (0≤a0∧a0 < (a1.length:Int)) (bif decide (idx (a1.set a0.toNat (w64 ((idx a1 a0) + 1))) a0 > 8) then some (51,(⟨a6,a4,a5,a1.set a0.toNat (w64 ((idx a1 a0) + 1)),a3.set a0.toNat a2⟩:aI)) else (fV a6 a4 a5 (a1.set a0.toNat (w64 ((idx a1 a0) + 1))) (a3.set a0.toNat a2)))) else (fV a6 a4 a5 a1 a3)
noncomputable def fu (a1:Call) (a2:Int) (a7:List ByteArray) (a4:List Int) (a5:List Int) (a3:List Int) (a0:Int) (a6:List (List Int)):Option (Int×aI) :=
 bif (a1.Kind == 4) then must (0≤a0∧a0 < (a3.length:Int)) (fZ a2 a7 a4 a5 a3 a0 a6 (idx a3 a0 != a2)) else (fZ a2 a7 a4 a5 a3 a0 a6 false)
noncomputable def iE (a1:Call) (a2:Int) (a8:List ByteArray) (a6:List Int) (a3:List (List Int)) (a7:List Int) (a5:List Int) (a0:Int):Int→Option (Int ⊕ (Int×aI))
 | a4=>must (0≤a0∧a0 < (a3.length:Int)) (bif decide (a4 < ((idx a3 a0).length:Int)) then must (0≤a4∧a4 < ((idx a3 a0).length:Int)) (bif (idx (idx a3 a0) a4 == a1.Arg) then out (some (3,(⟨a8,a6,a3,a7,a5⟩:aI))) else (some (.inl (w64 (a4 + 1))))) else (must (((((idx a3 a0).length) + 1) + (((idx a3 a0).length) + 1) / 4 + 192) * 8≤281474976710656∧((idx a3 a0).length) + 1≤9223372036854775807) (out (fu a1 a2 a8 a6 a7 a5 a0 (a3.set a0.toNat ((idx a3 a0)++([a1.Arg]:List Int)))))))
noncomputable def iF (a1:Call) (a2:Int) (a7:List ByteArray) (a5:List Int) (a3:List (List Int)) (a6:List Int) (a0:List Int) (a4:Int) (a8:Bool):Option (Int×aI) :=
 bif a8 then iter (iE a1 a2 a7 a5 a3 a6 a0 a4) 0 else (fu a1 a2 a7 a5 a6 a0 a4 a3)
noncomputable def dY (a1:Call) (a2:Int) (a7:List ByteArray) (a3:List Int) (a5:List (List Int)) (a6:List Int) (a4:List Int) (a0:Int):Option (Int×aI) :=
 must (0≤a0∧a0 < (a3.length:Int)) ((fI a1.Kind).bind fun a8=>bif (idx a3 a0 != a8) then some (50,(⟨a7,a3,a5,a6,a4⟩:aI)) else (bif (a1.Kind == 2) then iF a1 a2 a7 a3 a5 a6 a4 a0 true else (iF a1 a2 a7 a3 a5 a6 a4 a0 (a1.Kind == 3))))
noncomputable def iG (a0:aI) (a1:Call) (a2:Int) (a3:List Int):Option (Int×aI) :=
 must (((a0.wrote.length + 1) + (a0.wrote.length + 1) / 4 + 192) * 24≤281474976710656∧a0.wrote.length + 1≤9223372036854775807) (must (((a0.incs.length + 1) + (a0.incs.length + 1) / 4 + 192) * 8≤281474976710656∧a0.incs.length + 1≤9223372036854775807) (must (((a0.last_.length + 1) + (a0.last_.length + 1) / 4 + 192) * 8≤281474976710656∧a0.last_.length + 1≤9223372036854775807) (dY a1 a2 (a0.keys++([a1.Key]:List ByteArray)) a3 (a0.wrote++([([]:List Int)]:List (List Int))) (a0.incs++([0]:List Int)) (a0.last_++([(-1)]:List Int)) (a0.keys.length:Int))))
noncomputable def iH (a0:aI) (a1:Call) (a2:Int):Option (Int×aI) :=
 (fI a1.Kind).bind fun a3=>must (((a0.types.length + 1) + (a0.types.length + 1) / 4 + 192) * 8≤281474976710656∧a0.types.length + 1≤9223372036854775807) (iG a0 a1 a2 (a0.types++([a3]:List Int)))
noncomputable def ag (a0:aI) (a1:Call) (a2:Int):Option (Int×aI) :=
 (eQ a0.keys a1.Key).bind fun y5=>bif decide (y5 < 0) then bif decide ((a0.keys.length:Int) ≥ 32) then some (2,a0) else (must (((a0.keys.length + 1) + (a0.keys.length + 1) / 4 + 192) * 16≤281474976710656∧a0.keys.length + 1≤9223372036854775807) (iH a0 a1 a2)) else (dY a1 a2 a0.keys a0.types a0.wrote a0.incs a0.last_ y5)
noncomputable def nV (a0:History) (a2:Int) (a3:List Call) (a1:Int):Option ((List Call×Int) ⊕ ((List ByteArray×List Int×(List (List Int))×List Int×List Int×Int) ⊕ Int)) :=
 some (.inl (a3++([(⟨(idx ((idx a0.Txns a2).Ops) a1).Kind,idx a0.Keys ((idx ((idx a0.Txns a2).Ops) a1).Key),(idx ((idx a0.Txns a2).Ops) a1).Arg,(idx ((idx a0.Txns a2).Ops) a1).Got,(idx ((idx a0.Txns a2).Ops) a1).Vals⟩:Call)]:List Call),w64 (a1 + 1)))
noncomputable def kQ (a0:History) (a3:Int) (a1:List Call) (a2:Int) (a4:Bool):Option ((List Call×Int) ⊕ ((List ByteArray×List Int×(List (List Int))×List Int×List Int×Int) ⊕ Int)) :=
 bif a4 then out (out (some 1)) else (must (0≤(idx ((idx a0.Txns a3).Ops) a2).Key∧(idx ((idx a0.Txns a3).Ops) a2).Key < (a0.Keys.length:Int)) (must (((a1.length + 1) + (a1.length + 1) / 4 + 192) * 64≤281474976710656∧a1.length + 1≤9223372036854775807) (nV a0 a3 a1 a2)))
noncomputable def fJ (a7:Int) (a2:List Call):(List ByteArray×List Int×(List (List Int))×List Int×List Int×Int)→Option ((List ByteArray×List Int×(List (List Int))×List Int×List Int×Int) ⊕ ((List Call×Int) ⊕ ((List ByteArray×List Int×(List (List Int))×List Int×List Int×Int) ⊕ Int)))
 | (a3,a4,a6,a8,a5,a1)=>bif decide (a1 < (a2.length:Int)) then must (0≤a1∧a1 < (a2.length:Int)) ((ag (⟨a3,a4,a6,a8,a5⟩:aI) (idx a2 a1) a7).bind fun a0=>bif (a0.1 != 0) then out (out (out (some 1))) else (some (.inl (a0.2.keys,a0.2.types,a0.2.wrote,a0.2.incs,a0.2.last_,w64 (a1 + 1))))) else (out (out (some (.inl (a3,a4,a6,a8,a5,w64 (a7 + 1))))))
noncomputable def fK (a0:History) (a4:List ByteArray) (a9:List Int) (a6:List (List Int)) (a8:List Int) (a7:List Int) (a1:Int):(List Call×Int)→Option ((List Call×Int) ⊕ ((List ByteArray×List Int×(List (List Int))×List Int×List Int×Int) ⊕ Int))
 | (a3,a2)=>bif decide (a2 < (((idx a0.Txns a1).Ops).length:Int)) then must (0≤a2∧a2 < (((idx a0.Txns a1).Ops).length:Int)) (bif decide ((idx ((idx a0.Txns a1).Ops) a2).Key < 0) then kQ a0 a1 a3 a2 true else (kQ a0 a1 a3 a2 (decide ((idx ((idx a0.Txns a1).Ops) a2).Key ≥ (a0.Keys.length:Int))))) else ((fE ([(⟨0,(idx a0.Txns a1).Status,a3⟩:Event)]:List Event)).bind fun a5=>bif (a5 != 0) then out (out (some 1)) else (iter (fJ a1 a3) (a4,a9,a6,a8,a7,0)))
noncomputable def jf (a0:History) (a2:List ByteArray) (a6:List Int) (a3:List (List Int)) (a5:List Int) (a4:List Int) (a7:Int) (a1:Bool):Option ((List ByteArray×List Int×(List (List Int))×List Int×List Int×Int) ⊕ Int) :=
 bif a1 then out (some 1) else (iter (fK a0 a2 a6 a3 a5 a4 a7) ([],0))
noncomputable def jg (a0:History):(List ByteArray×List Int×(List (List Int))×List Int×List Int×Int)→Option ((List ByteArray×List Int×(List (List Int))×List Int×List Int×Int) ⊕ Int)
 | (a2,a6,a3,a5,a4,a1)=>bif decide (a1 < (a0.Txns.length:Int)) then must (0≤a1∧a1 < (a0.Txns.length:Int)) ((aO a0.Txns a1).bind fun a7=>bif !a7 then jf a0 a2 a6 a3 a5 a4 a1 true else (jf a0 a2 a6 a3 a5 a4 a1 (decide ((((idx a0.Txns a1).Ops).length:Int) > 16)))) else (out (some 0))
noncomputable def gP (a0:History) (a1:Bool):Option Int :=
 bif a1 then some 1 else (iter (jg a0) ([],[],[],[],[],0))
noncomputable def av (a0:History):Option Int :=
 (cZ a0.Keys).bind fun a1=>bif !a1 then gP a0 true else (gP a0 (decide ((a0.Txns.length:Int) > 32)))
noncomputable def fM (a0:Int):Option Bool :=
 some (decide (a0≤4))
noncomputable def ed (a0:Bool):Option Int :=
 bif !a0 then some 80 else (some 0)
noncomputable def nW (a0:Int) (a1:Bool):Option ((Bool×Int) ⊕ Int) :=
 some (.inl (a1,w64 (a0 + 1)))
noncomputable def kR (a1:List Int):(Bool×Int)→Option ((Bool×Int) ⊕ Int)
 | (a2,a0)=>bif decide (a0 < (a1.length:Int)) then bif a2 then must (0≤w64 (a0 - 1)∧w64 (a0 - 1) < (a1.length:Int)) (must (0≤a0∧a0 < (a1.length:Int)) (nW a0 (decide (idx a1 (w64 (a0 - 1)) < idx a1 a0)))) else (nW a0 false) else (out (ed a2))
noncomputable def eu (a0:Int) (a1:List Int) (b5:Bool):Option Int :=
 bif b5 then some 1 else (bif (a0 == 1) then ed (decide ((a1.length:Int)≤1)) else (bif (a0 == 4) then ed ((a1.length:Int) == 1) else (bif (a0 == 3) then iter (kR a1) (decide ((a1.length:Int)≤64),1) else (ed (decide ((a1.length:Int)≤64))))))
noncomputable def aJ (a0:Int) (a1:List Int):Option Int :=
 bif decide (a0 < 1) then eu a0 a1 true else (eu a0 a1 (decide (a0 > 4)))
noncomputable def qz (a0:List Int) (a1:Int):Int→Option (Int ⊕ Bool)
 | a2=>bif decide (a2 < (a0.length:Int)) then must (0≤a2∧a2 < (a0.length:Int)) (bif (idx a0 a2 == a1) then out (some true) else (some (.inl (w64 (a2 + 1))))) else (out (some false))
noncomputable def fO (a0:List Int) (a1:Int):Option Bool :=
 iter (qz a0 a1) 0
noncomputable def qZ (a2:List Int):(Int×Int)→Option ((Int×Int) ⊕ (List Int×Bool))
 | (a1,a0)=>bif decide (a0 < (a2.length:Int)) then must (0≤a0∧a0 < (a2.length:Int)) (some (.inl (w64 (a1 - (idx a2 a0)),w64 (a0 + 1)))) else (out (some (([a1]:List Int),true)))
noncomputable def jY (a1:List Int) (a2:List Int):Int→Option (Int ⊕ (List Int×Bool))
 | a0=>bif decide (a0 < (a2.length:Int)) then must (0≤w64 ((w64 ((a1.length:Int) - (a2.length:Int))) + a0)∧w64 ((w64 ((a1.length:Int) - (a2.length:Int))) + a0) < (a1.length:Int)) (must (0≤a0∧a0 < (a2.length:Int)) (bif (idx a1 (w64 ((w64 ((a1.length:Int) - (a2.length:Int))) + a0)) != idx a2 a0) then out (some (([]:List Int),false)) else (some (.inl (w64 (a0 + 1)))))) else (must (0≤(0:Int)∧(0:Int)≤(w64 ((a1.length:Int) - (a2.length:Int)))∧(w64 ((a1.length:Int) - (a2.length:Int)))≤(a1.length:Int)) (must (((0 + ((eD a1 (0:Int) (w64 ((a1.length:Int) - (a2.length:Int)))).length)) + (0 + ((eD a1 (0:Int) (w64 ((a1.length:Int) - (a2.length:Int)))).length)) / 4 + 192) * 8≤281474976710656∧0 + ((eD a1 (0:Int) (w64 ((a1.length:Int) - (a2.length:Int)))).length)≤9223372036854775807) (out (some (([]:List Int)++(eD a1 (0:Int) (w64 ((a1.length:Int) - (a2.length:Int)))),true)))))
noncomputable def iQ (a0:Int) (a1:Bool):Option (Int ⊕ (List Int×Bool)) :=
 bif a1 then out (some (([]:List Int),false)) else (some (.inl (w64 (a0 + 1))))
noncomputable def nk (a0:Int) (a1:List Int):Option ((List Int×Int) ⊕ (Int ⊕ (List Int×Bool))) :=
 some (.inl (a1,w64 (a0 + 1)))
noncomputable def jZ (a1:List Int) (a2:List Int):(List Int×Int)→Option ((List Int×Int) ⊕ (Int ⊕ (List Int×Bool)))
 | (a3,a0)=>bif decide (a0 < (a1.length:Int)) then must (0≤a0∧a0 < (a1.length:Int)) ((fO a2 (idx a1 a0)).bind fun a4=>bif !a4 then must (((a3.length + 1) + (a3.length + 1) / 4 + 192) * 8≤281474976710656∧a3.length + 1≤9223372036854775807) (nk a0 (a3++([idx a1 a0]:List Int))) else (nk a0 a3)) else (out (out (some (a3,true))))
noncomputable def kg (a1:List Int) (a2:List Int):Int→Option (Int ⊕ (List Int×Bool))
 | a0=>bif decide (a0 < (a2.length:Int)) then must (0≤a0∧a0 < (a2.length:Int)) ((fO a1 (idx a2 a0)).bind fun a3=>bif !a3 then iQ a0 true else (must (0≤(0:Int)∧(0:Int)≤a0∧a0≤(a2.length:Int)) ((fO (eD a2 (0:Int) a0) (idx a2 a0)).bind fun a4=>iQ a0 a4))) else (iter (jZ a1 a2) ([],0))
noncomputable def gq (a0:Int) (a1:List Int) (a2:List Int) (b9:Bool):Option (List Int×Bool) :=
 bif b9 then some (([]:List Int),false) else (bif (a0 == 1) then bif ((a1.length:Int) == 1) then must (0≤(0:Int)∧(0:Int) < (a1.length:Int)) (must (0≤w64 ((a2.length:Int) - 1)∧w64 ((a2.length:Int) - 1) < (a2.length:Int)) (some (([]:List Int),(idx a1 (0:Int) == idx a2 (w64 ((a2.length:Int) - 1)))))) else (some (([]:List Int),false)) else (bif (a0 == 4) then must (0≤(0:Int)∧(0:Int) < (a1.length:Int)) (iter (qZ a2) (idx a1 (0:Int),0)) else (bif (a0 == 2) then bif decide ((a2.length:Int) > (a1.length:Int)) then some (([]:List Int),false) else (iter (jY a1 a2) 0) else (iter (kg a1 a2) 0))))
noncomputable def aF (a0:Int) (a1:List Int) (a2:List Int):Option (List Int×Bool) :=
 (aJ a0 a1).bind fun a3=>bif (a3 != 0) then gq a0 a1 a2 true else (gq a0 a1 a2 ((a2.length:Int) == 0))
noncomputable def ib (a2:Int) (a1:List Ask) (a0:List gp):Option ((List Ask×List gp×Int) ⊕ (List Ask×List gp)) :=
 some (.inl (a1,a0,w64 (a2 + 1)))
noncomputable def nI (a0:Int) (a1:List Int):Option ((List Int×Int) ⊕ ((List Ask×List gp×Int) ⊕ (List Ask×List gp))) :=
 some (.inl (a1,w64 (a0 + 1)))
noncomputable def nJ (a0:History) (a1:Int) (a2:List Int) (a3:Int) (a4:Bool):Option ((List Int×Int) ⊕ ((List Ask×List gp×Int) ⊕ (List Ask×List gp))) :=
 bif a4 then must (0≤a3∧a3 < (((idx a0.Txns a1).Ops).length:Int)) (must (((a2.length + 1) + (a2.length + 1) / 4 + 192) * 8≤281474976710656∧a2.length + 1≤9223372036854775807) (nI a3 (a2++([(idx ((idx a0.Txns a1).Ops) a3).Arg]:List Int)))) else (nI a3 a2)
noncomputable def nK (a0:History) (a1:Int) (a2:List Ask) (a4:List gp) (a3:Int) (a5:List Int):Option ((List Int×Int) ⊕ ((List Ask×List gp×Int) ⊕ (List Ask×List gp))) :=
 must (((a2.length + 1) + (a2.length + 1) / 4 + 192) * 48≤281474976710656∧a2.length + 1≤9223372036854775807) (out (ib a3 (a2++([(⟨a1,a3,(idx ((idx a0.Txns a1).Ops) a3).Key,a5⟩:Ask)]:List Ask)) a4))
noncomputable def qA (a0:History) (a1:Int) (a6:List Ask) (a4:List gp) (a2:Int):(List Int×Int)→Option ((List Int×Int) ⊕ ((List Ask×List gp×Int) ⊕ (List Ask×List gp)))
 | (a5,a3)=>bif decide (a3 < a2) then must (0≤a3∧a3 < (((idx a0.Txns a1).Ops).length:Int)) (bif ((idx ((idx a0.Txns a1).Ops) a3).Key == (idx ((idx a0.Txns a1).Ops) a2).Key) then (fM ((idx ((idx a0.Txns a1).Ops) a3).Kind)).bind fun a9=>nJ a0 a1 a5 a3 a9 else (nJ a0 a1 a5 a3 false)) else (must (((0 + (((idx ((idx a0.Txns a1).Ops) a2).Vals).length)) + (0 + (((idx ((idx a0.Txns a1).Ops) a2).Vals).length)) / 4 + 192) * 8≤281474976710656∧0 + (((idx ((idx a0.Txns a1).Ops) a2).Vals).length)≤9223372036854775807) (bif decide ((a5.length:Int) > 0) then (fI ((idx ((idx a0.Txns a1).Ops) a2).Kind)).bind fun a8=>(aF a8 ((idx ((idx a0.Txns a1).Ops) a2).Vals) a5).bind fun a7=>bif !a7.2 then must (((a4.length + 1) + (a4.length + 1) / 4 + 192) * 16≤281474976710656∧a4.length + 1≤9223372036854775807) (out (ib a2 a6 (a4++([(⟨a1,a2⟩:gp)]:List gp)))) else (bif ((idx ((idx a0.Txns a1).Ops) a2).Kind == 5) then out (ib a2 a6 a4) else (nK a0 a1 a6 a4 a2 a7.1)) else (nK a0 a1 a6 a4 a2 (([]:List Int)++((idx ((idx a0.Txns a1).Ops) a2).Vals)))))
noncomputable def qB (a0:History) (a1:Int):(List Ask×List gp×Int)→Option ((List Ask×List gp×Int) ⊕ (List Ask×List gp))
 | (a3,a4,a2)=>bif decide (a2 < (((idx a0.Txns a1).Ops).length:Int)) then must (0≤a2∧a2 < (((idx a0.Txns a1).Ops).length:Int)) ((fM ((idx ((idx a0.Txns a1).Ops) a2).Kind)).bind fun a5=>bif a5 then ib a2 a3 a4 else (iter (qA a0 a1 a3 a4 a2) ([],0))) else (out (some (a3,a4)))
noncomputable def aW (a0:History) (a1:Int):Option (List Ask×List gp) :=
 must (0≤a1∧a1 < (a0.Txns.length:Int)) (bif ((idx a0.Txns a1).Status != 1) then some (([]:List Ask),([]:List gp)) else (iter (qB a0 a1) ([],[],0)))
noncomputable def pI (a0:History):(List Ask×List gp×Int)→Option ((List Ask×List gp×Int) ⊕ (List Ask×List gp))
 | (a3,a2,a4)=>bif decide (a4 < (a0.Txns.length:Int)) then (aW a0 a4).bind fun a1=>must (((a3.length + a1.1.length) + (a3.length + a1.1.length) / 4 + 192) * 48≤281474976710656∧a3.length + a1.1.length≤9223372036854775807) (must (((a2.length + a1.2.length) + (a2.length + a1.2.length) / 4 + 192) * 16≤281474976710656∧a2.length + a1.2.length≤9223372036854775807) (some (.inl (a3++a1.1,a2++a1.2,w64 (a4 + 1))))) else (out (some (a3,a2)))
noncomputable def fP (a0:History):Option (List Ask×List gp) :=
 iter (pI a0) ([],[],0)
noncomputable def rY (a1:Int) (a0:List Edge):Option ((List Edge×Int) ⊕ (List Edge)) :=
 some (.inl (a0,w64 (a1 + 1)))
noncomputable def rZ (a0:Int) (a1:List Edge):Option ((List Edge×Int) ⊕ (List Edge)) :=
 rY a0 a1
noncomputable def si (a0:List Edge) (a1:Int) (a2:Int) (a3:Bool):Option (Int ⊕ ((List Edge×Int) ⊕ (List Edge))) :=
 bif a3 then must (((a0.length + 1) + (a0.length + 1) / 4 + 192) * 32≤281474976710656∧a0.length + 1≤9223372036854775807) (out (rZ a1 (a0++([(⟨a1,a2,1,(-1)⟩:Edge)]:List Edge)))) else (some (.inl (w64 (a2 + 1))))
noncomputable def yx (a0:History) (a3:List Edge) (a2:Int):Int→Option (Int ⊕ ((List Edge×Int) ⊕ (List Edge)))
 | a1=>bif decide (a1 < (a0.Txns.length:Int)) then must (0≤a1∧a1 < (a0.Txns.length:Int)) (bif ((idx a0.Txns a1).Status == 1) then si a3 a2 a1 ((idx a0.Txns a1).Proc == (idx a0.Txns a2).Proc) else (si a3 a2 a1 false)) else (out (rZ a2 a3))
noncomputable def sj (a1:Int) (a0:List Edge):Option ((List Edge×Int) ⊕ ((List Edge×Int) ⊕ ((List Edge×Int) ⊕ (List Edge)))) :=
 some (.inl (a0,w64 (a1 + 1)))
noncomputable def nX (a3:Int) (a0:List Edge) (a1:Int) (a2:Bool):Option ((List Edge×Int) ⊕ ((List Edge×Int) ⊕ ((List Edge×Int) ⊕ (List Edge)))) :=
 bif a2 then must (((a0.length + 1) + (a0.length + 1) / 4 + 192) * 32≤281474976710656∧a0.length + 1≤9223372036854775807) (sj a1 (a0++([(⟨a3,a1,2,(-1)⟩:Edge)]:List Edge))) else (sj a1 a0)
noncomputable def yz (a0:History) (a2:Int):(List Edge×Int)→Option ((List Edge×Int) ⊕ ((List Edge×Int) ⊕ ((List Edge×Int) ⊕ (List Edge))))
 | (a3,a1)=>bif decide (a1 < (a0.Txns.length:Int)) then must (0≤a2∧a2 < (a0.Txns.length:Int)) (bif ((idx a0.Txns a2).Status == 1) then must (0≤a1∧a1 < (a0.Txns.length:Int)) (bif ((idx a0.Txns a1).Status == 1) then nX a2 a3 a1 (decide ((idx a0.Txns a2).To < (idx a0.Txns a1).From)) else (nX a2 a3 a1 false)) else (nX a2 a3 a1 false)) else (out (some (.inl (a3,w64 (a2 + 1)))))
noncomputable def yA (a0:History):(List Edge×Int)→Option ((List Edge×Int) ⊕ ((List Edge×Int) ⊕ (List Edge)))
 | (a2,a1)=>bif decide (a1 < (a0.Txns.length:Int)) then iter (yz a0 a1) (a2,0) else (out (out (some a2)))
noncomputable def yB (a0:History):(List Edge×Int)→Option ((List Edge×Int) ⊕ (List Edge))
 | (a2,a1)=>bif decide (a1 < (a0.Txns.length:Int)) then must (0≤a1∧a1 < (a0.Txns.length:Int)) (bif ((idx a0.Txns a1).Status != 1) then rY a1 a2 else (iter (yx a0 a2 a1) (w64 (a1 + 1)))) else (iter (yA a0) (a2,0))
noncomputable def bq (a0:History):Option (List Edge) :=
 iter (yB a0) ([],0)
noncomputable def wK (a0:History) (a1:Ask):Option Int :=
 must (0≤a1.Txn∧a1.Txn < (a0.Txns.length:Int)) (must (0≤a1.Place∧a1.Place < (((idx a0.Txns a1.Txn).Ops).length:Int)) ((fI ((idx ((idx a0.Txns a1.Txn).Ops) a1.Place).Kind)).bind fun a2=>some a2))
noncomputable def kS (a1:Int) (a0:List Int):Option ((List Int×Int) ⊕ (List Int)) :=
 some (.inl (a0,w64 (a1 + 1)))
noncomputable def kT (a0:History) (a1:Int) (a2:List Int) (a3:Int) (a4:Bool):Option ((List Int×Int) ⊕ (List Int)) :=
 bif a4 then must (((a2.length + 1) + (a2.length + 1) / 4 + 192) * 8≤281474976710656∧a2.length + 1≤9223372036854775807) (kS a3 (a2++([(idx ((idx a0.Txns a1).Ops) a3).Arg]:List Int))) else (kS a3 a2)
noncomputable def nY (a0:History) (a1:Int) (a2:Int):(List Int×Int)→Option ((List Int×Int) ⊕ (List Int))
 | (a4,a3)=>must (0≤a1∧a1 < (a0.Txns.length:Int)) (bif decide (a3 < (((idx a0.Txns a1).Ops).length:Int)) then must (0≤a3∧a3 < (((idx a0.Txns a1).Ops).length:Int)) (bif ((idx ((idx a0.Txns a1).Ops) a3).Key == a2) then (fM ((idx ((idx a0.Txns a1).Ops) a3).Kind)).bind fun a5=>kT a0 a1 a4 a3 a5 else (kT a0 a1 a4 a3 false)) else (out (some a4)))
noncomputable def aX (a0:History) (a1:Int) (a2:Int):Option (List Int) :=
 iter (nY a0 a1 a2) ([],0)
noncomputable def rf (a1:Int) (a0:List Int):Option ((List Int×Int) ⊕ (List Int)) :=
 some (.inl (a0,w64 (a1 + 1)))
noncomputable def nu (a0:List Int) (a1:Int) (a2:Bool):Option ((List Int×Int) ⊕ (List Int)) :=
 bif a2 then must (((a0.length + 1) + (a0.length + 1) / 4 + 192) * 8≤281474976710656∧a0.length + 1≤9223372036854775807) (rf a1 (a0++([a1]:List Int))) else (rf a1 a0)
noncomputable def xS (a0:History) (a1:Ask):(List Int×Int)→Option ((List Int×Int) ⊕ (List Int))
 | (a3,a2)=>bif decide (a2 < (a0.Txns.length:Int)) then bif (a2 != a1.Txn) then must (0≤a2∧a2 < (a0.Txns.length:Int)) (bif ((idx a0.Txns a2).Status != 2) then (aX a0 a2 a1.Key).bind fun a4=>nu a3 a2 (decide ((a4.length:Int) > 0)) else (nu a3 a2 false)) else (nu a3 a2 false) else (out (some a3))
noncomputable def dz (a0:History) (a1:Ask):Option (List Int) :=
 iter (xS a0 a1) ([],0)
noncomputable def Af (y7:List Int):(Int×Int)→Option ((Int×Int) ⊕ Int)
 | (a1,a0)=>bif decide (a0 < (y7.length:Int)) then must (0≤a0∧a0 < (y7.length:Int)) (some (.inl (w64 (a1 + (idx y7 a0)),w64 (a0 + 1)))) else (out (some a1))
noncomputable def sD (a0:History) (a1:Int) (a2:Int):Option Int :=
 (aX a0 a1 a2).bind fun y7=>iter (Af y7) (0,0)
noncomputable def rq (a0:Int) (a1:Int):Option ((Int×Int) ⊕ ((List Bool×Int) ⊕ (List Int))) :=
 some (.inl (a1,w64 (a0 + 1)))
noncomputable def ru (a1:Int) (a0:List Bool):Option ((List Bool×Int) ⊕ ((Int×Int) ⊕ ((List Bool×Int) ⊕ (List Int)))) :=
 some (.inl (a0,w64 (a1 + 1)))
noncomputable def ry (a2:Int) (a1:List Bool) (a0:Int) (a3:Bool):Option ((List Bool×Int) ⊕ ((Int×Int) ⊕ ((List Bool×Int) ⊕ (List Int)))) :=
 bif a3 then must (0≤a0∧a0 < (a1.length:Int)) (bif idx a1 a0 then ru a0 (a1.set a0.toNat true) else (must (0≤a0∧a0 < (far:Int)) (ru a0 (a1.set a0.toNat (dh .i64 (fA .i64 a2 a0) 1 == 1))))) else (out (out (some (.inl (a1,w64 (a2 + 1))))))
noncomputable def xU (a1:Ask) (y9:List Int) (a2:Int) (a4:Int):(List Bool×Int)→Option ((List Bool×Int) ⊕ ((Int×Int) ⊕ ((List Bool×Int) ⊕ (List Int))))
 | (a3,a0)=>bif decide (a0 < (y9.length:Int)) then must (0≤(0:Int)∧(0:Int) < (a1.Base.length:Int)) (ry a2 a3 a0 (a4 == idx a1.Base (0:Int))) else (ry a2 a3 a0 false)
noncomputable def xV (a0:History) (a1:Ask) (y9:List Int) (a5:List Bool) (a4:Int):(Int×Int)→Option ((Int×Int) ⊕ ((List Bool×Int) ⊕ (List Int)))
 | (a3,a2)=>bif decide (a2 < (y9.length:Int)) then must (0≤a2∧a2 < (far:Int)) (bif (dh .i64 (fA .i64 a4 a2) 1 == 1) then must (0≤a2∧a2 < (y9.length:Int)) ((sD a0 (idx y9 a2) a1.Key).bind fun a6=>rq a2 (w64 (a3 + a6))) else (rq a2 a3)) else (iter (xU a1 y9 a4 a3) (a5,0))
noncomputable def rz (a1:Int) (a0:List Int):Option ((List Int×Int) ⊕ ((List Bool×Int) ⊕ (List Int))) :=
 some (.inl (a0,w64 (a1 + 1)))
noncomputable def xW (y9:List Int) (a2:List Bool):(List Int×Int)→Option ((List Int×Int) ⊕ ((List Bool×Int) ⊕ (List Int)))
 | (a1,a0)=>bif decide (a0 < (y9.length:Int)) then must (0≤a0∧a0 < (a2.length:Int)) (bif idx a2 a0 then must (0≤a0∧a0 < (y9.length:Int)) (must (((a1.length + 1) + (a1.length + 1) / 4 + 192) * 8≤281474976710656∧a1.length + 1≤9223372036854775807) (rz a0 (a1++([idx y9 a0]:List Int)))) else (rz a0 a1)) else (out (out (some a1)))
noncomputable def xX (a0:History) (a1:Ask) (y9:List Int):(List Bool×Int)→Option ((List Bool×Int) ⊕ (List Int))
 | (a3,a2)=>must (0≤(y9.length:Int)∧(y9.length:Int) < (far:Int)) (bif decide (a2 < Ig .i64 1 (y9.length:Int)) then iter (xV a0 a1 y9 a3 a2) (0,0) else (iter (xW y9 a3) ([],0)))
noncomputable def bE (a0:History) (a1:Ask):Option (List Int) :=
 (dz a0 a1).bind fun y9=>must (0≤(y9.length:Int)∧(y9.length:Int)≤9223372036854775807∧(1:Int) * (y9.length:Int)≤281474976710656) (iter (xX a0 a1 y9) (List.replicate (y9.length:Int).toNat (default:Bool),1))
noncomputable def Ag (a0:List Int) (a1:List Int):Option Bool :=
 bif decide ((a1.length:Int) > (a0.length:Int)) then some false else (must (0≤(0:Int)∧(0:Int)≤(a1.length:Int)∧(a1.length:Int)≤(a0.length:Int)) ((dC (eD a0 (0:Int) (a1.length:Int)) a1).bind fun a2=>some a2))
noncomputable def sS (a0:Int) (a1:Int):Option ((Int×Int) ⊕ ((List Int×List Int) ⊕ (List Int×Bool))) :=
 some (.inl (a1,w64 (a0 + 1)))
noncomputable def zN (a0:History) (a1:Ask) (a2:List Int) (a3:List Int) (a6:Int):Int→Option (Int ⊕ ((Int×Int) ⊕ ((List Int×List Int) ⊕ (List Int×Bool))))
 | a4=>bif decide (a4 < (a2.length:Int)) then must (0≤a4∧a4 < (a2.length:Int)) (bif (idx a2 a4 == a6) then out (out (out (some (([]:List Int),false)))) else (some (.inl (w64 (a4 + 1))))) else (must (((a2.length + 1) + (a2.length + 1) / 4 + 192) * 8≤281474976710656∧a2.length + 1≤9223372036854775807) ((aX a0 a6 a1.Key).bind fun a5=>must (0≤(a5.length:Int)∧(a5.length:Int)≤(a3.length:Int)∧(a3.length:Int)≤(a3.length:Int)) (out (out (some (.inl (a2++([a6]:List Int),eD a3 (a5.length:Int) (a3.length:Int))))))))
noncomputable def zO (a0:History) (a1:Ask) (y9:List Int) (a5:List Int) (a4:List Int):(Int×Int)→Option ((Int×Int) ⊕ ((List Int×List Int) ⊕ (List Int×Bool)))
 | (a3,a2)=>bif decide (a2 < (y9.length:Int)) then must (0≤a2∧a2 < (y9.length:Int)) ((aX a0 (idx y9 a2) a1.Key).bind fun a7=>(Ag a4 a7).bind fun a6=>bif a6 then sS a2 (idx y9 a2) else (sS a2 a3)) else (bif decide (a3 < 0) then out (out (some (([]:List Int),false))) else (iter (zN a0 a1 a5 a4 a3) 0))
noncomputable def zP (a0:History) (a1:Ask) (y9:List Int):(List Int×List Int)→Option ((List Int×List Int) ⊕ (List Int×Bool))
 | (a3,a2)=>bif decide ((a2.length:Int) > 0) then iter (zO a0 a1 y9 a3 a2) ((-1),0) else (out (some (a3,true)))
noncomputable def eT (a0:History) (a1:Ask):Option (List Int×Bool) :=
 (dz a0 a1).bind fun y9=>iter (zP a0 a1 y9) ([],a1.Base)
noncomputable def yC (a0:List Int) (a1:Int):Int→Option (Int ⊕ Bool)
 | a2=>bif decide (a2 < (a0.length:Int)) then must (0≤a2∧a2 < (a0.length:Int)) (bif (idx a0 a2 == a1) then out (some true) else (some (.inl (w64 (a2 + 1))))) else (out (some false))
noncomputable def qC (a0:List Int) (a1:Int):Option Bool :=
 iter (yC a0 a1) 0
noncomputable def um (a2:Int) (a0:List Int) (a1:Int):Option ((List Int×Int×Int) ⊕ (List Int×Bool)) :=
 some (.inl (a0,a1,w64 (a2 + 1)))
noncomputable def uo (a1:Int) (a0:Int):Option ((Int×Int) ⊕ ((List Int×Int×Int) ⊕ (List Int×Bool))) :=
 some (.inl (a0,w64 (a1 + 1)))
noncomputable def uq (y9:List Int) (a0:List Int) (a2:Int) (a1:Int) (a3:Int) (a4:Bool):Option ((Int×Int) ⊕ ((List Int×Int×Int) ⊕ (List Int×Bool))) :=
 bif a4 then out (out (some (([]:List Int),false))) else (bif decide (a3 > 0) then must (((a0.length + 1) + (a0.length + 1) / 4 + 192) * 8≤281474976710656∧a0.length + 1≤9223372036854775807) (out (um a1 (a0++([idx y9 a1]:List Int)) (w64 (a2 + a3)))) else (out (um a1 a0 a2)))
noncomputable def Ah (a1:Ask) (y9:List Int) (a5:List Int) (a4:Int) (a6:Int) (a3:List Int):(Int×Int)→Option ((Int×Int) ⊕ ((List Int×Int×Int) ⊕ (List Int×Bool)))
 | (a0,a2)=>bif decide (a2 < (a3.length:Int)) then must (0≤a2∧a2 < (a3.length:Int)) ((qC a1.Base (idx a3 a2)).bind fun a7=>bif a7 then uo a2 (w64 (a0 + 1)) else (uo a2 a0)) else (bif decide (a0 > 0) then uq y9 a5 a4 a6 a0 (decide (a0 < (a3.length:Int))) else (uq y9 a5 a4 a6 a0 false))
noncomputable def Ai (a0:History) (a1:Ask) (y9:List Int):(List Int×Int×Int)→Option ((List Int×Int×Int) ⊕ (List Int×Bool))
 | (a4,a3,a2)=>bif decide (a2 < (y9.length:Int)) then must (0≤a2∧a2 < (y9.length:Int)) ((aX a0 (idx y9 a2) a1.Key).bind fun a5=>iter (Ah a1 y9 a4 a3 a2 a5) (0,0)) else (bif (a3 != (a1.Base.length:Int)) then out (some (([]:List Int),false)) else (out (some (a4,true))))
noncomputable def dK (a0:History) (a1:Ask):Option (List Int×Bool) :=
 (dz a0 a1).bind fun y9=>iter (Ai a0 a1 y9) ([],0,0)
noncomputable def vz (a0:List Int):Option (List Int) :=
 some a0
noncomputable def kU (a0:List Int):Option (List Int) :=
 some a0
noncomputable def vC (a0:Int) (a1:List Int):Option ((List Int×Int) ⊕ (List Int)) :=
 some (.inl (a1,w64 (a0 + 1)))
noncomputable def AR (a0:History) (a1:Ask) (a5:List Int):(List Int×Int)→Option ((List Int×Int) ⊕ (List Int))
 | (a3,a2)=>bif decide (a2 < (a5.length:Int)) then must (0≤a2∧a2 < (a5.length:Int)) ((aX a0 (idx a5 a2) a1.Key).bind fun a4=>must (0≤w64 ((a4.length:Int) - 1)∧w64 ((a4.length:Int) - 1) < (a4.length:Int)) (must (0≤(0:Int)∧(0:Int) < (a1.Base.length:Int)) (bif (idx a4 (w64 ((a4.length:Int) - 1)) == idx a1.Base (0:Int)) then must (((a3.length + 1) + (a3.length + 1) / 4 + 192) * 8≤281474976710656∧a3.length + 1≤9223372036854775807) (vC a2 (a3++([idx a5 a2]:List Int))) else (vC a2 a3)))) else (out (kU a3))
noncomputable def dQ (a0:History) (a1:Ask):Option (List Int) :=
 (wK a0 a1).bind fun y7=>bif (y7 == 4) then (bE a0 a1).bind fun a3=>must (0≤(0:Int)∧(0:Int) < (a1.Base.length:Int)) (bif (idx a1.Base (0:Int) == 0) then must (((1 + a3.length) + (1 + a3.length) / 4 + 192) * 8≤281474976710656∧1 + a3.length≤9223372036854775807) (vz (([(-1)]:List Int)++a3)) else (vz a3)) else (bif ((a1.Base.length:Int) == 0) then some ([(-1)]:List Int) else (bif (y7 == 1) then (dz a0 a1).bind fun a5=>iter (AR a0 a1 a5) ([],0) else (bif (y7 == 2) then (eT a0 a1).bind fun a2=>bif a2.2 then must (0≤w64 ((a2.1.length:Int) - 1)∧w64 ((a2.1.length:Int) - 1) < (a2.1.length:Int)) (must (((0 + 1) + (0 + 1) / 4 + 192) * 8≤281474976710656∧0 + 1≤9223372036854775807) (kU (([]:List Int)++([idx a2.1 (w64 ((a2.1.length:Int) - 1))]:List Int)))) else (kU []) else ((dK a0 a1).bind fun a4=>bif a4.2 then kU a4.1 else (kU [])))))
noncomputable def wL (a0:History) (a1:Ask):Option (Int×Bool) :=
 (dQ a0 a1).bind fun y9=>bif ((y9.length:Int) != 1) then some (0,false) else (must (0≤(0:Int)∧(0:Int) < (y9.length:Int)) (some (idx y9 (0:Int),true)))
noncomputable def BN (a0:History) (a1:Ask):Option (List Int×Bool) :=
 (wK a0 a1).bind fun a3=>bif (a3 == 2) then (eT a0 a1).bind fun a2=>some (a2.1,a2.2) else (bif (a3 == 3) then (dK a0 a1).bind fun a4=>some (a4.1,a4.2) else (some (([]:List Int),false)))
noncomputable def qD (a0:Int) (a1:List Int):Option ((List Int×Int) ⊕ (List Int)) :=
 some (.inl (a1,w64 (a0 + 1)))
noncomputable def mD (a0:List Int) (a1:Int) (a2:Bool):Option ((List Int×Int) ⊕ (List Int)) :=
 bif a2 then must (((a0.length + 1) + (a0.length + 1) / 4 + 192) * 8≤281474976710656∧a0.length + 1≤9223372036854775807) (qD a1 (a0++([a1]:List Int))) else (qD a1 a0)
noncomputable def xh (a0:History) (a1:Int) (a2:Int):(List Int×Int)→Option ((List Int×Int) ⊕ (List Int))
 | (a4,a3)=>bif decide (a3 < (a0.Txns.length:Int)) then bif (a3 != a2) then must (0≤a3∧a3 < (a0.Txns.length:Int)) (bif ((idx a0.Txns a3).Status == 1) then (aX a0 a3 a1).bind fun a5=>mD a4 a3 (decide ((a5.length:Int) > 0)) else (mD a4 a3 false)) else (mD a4 a3 false) else (out (some a4))
noncomputable def dV (a0:History) (a1:Int) (a2:Int):Option (List Int) :=
 iter (xh a0 a1 a2) ([],0)
noncomputable def AU (a0:List Int) (a1:Int):Int→Option (Int ⊕ Bool)
 | a2=>bif decide (a2 < (a0.length:Int)) then must (0≤a2∧a2 < (a0.length:Int)) (bif (idx a0 a2 == a1) then out (some true) else (some (.inl (w64 (a2 + 1))))) else (out (some false))
noncomputable def nZ (a0:List Int) (a1:Int):Option Bool :=
 iter (AU a0 a1) 0
noncomputable def sU (a0:Int):Option (Int ⊕ Bool) :=
 some (.inl (w64 (a0 + 1)))
noncomputable def sV (a0:Int) (a1:Bool):Option (Int ⊕ Bool) :=
 bif a1 then out (some true) else (sU a0)
noncomputable def sW (a0:History) (a1:List Ask) (a4:Int) (a2:Int) (a5:Bool):Option (Int ⊕ Bool) :=
 bif a5 then must (0≤a2∧a2 < (a1.length:Int)) ((wL a0 (idx a1 a2)).bind fun a3=>bif a3.2 then sV a2 (a3.1 == a4) else (sV a2 false)) else (sU a2)
noncomputable def zQ (a0:History) (a1:List Ask) (a2:Int) (a3:Int) (a4:Int):Int→Option (Int ⊕ Bool)
 | a5=>bif decide (a5 < (a1.length:Int)) then must (0≤a5∧a5 < (a1.length:Int)) (bif ((idx a1 a5).Txn == a2) then sW a0 a1 a4 a5 ((idx a1 a5).Key == a3) else (sW a0 a1 a4 a5 false)) else (out (some false))
noncomputable def dZ (a0:History) (a1:List Ask) (a2:Int) (a3:Int) (a4:Int):Option Bool :=
 iter (zQ a0 a1 a2 a3 a4) 0
noncomputable def ut (a0:Int) (a1:List Edge):Option ((List Edge×Int) ⊕ (List Edge)) :=
 some (.inl (a1,w64 (a0 + 1)))
noncomputable def uu (a1:Int) (a0:List Edge):Option ((List Edge×Int) ⊕ ((List Edge×Int) ⊕ (List Edge))) :=
 some (.inl (a0,w64 (a1 + 1)))
noncomputable def Aj (a2:Ask) (a5:List Int×Bool) (a4:List Int) (a3:Int):(List Edge×Int)→Option ((List Edge×Int) ⊕ ((List Edge×Int) ⊕ (List Edge)))
 | (a1,a0)=>bif decide (a0 < (a4.length:Int)) then must (0≤a0∧a0 < (a4.length:Int)) ((nZ a5.1 (idx a4 a0)).bind fun a6=>bif !a6 then must (0≤a3∧a3 < (a5.1.length:Int)) (must (((a1.length + 1) + (a1.length + 1) / 4 + 192) * 32≤281474976710656∧a1.length + 1≤9223372036854775807) (uu a0 (a1++([(⟨idx a5.1 a3,idx a4 a0,8,a2.Key⟩:Edge)]:List Edge)))) else (uu a0 a1)) else (out (ut a3 a1))
noncomputable def uw (a2:Ask) (a1:List Int×Bool) (a5:List Int) (a3:List Edge) (a0:Int) (a4:Bool):Option ((List Edge×Int) ⊕ (List Edge)) :=
 bif a4 then must (0≤a0∧a0 < (a1.1.length:Int)) (must (0≤w64 (a0 + 1)∧w64 (a0 + 1) < (a1.1.length:Int)) (must (((a3.length + 1) + (a3.length + 1) / 4 + 192) * 32≤281474976710656∧a3.length + 1≤9223372036854775807) (ut a0 (a3++([(⟨idx a1.1 a0,idx a1.1 (w64 (a0 + 1)),8,a2.Key⟩:Edge)]:List Edge))))) else (iter (Aj a2 a1 a5 a0) (a3,0))
noncomputable def sZ (a1:Int) (a0:List Edge):Option ((List Edge×Int) ⊕ ((List Edge×Int) ⊕ (List Edge))) :=
 some (.inl (a0,w64 (a1 + 1)))
noncomputable def tq (a2:Ask) (a3:List Int) (a1:List Edge) (a0:Int) (a4:Bool):Option ((List Edge×Int) ⊕ ((List Edge×Int) ⊕ (List Edge))) :=
 bif a4 then must (0≤a0∧a0 < (a3.length:Int)) (must (((a1.length + 1) + (a1.length + 1) / 4 + 192) * 32≤281474976710656∧a1.length + 1≤9223372036854775807) (sZ a0 (a1++([(⟨a2.Txn,idx a3 a0,16,a2.Key⟩:Edge)]:List Edge)))) else (sZ a0 a1)
noncomputable def lI (a0:History) (a1:List Ask) (a2:Ask) (a8:Int×Bool) (a4:List Int) (a5:List Edge) (a3:Int) (a6:Bool) (a9:Bool):Option ((List Edge×Int) ⊕ ((List Edge×Int) ⊕ (List Edge))) :=
 bif a9 then must (0≤a3∧a3 < (a4.length:Int)) ((dZ a0 a1 (idx a4 a3) a2.Key a8.1).bind fun a7=>tq a2 a4 a5 a3 a7) else (tq a2 a4 a5 a3 a6)
noncomputable def jB (a0:History) (a1:List Ask) (a2:Ask) (a8:Int) (a4:Int×Bool) (a5:List Int) (a7:List Edge) (a3:Int) (a6:Bool):Option ((List Edge×Int) ⊕ ((List Edge×Int) ⊕ (List Edge))) :=
 bif (a8 == 1) then bif a4.2 then bif (a4.1 != (-1)) then must (0≤a3∧a3 < (a5.length:Int)) (lI a0 a1 a2 a4 a5 a7 a3 a6 (idx a5 a3 != a4.1)) else (lI a0 a1 a2 a4 a5 a7 a3 a6 false) else (lI a0 a1 a2 a4 a5 a7 a3 a6 false) else (lI a0 a1 a2 a4 a5 a7 a3 a6 false)
noncomputable def Ak (a0:History) (a1:List Ask) (a2:Ask) (a7:Int) (a5:Int×Bool) (a8:List Int×Bool) (a9:Bool) (a4:List Int):(List Edge×Int)→Option ((List Edge×Int) ⊕ ((List Edge×Int) ⊕ (List Edge)))
 | (a6,a3)=>bif decide (a3 < (a4.length:Int)) then bif a5.2 then bif (a5.1 == (-1)) then jB a0 a1 a2 a7 a5 a4 a6 a3 true else (bif a9 then must (0≤a3∧a3 < (a4.length:Int)) ((nZ a8.1 (idx a4 a3)).bind fun b0=>jB a0 a1 a2 a7 a5 a4 a6 a3 (!b0)) else (jB a0 a1 a2 a7 a5 a4 a6 a3 false)) else (bif a9 then must (0≤a3∧a3 < (a4.length:Int)) ((nZ a8.1 (idx a4 a3)).bind fun b1=>jB a0 a1 a2 a7 a5 a4 a6 a3 (!b1)) else (jB a0 a1 a2 a7 a5 a4 a6 a3 false)) else (out (out (some a6)))
noncomputable def uy (a0:History) (a1:List Ask) (a2:Ask) (a7:Int) (b0:Int×Bool) (a3:List Int×Bool) (a8:Bool) (a6:List Int) (a4:List Edge) (a5:Int) (a9:Bool):Option ((List Edge×Int) ⊕ (List Edge)) :=
 bif a9 then bif (a7 == 2) then uw a2 a3 a6 a4 a5 (decide (w64 (a5 + 1) < (a3.1.length:Int))) else (uw a2 a3 a6 a4 a5 false) else (iter (Ak a0 a1 a2 a7 b0 a3 a8 a6) (a4,0))
noncomputable def Al (a0:History) (a1:List Ask) (a2:Ask) (a7:Int) (a8:Int×Bool) (a3:List Int×Bool) (a4:Bool) (a9:List Int):(List Edge×Int)→Option ((List Edge×Int) ⊕ (List Edge))
 | (a6,a5)=>bif decide (a5 < (a3.1.length:Int)) then uy a0 a1 a2 a7 a8 a3 a4 a9 a6 a5 a4 else (uy a0 a1 a2 a7 a8 a3 a4 a9 a6 a5 false)
noncomputable def uz (a0:History) (a1:List Ask) (a2:Ask) (a6:Int) (a7:Int×Bool) (a5:List Edge) (a3:List Int×Bool) (a4:Bool):Option (List Edge) :=
 (dV a0 a2.Key a2.Txn).bind fun a8=>iter (Al a0 a1 a2 a6 a7 a3 a4 a8) (a5,0)
noncomputable def uA (a0:History) (a1:List Ask) (a2:Ask) (a5:Int) (a6:Int×Bool) (a4:List Edge):Option (List Edge) :=
 (BN a0 a2).bind fun a3=>bif a3.2 then uz a0 a1 a2 a5 a6 a4 a3 (decide ((a2.Base.length:Int) > 0)) else (uz a0 a1 a2 a5 a6 a4 a3 false)
noncomputable def tu (a0:History) (a1:List Ask) (a2:Ask) (a4:Int) (a3:Int×Bool) (a5:Bool):Option (List Edge) :=
 bif a5 then must (((0 + 1) + (0 + 1) / 4 + 192) * 32≤281474976710656∧0 + 1≤9223372036854775807) (uA a0 a1 a2 a4 a3 (([]:List Edge)++([(⟨a3.1,a2.Txn,4,a2.Key⟩:Edge)]:List Edge))) else (uA a0 a1 a2 a4 a3 [])
noncomputable def aM (a0:History) (a1:List Ask) (a2:Ask):Option (List Edge) :=
 must (0≤a2.Txn∧a2.Txn < (a0.Txns.length:Int)) (must (0≤a2.Place∧a2.Place < (((idx a0.Txns a2.Txn).Ops).length:Int)) ((fI ((idx ((idx a0.Txns a2.Txn).Ops) a2.Place).Kind)).bind fun a4=>(wL a0 a2).bind fun a3=>bif a3.2 then tu a0 a1 a2 a4 a3 (a3.1 != (-1)) else (tu a0 a1 a2 a4 a3 false)))
noncomputable def AV (a0:Int) (a1:List Edge):Option ((List Edge×Int) ⊕ jJ) :=
 some (.inl (a1,w64 (a0 + 1)))
noncomputable def AX (a0:History) (a4:List Ask×List gp):(List Edge×Int)→Option ((List Edge×Int) ⊕ jJ)
 | (a2,a1)=>bif decide (a1 < (a4.1.length:Int)) then must (0≤a1∧a1 < (a4.1.length:Int)) ((aM a0 a4.1 (idx a4.1 a1)).bind fun a3=>must (((a2.length + a3.length) + (a2.length + a3.length) / 4 + 192) * 32≤281474976710656∧a2.length + a3.length≤9223372036854775807) (AV a1 (a2++a3))) else (out (some (⟨(a0.Txns.length:Int),a2⟩:jJ)))
noncomputable def AY (a0:History) (a2:List Edge):Option jJ :=
 (fP a0).bind fun a1=>iter (AX a0 a1) (a2,0)
noncomputable def jM (a0:History):Option jJ :=
 (bq a0).bind fun a1=>AY a0 a1
noncomputable def AZ (a0:History):Option (jJ×Int) :=
 (av a0).bind fun a1=>bif (a1 != 0) then some ((⟨0,([]:List Edge)⟩:jJ),1) else ((jM a0).bind fun a2=>some (a2,0))
noncomputable def vW (a0:List Edge) (a1:List Edge):Int→Option (Int ⊕ Bool)
 | a2=>bif decide (a2 < (a0.length:Int)) then must (0≤a2∧a2 < (a0.length:Int)) (must (0≤a2∧a2 < (a1.length:Int)) (bif !(((idx a0 a2).From == (idx a1 a2).From) && (((idx a0 a2).To == (idx a1 a2).To) && (((idx a0 a2).Kind == (idx a1 a2).Kind) && (((idx a0 a2).Key == (idx a1 a2).Key) && true)))) then out (some false) else (some (.inl (w64 (a2 + 1)))))) else (out (some true))
noncomputable def ny (a0:List Edge) (a1:List Edge):Option Bool :=
 bif ((a0.length:Int) != (a1.length:Int)) then some false else (iter (vW a0 a1) 0)
noncomputable def gu (a1:List Int) (a2:List Int) (a0:Int) (a3:Bool):Option ((List Int×Int) ⊕ (List Int×Bool)) :=
 bif a3 then out (some (([]:List Int),false)) else (must (0≤idx a1 a0∧idx a1 a0 < (a2.length:Int)) (some (.inl (a2.set (idx a1 a0).toNat (w64 (a0 + 1)),w64 (a0 + 1)))))
noncomputable def ko (a0:Int) (a1:Bool):Option (Int ⊕ ((List Int×Int) ⊕ (List Int×Bool))) :=
 bif a1 then out (out (some (([]:List Int),false))) else (some (.inl (w64 (a0 + 1))))
noncomputable def kr (a0:History) (a2:List Int):Int→Option (Int ⊕ ((List Int×Int) ⊕ (List Int×Bool)))
 | a1=>bif decide (a1 < (a0.Txns.length:Int)) then must (0≤a1∧a1 < (a0.Txns.length:Int)) (bif ((idx a0.Txns a1).Status == 1) then must (0≤a1∧a1 < (a2.length:Int)) (ko a1 (idx a2 a1 == 0)) else (ko a1 false)) else (out (out (some (a2,true))))
noncomputable def nz (a0:History) (a1:List Int):(List Int×Int)→Option ((List Int×Int) ⊕ (List Int×Bool))
 | (a3,a2)=>bif decide (a2 < (a1.length:Int)) then must (0≤a2∧a2 < (a1.length:Int)) (bif decide (idx a1 a2 < 0) then gu a1 a3 a2 true else (bif decide (idx a1 a2 ≥ (a0.Txns.length:Int)) then gu a1 a3 a2 true else (must (0≤idx a1 a2∧idx a1 a2 < (a3.length:Int)) (bif (idx a3 (idx a1 a2) != 0) then gu a1 a3 a2 true else (must (0≤idx a1 a2∧idx a1 a2 < (a0.Txns.length:Int)) (gu a1 a3 a2 ((idx a0.Txns (idx a1 a2)).Status == 2))))))) else (iter (kr a0 a3) 0)
noncomputable def aV (a0:History) (a1:List Int):Option (List Int×Bool) :=
 must (0≤(a0.Txns.length:Int)∧(a0.Txns.length:Int)≤9223372036854775807∧(8:Int) * (a0.Txns.length:Int)≤281474976710656) (iter (nz a0 a1) (List.replicate (a0.Txns.length:Int).toNat (default:Int),0))
noncomputable def nA (a1:List Int) (a0:Int):Option ((List Int×Int) ⊕ ((List Int×Int) ⊕ (List Int))) :=
 some (.inl ((a1.set a0.toNat (idx a1 (w64 (a0 - 1)))).set (w64 (a0 - 1)).toNat (idx a1 a0),w64 (a0 - 1)))
noncomputable def ku (a3:Int) (a1:List Int) (a0:Int) (a2:Bool):Option ((List Int×Int) ⊕ ((List Int×Int) ⊕ (List Int))) :=
 bif a2 then must (0≤w64 (a0 - 1)∧w64 (a0 - 1) < (a1.length:Int)) (must (0≤a0∧a0 < (a1.length:Int)) (nA a1 a0)) else (out (some (.inl (a1,w64 (a3 + 1)))))
noncomputable def nC (a2:Int):(List Int×Int)→Option ((List Int×Int) ⊕ ((List Int×Int) ⊕ (List Int)))
 | (a1,a0)=>bif decide (a0 > 0) then must (0≤a0∧a0 < (a1.length:Int)) (must (0≤w64 (a0 - 1)∧w64 (a0 - 1) < (a1.length:Int)) (ku a2 a1 a0 (decide (idx a1 a0 < idx a1 (w64 (a0 - 1)))))) else (ku a2 a1 a0 false)
noncomputable def nD (a0:List Int):(List Int×Int)→Option ((List Int×Int) ⊕ (List Int))
 | (a1,a2)=>bif decide (a2 < (a0.length:Int)) then must (0≤a2∧a2 < (a0.length:Int)) (must (((a1.length + 1) + (a1.length + 1) / 4 + 192) * 8≤281474976710656∧a1.length + 1≤9223372036854775807) (iter (nC a2) (a1++([idx a0 a2]:List Int),w64 (((a1++([idx a0 a2]:List Int)).length:Int) - 1)))) else (out (some a1))
noncomputable def bB (a0:List Int):Option (List Int) :=
 iter (nD a0) ([],0)
noncomputable def eO (a0:List Int):Option (List Int) :=
 some a0
noncomputable def nE (a1:List Int):(Int×Int)→Option ((Int×Int) ⊕ (List Int))
 | (a2,a0)=>bif decide (a0 < (a1.length:Int)) then must (0≤a0∧a0 < (a1.length:Int)) (some (.inl (w64 (a2 + (idx a1 a0)),w64 (a0 + 1)))) else (out (eO ([a2]:List Int)))
noncomputable def gy (a2:Int) (a0:List Int):Option (List Int) :=
 bif (a2 == 1) then bif decide ((a0.length:Int) > 0) then must (0≤(w64 ((a0.length:Int) - 1))∧(w64 ((a0.length:Int) - 1))≤(a0.length:Int)∧(a0.length:Int)≤(a0.length:Int)) (eO (eD a0 (w64 ((a0.length:Int) - 1)) (a0.length:Int))) else (eO a0) else (bif (a2 == 3) then (bB a0).bind fun a1=>eO a1 else (bif (a2 == 4) then iter (nE a0) (0,0) else (eO a0)))
noncomputable def kw (a0:History) (a1:List Int) (a2:Int) (a3:Int) (a4:Int) (a5:List Int) (a7:Int) (a8:Bool):Option ((List Int×Int) ⊕ (List Int)) :=
 bif a8 then must (0≤a7∧a7 < (a1.length:Int)) ((aX a0 (idx a1 a7) a3).bind fun a6=>must (((a5.length + a6.length) + (a5.length + a6.length) / 4 + 192) * 8≤281474976710656∧a5.length + a6.length≤9223372036854775807) (bif (idx a1 a7 == a4) then out (gy a2 (a5++a6)) else (some (.inl (a5++a6,w64 (a7 + 1)))))) else (out (gy a2 a5))
noncomputable def nG (a0:History) (a1:List Int) (a2:Int) (a3:Int) (a4:Int):(List Int×Int)→Option ((List Int×Int) ⊕ (List Int))
 | (a6,a5)=>bif decide (a5 < (a1.length:Int)) then kw a0 a1 a2 a3 a4 a6 a5 (decide (a4 ≥ 0)) else (kw a0 a1 a2 a3 a4 a6 a5 false)
noncomputable def aN (a0:History) (a1:List Int) (a2:Int) (a3:Int) (a4:Int):Option (List Int) :=
 iter (nG a0 a1 a2 a3 a4) ([],0)
noncomputable def dw (a0:History) (a1:List Int) (a3:Ask) (a4:Int) (a5:Bool):Option Int :=
 bif a5 then some 5 else (must (0≤a3.Txn∧a3.Txn < (a0.Txns.length:Int)) (must (0≤a3.Place∧a3.Place < (((idx a0.Txns a3.Txn).Ops).length:Int)) ((fI ((idx ((idx a0.Txns a3.Txn).Ops) a3.Place).Kind)).bind fun a6=>(aN a0 a1 a6 a3.Key a4).bind fun a7=>(dC a7 a3.Base).bind fun a2=>bif !a2 then some 6 else (some 0))))
noncomputable def bP (a0:History) (a1:List Int) (a2:List Int) (a3:Ask) (a4:Int):Option Int :=
 bif (a4 != (-1)) then bif decide (a4 < 0) then dw a0 a1 a3 a4 true else (bif decide (a4 ≥ (a2.length:Int)) then dw a0 a1 a3 a4 true else (must (0≤a4∧a4 < (a2.length:Int)) (bif (idx a2 a4 == 0) then dw a0 a1 a3 a4 true else ((aX a0 a4 a3.Key).bind fun a5=>bif ((a5.length:Int) == 0) then dw a0 a1 a3 a4 true else (must (0≤a3.Txn∧a3.Txn < (a2.length:Int)) (dw a0 a1 a3 a4 (decide (idx a2 a4 ≥ idx a2 a3.Txn)))))))) else (dw a0 a1 a3 a4 false)
noncomputable def jC (a1:Int) (a0:Bool):Option (Int ⊕ (Int ⊕ Int)) :=
 bif a0 then out (out (some 4)) else (some (.inl (w64 (a1 + 1))))
noncomputable def oI (a0:History) (a3:List Int×Bool) (a2:Int):Int→Option (Int ⊕ (Int ⊕ Int))
 | a1=>bif decide (a1 < a2) then must (0≤a2∧a2 < (a0.Txns.length:Int)) (must (0≤a1∧a1 < (a0.Txns.length:Int)) (bif ((idx a0.Txns a2).Proc == (idx a0.Txns a1).Proc) then must (0≤a2∧a2 < (a3.1.length:Int)) (bif (idx a3.1 a2 != 0) then must (0≤a1∧a1 < (a3.1.length:Int)) (jC a1 (decide (idx a3.1 a1 > idx a3.1 a2))) else (jC a1 false)) else (jC a1 false))) else (out (some (.inl (w64 (a2 + 1)))))
noncomputable def lJ (a0:History) (a1:Exec) (a3:List Ask×List gp) (a5:List Int×Bool):Int→Option (Int ⊕ (Int ⊕ Int))
 | a2=>bif decide (a2 < (a3.1.length:Int)) then must (0≤a2∧a2 < (a3.1.length:Int)) (must (0≤a2∧a2 < (a1.Picks.length:Int)) ((bP a0 a1.Order a5.1 (idx a3.1 a2) (idx a1.Picks a2)).bind fun a4=>bif (a4 != 0) then out (out (some a4)) else (some (.inl (w64 (a2 + 1)))))) else (out (out (some 0)))
noncomputable def lK (a0:History) (a1:Exec) (a4:List Ask×List gp) (a3:List Int×Bool):Int→Option (Int ⊕ Int)
 | a2=>bif decide (a2 < (a0.Txns.length:Int)) then iter (oI a0 a3 a2) 0 else (iter (lJ a0 a1 a4 a3) 0)
noncomputable def bz (a0:History) (a1:Exec):Option Int :=
 (fP a0).bind fun a2=>bif decide ((a2.2.length:Int) > 0) then some 1 else ((aV a0 a1.Order).bind fun a3=>bif !a3.2 then some 2 else (bif ((a1.Picks.length:Int) != (a2.1.length:Int)) then some 3 else (iter (lK a0 a1 a2 a3) 0)))
noncomputable def kI (a0:History) (a1:Exec):Option (Int×Int) :=
 (av a0).bind fun a2=>bif (a2 != 0) then some (0,1) else ((bz a0 a1).bind fun a3=>some (a3,0))
noncomputable def dA (a0:History) (a1:Exec) (a2:Edge) (a4:Bool):Option Bool :=
 bif a4 then some false else ((aV a0 a1.Order).bind fun a3=>must (0≤a2.From∧a2.From < (a3.1.length:Int)) (bif (idx a3.1 a2.From != 0) then must (0≤a2.To∧a2.To < (a3.1.length:Int)) (bif (idx a3.1 a2.To != 0) then some (decide (idx a3.1 a2.From < idx a3.1 a2.To)) else (some false)) else (some false)))
noncomputable def bR (a0:History) (a1:Exec) (a2:Edge):Option Bool :=
 (kI a0 a1).bind fun y9=>bif (y9.2 != 0) then dA a0 a1 a2 true else (bif (y9.1 != 0) then dA a0 a1 a2 true else (bif decide (a2.From < 0) then dA a0 a1 a2 true else (bif decide (a2.From ≥ (a0.Txns.length:Int)) then dA a0 a1 a2 true else (bif decide (a2.To < 0) then dA a0 a1 a2 true else (dA a0 a1 a2 (decide (a2.To ≥ (a0.Txns.length:Int))))))))
noncomputable def kV (a0:History) (a1:Exec) (a2:Edge):Option Bool :=
 (jl).bind fun a5=>bif !a5 then some false else ((iW a0 a1 a2).bind fun a4=>(bR a0 a1 a2).bind fun a3=>some (a4 == a3))
noncomputable def vX (a3:jJ×Int) (a2:jJ×Int):(List Edge×Int)→Option ((List Edge×Int) ⊕ Bool)
 | (a0,a1)=>bif decide (a1 < (a0.length:Int)) then must (0≤a1∧a1 < (a0.length:Int)) (some (.inl (a0.set a1.toNat (⟨0,0,99,0⟩:Edge),w64 (a1 + 1)))) else (must (((a0.length + 2) + (a0.length + 2) / 4 + 192) * 32≤281474976710656∧a0.length + 2≤9223372036854775807) ((ny a3.1.Edges a2.1.Edges).bind fun a4=>out (some a4)))
noncomputable def oN (a1:jJ×Int) (a2:jJ×Int) (a0:jJ×Int) (a3:Bool):Option Bool :=
 bif a3 then some false else (iter (vX a2 a0) (a1.1.Edges,0))
noncomputable def iR (a0:History):Option Bool :=
 (jl).bind fun y8=>bif !y8 then some false else ((dX a0).bind fun a2=>(dX a0).bind fun a3=>(AZ a0).bind fun a1=>bif (a2.2 != a1.2) then oN a2 a3 a1 true else (oN a2 a3 a1 (a3.2 != a1.2)))
noncomputable def Ab (a0:Int) (a1:jJ):Option Bool :=
 bif decide (a0 ≥ 0) then some (decide (a0 < a1.N)) else (some false)
noncomputable def BO (a0:Int):Option Int :=
 must (0≤(1:Int)∧(1:Int) < (far:Int)) (must (0≤(2:Int)∧(2:Int) < (far:Int)) (must (0≤(4:Int)∧(4:Int) < (far:Int)) (must (0≤(8:Int)∧(8:Int) < (far:Int)) (must (0≤(16:Int)∧(16:Int) < (far:Int)) (must (0≤(32:Int)∧(32:Int) < (far:Int)) (some (dh .i64 (w64 (IntKind.wrap .u64 ((IntKind.wrap .u64 ((IntKind.wrap .u64 ((dh .u64 (IntKind.wrap .u64 ((fA .u64 (IntKind.wrap .u64 ((dh .u64 (fA .u64 (IntKind.wrap .u64 ((dh .u64 (fA .u64 a0 (1:Int)) 6148914691236517205) + (dh .u64 a0 6148914691236517205))) (2:Int)) 3689348814741910323) + (dh .u64 (IntKind.wrap .u64 ((dh .u64 (fA .u64 a0 (1:Int)) 6148914691236517205) + (dh .u64 a0 6148914691236517205))) 3689348814741910323))) (4:Int)) + (IntKind.wrap .u64 ((dh .u64 (fA .u64 (IntKind.wrap .u64 ((dh .u64 (fA .u64 a0 (1:Int)) 6148914691236517205) + (dh .u64 a0 6148914691236517205))) (2:Int)) 3689348814741910323) + (dh .u64 (IntKind.wrap .u64 ((dh .u64 (fA .u64 a0 (1:Int)) 6148914691236517205) + (dh .u64 a0 6148914691236517205))) 3689348814741910323))))) 1085102592571150095) + (fA .u64 (dh .u64 (IntKind.wrap .u64 ((fA .u64 (IntKind.wrap .u64 ((dh .u64 (fA .u64 (IntKind.wrap .u64 ((dh .u64 (fA .u64 a0 (1:Int)) 6148914691236517205) + (dh .u64 a0 6148914691236517205))) (2:Int)) 3689348814741910323) + (dh .u64 (IntKind.wrap .u64 ((dh .u64 (fA .u64 a0 (1:Int)) 6148914691236517205) + (dh .u64 a0 6148914691236517205))) 3689348814741910323))) (4:Int)) + (IntKind.wrap .u64 ((dh .u64 (fA .u64 (IntKind.wrap .u64 ((dh .u64 (fA .u64 a0 (1:Int)) 6148914691236517205) + (dh .u64 a0 6148914691236517205))) (2:Int)) 3689348814741910323) + (dh .u64 (IntKind.wrap .u64 ((dh .u64 (fA .u64 a0 (1:Int)) 6148914691236517205) + (dh .u64 a0 6148914691236517205))) 3689348814741910323))))) 1085102592571150095) (8:Int)))) + (fA .u64 (IntKind.wrap .u64 ((dh .u64 (IntKind.wrap .u64 ((fA .u64 (IntKind.wrap .u64 ((dh .u64 (fA .u64 (IntKind.wrap .u64 ((dh .u64 (fA .u64 a0 (1:Int)) 6148914691236517205) + (dh .u64 a0 6148914691236517205))) (2:Int)) 3689348814741910323) + (dh .u64 (IntKind.wrap .u64 ((dh .u64 (fA .u64 a0 (1:Int)) 6148914691236517205) + (dh .u64 a0 6148914691236517205))) 3689348814741910323))) (4:Int)) + (IntKind.wrap .u64 ((dh .u64 (fA .u64 (IntKind.wrap .u64 ((dh .u64 (fA .u64 a0 (1:Int)) 6148914691236517205) + (dh .u64 a0 6148914691236517205))) (2:Int)) 3689348814741910323) + (dh .u64 (IntKind.wrap .u64 ((dh .u64 (fA .u64 a0 (1:Int)) 6148914691236517205) + (dh .u64 a0 6148914691236517205))) 3689348814741910323))))) 1085102592571150095) + (fA .u64 (dh .u64 (IntKind.wrap .u64 ((fA .u64 (IntKind.wrap .u64 ((dh .u64 (fA .u64 (IntKind.wrap .u64 ((dh .u64 (fA .u64 a0 (1:Int)) 6148914691236517205) + (dh .u64 a0 6148914691236517205))) (2:Int)) 3689348814741910323) + (dh .u64 (IntKind.wrap .u64 ((dh .u64 (fA .u64 a0 (1:Int)) 6148914691236517205) + (dh .u64 a0 6148914691236517205))) 3689348814741910323))) (4:Int)) + (IntKind.wrap .u64 ((dh .u64 (fA .u64 (IntKind.wrap .u64 ((dh .u64 (fA .u64 a0 (1:Int)) 6148914691236517205) + (dh .u64 a0 6148914691236517205))) (2:Int)) 3689348814741910323) + (dh .u64 (IntKind.wrap .u64 ((dh .u64 (fA .u64 a0 (1:Int)) 6148914691236517205) + (dh .u64 a0 6148914691236517205))) 3689348814741910323))))) 1085102592571150095) (8:Int)))) (16:Int)))) + (fA .u64 (IntKind.wrap .u64 ((IntKind.wrap .u64 ((dh .u64 (IntKind.wrap .u64 ((fA .u64 (IntKind.wrap .u64 ((dh .u64 (fA .u64 (IntKind.wrap .u64 ((dh .u64 (fA .u64 a0 (1:Int)) 6148914691236517205) + (dh .u64 a0 6148914691236517205))) (2:Int)) 3689348814741910323) + (dh .u64 (IntKind.wrap .u64 ((dh .u64 (fA .u64 a0 (1:Int)) 6148914691236517205) + (dh .u64 a0 6148914691236517205))) 3689348814741910323))) (4:Int)) + (IntKind.wrap .u64 ((dh .u64 (fA .u64 (IntKind.wrap .u64 ((dh .u64 (fA .u64 a0 (1:Int)) 6148914691236517205) + (dh .u64 a0 6148914691236517205))) (2:Int)) 3689348814741910323) + (dh .u64 (IntKind.wrap .u64 ((dh .u64 (fA .u64 a0 (1:Int)) 6148914691236517205) + (dh .u64 a0 6148914691236517205))) 3689348814741910323))))) 1085102592571150095) + (fA .u64 (dh .u64 (IntKind.wrap .u64 ((fA .u64 (IntKind.wrap .u64 ((dh .u64 (fA .u64 (IntKind.wrap .u64 ((dh .u64 (fA .u64 a0 (1:Int)) 6148914691236517205) + (dh .u64 a0 6148914691236517205))) (2:Int)) 3689348814741910323) + (dh .u64 (IntKind.wrap .u64 ((dh .u64 (fA .u64 a0 (1:Int)) 6148914691236517205) + (dh .u64 a0 6148914691236517205))) 3689348814741910323))) (4:Int)) + (IntKind.wrap .u64 ((dh .u64 (fA .u64 (IntKind.wrap .u64 ((dh .u64 (fA .u64 a0 (1:Int)) 6148914691236517205) + (dh .u64 a0 6148914691236517205))) (2:Int)) 3689348814741910323) + (dh .u64 (IntKind.wrap .u64 ((dh .u64 (fA .u64 a0 (1:Int)) 6148914691236517205) + (dh .u64 a0 6148914691236517205))) 3689348814741910323))))) 1085102592571150095) (8:Int)))) + (fA .u64 (IntKind.wrap .u64 ((dh .u64 (IntKind.wrap .u64 ((fA .u64 (IntKind.wrap .u64 ((dh .u64 (fA .u64 (IntKind.wrap .u64 ((dh .u64 (fA .u64 a0 (1:Int)) 6148914691236517205) + (dh .u64 a0 6148914691236517205))) (2:Int)) 3689348814741910323) + (dh .u64 (IntKind.wrap .u64 ((dh .u64 (fA .u64 a0 (1:Int)) 6148914691236517205) + (dh .u64 a0 6148914691236517205))) 3689348814741910323))) (4:Int)) + (IntKind.wrap .u64 ((dh .u64 (fA .u64 (IntKind.wrap .u64 ((dh .u64 (fA .u64 a0 (1:Int)) 6148914691236517205) + (dh .u64 a0 6148914691236517205))) (2:Int)) 3689348814741910323) + (dh .u64 (IntKind.wrap .u64 ((dh .u64 (fA .u64 a0 (1:Int)) 6148914691236517205) + (dh .u64 a0 6148914691236517205))) 3689348814741910323))))) 1085102592571150095) + (fA .u64 (dh .u64 (IntKind.wrap .u64 ((fA .u64 (IntKind.wrap .u64 ((dh .u64 (fA .u64 (IntKind.wrap .u64 ((dh .u64 (fA .u64 a0 (1:Int)) 6148914691236517205) + (dh .u64 a0 6148914691236517205))) (2:Int)) 3689348814741910323) + (dh .u64 (IntKind.wrap .u64 ((dh .u64 (fA .u64 a0 (1:Int)) 6148914691236517205) + (dh .u64 a0 6148914691236517205))) 3689348814741910323))) (4:Int)) + (IntKind.wrap .u64 ((dh .u64 (fA .u64 (IntKind.wrap .u64 ((dh .u64 (fA .u64 a0 (1:Int)) 6148914691236517205) + (dh .u64 a0 6148914691236517205))) (2:Int)) 3689348814741910323) + (dh .u64 (IntKind.wrap .u64 ((dh .u64 (fA .u64 a0 (1:Int)) 6148914691236517205) + (dh .u64 a0 6148914691236517205))) 3689348814741910323))))) 1085102592571150095) (8:Int)))) (16:Int)))) (32:Int))))) 127)))))))
noncomputable def Df (a0:Int):Option Int :=
 (BO a0).bind fun y3=>some y3
noncomputable def og (a0:Int) (a1:Bool):Option (Int ⊕ Int) :=
 bif a1 then out (some 60) else (some (.inl (w64 (a0 + 1))))
noncomputable def Dg (a0:jJ):Int→Option (Int ⊕ Int)
 | a1=>bif decide (a1 < (a0.Edges.length:Int)) then must (0≤a1∧a1 < (a0.Edges.length:Int)) ((Ab ((idx a0.Edges a1).From) a0).bind fun a3=>bif !a3 then og a1 true else ((Ab ((idx a0.Edges a1).To) a0).bind fun a2=>bif !a2 then og a1 true else (bif decide ((idx a0.Edges a1).Kind < 1) then og a1 true else (bif decide ((idx a0.Edges a1).Kind > 16) then og a1 true else ((Df (IntKind.wrap .u64 ((idx a0.Edges a1).Kind))).bind fun a4=>og a1 (a4 != 1)))))) else (out (some 0))
noncomputable def uB (a0:jJ) (b9:Bool):Option Int :=
 bif b9 then some 60 else (iter (Dg a0) 0)
noncomputable def gQ (a0:jJ):Option Int :=
 bif decide (a0.N < 0) then uB a0 true else (bif decide (a0.N > 64) then uB a0 true else (uB a0 (decide ((a0.Edges.length:Int) > 262144))))
noncomputable def aS (a0:Int) (a1:Bool):Option (Int ⊕ Bool) :=
 bif !a1 then out (some false) else (some (.inl (w64 (a0 + 1))))
noncomputable def lg (a0:History) (a2:jJ×Int) (a1:Int) (a4:List Int×Bool) (a5:List Int×Bool) (a3:Bool):Option (Int ⊕ Bool) :=
 bif ((idx a2.1.Edges a1).Kind == 1) then bif a3 then bif ((idx a2.1.Edges a1).Key == (-1)) then bif ((idx a0.Txns ((idx a2.1.Edges a1).From)).Proc == (idx a0.Txns ((idx a2.1.Edges a1).To)).Proc) then bif decide ((idx a2.1.Edges a1).From < (idx a2.1.Edges a1).To) then bif ((idx a0.Txns ((idx a2.1.Edges a1).From)).Status == 1) then aS a1 ((idx a0.Txns ((idx a2.1.Edges a1).To)).Status == 1) else (aS a1 false) else (aS a1 false) else (aS a1 false) else (aS a1 false) else (aS a1 false) else (bif ((idx a2.1.Edges a1).Kind == 2) then bif a3 then bif ((idx a2.1.Edges a1).Key == (-1)) then bif ((idx a0.Txns ((idx a2.1.Edges a1).From)).Status == 1) then bif ((idx a0.Txns ((idx a2.1.Edges a1).To)).Status == 1) then aS a1 (decide ((idx a0.Txns ((idx a2.1.Edges a1).From)).To < (idx a0.Txns ((idx a2.1.Edges a1).To)).From)) else (aS a1 false) else (aS a1 false) else (aS a1 false) else (aS a1 false) else (bif ((idx a2.1.Edges a1).Kind == 4) then bif a3 then bif a4.2 then aS a1 ((idx a0.Txns ((idx a2.1.Edges a1).To)).Status == 1) else (aS a1 false) else (aS a1 false) else (bif ((idx a2.1.Edges a1).Kind == 8) then bif a3 then bif a4.2 then aS a1 a5.2 else (aS a1 false) else (aS a1 false) else (bif a3 then bif a5.2 then bif ((idx a0.Txns ((idx a2.1.Edges a1).From)).Status == 1) then aS a1 ((idx a0.Txns ((idx a2.1.Edges a1).To)).Status == 1) else (aS a1 false) else (aS a1 false) else (aS a1 false)))))
noncomputable def vY (a0:History) (a1:jJ×Int) (a2:Int):Option (Int ⊕ Bool) :=
 (gm a0 ((idx a1.1.Edges a2).From) ((idx a1.1.Edges a2).Key)).bind fun a3=>(gm a0 ((idx a1.1.Edges a2).To) ((idx a1.1.Edges a2).Key)).bind fun a4=>bif ((idx a1.1.Edges a2).From != (idx a1.1.Edges a2).To) then bif ((idx a0.Txns ((idx a1.1.Edges a2).From)).Status != 2) then lg a0 a1 a2 a3 a4 ((idx a0.Txns ((idx a1.1.Edges a2).To)).Status != 2) else (lg a0 a1 a2 a3 a4 false) else (lg a0 a1 a2 a3 a4 false)
noncomputable def vZ (a0:History) (a2:jJ×Int):Int→Option (Int ⊕ Bool)
 | a1=>bif decide (a1 < (a2.1.Edges.length:Int)) then must (0≤a1∧a1 < (a2.1.Edges.length:Int)) (must (0≤(idx a2.1.Edges a1).From∧(idx a2.1.Edges a1).From < (a0.Txns.length:Int)) (must (0≤(idx a2.1.Edges a1).To∧(idx a2.1.Edges a1).To < (a0.Txns.length:Int)) (vY a0 a2 a1))) else (out (some true))
noncomputable def oO (a0:History) (a1:jJ×Int) (a2:Bool):Option Bool :=
 bif a2 then some false else (iter (vZ a0 a1) 0)
noncomputable def aG (a0:History):Option Bool :=
 (jl).bind fun y8=>bif !y8 then some false else ((dX a0).bind fun a1=>bif (a1.2 != 0) then some ((a1.1.Edges.length:Int) == 0) else (bif (a1.1.N != (a0.Txns.length:Int)) then oO a0 a1 true else ((gQ a1.1).bind fun a2=>oO a0 a1 (a2 != 0))))
end Go.Proofs.YtfpeabnehpclnaaGreatT
