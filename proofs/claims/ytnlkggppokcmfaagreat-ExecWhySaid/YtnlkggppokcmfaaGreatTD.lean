import Derived.Test.YtnlkggppokcmfaaGreatY
namespace Go.Proofs.YtnlkggppokcmfaaGreatT
open Go Go.Proofs Go.Proofs.YtnlkggppokcmfaaGreatE
set_option linter.unusedVariables false
set_option linter.unusedSimpArgs false
set_option maxHeartbeats 0
set_option maxRecDepth 4096
structure Op where
 Kind:Int
 Key:Int
 Arg:Int
 Got:Bool
 Vals:List Int
 deriving Inhabited
abbrev kOp:Ty Op:=Ty.iso (bO (aI .i64) (bO (aI .i64) (bO (aI .i64) (bO pg (bA 2 (aI .i64)))))) (fun g:Op=>(g.Kind,g.Key,g.Arg,g.Got,g.Vals))
structure Txn where
 Proc:Int
 Status:Int
 From:Int
 To:Int
 Ops:List Op
 deriving Inhabited
abbrev ko:Ty Txn:=Ty.iso (bO (aI .i64) (bO (aI .i64) (bO (aI .i64) (bO (aI .i64) (bA 50 kOp))))) (fun g:Txn=>(g.Proc,g.Status,g.From,g.To,g.Ops))
structure History where
 Keys:List ByteArray
 Txns:List Txn
 deriving Inhabited
structure bU where
 key:ByteArray
 arg:Int
 deriving Inhabited,DecidableEq
def bU.enc (x:bU):List Value:=[.string x.key,.int .i64 x.arg]
abbrev Cz:Ty bU:=Ty.flat 2 bU.enc (fun _=>rfl) (fun _=>FK rfl)
instance : Flat Cz bU.enc:=⟨Iff.rfl,Iff.rfl⟩
structure aW where
 keys:List ByteArray
 at_:List (ByteArray×Int)
 types:List Int
 facts:List (bU×Unit)
 incs:List (ByteArray×(List Int))
 deriving Inhabited
structure Call where
 Kind:Int
 Key:ByteArray
 Arg:Int
 Got:Bool
 Vals:List Int
 deriving Inhabited
abbrev vT:Ty Call:=Ty.iso (bO (aI .i64) (bO gM (bO (aI .i64) (bO pg (bA 2 (aI .i64)))))) (fun g:Call=>(g.Kind,g.Key,g.Arg,g.Got,g.Vals))
abbrev ni (N:BM):Ty Call:=Ty.iso (bO (aI .i64) (bO gM (bO (aI .i64) (bO pg (FO N (aI .i64)))))) (fun g:Call=>(g.Kind,g.Key,g.Arg,g.Got,g.Vals))
theorem zZ (N:BM):uf N (ni N) vT:=Eu (tK tJ (tK tJ (tK tJ (tK tJ Db))))
structure Event where
 Proc:Int
 Kind:Int
 Calls:List Call
 deriving Inhabited
abbrev yX:Ty Event:=Ty.iso (bO (aI .i64) (bO (aI .i64) (bA 109 vT))) (fun g:Event=>(g.Proc,g.Kind,g.Calls))
structure Ask where
 Txn:Int
 Place:Int
 Key:Int
 Base:List Int
 deriving Inhabited
abbrev Aw:Ty Ask:=Ty.iso (bO (aI .i64) (bO (aI .i64) (bO (aI .i64) (bA 2 (aI .i64))))) (fun g:Ask=>(g.Txn,g.Place,g.Key,g.Base))
structure eZ where
 Txn:Int
 Place:Int
 deriving Inhabited,DecidableEq
def eZ.enc (x:eZ):List Value:=[.int .i64 x.Txn,.int .i64 x.Place]
abbrev wK:Ty eZ:=Ty.flat 2 eZ.enc (fun _=>rfl) (fun _=>FK rfl)
instance : Flat wK eZ.enc:=⟨Iff.rfl,Iff.rfl⟩
structure dL where
 asks:List Ask
 bad:List eZ
 deriving Inhabited
structure bN where
 h:History
 order:List Int
 at_:List (Int×Int)
 deriving Inhabited
structure Exec where
 Order:List Int
 Picks:List Int
 deriving Inhabited
structure aD where
 keys:List ByteArray
 types:List Int
 wrote:List (List Int)
 incs:List Int
 last_:List Int
 deriving Inhabited
structure bB where
 txn:Int
 args:List Int
 deriving Inhabited
abbrev Rw2 (A:Option Addr) (c:Nat) (l:List Int):bL := .row (aI .i64) 2 A l.length c l
abbrev Rn2 (A:Option Addr) (n c:Nat) (l:List Int):bL := .row (aI .i64) 2 A n c l
abbrev Rw3 (A:Option Addr) (c:Nat) (l:List Int):bL := .row (aI .i64) 3 A l.length c l
abbrev Rn3 (A:Option Addr) (n c:Nat) (l:List Int):bL := .row (aI .i64) 3 A n c l
abbrev Rw9 (A:Option Addr) (c:Nat) (l:List ByteArray):bL := .row gM 9 A l.length c l
abbrev Rn9 (A:Option Addr) (n c:Nat) (l:List ByteArray):bL := .row gM 9 A n c l
abbrev Bp (A:Option Addr) (c:Nat) (l:List (List Int)):bL := .row (bA 2 (aI .i64)) 26 A l.length c l
abbrev uy (A:Option Addr) (c:Nat) (l:List Ask):bL := .row Aw 28 A l.length c l
abbrev IW (A:Option Addr) (c:Nat) (l:List Op):bL := .row kOp 50 A l.length c l
abbrev FW (A:Option Addr) (n c:Nat) (l:List Op):bL := .row kOp 50 A n c l
abbrev mI (A:Option Addr) (c:Nat) (l:List Txn):bL := .row ko 53 A l.length c l
abbrev IX (A:Option Addr) (n c:Nat) (l:List Txn):bL := .row ko 53 A n c l
abbrev mJ (A:Option Addr) (c:Nat) (l:List eZ):bL := .row wK 149 A l.length c l
abbrev Or2 (A:Option Addr) (c:Nat) (l:List Int):bL:=orA noM (aI .i64) 2 A l.length c l
abbrev zN (b:Nat) (m:List (Int×Int)):bL:=Cw (fun x:Int => .int .i64 x) (fun x:Int => .int .i64 x) b m
abbrev Iw (b:Nat) (m:List (Int×Int)):bL:=Cw (fun x:Int => .int .i64 x) (fun x:Int => .int .i64 x) b m
abbrev Aa (b:Nat) (m:List (Int×(List Int))):bL:=qI (fun x:Int => .int .i64 x) (bA 2 (aI .i64)) b m
abbrev wL (b:Nat) (m:List (ByteArray×Int)):bL:=Cw (fun x:ByteArray => .string x) (fun x:Int => .int .i64 x) b m
abbrev wM (b:Nat) (m:List (bU×Unit)):bL:=Cw (fun x:bU => .agg #[.string x.key,.int .i64 x.arg]) (fun _:Unit => .agg #[]) b m
abbrev Ab (b:Nat) (m:List (ByteArray×(List Int))):bL:=qI (fun x:ByteArray => .string x) (bA 3 (aI .i64)) b m
abbrev oG (x:History) (A0:Option Addr) (c0:Nat) (A1:Option Addr) (c1:Nat):List Value:=[vS A0 x.Keys.length c0,vS A1 x.Txns.length c1]
abbrev pq (x:History) (A0:Option Addr) (c0:Nat) (A1:Option Addr) (c1:Nat):Value := .agg (oG x A0 c0 A1 c1).toArray
abbrev bM (b:Nat) (x:History) (A0:Option Addr) (c0:Nat) (A1:Option Addr) (c1:Nat):bL := .blk b 25 (oG x A0 c0 A1 c1)
abbrev DZ (x:Ask) (A3:Option Addr) (c3:Nat):List Value:=[vI x.Txn,vI x.Place,vI x.Key,vS A3 x.Base.length c3]
abbrev IY (x:Ask) (A3:Option Addr) (c3:Nat):Value := .agg (DZ x A3 c3).toArray
abbrev Iy (b:Nat) (x:Ask) (A3:Option Addr) (c3:Nat):bL := .blk b 28 (DZ x A3 c3)
abbrev Ea (x:Exec) (A0:Option Addr) (c0:Nat) (A1:Option Addr) (c1:Nat):List Value:=[vS A0 x.Order.length c0,vS A1 x.Picks.length c1]
abbrev FX (x:Exec) (A0:Option Addr) (c0:Nat) (A1:Option Addr) (c1:Nat):Value := .agg (Ea x A0 c0 A1 c1).toArray
abbrev lC (b:Nat) (x:Exec) (A0:Option Addr) (c0:Nat) (A1:Option Addr) (c1:Nat):bL := .blk b 45 (Ea x A0 c0 A1 c1)
abbrev wh (x:Op) (A4:Option Addr) (c4:Nat):List Value:=[vI x.Kind,vI x.Key,vI x.Arg,vB x.Got,vS A4 x.Vals.length c4]
abbrev mK (b:Nat) (x:Op) (A4:Option Addr) (c4:Nat):bL := .blk b 50 (wh x A4 c4)
abbrev sJ (x:Txn) (A4:Option Addr) (c4:Nat):List Value:=[vI x.Proc,vI x.Status,vI x.From,vI x.To,vS A4 x.Ops.length c4]
abbrev Eb (x:Txn) (A4:Option Addr) (c4:Nat):Value := .agg (sJ x A4 c4).toArray
abbrev lD (b:Nat) (x:Txn) (A4:Option Addr) (c4:Nat):bL := .blk b 53 (sJ x A4 c4)
abbrev CB (x:bN) (A0:Option Addr) (c0:Nat) (A1:Option Addr) (c1:Nat) (A2:Option Addr) (c2:Nat) (b3:Nat):List Value:=[vS A0 x.h.Keys.length c0,vS A1 x.h.Txns.length c1,vS A2 x.order.length c2,.map (some b3)]
abbrev FY (x:bN) (A0:Option Addr) (c0:Nat) (A1:Option Addr) (c1:Nat) (A2:Option Addr) (c2:Nat) (b3:Nat):Value := .agg (CB x A0 c0 A1 c1 A2 c2 b3).toArray
abbrev vH (b:Nat) (x:bN) (A0:Option Addr) (c0:Nat) (A1:Option Addr) (c1:Nat) (A2:Option Addr) (c2:Nat) (b3:Nat):bL := .blk b 69 (CB x A0 c0 A1 c1 A2 c2 b3)
abbrev Iz (x:dL) (A0:Option Addr) (c0:Nat) (A1:Option Addr) (c1:Nat):List Value:=[vS A0 x.asks.length c0,vS A1 x.bad.length c1]
abbrev Jp (x:dL) (A0:Option Addr) (c0:Nat) (A1:Option Addr) (c1:Nat):Value := .agg (Iz x A0 c0 A1 c1).toArray
abbrev IZ (x:aD) (A0:Option Addr) (c0:Nat) (A1:Option Addr) (c1:Nat) (A2:Option Addr) (c2:Nat) (A3:Option Addr) (c3:Nat) (A4:Option Addr) (c4:Nat):List Value:=[vS A0 x.keys.length c0,vS A1 x.types.length c1,vS A2 x.wrote.length c2,vS A3 x.incs.length c3,vS A4 x.last_.length c4]
abbrev Ij (b:Nat) (x:aD) (A0:Option Addr) (c0:Nat) (A1:Option Addr) (c1:Nat) (A2:Option Addr) (c2:Nat) (A3:Option Addr) (c3:Nat) (A4:Option Addr) (c4:Nat):bL := .blk b 103 (IZ x A0 c0 A1 c1 A2 c2 A3 c3 A4 c4)
abbrev Ac (x:Event) (A2:Option Addr) (c2:Nat):List Value:=[vI x.Proc,vI x.Kind,vS A2 x.Calls.length c2]
abbrev Ik (x:Event) (A2:Option Addr) (c2:Nat):Value := .agg (Ac x A2 c2).toArray
abbrev Dl (b:Nat) (x:Event) (A2:Option Addr) (c2:Nat):bL := .blk b 107 (Ac x A2 c2)
abbrev wN (x:Call) (A4:Option Addr) (c4:Nat):List Value:=[vI x.Kind,.string x.Key,vI x.Arg,vB x.Got,vS A4 x.Vals.length c4]
abbrev yY (x:Call) (A4:Option Addr) (c4:Nat):Value := .agg (wN x A4 c4).toArray
abbrev fI (b:Nat) (x:Call) (A4:Option Addr) (c4:Nat):bL := .blk b 109 (wN x A4 c4)
abbrev EB (b:Nat) (A0:Option Addr) (c0:Nat) (x0:List ByteArray) (A1:Option Addr) (c1:Nat) (x1:List Txn):List bL:=[.blk b 25 [vS A0 x0.length c0,vS A1 x1.length c1],Rw9 A0 c0 x0,mI A1 c1 x1]
abbrev Jq (b:Nat) (x:History) (A0:Option Addr) (c0:Nat) (A1:Option Addr) (c1:Nat):List bL:=EB b A0 c0 x.Keys A1 c1 x.Txns
abbrev Jr (b:Nat) (A0:Option Addr) (c0:Nat) (x0:List Int) (A1:Option Addr) (c1:Nat) (x1:List Int):List bL:=[.blk b 45 [vS A0 x0.length c0,vS A1 x1.length c1],Rw3 A0 c0 x0,Rw3 A1 c1 x1]
abbrev Ja (b:Nat) (x0:Int) (x1:Int) (x2:Int) (x3:Int) (A4:Option Addr) (c4:Nat) (x4:List Op):List bL:=[.blk b 53 [vI x0,vI x1,vI x2,vI x3,vS A4 x4.length c4],IW A4 c4 x4]
abbrev yZ (b:Nat) (A0:Option Addr) (c0:Nat) (x0:List Ask) (A1:Option Addr) (c1:Nat) (x1:List eZ):List bL:=[.blk b 79 [vS A0 x0.length c0,vS A1 x1.length c1],uy A0 c0 x0,mJ A1 c1 x1]
abbrev Jb (b:Nat) (x:dL) (A0:Option Addr) (c0:Nat) (A1:Option Addr) (c1:Nat):List bL:=yZ b A0 c0 x.asks A1 c1 x.bad
abbrev oh (b:Nat) (A0:Option Addr) (c0:Nat) (x0:List ByteArray) (A1:Option Addr) (c1:Nat) (x1:List Int) (A2:Option Addr) (c2:Nat) (x2:List (List Int)) (A3:Option Addr) (c3:Nat) (x3:List Int) (A4:Option Addr) (c4:Nat) (x4:List Int):List bL:=[.blk b 103 [vS A0 x0.length c0,vS A1 x1.length c1,vS A2 x2.length c2,vS A3 x3.length c3,vS A4 x4.length c4],Rw9 A0 c0 x0,Rw3 A1 c1 x1,Bp A2 c2 x2,Rw3 A3 c3 x3,Rw3 A4 c4 x4]
abbrev Il (b:Nat) (x:aD) (A0:Option Addr) (c0:Nat) (A1:Option Addr) (c1:Nat) (A2:Option Addr) (c2:Nat) (A3:Option Addr) (c3:Nat) (A4:Option Addr) (c4:Nat):List bL:=oh b A0 c0 x.keys A1 c1 x.types A2 c2 x.wrote A3 c3 x.incs A4 c4 x.last_
abbrev uz (b:Nat) (A0:Option Addr) (c0:Nat) (x0:List ByteArray) (b1:Nat) (x1:List (ByteArray×Int)) (A2:Option Addr) (c2:Nat) (x2:List Int) (b3:Nat) (x3:List (bU×Unit)) (b4:Nat) (x4:List (ByteArray×(List Int))):List bL:=[.blk b 155 [vS A0 x0.length c0,.map (some b1),vS A2 x2.length c2,.map (some b3),.map (some b4)],Rw9 A0 c0 x0,wL b1 x1,Rw3 A2 c2 x2,wM b3 x3,Ab b4 x4]
abbrev EC (b:Nat) (x:aW) (A0:Option Addr) (c0:Nat) (b1:Nat) (A2:Option Addr) (c2:Nat) (b3:Nat) (b4:Nat):List bL:=uz b A0 c0 x.keys b1 x.at_ A2 c2 x.types b3 x.facts b4 x.incs
theorem Im {H:BM} {x:Ask} {cs:List Value} (h:Aw.rd H x cs):∃ A3 c3,cs=DZ x A3 c3∧x.Base.length≤c3∧rdS (aI .i64) H A3 x.Base:=by
 obtain ⟨_,_,rfl,rfl,⟨_,_,rfl,rfl,⟨_,_,rfl,rfl,⟨A0,c0,rfl,l0,r0⟩⟩⟩⟩:=h;exact ⟨A0,c0,rfl,l0,r0⟩
theorem wm {H:BM} {x:Op} {cs:List Value} (h:kOp.rd H x cs):∃ A4 c4,cs=wh x A4 c4∧x.Vals.length≤c4∧rdS (aI .i64) H A4 x.Vals:=by
 obtain ⟨_,_,rfl,rfl,⟨_,_,rfl,rfl,⟨_,_,rfl,rfl,⟨_,_,rfl,rfl,⟨A0,c0,rfl,l0,r0⟩⟩⟩⟩⟩:=h;exact ⟨A0,c0,rfl,l0,r0⟩
theorem iC {H:BM} {x:Txn} {cs:List Value} (h:ko.rd H x cs):∃ A4 c4,cs=sJ x A4 c4∧x.Ops.length≤c4∧rdS kOp H A4 x.Ops:=by
 obtain ⟨_,_,rfl,rfl,⟨_,_,rfl,rfl,⟨_,_,rfl,rfl,⟨_,_,rfl,rfl,⟨A0,c0,rfl,l0,r0⟩⟩⟩⟩⟩:=h;exact ⟨A0,c0,rfl,l0,r0⟩
theorem Dm {H:BM} {x:Event} {cs:List Value} (h:yX.rd H x cs):∃ A2 c2,cs=Ac x A2 c2∧x.Calls.length≤c2∧rdS vT H A2 x.Calls:=by
 obtain ⟨_,_,rfl,rfl,⟨_,_,rfl,rfl,⟨A0,c0,rfl,l0,r0⟩⟩⟩:=h;exact ⟨A0,c0,rfl,l0,r0⟩
theorem ED {H:BM} {x:Call} {cs:List Value} (h:vT.rd H x cs):∃ A4 c4,cs=wN x A4 c4∧x.Vals.length≤c4∧rdS (aI .i64) H A4 x.Vals:=by
 obtain ⟨_,_,rfl,rfl,⟨_,_,rfl,rfl,⟨_,_,rfl,rfl,⟨_,_,rfl,rfl,⟨A0,c0,rfl,l0,r0⟩⟩⟩⟩⟩:=h;exact ⟨A0,c0,rfl,l0,r0⟩
theorem EE (x:Ask) {R3:List bL} {c3:List Value} (h3:Mk (bA 2 (aI .i64)) R3 x.Base c3):Mk Aw ([]++([]++([]++R3))) x ([vI x.Txn]++([vI x.Place]++([vI x.Key]++c3))):=wH (g:=fun g:Ask=>(g.Txn,g.Place,g.Key,g.Base)) (x:=x) (eO (ng _ _ rfl) (eO (ng _ _ rfl) (eO (ng _ _ rfl) h3)))
theorem IA (x:Op) {R4:List bL} {c4:List Value} (h4:Mk (bA 2 (aI .i64)) R4 x.Vals c4):Mk kOp ([]++([]++([]++([]++R4)))) x ([vI x.Kind]++([vI x.Key]++([vI x.Arg]++([vB x.Got]++c4)))):=wH (g:=fun g:Op=>(g.Kind,g.Key,g.Arg,g.Got,g.Vals)) (x:=x) (eO (ng _ _ rfl) (eO (ng _ _ rfl) (eO (ng _ _ rfl) (eO (ng _ _ rfl) h4))))
theorem EF (x:Txn) {R4:List bL} {c4:List Value} (h4:Mk (bA 50 kOp) R4 x.Ops c4):Mk ko ([]++([]++([]++([]++R4)))) x ([vI x.Proc]++([vI x.Status]++([vI x.From]++([vI x.To]++c4)))):=wH (g:=fun g:Txn=>(g.Proc,g.Status,g.From,g.To,g.Ops)) (x:=x) (eO (ng _ _ rfl) (eO (ng _ _ rfl) (eO (ng _ _ rfl) (eO (ng _ _ rfl) h4))))
noncomputable def mg (a0:History) (a4:List Txn) (a1:Int):(List Op×Int)→Option ((List Op×Int) ⊕ ((List Txn×Int) ⊕ History))
 | (a3,a2)=>bif decide (a2 < (((idx a0.Txns a1).Ops).length:Int)) then must (0≤a2∧a2 < (((idx a0.Txns a1).Ops).length:Int)) (must (((0 + (((idx ((idx a0.Txns a1).Ops) a2).Vals).length)) + (0 + (((idx ((idx a0.Txns a1).Ops) a2).Vals).length)) / 4 + 192) * 8≤281474976710656∧0 + (((idx ((idx a0.Txns a1).Ops) a2).Vals).length)≤9223372036854775807) (must (((a3.length + 1) + (a3.length + 1) / 4 + 192) * 56≤281474976710656∧a3.length + 1≤9223372036854775807) (some (.inl (a3++([(⟨(idx ((idx a0.Txns a1).Ops) a2).Kind,(idx ((idx a0.Txns a1).Ops) a2).Key,(idx ((idx a0.Txns a1).Ops) a2).Arg,(idx ((idx a0.Txns a1).Ops) a2).Got,([]:List Int)++((idx ((idx a0.Txns a1).Ops) a2).Vals)⟩:Op)]:List Op),w64 (a2 + 1)))))) else (must (((a4.length + 1) + (a4.length + 1) / 4 + 192) * 56≤281474976710656∧a4.length + 1≤9223372036854775807) (out (some (.inl (a4++([(⟨(idx a0.Txns a1).Proc,(idx a0.Txns a1).Status,(idx a0.Txns a1).From,(idx a0.Txns a1).To,a3⟩:Txn)]:List Txn),w64 (a1 + 1))))))
noncomputable def mh (a0:History):(List Txn×Int)→Option ((List Txn×Int) ⊕ History)
 | (a2,a1)=>bif decide (a1 < (a0.Txns.length:Int)) then must (0≤a1∧a1 < (a0.Txns.length:Int)) (iter (mg a0 a2 a1) ([],0)) else (out (some (⟨([]:List ByteArray)++a0.Keys,a2⟩:History)))
noncomputable def cZ (a0:History):Option History :=
 must (((0 + a0.Keys.length) + (0 + a0.Keys.length) / 4 + 192) * 16≤281474976710656∧0 + a0.Keys.length≤9223372036854775807) (iter (mh a0) ([],0))
noncomputable def jS (a0:List Int) (a1:List Int):Int→Option (Int ⊕ Bool)
 | a2=>bif decide (a2 < (a0.length:Int)) then must (0≤a2∧a2 < (a0.length:Int)) (must (0≤a2∧a2 < (a1.length:Int)) (bif (idx a0 a2 != idx a1 a2) then out (some false) else (some (.inl (w64 (a2 + 1)))))) else (out (some true))
noncomputable def bQ (a0:List Int) (a1:List Int):Option Bool :=
 bif ((a0.length:Int) != (a1.length:Int)) then some false else (iter (jS a0 a1) 0)
noncomputable def iq (a0:List Int) (a1:List Int):Int→Option (Int ⊕ Bool)
 | a2=>bif decide (a2 < (a0.length:Int)) then must (0≤a2∧a2 < (a0.length:Int)) (must (0≤a2∧a2 < (a1.length:Int)) (bif (idx a0 a2 != idx a1 a2) then out (some false) else (some (.inl (w64 (a2 + 1)))))) else (out (some true))
noncomputable def bD (a0:List Int) (a1:List Int):Option Bool :=
 bif ((a0.length:Int) != (a1.length:Int)) then some false else (iter (iq a0 a1) 0)
noncomputable def eT (a1:Int) (a0:Bool):Option (Int ⊕ (Int ⊕ (Int ⊕ Bool))) :=
 bif a0 then out (out (out (some false))) else (some (.inl (w64 (a1 + 1))))
noncomputable def mi (a0:History) (a1:History) (a3:Int) (a2:Int):Option (Int ⊕ (Int ⊕ (Int ⊕ Bool))) :=
 bif ((idx ((idx a0.Txns a3).Ops) a2).Kind != (idx ((idx a1.Txns a3).Ops) a2).Kind) then eT a2 true else (bif ((idx ((idx a0.Txns a3).Ops) a2).Key != (idx ((idx a1.Txns a3).Ops) a2).Key) then eT a2 true else (bif ((idx ((idx a0.Txns a3).Ops) a2).Arg != (idx ((idx a1.Txns a3).Ops) a2).Arg) then eT a2 true else (bif ((idx ((idx a0.Txns a3).Ops) a2).Got != (idx ((idx a1.Txns a3).Ops) a2).Got) then eT a2 true else ((bD ((idx ((idx a0.Txns a3).Ops) a2).Vals) ((idx ((idx a1.Txns a3).Ops) a2).Vals)).bind fun a4=>eT a2 (!a4)))))
noncomputable def mo (a0:History) (a1:History) (a3:Int):Int→Option (Int ⊕ (Int ⊕ (Int ⊕ Bool)))
 | a2=>bif decide (a2 < (((idx a0.Txns a3).Ops).length:Int)) then must (0≤a2∧a2 < (((idx a0.Txns a3).Ops).length:Int)) (must (0≤a2∧a2 < (((idx a1.Txns a3).Ops).length:Int)) (mi a0 a1 a3 a2)) else (out (some (.inl (w64 (a3 + 1)))))
noncomputable def eU (a0:History) (a1:History) (a3:Int) (a2:Bool):Option (Int ⊕ (Int ⊕ Bool)) :=
 bif a2 then out (out (some false)) else (iter (mo a0 a1 a3) 0)
noncomputable def mq (a0:History) (a1:History) (a2:Int):Option (Int ⊕ (Int ⊕ Bool)) :=
 bif ((idx a0.Txns a2).Proc != (idx a1.Txns a2).Proc) then eU a0 a1 a2 true else (bif ((idx a0.Txns a2).Status != (idx a1.Txns a2).Status) then eU a0 a1 a2 true else (bif ((idx a0.Txns a2).From != (idx a1.Txns a2).From) then eU a0 a1 a2 true else (bif ((idx a0.Txns a2).To != (idx a1.Txns a2).To) then eU a0 a1 a2 true else (eU a0 a1 a2 ((((idx a0.Txns a2).Ops).length:Int) != (((idx a1.Txns a2).Ops).length:Int))))))
noncomputable def mr (a0:History) (a1:History):Int→Option (Int ⊕ (Int ⊕ Bool))
 | a2=>bif decide (a2 < (a0.Txns.length:Int)) then must (0≤a2∧a2 < (a0.Txns.length:Int)) (must (0≤a2∧a2 < (a1.Txns.length:Int)) (mq a0 a1 a2)) else (out (out (some true)))
noncomputable def mD (a0:History) (a1:History):Int→Option (Int ⊕ Bool)
 | a2=>bif decide (a2 < (a0.Keys.length:Int)) then must (0≤a2∧a2 < (a0.Keys.length:Int)) (must (0≤a2∧a2 < (a1.Keys.length:Int)) (bif !(sEq (idx a0.Keys a2) (idx a1.Keys a2)) then out (some false) else (some (.inl (w64 (a2 + 1)))))) else (iter (mr a0 a1) 0)
noncomputable def jK (a0:History) (a1:History) (b9:Bool):Option Bool :=
 bif b9 then some false else (iter (mD a0 a1) 0)
noncomputable def aA (a0:History) (a1:History):Option Bool :=
 bif ((a0.Keys.length:Int) != (a1.Keys.length:Int)) then jK a0 a1 true else (jK a0 a1 ((a0.Txns.length:Int) != (a1.Txns.length:Int)))
noncomputable def kr (a0:List ByteArray) (a1:ByteArray):Int→Option (Int ⊕ Int)
 | a2=>bif decide (a2 < (a0.length:Int)) then must (0≤a2∧a2 < (a0.length:Int)) (bif sEq a1 (idx a0 a2) then out (some a2) else (some (.inl (w64 (a2 + 1))))) else (out (some (-1)))
noncomputable def slices_Index_string (a0:List ByteArray) (a1:ByteArray):Option Int :=
 iter (kr a0 a1) 0
noncomputable def slices_Contains_string (a0:List ByteArray) (a1:ByteArray):Option Bool :=
 (slices_Index_string a0 a1).bind fun y3=>some (decide (y3 ≥ 0))
noncomputable def mW:Option aW :=
 some (⟨([]:List ByteArray),([]:List (ByteArray×Int)),([]:List Int),([]:List (bU×Unit)),([]:List (ByteArray×(List Int)))⟩:aW)
noncomputable def sK (a0:Int):Option (Int×Int) :=
 bif (a0 == 5) then some (0,1) else (bif (a0 == 8) then some (1,1) else (some (0,64)))
noncomputable def oM (a0:Call) (a1:Int) (a2:Bool):Option (Int ⊕ Bool) :=
 bif a2 then must (0≤w64 (a1 - 1)∧w64 (a1 - 1) < (a0.Vals.length:Int)) (must (0≤a1∧a1 < (a0.Vals.length:Int)) (bif decide (idx a0.Vals (w64 (a1 - 1)) ≥ idx a0.Vals a1) then out (some false) else (some (.inl (w64 (a1 + 1)))))) else (out (some true))
noncomputable def oN (a0:Call):Int→Option (Int ⊕ Bool)
 | a1=>bif (a0.Kind == 7) then oM a0 a1 (decide (a1 < (a0.Vals.length:Int))) else (oM a0 a1 false)
noncomputable def oO (a0:Call) (a1:Bool):Option Bool :=
 bif a1 then some false else (iter (oN a0) 1)
noncomputable def oP (a0:Call) (a2:Bool):Option Bool :=
 bif a2 then some false else (bif !a0.Got then some ((a0.Vals.length:Int) == 0) else ((sK a0.Kind).bind fun a1=>bif decide ((a0.Vals.length:Int) < a1.1) then oO a0 true else (oO a0 (decide ((a0.Vals.length:Int) > a1.2)))))
noncomputable def kJ (a0:Call) (a1:Int) (a2:Bool):Option Bool :=
 bif a2 then some false else (bif decide (a0.Kind≤4) then bif !a0.Got then bif ((a0.Vals.length:Int) == 0) then bif (a0.Kind != 4) then some true else (bif decide ((-1048576)≤a0.Arg) then some (decide (a0.Arg≤1048576)) else (some false)) else (some false) else (some false) else (bif (a0.Arg != 0) then oP a0 true else (oP a0 (a0.Got != (a1 == 1)))))
noncomputable def bJ (a0:Call) (a1:Int):Option Bool :=
 bif decide (a0.Kind < 1) then kJ a0 a1 true else (bif decide (a0.Kind > 8) then kJ a0 a1 true else (bif sEq a0.Key (⟨#[]⟩:ByteArray) then kJ a0 a1 true else (kJ a0 a1 (decide ((a0.Key.size:Int) > 32)))))
noncomputable def pU (a0:Call) (a1:Event):Option Bool :=
 (bJ a0 a1.Kind).bind fun y5=>some (!y5)
noncomputable def eH (a0:List Call) (a1c0:Event):Int→Option (Int ⊕ Int)
 | a1=>bif decide (a1 < (a0.length:Int)) then must (0≤a1∧a1 < (a0.length:Int)) ((pU (idx a0 a1) a1c0).bind fun a2=>bif a2 then out (some a1) else (some (.inl (w64 (a1 + 1))))) else (out (some (-1)))
noncomputable def bz (a0:List Call) (a1c0:Event):Option Int :=
 iter (eH a0 a1c0) 0
noncomputable def cu (a0:List Call) (a1c0:Event):Option Bool :=
 (bz a0 a1c0).bind fun y3=>some (decide (y3 ≥ 0))
noncomputable def mM (a0:List Event) (a1:Int) (a2:Bool):Option (Int ⊕ Int) :=
 bif a2 then out (some 1) else ((cu ((idx a0 a1).Calls) (idx a0 a1)).bind fun a3=>bif a3 then out (some 1) else (some (.inl (w64 (a1 + 1)))))
noncomputable def ru (a0:List Event):Int→Option (Int ⊕ Int)
 | a1=>bif decide (a1 < (a0.length:Int)) then must (0≤a1∧a1 < (a0.length:Int)) (bif decide ((idx a0 a1).Kind < 0) then mM a0 a1 true else (bif decide ((idx a0 a1).Kind > 3) then mM a0 a1 true else (mM a0 a1 (decide ((((idx a0 a1).Calls).length:Int) > 16))))) else (out (some 0))
noncomputable def fF (a0:List Event):Option Int :=
 bif decide ((a0.length:Int) > 256) then some 1 else (iter (ru a0) 0)
noncomputable def qa (a0:History) (a1:Txn) (a3:List Call) (a2:Int):Option ((List Call×Int) ⊕ (Event×Bool)) :=
 some (.inl (a3++([(⟨(idx a1.Ops a2).Kind,idx a0.Keys ((idx a1.Ops a2).Key),(idx a1.Ops a2).Arg,(idx a1.Ops a2).Got,(idx a1.Ops a2).Vals⟩:Call)]:List Call),w64 (a2 + 1)))
noncomputable def nC (a0:History) (a1:Txn) (a2:List Call) (a3:Int) (a4:Bool):Option ((List Call×Int) ⊕ (Event×Bool)) :=
 bif a4 then out (some ((⟨0,a1.Status,a2⟩:Event),false)) else (must (0≤(idx a1.Ops a3).Key∧(idx a1.Ops a3).Key < (a0.Keys.length:Int)) (must (((a2.length + 1) + (a2.length + 1) / 4 + 192) * 64≤281474976710656∧a2.length + 1≤9223372036854775807) (qa a0 a1 a2 a3)))
noncomputable def qb (a0:History) (a1:Txn):(List Call×Int)→Option ((List Call×Int) ⊕ (Event×Bool))
 | (a3,a2)=>bif decide (a2 < (a1.Ops.length:Int)) then must (0≤a2∧a2 < (a1.Ops.length:Int)) (bif decide ((idx a1.Ops a2).Key < 0) then nC a0 a1 a3 a2 true else (nC a0 a1 a3 a2 (decide ((idx a1.Ops a2).Key ≥ (a0.Keys.length:Int))))) else ((fF ([(⟨0,a1.Status,a3⟩:Event)]:List Event)).bind fun a4=>out (some ((⟨0,a1.Status,a3⟩:Event),(a4 == 0))))
noncomputable def dJ (a0:History) (a1:Txn):Option (Event×Bool) :=
 iter (qb a0 a1) ([],0)
noncomputable def nD (a0:Txn) (a1:Txn):Option Bool :=
 bif (a0.Proc == a1.Proc) then bif (a0.To == (-1)) then some true else (some (decide (a0.To ≥ a1.From))) else (some false)
noncomputable def dY (a0:List Txn) (a1c0:Txn):Int→Option (Int ⊕ Int)
 | a1=>bif decide (a1 < (a0.length:Int)) then must (0≤a1∧a1 < (a0.length:Int)) ((nD (idx a0 a1) a1c0).bind fun a2=>bif a2 then out (some a1) else (some (.inl (w64 (a1 + 1))))) else (out (some (-1)))
noncomputable def aZ (a0:List Txn) (a1c0:Txn):Option Int :=
 iter (dY a0 a1c0) 0
noncomputable def bY (a0:List Txn) (a1c0:Txn):Option Bool :=
 (aZ a0 a1c0).bind fun y3=>some (decide (y3 ≥ 0))
noncomputable def kG (a0:List Txn) (a1:Txn) (a2:Bool):Option Bool :=
 bif a2 then some false else ((bY a0 a1).bind fun a3=>some (!a3))
noncomputable def mX (a0:List Txn) (a1:Txn):Option Bool :=
 bif decide (a1.From < 0) then kG a0 a1 true else (bif decide ((a0.length:Int) > 0) then must (0≤w64 ((a0.length:Int) - 1)∧w64 ((a0.length:Int) - 1) < (a0.length:Int)) (kG a0 a1 (decide ((idx a0 (w64 ((a0.length:Int) - 1))).From ≥ a1.From))) else (kG a0 a1 false))
noncomputable def mY (a0:List Txn) (a1:Txn) (a2:Bool):Option Bool :=
 bif a2 then some false else (mX a0 a1)
noncomputable def mZ (a0:List Txn) (a1:Txn) (a2:Bool):Option Bool :=
 bif a2 then bif decide (a1.To≤a1.From) then some false else (mX a0 a1) else (bif (a1.Status == 3) then bif (a1.To != (-1)) then mY a0 a1 (decide (a1.To≤a1.From)) else (mY a0 a1 false) else (some false))
noncomputable def bG (a0:List Txn) (a1:Txn):Option Bool :=
 bif (a1.Status == 1) then mZ a0 a1 (a1.Status == 1) else (mZ a0 a1 (a1.Status == 2))
noncomputable def lW (a0:Int):Option Int :=
 some (w64 ((zX .i64 (w64 (a0 - 1)) 3) + 1))
noncomputable def gu (a2:List ByteArray) (a3:List (ByteArray×Int)) (a1:List Int) (a0:List (bU×Unit)) (a4:List (ByteArray×(List Int))):Option (Int×aW) :=
 some (0,(⟨a2,a3,a1,a0,a4⟩:aW))
noncomputable def kK (a0:aW) (a1:Call) (a2:List ByteArray) (a3:List (ByteArray×Int)) (a4:List Int):Option (Int×aW) :=
 bif kF a0.facts (⟨a1.Key,a1.Arg⟩:bU) then some (3,(⟨a2,a3,a4,a0.facts,a0.incs⟩:aW)) else (gu a2 a3 a4 (gN a0.facts (⟨a1.Key,a1.Arg⟩:bU) ()) a0.incs)
noncomputable def iP (a0:aW) (a1:Call) (a3:List ByteArray) (a4:List (ByteArray×Int)) (a5:List Int) (a2:List (ByteArray×(List Int))):Option (Int×aW) :=
 bif decide (((mat a2 a1.Key).length:Int) > 8) then some (51,(⟨a3,a4,a5,a0.facts,a2⟩:aW)) else (gu a3 a4 a5 a0.facts a2)
noncomputable def iQ (a0:aW) (a1:Call) (a2:Int) (a3:List ByteArray) (a4:List (ByteArray×Int)) (a5:List Int) (a6:Bool):Option (Int×aW) :=
 bif a6 then must (((((mat a0.incs a1.Key).length) + 1) + (((mat a0.incs a1.Key).length) + 1) / 4 + 192) * 8≤281474976710656∧((mat a0.incs a1.Key).length) + 1≤9223372036854775807) (iP a0 a1 a3 a4 a5 (gN a0.incs a1.Key ((mat a0.incs a1.Key)++([a2]:List Int)))) else (iP a0 a1 a3 a4 a5 a0.incs)
noncomputable def iR (a0:aW) (a1:Call) (a2:Int) (a3:List ByteArray) (a4:List (ByteArray×Int)) (a5:List Int) (a6:Bool):Option (Int×aW) :=
 bif a6 then kK a0 a1 a3 a4 a5 else (bif (a1.Kind == 4) then bif (((mat a0.incs a1.Key).length:Int) == 0) then iQ a0 a1 a2 a3 a4 a5 true else (must (0≤w64 (((mat a0.incs a1.Key).length:Int) - 1)∧w64 (((mat a0.incs a1.Key).length:Int) - 1) < ((mat a0.incs a1.Key).length:Int)) (iQ a0 a1 a2 a3 a4 a5 (idx (mat a0.incs a1.Key) (w64 (((mat a0.incs a1.Key).length:Int) - 1)) != a2))) else (gu a3 a4 a5 a0.facts a0.incs))
noncomputable def gy (a0:aW) (a1:Call) (a2:Int) (a4:List ByteArray) (a5:List (ByteArray×Int)) (a3:List Int) (a6:Int):Option (Int×aW) :=
 must (0≤a6∧a6 < (a3.length:Int)) ((lW a1.Kind).bind fun a7=>bif (idx a3 a6 != a7) then some (50,(⟨a4,a5,a3,a0.facts,a0.incs⟩:aW)) else (bif (a1.Kind == 2) then iR a0 a1 a2 a4 a5 a3 (a1.Kind == 2) else (iR a0 a1 a2 a4 a5 a3 (a1.Kind == 3))))
noncomputable def kM (a0:aW) (a1:Call) (a2:Int):Option (Int×aW) :=
 (lW a1.Kind).bind fun a3=>must (((a0.types.length + 1) + (a0.types.length + 1) / 4 + 192) * 8≤281474976710656∧a0.types.length + 1≤9223372036854775807) (gy a0 a1 a2 (a0.keys++([a1.Key]:List ByteArray)) (gN a0.at_ a1.Key (a0.keys.length:Int)) (a0.types++([a3]:List Int)) (a0.keys.length:Int))
noncomputable def az (a0:aW) (a1:Call) (a2:Int):Option (Int×aW) :=
 bif !(kF a0.at_ a1.Key) then bif ((a0.keys.length:Int) == 32) then some (2,a0) else (must (((a0.keys.length + 1) + (a0.keys.length + 1) / 4 + 192) * 16≤281474976710656∧a0.keys.length + 1≤9223372036854775807) (kM a0 a1 a2)) else (gy a0 a1 a2 a0.keys a0.at_ a0.types (mat a0.at_ a1.Key))
noncomputable def lF (a1:Int) (a0:Bool):Option (Int ⊕ Int) :=
 bif a0 then out (some 1) else (some (.inl (w64 (a1 + 1))))
noncomputable def nE (a4:Int) (a2:Event×Bool):(List ByteArray×(List (ByteArray×Int))×List Int×(List (bU×Unit))×(List (ByteArray×(List Int)))×Int)→Option ((List ByteArray×(List (ByteArray×Int))×List Int×(List (bU×Unit))×(List (ByteArray×(List Int)))×Int) ⊕ ((List ByteArray×(List (ByteArray×Int))×List Int×(List (bU×Unit))×(List (ByteArray×(List Int)))×Int) ⊕ (Int ⊕ Int)))
 | (a3,a8,a7,a5,a6,a1)=>bif decide (a1 < (a2.1.Calls.length:Int)) then must (0≤a1∧a1 < (a2.1.Calls.length:Int)) ((az (⟨a3,a8,a7,a5,a6⟩:aW) (idx a2.1.Calls a1) a4).bind fun a0=>bif (a0.1 != 0) then out (out (out (some 1))) else (some (.inl (a0.2.keys,a0.2.at_,a0.2.types,a0.2.facts,a0.2.incs,w64 (a1 + 1))))) else (out (some (.inl (a3,a8,a7,a5,a6,w64 (a4 + 1)))))
noncomputable def nG (a1:List ByteArray) (a3:List (ByteArray×Int)) (a5:List Int) (a4:List (bU×Unit)) (a0:List (ByteArray×(List Int))) (a2:Int) (a6:Event×Bool) (a7:Bool):Option ((List ByteArray×(List (ByteArray×Int))×List Int×(List (bU×Unit))×(List (ByteArray×(List Int)))×Int) ⊕ (Int ⊕ Int)) :=
 bif a7 then out (out (some 1)) else (iter (nE a2 a6) (a1,a3,a5,a4,a0,0))
noncomputable def lG (a0:History):(List ByteArray×(List (ByteArray×Int))×List Int×(List (bU×Unit))×(List (ByteArray×(List Int)))×Int)→Option ((List ByteArray×(List (ByteArray×Int))×List Int×(List (bU×Unit))×(List (ByteArray×(List Int)))×Int) ⊕ (Int ⊕ Int))
 | (a4,a5,a7,a6,a3,a1)=>bif decide (a1 < (a0.Txns.length:Int)) then must (0≤a1∧a1 < (a0.Txns.length:Int)) ((dJ a0 (idx a0.Txns a1)).bind fun a2=>bif !a2.2 then nG a4 a5 a7 a6 a3 a1 a2 true else (must (0≤(0:Int)∧(0:Int)≤a1∧a1≤(a0.Txns.length:Int)) ((bG (dh a0.Txns (0:Int) a1) (idx a0.Txns a1)).bind fun a8=>nG a4 a5 a7 a6 a3 a1 a2 (!a8)))) else (out (out (some 0)))
noncomputable def qc (a0:History):Int→Option (Int ⊕ Int)
 | a1=>bif decide (a1 < (a0.Keys.length:Int)) then must (0≤a1∧a1 < (a0.Keys.length:Int)) (bif sEq (idx a0.Keys a1) (⟨#[]⟩:ByteArray) then lF a1 true else (bif decide (((idx a0.Keys a1).size:Int) > 32) then lF a1 true else (must (0≤(0:Int)∧(0:Int)≤a1∧a1≤(a0.Keys.length:Int)) ((slices_Contains_string (dh a0.Keys (0:Int) a1) (idx a0.Keys a1)).bind fun a3=>lF a1 a3)))) else ((mW).bind fun a2=>iter (lG a0) (a2.keys,a2.at_,a2.types,a2.facts,a2.incs,0))
noncomputable def nH (a0:History) (b7:Bool):Option Int :=
 bif b7 then some 1 else (iter (qc a0) 0)
noncomputable def aN (a0:History):Option Int :=
 bif decide ((a0.Keys.length:Int) > 32) then nH a0 true else (nH a0 (decide ((a0.Txns.length:Int) > 32)))
noncomputable def dZ (a0:List Int):Option (List Int) :=
 must (a0.length * 8≤140737488355328) (some a0)
noncomputable def jm (a0:Int):Option Int :=
 bif (a0 == 1) then some 188 else (bif (a0 == 2) then some 189 else (bif (a0 == 3) then some 190 else (bif (a0 == 4) then some 191 else (some (-1)))))
noncomputable def jo (a0:Unit) (a1:List Int):Option Bool :=
 some (decide ((a1.length:Int)≤1))
noncomputable def lX (a0:Unit) (a1:List Int):Option Bool :=
 some (decide ((a1.length:Int)≤64))
noncomputable def nk (a1:List Int):Int→Option (Int ⊕ Bool)
 | a0=>bif decide (a0 < (a1.length:Int)) then must (0≤w64 (a0 - 1)∧w64 (a0 - 1) < (a1.length:Int)) (must (0≤a0∧a0 < (a1.length:Int)) (bif decide (idx a1 (w64 (a0 - 1)) ≥ idx a1 a0) then out (some false) else (some (.inl (w64 (a0 + 1)))))) else (out (some (decide ((a1.length:Int)≤64))))
noncomputable def fD (a0:Unit) (a1:List Int):Option Bool :=
 iter (nk a1) 1
noncomputable def jL (a0:Unit) (a1:List Int):Option Bool :=
 some ((a1.length:Int) == 1)
noncomputable def jq (a0:Int) (a1:List Int):Option Int :=
 (jm a0).bind fun y8=>bif (y8 == (188:Int)) then (jo () a1).bind fun a2=>bif !a2 then some 80 else (some 0) else (bif (y8 == (189:Int)) then (lX () a1).bind fun a5=>bif !a5 then some 80 else (some 0) else (bif (y8 == (190:Int)) then (fD () a1).bind fun a4=>bif !a4 then some 80 else (some 0) else (bif (y8 == (191:Int)) then (jL () a1).bind fun a3=>bif !a3 then some 80 else (some 0) else (bif (y8 == ((-1):Int)) then some 1 else none))))
noncomputable def fJ (a0:Unit) (a1:List Int) (a2:List Int):Option (List Int×Bool) :=
 bif ((a1.length:Int) == 1) then must (0≤(0:Int)∧(0:Int) < (a1.length:Int)) (must (0≤w64 ((a2.length:Int) - 1)∧w64 ((a2.length:Int) - 1) < (a2.length:Int)) (some (([]:List Int),(idx a1 (0:Int) == idx a2 (w64 ((a2.length:Int) - 1)))))) else (some (([]:List Int),false))
noncomputable def om (a0:List Int) (a1:List Int):Int→Option (Int ⊕ Bool)
 | a2=>bif decide (a2 < (a0.length:Int)) then must (0≤a2∧a2 < (a0.length:Int)) (must (0≤a2∧a2 < (a1.length:Int)) (bif (idx a0 a2 != idx a1 a2) then out (some false) else (some (.inl (w64 (a2 + 1)))))) else (out (some true))
noncomputable def di (a0:List Int) (a1:List Int):Option Bool :=
 bif ((a0.length:Int) != (a1.length:Int)) then some false else (iter (om a0 a1) 0)
noncomputable def gz (a1:List Int) (a2:List Int) (a3:Bool):Option (List Int×Bool) :=
 bif a3 then some (([]:List Int),false) else (must (0≤(0:Int)∧(0:Int)≤(w64 ((a1.length:Int) - (a2.length:Int)))∧(w64 ((a1.length:Int) - (a2.length:Int)))≤(a1.length:Int)) ((dZ (dh a1 (0:Int) (w64 ((a1.length:Int) - (a2.length:Int))))).bind fun a0=>some (a0,true)))
noncomputable def dm (a0:Unit) (a1:List Int) (a2:List Int):Option (List Int×Bool) :=
 bif decide (w64 ((a1.length:Int) - (a2.length:Int)) < 0) then gz a1 a2 true else (must (0≤(w64 ((a1.length:Int) - (a2.length:Int)))∧(w64 ((a1.length:Int) - (a2.length:Int)))≤(a1.length:Int)∧(a1.length:Int)≤(a1.length:Int)) ((di (dh a1 (w64 ((a1.length:Int) - (a2.length:Int))) (a1.length:Int)) a2).bind fun a3=>gz a1 a2 (!a3)))
noncomputable def kH (a0:Int):Option Bool :=
 some (a0 != a0)
noncomputable def lH (a0:Int) (a1:Int):Option Bool :=
 (kH a0).bind fun y7=>bif y7 then (kH a1).bind fun a2=>bif !a2 then some true else (some (decide (a0 < a1))) else (some (decide (a0 < a1)))
noncomputable def iO (a0:Int):Option Bool :=
 some (a0 != a0)
noncomputable def iA (a1:Int) (a0:Int):Option ((Int×Int) ⊕ (Int×Bool)) :=
 some (.inl (a1,a0))
noncomputable def iB (a0:List Int) (a1:Int):(Int×Int)→Option ((Int×Int) ⊕ (Int×Bool))
 | (a2,a3)=>bif decide (a2 < a3) then must (0≤(1:Int)∧(1:Int) < (far:Int)) (must (0≤w64 (vR .u64 (IntKind.wrap .u64 (w64 (a2 + a3))) (1:Int))∧w64 (vR .u64 (IntKind.wrap .u64 (w64 (a2 + a3))) (1:Int)) < (a0.length:Int)) ((lH (idx a0 (w64 (vR .u64 (IntKind.wrap .u64 (w64 (a2 + a3))) (1:Int)))) a1).bind fun a6=>bif a6 then iA (w64 ((w64 (vR .u64 (IntKind.wrap .u64 (w64 (a2 + a3))) (1:Int))) + 1)) a3 else (iA a2 (w64 (vR .u64 (IntKind.wrap .u64 (w64 (a2 + a3))) (1:Int)))))) else (bif decide (a2 < (a0.length:Int)) then must (0≤a2∧a2 < (a0.length:Int)) (bif (idx a0 a2 == a1) then out (some (a2,true)) else ((iO (idx a0 a2)).bind fun a4=>bif a4 then (iO a1).bind fun a5=>out (some (a2,a5)) else (out (some (a2,false))))) else (out (some (a2,false))))
noncomputable def bv (a0:List Int) (a1:Int):Option (Int×Bool) :=
 iter (iB a0 a1) (0,(a0.length:Int))
noncomputable def iD (a0:List Int) (a1 a2:Int):Option (List Int) :=
 must (0≤a1∧a1≤a2∧a2≤(a0.length:Int)) (some (a0.take a1.toNat++a0.drop a2.toNat))
noncomputable def jr (a2:List Int):(List Int×Int)→Option ((List Int×Int) ⊕ (List Int×Bool))
 | (a3,a0)=>bif decide (a0 < (a2.length:Int)) then must (0≤a0∧a0 < (a2.length:Int)) ((bv a3 (idx a2 a0)).bind fun a1=>bif !a1.2 then out (some (([]:List Int),false)) else ((iD a3 a1.1 (w64 (a1.1 + 1))).bind fun a4=>some (.inl (a4,w64 (a0 + 1))))) else (out (some (a3,true)))
noncomputable def dN (a0:Unit) (a1:List Int) (a2:List Int):Option (List Int×Bool) :=
 (dZ a1).bind fun y7=>iter (jr a2) (y7,0)
noncomputable def gP (a2:List Int):(Int×Int)→Option ((Int×Int) ⊕ (List Int×Bool))
 | (a1,a0)=>bif decide (a0 < (a2.length:Int)) then must (0≤a0∧a0 < (a2.length:Int)) (some (.inl (w64 (a1 - (idx a2 a0)),w64 (a0 + 1)))) else (out (some (([a1]:List Int),true)))
noncomputable def dw (a0:Unit) (a1:List Int) (a2:List Int):Option (List Int×Bool) :=
 must (0≤(0:Int)∧(0:Int) < (a1.length:Int)) (iter (gP a2) (idx a1 (0:Int),0))
noncomputable def jk (a0:Int) (a1:List Int) (a2:List Int) (b9:Bool):Option (List Int×Bool) :=
 bif b9 then some (([]:List Int),false) else ((jm a0).bind fun a3=>bif (a3 == (188:Int)) then (fJ () a1 a2).bind fun a4=>some (a4.1,a4.2) else (bif (a3 == (189:Int)) then (dm () a1 a2).bind fun a5=>some (a5.1,a5.2) else (bif (a3 == (190:Int)) then (dN () a1 a2).bind fun a6=>some (a6.1,a6.2) else (bif (a3 == (191:Int)) then (dw () a1 a2).bind fun a7=>some (a7.1,a7.2) else (bif (a3 == ((-1):Int)) then none else none)))))
noncomputable def fE (a0:Int) (a1:List Int) (a2:List Int):Option (List Int×Bool) :=
 (jq a0 a1).bind fun a3=>bif (a3 != 0) then jk a0 a1 a2 true else (jk a0 a1 a2 ((a2.length:Int) == 0))
noncomputable def fQ (a3:Int) (a0:List Ask) (a1:List eZ) (a2:List (Int×(List Int))):Option ((List Ask×List eZ×(List (Int×(List Int)))×Int) ⊕ dL) :=
 some (.inl (a0,a1,a2,w64 (a3 + 1)))
noncomputable def jM (a1:History) (a2:Int) (a3:List Ask) (a4:List eZ) (a5:List (Int×(List Int))) (a0:Int) (a7:List Int) (a6:Bool):Option ((List Ask×List eZ×(List (Int×(List Int)))×Int) ⊕ dL) :=
 bif !a6 then must (((a4.length + 1) + (a4.length + 1) / 4 + 192) * 16≤281474976710656∧a4.length + 1≤9223372036854775807) (fQ a0 a3 (a4++([(⟨a2,a0⟩:eZ)]:List eZ)) a5) else (must (((a3.length + 1) + (a3.length + 1) / 4 + 192) * 48≤281474976710656∧a3.length + 1≤9223372036854775807) (fQ a0 (a3++([(⟨a2,a0,(idx ((idx a1.Txns a2).Ops) a0).Key,a7⟩:Ask)]:List Ask)) a4 a5))
noncomputable def jN (a1:History) (a2:Int) (a5:List Ask) (a6:List eZ) (a0:List (Int×(List Int))) (a3:Int) (a4:List Int×Bool) (a7:Bool):Option ((List Ask×List eZ×(List (Int×(List Int)))×Int) ⊕ dL) :=
 bif a7 then fQ a3 a5 a6 a0 else (jM a1 a2 a5 a6 a0 a3 a4.1 a4.2)
noncomputable def mE (a1:History) (a2:Int):(List Ask×List eZ×(List (Int×(List Int)))×Int)→Option ((List Ask×List eZ×(List (Int×(List Int)))×Int) ⊕ dL)
 | (a4,a5,a3,a0)=>bif decide (a0 < (((idx a1.Txns a2).Ops).length:Int)) then must (0≤a0∧a0 < (((idx a1.Txns a2).Ops).length:Int)) (bif decide ((idx ((idx a1.Txns a2).Ops) a0).Kind≤4) then must (((((mat a3 ((idx ((idx a1.Txns a2).Ops) a0).Key)).length) + 1) + (((mat a3 ((idx ((idx a1.Txns a2).Ops) a0).Key)).length) + 1) / 4 + 192) * 8≤281474976710656∧((mat a3 ((idx ((idx a1.Txns a2).Ops) a0).Key)).length) + 1≤9223372036854775807) (fQ a0 a4 a5 (gN a3 ((idx ((idx a1.Txns a2).Ops) a0).Key) ((mat a3 ((idx ((idx a1.Txns a2).Ops) a0).Key))++([(idx ((idx a1.Txns a2).Ops) a0).Arg]:List Int)))) else ((dZ ((idx ((idx a1.Txns a2).Ops) a0).Vals)).bind fun a7=>bif decide (((mat a3 ((idx ((idx a1.Txns a2).Ops) a0).Key)).length:Int) > 0) then (fE (w64 (((idx ((idx a1.Txns a2).Ops) a0).Kind) - 4)) ((idx ((idx a1.Txns a2).Ops) a0).Vals) (mat a3 ((idx ((idx a1.Txns a2).Ops) a0).Key))).bind fun a6=>bif a6.2 then jN a1 a2 a4 a5 a3 a0 a6 ((idx ((idx a1.Txns a2).Ops) a0).Kind == 5) else (jN a1 a2 a4 a5 a3 a0 a6 false) else (jM a1 a2 a4 a5 a3 a0 a7 true))) else (out (some (⟨a4,a5⟩:dL)))
noncomputable def aR (a0:dL) (a1:History) (a2:Int):Option dL :=
 must (0≤a2∧a2 < (a1.Txns.length:Int)) (bif ((idx a1.Txns a2).Status != 1) then some a0 else (iter (mE a1 a2) (a0.asks,a0.bad,[],0)))
noncomputable def sM (a0:History):(List Ask×List eZ×Int)→Option ((List Ask×List eZ×Int) ⊕ (dL×Int))
 | (a3,a4,a1)=>bif decide (a1 < (a0.Txns.length:Int)) then (aR (⟨a3,a4⟩:dL) a0 a1).bind fun a2=>some (.inl (a2.asks,a2.bad,w64 (a1 + 1))) else (out (some ((⟨a3,a4⟩:dL),0)))
noncomputable def jT (a0:History):Option (dL×Int) :=
 (aN a0).bind fun a1=>bif (a1 != 0) then some ((⟨([]:List Ask),([]:List eZ)⟩:dL),a1) else (iter (sM a0) ([],[],0))
noncomputable def oH (a0:History):Option (List Ask×Int) :=
 (jT a0).bind fun a1=>some (a1.1.asks,a1.2)
noncomputable def rQ (a0:History):Option (List eZ×Int) :=
 (jT a0).bind fun a1=>some (a1.1.bad,a1.2)
noncomputable def oW (a0:History) (a1:List Int) (a3:List (Int×Int)) (a2:Int) (a4:Bool):Option (((List (Int×Int))×Int) ⊕ (bN×Bool)) :=
 bif a4 then out (some ((⟨a0,a1,a3⟩:bN),false)) else (some (.inl (gN a3 (idx a1 a2) a2,w64 (a2 + 1))))
noncomputable def qJ (a0:History) (a1:List Int) (a4:List (Int×Int)) (a3:Int) (a2:Bool):Option (Int ⊕ (((List (Int×Int))×Int) ⊕ (bN×Bool))) :=
 bif a2 then out (out (some ((⟨a0,a1,a4⟩:bN),false))) else (some (.inl (w64 (a3 + 1))))
noncomputable def qK (a0:History) (a1:List Int) (a3:List (Int×Int)):Int→Option (Int ⊕ (((List (Int×Int))×Int) ⊕ (bN×Bool)))
 | a2=>bif decide (a2 < (a0.Txns.length:Int)) then must (0≤a2∧a2 < (a0.Txns.length:Int)) (bif !(kF a3 a2) then qJ a0 a1 a3 a2 ((idx a0.Txns a2).Status == 1) else (qJ a0 a1 a3 a2 false)) else (out (out (some ((⟨a0,a1,a3⟩:bN),true))))
noncomputable def uA (a0:History) (a1:List Int):((List (Int×Int))×Int)→Option (((List (Int×Int))×Int) ⊕ (bN×Bool))
 | (a3,a2)=>bif decide (a2 < (a1.length:Int)) then must (0≤a2∧a2 < (a1.length:Int)) (bif decide (idx a1 a2 < 0) then oW a0 a1 a3 a2 true else (bif decide (idx a1 a2 ≥ (a0.Txns.length:Int)) then oW a0 a1 a3 a2 true else (must (0≤idx a1 a2∧idx a1 a2 < (a0.Txns.length:Int)) (oW a0 a1 a3 a2 ((idx a0.Txns (idx a1 a2)).Status == 2))))) else (bif ((a3.length:Int) != (a1.length:Int)) then out (some ((⟨a0,a1,a3⟩:bN),false)) else (iter (qK a0 a1 a3) 0))
noncomputable def dO (a0:History) (a1:List Int):Option (bN×Bool) :=
 iter (uA a0 a1) ([],0)
noncomputable def iI (a1:Int) (a0:List (Int×Int)):Option (((List (Int×Int))×Int) ⊕ Bool) :=
 some (.inl (a0,w64 (a1 + 1)))
noncomputable def iJ (a0:bN) (a2:List (Int×Int)) (a1:Int) (a3:Bool):Option (((List (Int×Int))×Int) ⊕ Bool) :=
 bif a3 then out (some false) else (iI a1 (gN a2 ((idx a0.h.Txns a1).Proc) (yL (mat a0.at_ a1) (mat a2 ((idx a0.h.Txns a1).Proc)))))
noncomputable def ku (a0:bN):((List (Int×Int))×Int)→Option (((List (Int×Int))×Int) ⊕ Bool)
 | (a2,a1)=>bif decide (a1 < (a0.h.Txns.length:Int)) then must (0≤a1∧a1 < (a0.h.Txns.length:Int)) (bif !(kF a0.at_ a1) then iI a1 a2 else (bif kF a2 ((idx a0.h.Txns a1).Proc) then iJ a0 a2 a1 (decide (mat a2 ((idx a0.h.Txns a1).Proc) > mat a0.at_ a1)) else (iJ a0 a2 a1 false))) else (out (some true))
noncomputable def aX (a0:bN):Option Bool :=
 iter (ku a0) ([],0)
noncomputable def nI (a0:Int) (a1:List Int):Option ((List Int×Int) ⊕ (List Int)) :=
 some (.inl (a1,w64 (a0 + 1)))
noncomputable def nJ (a0:Txn) (a1:List Int) (a2:Int) (a3:Bool):Option ((List Int×Int) ⊕ (List Int)) :=
 bif a3 then must (((a1.length + 1) + (a1.length + 1) / 4 + 192) * 8≤281474976710656∧a1.length + 1≤9223372036854775807) (nI a2 (a1++([(idx a0.Ops a2).Arg]:List Int))) else (nI a2 a1)
noncomputable def qd (a0:Txn) (a1:Int):(List Int×Int)→Option ((List Int×Int) ⊕ (List Int))
 | (a3,a2)=>bif decide (a2 < (a0.Ops.length:Int)) then must (0≤a2∧a2 < (a0.Ops.length:Int)) (bif ((idx a0.Ops a2).Key == a1) then nJ a0 a3 a2 (decide ((idx a0.Ops a2).Kind≤4)) else (nJ a0 a3 a2 false)) else (out (some a3))
noncomputable def dA (a0:Txn) (a1:Int):Option (List Int) :=
 iter (qd a0 a1) ([],0)
noncomputable def lI (a0:History) (a1:Int) (a2:Int) (a4:Bool):Option (List Int×Bool) :=
 bif a4 then some (([]:List Int),false) else (must (0≤a1∧a1 < (a0.Txns.length:Int)) ((dA (idx a0.Txns a1) a2).bind fun a3=>some (a3,decide ((a3.length:Int) > 0))))
noncomputable def fV (a0:History) (a1:Int) (a2:Int):Option (List Int×Bool) :=
 bif decide (a1 < 0) then lI a0 a1 a2 true else (bif decide (a1 ≥ (a0.Txns.length:Int)) then lI a0 a1 a2 true else ((aN a0).bind fun a3=>lI a0 a1 a2 (a3 != 0)))
noncomputable def jO (a0:bN) (a1:Ask) (a2:Int) (b9:Bool):Option Bool :=
 bif b9 then some false else ((fV a0.h a2 a1.Key).bind fun a3=>some a3.2)
noncomputable def dS (a0:bN) (a1:Ask) (a2:Int):Option Bool :=
 bif !(kF a0.at_ a2) then jO a0 a1 a2 true else (jO a0 a1 a2 (decide (mat a0.at_ a2 ≥ mat a0.at_ a1.Txn)))
noncomputable def ry (a0:History) (a1:Int) (a3:Int):Int→Option (Int ⊕ (Int ⊕ Int))
 | a2=>bif decide (a2 < (((idx a0.Txns a3).Ops).length:Int)) then must (0≤a2∧a2 < (((idx a0.Txns a3).Ops).length:Int)) (bif ((idx ((idx a0.Txns a3).Ops) a2).Key == a1) then (lW ((idx ((idx a0.Txns a3).Ops) a2).Kind)).bind fun a4=>out (out (some a4)) else (some (.inl (w64 (a2 + 1))))) else (out (some (.inl (w64 (a3 + 1)))))
noncomputable def rz (a0:History) (a1:Int):Int→Option (Int ⊕ Int)
 | a2=>bif decide (a2 < (a0.Txns.length:Int)) then must (0≤a2∧a2 < (a0.Txns.length:Int)) (iter (ry a0 a1 a2) 0) else (out (some 0))
noncomputable def dW (a0:History) (a1:Int):Option Int :=
 (aN a0).bind fun y8=>bif (y8 != 0) then some 0 else (iter (rz a0 a1) 0)
noncomputable def nK (a0:List Int):Option (List Int):=must (a0.length < 4611686018427387904) (some (a0.mergeSort fun x y=>decide (x≤y)))
noncomputable def iT (a0:List Int):Option (List Int) :=
 some a0
noncomputable def kN (a1:List Int):(Int×Int)→Option ((Int×Int) ⊕ (List Int))
 | (a2,a0)=>bif decide (a0 < (a1.length:Int)) then must (0≤a0∧a0 < (a1.length:Int)) (some (.inl (w64 (a2 + (idx a1 a0)),w64 (a0 + 1)))) else (out (some ([a2]:List Int)))
noncomputable def gF (a0:bN) (a1:Int) (a2:List Int):Option (List Int) :=
 (dW a0.h a1).bind fun a3=>bif (a3 == 1) then must (0≤(yL 0 (w64 ((a2.length:Int) - 1)))∧(yL 0 (w64 ((a2.length:Int) - 1)))≤(a2.length:Int)∧(a2.length:Int)≤(a2.length:Int)) (some (dh a2 (yL 0 (w64 ((a2.length:Int) - 1))) (a2.length:Int))) else (bif (a3 == 3) then (nK a2).bind fun a4=>iT a4 else (bif (a3 == 4) then iter (kN a2) (0,0) else (iT a2)))
noncomputable def iU (a0:Int) (a1:List Int):Option ((List Int×Int) ⊕ ((List Int×Int) ⊕ (List Int))) :=
 some (.inl (a1,w64 (a0 + 1)))
noncomputable def iV (a0:bN) (a2:Int) (a4:Int) (a1:List Int) (a3:Int) (a5:Bool):Option ((List Int×Int) ⊕ ((List Int×Int) ⊕ (List Int))) :=
 bif a5 then must (((a1.length + 1) + (a1.length + 1) / 4 + 192) * 8≤281474976710656∧a1.length + 1≤9223372036854775807) (iU a3 (a1++([(idx ((idx a0.h.Txns (idx (dh a0.order (0:Int) (w64 ((mat a0.at_ a2) + 1))) a4)).Ops) a3).Arg]:List Int))) else (iU a3 a1)
noncomputable def kP (a0:bN) (a1:Int) (a2:Int) (a3:Int):(List Int×Int)→Option ((List Int×Int) ⊕ ((List Int×Int) ⊕ (List Int)))
 | (a5,a4)=>bif decide (a4 < (((idx a0.h.Txns (idx (dh a0.order (0:Int) (w64 ((mat a0.at_ a2) + 1))) a3)).Ops).length:Int)) then must (0≤a4∧a4 < (((idx a0.h.Txns (idx (dh a0.order (0:Int) (w64 ((mat a0.at_ a2) + 1))) a3)).Ops).length:Int)) (bif ((idx ((idx a0.h.Txns (idx (dh a0.order (0:Int) (w64 ((mat a0.at_ a2) + 1))) a3)).Ops) a4).Key == a1) then iV a0 a2 a3 a5 a4 (decide ((idx ((idx a0.h.Txns (idx (dh a0.order (0:Int) (w64 ((mat a0.at_ a2) + 1))) a3)).Ops) a4).Kind≤4)) else (iV a0 a2 a3 a5 a4 false)) else (out (some (.inl (a5,w64 (a3 + 1)))))
noncomputable def kQ (a0:bN) (a1:Int) (a2:Int):(List Int×Int)→Option ((List Int×Int) ⊕ (List Int))
 | (a4,a3)=>bif decide (a3 < ((dh a0.order (0:Int) (w64 ((mat a0.at_ a2) + 1))).length:Int)) then must (0≤a3∧a3 < ((dh a0.order (0:Int) (w64 ((mat a0.at_ a2) + 1))).length:Int)) (must (0≤idx (dh a0.order (0:Int) (w64 ((mat a0.at_ a2) + 1))) a3∧idx (dh a0.order (0:Int) (w64 ((mat a0.at_ a2) + 1))) a3 < (a0.h.Txns.length:Int)) (iter (kP a0 a1 a2 a3) (a4,0))) else (out (gF a0 a1 a4))
noncomputable def aB (a0:bN) (a1:Int) (a2:Int):Option (List Int) :=
 bif decide (a2 ≥ 0) then must (0≤(0:Int)∧(0:Int)≤(w64 ((mat a0.at_ a2) + 1))∧(w64 ((mat a0.at_ a2) + 1))≤(a0.order.length:Int)) (iter (kQ a0 a1 a2) ([],0)) else (gF a0 a1 [])
noncomputable def qL (a1:Exec) (a2:List Ask×Int) (a4:bN×Bool) (a0:Int) (a3:Bool):Option (Int ⊕ (Int×Int)) :=
 bif a3 then out (some (5,0)) else (must (0≤a0∧a0 < (a1.Picks.length:Int)) ((aB a4.1 ((idx a2.1 a0).Key) (idx a1.Picks a0)).bind fun a5=>(di a5 ((idx a2.1 a0).Base)).bind fun a6=>bif !a6 then out (some (6,0)) else (some (.inl (w64 (a0 + 1))))))
noncomputable def qM (a1:Exec) (a2:List Ask×Int) (a3:bN×Bool):Int→Option (Int ⊕ (Int×Int))
 | a0=>bif decide (a0 < (a2.1.length:Int)) then must (0≤a0∧a0 < (a2.1.length:Int)) (must (0≤a0∧a0 < (a1.Picks.length:Int)) (bif (idx a1.Picks a0 != (-1)) then (dS a3.1 (idx a2.1 a0) (idx a1.Picks a0)).bind fun a4=>qL a1 a2 a3 a0 (!a4) else (qL a1 a2 a3 a0 false))) else (out (some (0,0)))
noncomputable def fw (a0:History) (a1:Exec):Option (Int×Int) :=
 (oH a0).bind fun a2=>bif (a2.2 != 0) then some (0,a2.2) else ((rQ a0).bind fun a4=>bif decide ((a4.1.length:Int) > 0) then some (1,0) else ((dO a0 a1.Order).bind fun a3=>bif !a3.2 then some (2,0) else (bif ((a1.Picks.length:Int) != (a2.1.length:Int)) then some (3,0) else ((aX a3.1).bind fun a5=>bif !a5 then some (4,0) else (iter (qM a1 a2 a3) 0)))))
noncomputable def sN (a0:Int) (a1:Bool):Option (Int ⊕ (Int ⊕ Bool)) :=
 bif a1 then out (out (some false)) else (some (.inl (w64 (a0 + 1))))
noncomputable def wO (a0:History) (a1:List Int) (a2:Int):Int→Option (Int ⊕ (Int ⊕ Bool))
 | a3=>bif decide (a3 < ((dh a1 (w64 (a2 + 1)) (a1.length:Int)).length:Int)) then must (0≤a3∧a3 < ((dh a1 (w64 (a2 + 1)) (a1.length:Int)).length:Int)) (must (0≤idx (dh a1 (w64 (a2 + 1)) (a1.length:Int)) a3∧idx (dh a1 (w64 (a2 + 1)) (a1.length:Int)) a3 < (a0.Txns.length:Int)) (bif ((idx a0.Txns (idx (dh a1 (w64 (a2 + 1)) (a1.length:Int)) a3)).Status == 1) then must (0≤idx a1 a2∧idx a1 a2 < (a0.Txns.length:Int)) (sN a3 (decide ((idx a0.Txns (idx (dh a1 (w64 (a2 + 1)) (a1.length:Int)) a3)).To < (idx a0.Txns (idx a1 a2)).From))) else (sN a3 false))) else (out (some (.inl (w64 (a2 + 1)))))
noncomputable def wP (a0:History) (a1:List Int) (a3:bN×Bool):Int→Option (Int ⊕ Bool)
 | a2=>bif decide (a2 < (a1.length:Int)) then must (0≤a2∧a2 < (a1.length:Int)) (must (0≤(w64 (a2 + 1))∧(w64 (a2 + 1))≤(a1.length:Int)∧(a1.length:Int)≤(a1.length:Int)) (iter (wO a0 a1 a2) 0)) else (out (some ((a3.1.order.length:Int) == (a1.length:Int))))
noncomputable def iw (a0:History) (a1:List Int):Option Bool :=
 (aN a0).bind fun y8=>bif (y8 != 0) then some false else ((dO a0 a1).bind fun a2=>bif !a2.2 then some false else (iter (wP a0 a1 a2) 0))
noncomputable def lc:Option Bool :=
 (fw (⟨([(⟨#[120]⟩:ByteArray)]:List ByteArray),([(⟨0,1,0,1,([(⟨1,0,5,false,([]:List Int)⟩:Op)]:List Op)⟩:Txn),(⟨1,1,2,3,([(⟨5,0,0,true,([5]:List Int)⟩:Op)]:List Op)⟩:Txn)]:List Txn)⟩:History) (⟨([0,1]:List Int),([0]:List Int)⟩:Exec)).bind fun a1=>(fw (⟨([(⟨#[120]⟩:ByteArray)]:List ByteArray),([(⟨0,1,0,1,([(⟨1,0,5,false,([]:List Int)⟩:Op)]:List Op)⟩:Txn),(⟨1,1,2,3,([(⟨5,0,0,true,([5]:List Int)⟩:Op)]:List Op)⟩:Txn)]:List Txn)⟩:History) (⟨([1,0]:List Int),([0]:List Int)⟩:Exec)).bind fun a0=>bif (a1.1 == 0) then bif (a1.2 == 0) then bif (a0.1 == 5) then bif (a0.2 == 0) then (iw (⟨([(⟨#[120]⟩:ByteArray)]:List ByteArray),([(⟨0,1,0,1,([(⟨1,0,5,false,([]:List Int)⟩:Op)]:List Op)⟩:Txn),(⟨1,1,2,3,([(⟨5,0,0,true,([5]:List Int)⟩:Op)]:List Op)⟩:Txn)]:List Txn)⟩:History) ([0,1]:List Int)).bind fun a2=>bif a2 then (iw (⟨([(⟨#[120]⟩:ByteArray)]:List ByteArray),([(⟨0,1,0,1,([(⟨1,0,5,false,([]:List Int)⟩:Op)]:List Op)⟩:Txn),(⟨1,1,2,3,([(⟨5,0,0,true,([5]:List Int)⟩:Op)]:List Op)⟩:Txn)]:List Txn)⟩:History) ([1,0]:List Int)).bind fun a3=>some (!a3) else (some false) else (some false) else (some false) else (some false) else (some false)
noncomputable def mF (a0:List ByteArray) (a1:ByteArray):Int→Option (Int ⊕ Int)
 | a2=>bif decide (a2 < (a0.length:Int)) then must (0≤a2∧a2 < (a0.length:Int)) (bif sEq (idx a0 a2) a1 then out (some a2) else (some (.inl (w64 (a2 + 1))))) else (out (some (-1)))
noncomputable def dM (a0:List ByteArray) (a1:ByteArray):Option Int :=
 iter (mF a0 a1) 0
noncomputable def gW (a1:Int) (a0:Bool):Option (Int ⊕ Bool) :=
 bif a0 then out (some false) else (some (.inl (w64 (a1 + 1))))
noncomputable def lJ (a0:List ByteArray):Int→Option (Int ⊕ Bool)
 | a1=>bif decide (a1 < (a0.length:Int)) then must (0≤a1∧a1 < (a0.length:Int)) (bif decide (((idx a0 a1).size:Int) < 1) then gW a1 true else (bif decide (((idx a0 a1).size:Int) > 32) then gW a1 true else (must (0≤(0:Int)∧(0:Int)≤a1∧a1≤(a0.length:Int)) ((dM (dh a0 (0:Int) a1) (idx a0 a1)).bind fun a2=>gW a1 (decide (a2 ≥ 0)))))) else (out (some (decide ((a0.length:Int)≤32))))
noncomputable def bP (a0:List ByteArray):Option Bool :=
 iter (lJ a0) 0
noncomputable def gG (a1:Int) (a0:Bool):Option (Int ⊕ Bool) :=
 bif a0 then out (some false) else (some (.inl (w64 (a1 + 1))))
noncomputable def iW (a0:List Txn) (a1:Int):Int→Option (Int ⊕ Bool)
 | a2=>bif decide (a2 < a1) then must (0≤a2∧a2 < (a0.length:Int)) (bif ((idx a0 a2).Proc == (idx a0 a1).Proc) then bif ((idx a0 a2).To == (-1)) then gG a2 true else (gG a2 (decide ((idx a0 a2).To ≥ (idx a0 a1).From))) else (gG a2 false)) else (out (some true))
noncomputable def iX (a0:List Txn) (a1:Int) (a2:Bool):Option Bool :=
 bif a2 then some false else (iter (iW a0 a1) 0)
noncomputable def cB (a0:List Txn) (a1:Int) (a2:Bool):Option Bool :=
 bif a2 then some false else (bif decide (a1 > 0) then must (0≤w64 (a1 - 1)∧w64 (a1 - 1) < (a0.length:Int)) (iX a0 a1 (decide ((idx a0 a1).From≤(idx a0 (w64 (a1 - 1))).From))) else (iX a0 a1 false))
noncomputable def aK (a0:List Txn) (a1:Int):Option Bool :=
 must (0≤a1∧a1 < (a0.length:Int)) (bif decide ((idx a0 a1).Status < 1) then cB a0 a1 true else (bif decide ((idx a0 a1).Status > 3) then cB a0 a1 true else (bif decide ((idx a0 a1).From < 0) then cB a0 a1 true else (bif ((idx a0 a1).To != (-1)) then bif decide ((idx a0 a1).To≤(idx a0 a1).From) then cB a0 a1 true else (bif ((idx a0 a1).To == (-1)) then cB a0 a1 ((idx a0 a1).Status != 3) else (cB a0 a1 false)) else (bif ((idx a0 a1).To == (-1)) then cB a0 a1 ((idx a0 a1).Status != 3) else (cB a0 a1 false))))))
noncomputable def iE (a0:Call):Option Bool :=
 some (decide ((a0.Vals.length:Int)≤64))
noncomputable def jP (a0:Call):Int→Option (Int ⊕ Bool)
 | a1=>bif decide (a1 < (a0.Vals.length:Int)) then must (0≤a1∧a1 < (a0.Vals.length:Int)) (must (0≤w64 (a1 - 1)∧w64 (a1 - 1) < (a0.Vals.length:Int)) (bif decide (idx a0.Vals a1≤idx a0.Vals (w64 (a1 - 1))) then out (some false) else (some (.inl (w64 (a1 + 1)))))) else (out (iE a0))
noncomputable def fT (a0:Call) (a1:Bool):Option Bool :=
 bif a1 then some false else (bif (a0.Kind == 5) then some (decide ((a0.Vals.length:Int)≤1)) else (bif (a0.Kind == 8) then bif !a0.Got then some true else (some ((a0.Vals.length:Int) == 1)) else (bif (a0.Kind == 7) then iter (jP a0) 1 else (iE a0))))
noncomputable def fU (a0:Call) (a1:Int) (a2:Bool):Option Bool :=
 bif a2 then some false else (bif decide (a0.Kind≤4) then bif !a0.Got then bif ((a0.Vals.length:Int) == 0) then bif (a0.Kind != 4) then some true else (bif decide (a0.Arg ≥ (-1048576)) then some (decide (a0.Arg≤1048576)) else (some false)) else (some false) else (some false) else (bif (a0.Arg != 0) then fT a0 true else (bif (a0.Got != (a1 == 1)) then fT a0 true else (bif !a0.Got then fT a0 (decide ((a0.Vals.length:Int) > 0)) else (fT a0 false)))))
noncomputable def aO (a0:Call) (a1:Int):Option Bool :=
 bif decide (a0.Kind < 1) then fU a0 a1 true else (bif decide (a0.Kind > 8) then fU a0 a1 true else (bif decide ((a0.Key.size:Int) < 1) then fU a0 a1 true else (fU a0 a1 (decide ((a0.Key.size:Int) > 32)))))
noncomputable def jv (a0:Event):Int→Option (Int ⊕ Bool)
 | a1=>bif decide (a1 < (a0.Calls.length:Int)) then must (0≤a1∧a1 < (a0.Calls.length:Int)) ((aO (idx a0.Calls a1) a0.Kind).bind fun a2=>bif !a2 then out (some false) else (some (.inl (w64 (a1 + 1))))) else (out (some true))
noncomputable def gX (a0:Event) (b9:Bool):Option Bool :=
 bif b9 then some false else (iter (jv a0) 0)
noncomputable def bH (a0:Event):Option Bool :=
 bif decide (a0.Kind < 0) then gX a0 true else (bif decide (a0.Kind > 3) then gX a0 true else (gX a0 (decide ((a0.Calls.length:Int) > 16))))
noncomputable def lK (a0:List Event):Int→Option (Int ⊕ Int)
 | a1=>bif decide (a1 < (a0.length:Int)) then must (0≤a1∧a1 < (a0.length:Int)) ((bH (idx a0 a1)).bind fun a2=>bif !a2 then out (some 1) else (some (.inl (w64 (a1 + 1))))) else (out (some 0))
noncomputable def dX (a0:List Event):Option Int :=
 bif decide ((a0.length:Int) > 256) then some 1 else (iter (lK a0) 0)
noncomputable def fA (a0:Int):Option Int :=
 some (w64 (((w64 (a0 - 1)).tmod (4:Int)) + 1))
noncomputable def eP (a4:List ByteArray) (a3:List Int) (a0:List (List Int)) (a2:List Int) (a1:List Int):Option (Int×aD) :=
 some (0,(⟨a4,a3,a0,a2,a1⟩:aD))
noncomputable def eQ (a2:Int) (a6:List ByteArray) (a5:List Int) (a1:List Int) (a3:List Int) (a0:Int) (a4:List (List Int)) (a7:Bool):Option (Int×aD) :=
 bif a7 then must (0≤a0∧a0 < (a3.length:Int)) (must (0≤a0∧a0 < (a1.length:Int)) (bif decide (idx (a1.set a0.toNat (w64 ((idx a1 a0) + 1))) a0 > 8) then some (51,(⟨a6,a5,a4,a1.set a0.toNat (w64 ((idx a1 a0) + 1)),a3.set a0.toNat a2⟩:aD)) else (eP a6 a5 a4 (a1.set a0.toNat (w64 ((idx a1 a0) + 1))) (a3.set a0.toNat a2)))) else (eP a6 a5 a4 a1 a3)
noncomputable def dQ (a1:Call) (a2:Int) (a7:List ByteArray) (a6:List Int) (a5:List Int) (a3:List Int) (a0:Int) (a4:List (List Int)):Option (Int×aD) :=
 bif (a1.Kind == 4) then must (0≤a0∧a0 < (a3.length:Int)) (eQ a2 a7 a6 a5 a3 a0 a4 (idx a3 a0 != a2)) else (eQ a2 a7 a6 a5 a3 a0 a4 false)
noncomputable def fZ (a1:Call) (a2:Int) (a8:List ByteArray) (a7:List Int) (a3:List (List Int)) (a5:List Int) (a6:List Int) (a0:Int):Int→Option (Int ⊕ (Int×aD))
 | a4=>must (0≤a0∧a0 < (a3.length:Int)) (bif decide (a4 < ((idx a3 a0).length:Int)) then must (0≤a4∧a4 < ((idx a3 a0).length:Int)) (bif (idx (idx a3 a0) a4 == a1.Arg) then out (some (3,(⟨a8,a7,a3,a5,a6⟩:aD))) else (some (.inl (w64 (a4 + 1))))) else (must (((((idx a3 a0).length) + 1) + (((idx a3 a0).length) + 1) / 4 + 192) * 8≤281474976710656∧((idx a3 a0).length) + 1≤9223372036854775807) (out (dQ a1 a2 a8 a7 a5 a6 a0 (a3.set a0.toNat ((idx a3 a0)++([a1.Arg]:List Int)))))))
noncomputable def gm (a1:Call) (a2:Int) (a7:List ByteArray) (a6:List Int) (a0:List (List Int)) (a4:List Int) (a5:List Int) (a3:Int) (a8:Bool):Option (Int×aD) :=
 bif a8 then iter (fZ a1 a2 a7 a6 a0 a4 a5 a3) 0 else (dQ a1 a2 a7 a6 a4 a5 a3 a0)
noncomputable def dB (a1:Call) (a2:Int) (a7:List ByteArray) (a3:List Int) (a4:List (List Int)) (a5:List Int) (a6:List Int) (a0:Int):Option (Int×aD) :=
 must (0≤a0∧a0 < (a3.length:Int)) ((fA a1.Kind).bind fun a8=>bif (idx a3 a0 != a8) then some (50,(⟨a7,a3,a4,a5,a6⟩:aD)) else (bif (a1.Kind == 2) then gm a1 a2 a7 a3 a4 a5 a6 a0 true else (gm a1 a2 a7 a3 a4 a5 a6 a0 (a1.Kind == 3))))
noncomputable def gp (a0:aD) (a1:Call) (a2:Int) (a3:List Int):Option (Int×aD) :=
 must (((a0.wrote.length + 1) + (a0.wrote.length + 1) / 4 + 192) * 24≤281474976710656∧a0.wrote.length + 1≤9223372036854775807) (must (((a0.incs.length + 1) + (a0.incs.length + 1) / 4 + 192) * 8≤281474976710656∧a0.incs.length + 1≤9223372036854775807) (must (((a0.last_.length + 1) + (a0.last_.length + 1) / 4 + 192) * 8≤281474976710656∧a0.last_.length + 1≤9223372036854775807) (dB a1 a2 (a0.keys++([a1.Key]:List ByteArray)) a3 (a0.wrote++([([]:List Int)]:List (List Int))) (a0.incs++([0]:List Int)) (a0.last_++([(-1)]:List Int)) (a0.keys.length:Int))))
noncomputable def gq (a0:aD) (a1:Call) (a2:Int):Option (Int×aD) :=
 (fA a1.Kind).bind fun a3=>must (((a0.types.length + 1) + (a0.types.length + 1) / 4 + 192) * 8≤281474976710656∧a0.types.length + 1≤9223372036854775807) (gp a0 a1 a2 (a0.types++([a3]:List Int)))
noncomputable def ag (a0:aD) (a1:Call) (a2:Int):Option (Int×aD) :=
 (dM a0.keys a1.Key).bind fun y5=>bif decide (y5 < 0) then bif decide ((a0.keys.length:Int) ≥ 32) then some (2,a0) else (must (((a0.keys.length + 1) + (a0.keys.length + 1) / 4 + 192) * 16≤281474976710656∧a0.keys.length + 1≤9223372036854775807) (gq a0 a1 a2)) else (dB a1 a2 a0.keys a0.types a0.wrote a0.incs a0.last_ y5)
noncomputable def lL (a0:History) (a2:Int) (a3:List Call) (a1:Int):Option ((List Call×Int) ⊕ ((List ByteArray×List Int×(List (List Int))×List Int×List Int×Int) ⊕ Int)) :=
 some (.inl (a3++([(⟨(idx ((idx a0.Txns a2).Ops) a1).Kind,idx a0.Keys ((idx ((idx a0.Txns a2).Ops) a1).Key),(idx ((idx a0.Txns a2).Ops) a1).Arg,(idx ((idx a0.Txns a2).Ops) a1).Got,(idx ((idx a0.Txns a2).Ops) a1).Vals⟩:Call)]:List Call),w64 (a1 + 1)))
noncomputable def jw (a0:History) (a3:Int) (a1:List Call) (a2:Int) (a4:Bool):Option ((List Call×Int) ⊕ ((List ByteArray×List Int×(List (List Int))×List Int×List Int×Int) ⊕ Int)) :=
 bif a4 then out (out (some 1)) else (must (0≤(idx ((idx a0.Txns a3).Ops) a2).Key∧(idx ((idx a0.Txns a3).Ops) a2).Key < (a0.Keys.length:Int)) (must (((a1.length + 1) + (a1.length + 1) / 4 + 192) * 64≤281474976710656∧a1.length + 1≤9223372036854775807) (lL a0 a3 a1 a2)))
noncomputable def ed (a3:Int) (a2:List Call):(List ByteArray×List Int×(List (List Int))×List Int×List Int×Int)→Option ((List ByteArray×List Int×(List (List Int))×List Int×List Int×Int) ⊕ ((List Call×Int) ⊕ ((List ByteArray×List Int×(List (List Int))×List Int×List Int×Int) ⊕ Int)))
 | (a4,a8,a7,a6,a5,a1)=>bif decide (a1 < (a2.length:Int)) then must (0≤a1∧a1 < (a2.length:Int)) ((ag (⟨a4,a8,a7,a6,a5⟩:aD) (idx a2 a1) a3).bind fun a0=>bif (a0.1 != 0) then out (out (out (some 1))) else (some (.inl (a0.2.keys,a0.2.types,a0.2.wrote,a0.2.incs,a0.2.last_,w64 (a1 + 1))))) else (out (out (some (.inl (a4,a8,a7,a6,a5,w64 (a3 + 1))))))
noncomputable def eu (a0:History) (a8:List ByteArray) (a6:List Int) (a4:List (List Int)) (a5:List Int) (a9:List Int) (a1:Int):(List Call×Int)→Option ((List Call×Int) ⊕ ((List ByteArray×List Int×(List (List Int))×List Int×List Int×Int) ⊕ Int))
 | (a3,a2)=>bif decide (a2 < (((idx a0.Txns a1).Ops).length:Int)) then must (0≤a2∧a2 < (((idx a0.Txns a1).Ops).length:Int)) (bif decide ((idx ((idx a0.Txns a1).Ops) a2).Key < 0) then jw a0 a1 a3 a2 true else (jw a0 a1 a3 a2 (decide ((idx ((idx a0.Txns a1).Ops) a2).Key ≥ (a0.Keys.length:Int))))) else ((dX ([(⟨0,(idx a0.Txns a1).Status,a3⟩:Event)]:List Event)).bind fun a7=>bif (a7 != 0) then out (out (some 1)) else (iter (ed a1 a3) (a8,a6,a4,a5,a9,0)))
noncomputable def gY (a0:History) (a5:List ByteArray) (a4:List Int) (a1:List (List Int)) (a3:List Int) (a7:List Int) (a2:Int) (a6:Bool):Option ((List ByteArray×List Int×(List (List Int))×List Int×List Int×Int) ⊕ Int) :=
 bif a6 then out (some 1) else (iter (eu a0 a5 a4 a1 a3 a7 a2) ([],0))
noncomputable def gZ (a0:History):(List ByteArray×List Int×(List (List Int))×List Int×List Int×Int)→Option ((List ByteArray×List Int×(List (List Int))×List Int×List Int×Int) ⊕ Int)
 | (a5,a4,a2,a3,a6,a1)=>bif decide (a1 < (a0.Txns.length:Int)) then must (0≤a1∧a1 < (a0.Txns.length:Int)) ((aK a0.Txns a1).bind fun a7=>bif !a7 then gY a0 a5 a4 a2 a3 a6 a1 true else (gY a0 a5 a4 a2 a3 a6 a1 (decide ((((idx a0.Txns a1).Ops).length:Int) > 16)))) else (out (some 0))
noncomputable def fG (a0:History) (a1:Bool):Option Int :=
 bif a1 then some 1 else (iter (gZ a0) ([],[],[],[],[],0))
noncomputable def ak (a0:History):Option Int :=
 (bP a0.Keys).bind fun a1=>bif !a1 then fG a0 true else (fG a0 (decide ((a0.Txns.length:Int) > 32)))
noncomputable def eB (a0:Int):Option Bool :=
 some (decide (a0≤4))
noncomputable def dD (a0:Bool):Option Int :=
 bif !a0 then some 80 else (some 0)
noncomputable def lM (a0:Int) (a1:Bool):Option ((Bool×Int) ⊕ Int) :=
 some (.inl (a1,w64 (a0 + 1)))
noncomputable def jy (a1:List Int):(Bool×Int)→Option ((Bool×Int) ⊕ Int)
 | (a2,a0)=>bif decide (a0 < (a1.length:Int)) then bif a2 then must (0≤w64 (a0 - 1)∧w64 (a0 - 1) < (a1.length:Int)) (must (0≤a0∧a0 < (a1.length:Int)) (lM a0 (decide (idx a1 (w64 (a0 - 1)) < idx a1 a0)))) else (lM a0 false) else (out (dD a2))
noncomputable def dE (a0:Int) (a1:List Int) (b5:Bool):Option Int :=
 bif b5 then some 1 else (bif (a0 == 1) then dD (decide ((a1.length:Int)≤1)) else (bif (a0 == 4) then dD ((a1.length:Int) == 1) else (bif (a0 == 3) then iter (jy a1) (decide ((a1.length:Int)≤64),1) else (dD (decide ((a1.length:Int)≤64))))))
noncomputable def aH (a0:Int) (a1:List Int):Option Int :=
 bif decide (a0 < 1) then dE a0 a1 true else (dE a0 a1 (decide (a0 > 4)))
noncomputable def nL (a0:List Int) (a1:Int):Int→Option (Int ⊕ Bool)
 | a2=>bif decide (a2 < (a0.length:Int)) then must (0≤a2∧a2 < (a0.length:Int)) (bif (idx a0 a2 == a1) then out (some true) else (some (.inl (w64 (a2 + 1))))) else (out (some false))
noncomputable def eD (a0:List Int) (a1:Int):Option Bool :=
 iter (nL a0 a1) 0
noncomputable def oo (a2:List Int):(Int×Int)→Option ((Int×Int) ⊕ (List Int×Bool))
 | (a1,a0)=>bif decide (a0 < (a2.length:Int)) then must (0≤a0∧a0 < (a2.length:Int)) (some (.inl (w64 (a1 - (idx a2 a0)),w64 (a0 + 1)))) else (out (some (([a1]:List Int),true)))
noncomputable def iY (a1:List Int) (a2:List Int):Int→Option (Int ⊕ (List Int×Bool))
 | a0=>bif decide (a0 < (a2.length:Int)) then must (0≤w64 ((w64 ((a1.length:Int) - (a2.length:Int))) + a0)∧w64 ((w64 ((a1.length:Int) - (a2.length:Int))) + a0) < (a1.length:Int)) (must (0≤a0∧a0 < (a2.length:Int)) (bif (idx a1 (w64 ((w64 ((a1.length:Int) - (a2.length:Int))) + a0)) != idx a2 a0) then out (some (([]:List Int),false)) else (some (.inl (w64 (a0 + 1)))))) else (must (0≤(0:Int)∧(0:Int)≤(w64 ((a1.length:Int) - (a2.length:Int)))∧(w64 ((a1.length:Int) - (a2.length:Int)))≤(a1.length:Int)) (must (((0 + ((dh a1 (0:Int) (w64 ((a1.length:Int) - (a2.length:Int)))).length)) + (0 + ((dh a1 (0:Int) (w64 ((a1.length:Int) - (a2.length:Int)))).length)) / 4 + 192) * 8≤281474976710656∧0 + ((dh a1 (0:Int) (w64 ((a1.length:Int) - (a2.length:Int)))).length)≤9223372036854775807) (out (some (([]:List Int)++(dh a1 (0:Int) (w64 ((a1.length:Int) - (a2.length:Int)))),true)))))
noncomputable def gH (a0:Int) (a1:Bool):Option (Int ⊕ (List Int×Bool)) :=
 bif a1 then out (some (([]:List Int),false)) else (some (.inl (w64 (a0 + 1))))
noncomputable def kR (a0:Int) (a1:List Int):Option ((List Int×Int) ⊕ (Int ⊕ (List Int×Bool))) :=
 some (.inl (a1,w64 (a0 + 1)))
noncomputable def iZ (a1:List Int) (a2:List Int):(List Int×Int)→Option ((List Int×Int) ⊕ (Int ⊕ (List Int×Bool)))
 | (a3,a0)=>bif decide (a0 < (a1.length:Int)) then must (0≤a0∧a0 < (a1.length:Int)) ((eD a2 (idx a1 a0)).bind fun a4=>bif !a4 then must (((a3.length + 1) + (a3.length + 1) / 4 + 192) * 8≤281474976710656∧a3.length + 1≤9223372036854775807) (kR a0 (a3++([idx a1 a0]:List Int))) else (kR a0 a3)) else (out (out (some (a3,true))))
noncomputable def ja (a1:List Int) (a2:List Int):Int→Option (Int ⊕ (List Int×Bool))
 | a0=>bif decide (a0 < (a2.length:Int)) then must (0≤a0∧a0 < (a2.length:Int)) ((eD a1 (idx a2 a0)).bind fun a3=>bif !a3 then gH a0 true else (must (0≤(0:Int)∧(0:Int)≤a0∧a0≤(a2.length:Int)) ((eD (dh a2 (0:Int) a0) (idx a2 a0)).bind fun a4=>gH a0 a4))) else (iter (iZ a1 a2) ([],0))
noncomputable def fe (a0:Int) (a1:List Int) (a2:List Int) (b9:Bool):Option (List Int×Bool) :=
 bif b9 then some (([]:List Int),false) else (bif (a0 == 1) then bif ((a1.length:Int) == 1) then must (0≤(0:Int)∧(0:Int) < (a1.length:Int)) (must (0≤w64 ((a2.length:Int) - 1)∧w64 ((a2.length:Int) - 1) < (a2.length:Int)) (some (([]:List Int),(idx a1 (0:Int) == idx a2 (w64 ((a2.length:Int) - 1)))))) else (some (([]:List Int),false)) else (bif (a0 == 4) then must (0≤(0:Int)∧(0:Int) < (a1.length:Int)) (iter (oo a2) (idx a1 (0:Int),0)) else (bif (a0 == 2) then bif decide ((a2.length:Int) > (a1.length:Int)) then some (([]:List Int),false) else (iter (iY a1 a2) 0) else (iter (ja a1 a2) 0))))
noncomputable def aC (a0:Int) (a1:List Int) (a2:List Int):Option (List Int×Bool) :=
 (aH a0 a1).bind fun a3=>bif (a3 != 0) then fe a0 a1 a2 true else (fe a0 a1 a2 ((a2.length:Int) == 0))
noncomputable def fK (a0:Int) (a2:List Ask) (a1:List eZ):Option ((List Ask×List eZ×Int) ⊕ (List Ask×List eZ)) :=
 some (.inl (a2,a1,w64 (a0 + 1)))
noncomputable def lg (a0:Int) (a1:List Int):Option ((List Int×Int) ⊕ ((List Ask×List eZ×Int) ⊕ (List Ask×List eZ))) :=
 some (.inl (a1,w64 (a0 + 1)))
noncomputable def lh (a0:History) (a1:Int) (a3:List Int) (a2:Int) (a4:Bool):Option ((List Int×Int) ⊕ ((List Ask×List eZ×Int) ⊕ (List Ask×List eZ))) :=
 bif a4 then must (0≤a2∧a2 < (((idx a0.Txns a1).Ops).length:Int)) (must (((a3.length + 1) + (a3.length + 1) / 4 + 192) * 8≤281474976710656∧a3.length + 1≤9223372036854775807) (lg a2 (a3++([(idx ((idx a0.Txns a1).Ops) a2).Arg]:List Int)))) else (lg a2 a3)
noncomputable def lm (a0:History) (a1:Int) (a2:List Ask) (a5:List eZ) (a3:Int) (a4:List Int):Option ((List Int×Int) ⊕ ((List Ask×List eZ×Int) ⊕ (List Ask×List eZ))) :=
 must (((a2.length + 1) + (a2.length + 1) / 4 + 192) * 48≤281474976710656∧a2.length + 1≤9223372036854775807) (out (fK a3 (a2++([(⟨a1,a3,(idx ((idx a0.Txns a1).Ops) a3).Key,a4⟩:Ask)]:List Ask)) a5))
noncomputable def nM (a0:History) (a1:Int) (a6:List Ask) (a4:List eZ) (a2:Int):(List Int×Int)→Option ((List Int×Int) ⊕ ((List Ask×List eZ×Int) ⊕ (List Ask×List eZ)))
 | (a5,a3)=>bif decide (a3 < a2) then must (0≤a3∧a3 < (((idx a0.Txns a1).Ops).length:Int)) (bif ((idx ((idx a0.Txns a1).Ops) a3).Key == (idx ((idx a0.Txns a1).Ops) a2).Key) then (eB ((idx ((idx a0.Txns a1).Ops) a3).Kind)).bind fun a9=>lh a0 a1 a5 a3 a9 else (lh a0 a1 a5 a3 false)) else (must (((0 + (((idx ((idx a0.Txns a1).Ops) a2).Vals).length)) + (0 + (((idx ((idx a0.Txns a1).Ops) a2).Vals).length)) / 4 + 192) * 8≤281474976710656∧0 + (((idx ((idx a0.Txns a1).Ops) a2).Vals).length)≤9223372036854775807) (bif decide ((a5.length:Int) > 0) then (fA ((idx ((idx a0.Txns a1).Ops) a2).Kind)).bind fun a8=>(aC a8 ((idx ((idx a0.Txns a1).Ops) a2).Vals) a5).bind fun a7=>bif !a7.2 then must (((a4.length + 1) + (a4.length + 1) / 4 + 192) * 16≤281474976710656∧a4.length + 1≤9223372036854775807) (out (fK a2 a6 (a4++([(⟨a1,a2⟩:eZ)]:List eZ)))) else (bif ((idx ((idx a0.Txns a1).Ops) a2).Kind == 5) then out (fK a2 a6 a4) else (lm a0 a1 a6 a4 a2 a7.1)) else (lm a0 a1 a6 a4 a2 (([]:List Int)++((idx ((idx a0.Txns a1).Ops) a2).Vals)))))
noncomputable def nN (a0:History) (a1:Int):(List Ask×List eZ×Int)→Option ((List Ask×List eZ×Int) ⊕ (List Ask×List eZ))
 | (a3,a4,a2)=>bif decide (a2 < (((idx a0.Txns a1).Ops).length:Int)) then must (0≤a2∧a2 < (((idx a0.Txns a1).Ops).length:Int)) ((eB ((idx ((idx a0.Txns a1).Ops) a2).Kind)).bind fun a5=>bif a5 then fK a2 a3 a4 else (iter (nM a0 a1 a3 a4 a2) ([],0))) else (out (some (a3,a4)))
noncomputable def aM (a0:History) (a1:Int):Option (List Ask×List eZ) :=
 must (0≤a1∧a1 < (a0.Txns.length:Int)) (bif ((idx a0.Txns a1).Status != 1) then some (([]:List Ask),([]:List eZ)) else (iter (nN a0 a1) ([],[],0)))
noncomputable def nu (a0:History):(List Ask×List eZ×Int)→Option ((List Ask×List eZ×Int) ⊕ (List Ask×List eZ))
 | (a3,a2,a4)=>bif decide (a4 < (a0.Txns.length:Int)) then (aM a0 a4).bind fun a1=>must (((a3.length + a1.1.length) + (a3.length + a1.1.length) / 4 + 192) * 48≤281474976710656∧a3.length + a1.1.length≤9223372036854775807) (must (((a2.length + a1.2.length) + (a2.length + a1.2.length) / 4 + 192) * 16≤281474976710656∧a2.length + a1.2.length≤9223372036854775807) (some (.inl (a3++a1.1,a2++a1.2,w64 (a4 + 1))))) else (out (some (a3,a2)))
noncomputable def eF (a0:History):Option (List Ask×List eZ) :=
 iter (nu a0) ([],[],0)
noncomputable def fq (a1:List Int) (a2:List Int) (a0:Int) (a3:Bool):Option ((List Int×Int) ⊕ (List Int×Bool)) :=
 bif a3 then out (some (([]:List Int),false)) else (must (0≤idx a1 a0∧idx a1 a0 < (a2.length:Int)) (some (.inl (a2.set (idx a1 a0).toNat (w64 (a0 + 1)),w64 (a0 + 1)))))
noncomputable def jb (a0:Int) (a1:Bool):Option (Int ⊕ ((List Int×Int) ⊕ (List Int×Bool))) :=
 bif a1 then out (out (some (([]:List Int),false))) else (some (.inl (w64 (a0 + 1))))
noncomputable def jc (a0:History) (a2:List Int):Int→Option (Int ⊕ ((List Int×Int) ⊕ (List Int×Bool)))
 | a1=>bif decide (a1 < (a0.Txns.length:Int)) then must (0≤a1∧a1 < (a0.Txns.length:Int)) (bif ((idx a0.Txns a1).Status == 1) then must (0≤a1∧a1 < (a2.length:Int)) (jb a1 (idx a2 a1 == 0)) else (jb a1 false)) else (out (out (some (a2,true))))
noncomputable def kS (a0:History) (a1:List Int):(List Int×Int)→Option ((List Int×Int) ⊕ (List Int×Bool))
 | (a3,a2)=>bif decide (a2 < (a1.length:Int)) then must (0≤a2∧a2 < (a1.length:Int)) (bif decide (idx a1 a2 < 0) then fq a1 a3 a2 true else (bif decide (idx a1 a2 ≥ (a0.Txns.length:Int)) then fq a1 a3 a2 true else (must (0≤idx a1 a2∧idx a1 a2 < (a3.length:Int)) (bif (idx a3 (idx a1 a2) != 0) then fq a1 a3 a2 true else (must (0≤idx a1 a2∧idx a1 a2 < (a0.Txns.length:Int)) (fq a1 a3 a2 ((idx a0.Txns (idx a1 a2)).Status == 2))))))) else (iter (jc a0 a3) 0)
noncomputable def aP (a0:History) (a1:List Int):Option (List Int×Bool) :=
 must (0≤(a0.Txns.length:Int)∧(a0.Txns.length:Int)≤9223372036854775807∧(8:Int) * (a0.Txns.length:Int)≤281474976710656) (iter (kS a0 a1) (List.replicate (a0.Txns.length:Int).toNat (default:Int),0))
noncomputable def jA (a1:Int) (a0:List Int):Option ((List Int×Int) ⊕ (List Int)) :=
 some (.inl (a0,w64 (a1 + 1)))
noncomputable def jB (a0:History) (a1:Int) (a2:List Int) (a3:Int) (a4:Bool):Option ((List Int×Int) ⊕ (List Int)) :=
 bif a4 then must (((a2.length + 1) + (a2.length + 1) / 4 + 192) * 8≤281474976710656∧a2.length + 1≤9223372036854775807) (jA a3 (a2++([(idx ((idx a0.Txns a1).Ops) a3).Arg]:List Int))) else (jA a3 a2)
noncomputable def lN (a0:History) (a1:Int) (a2:Int):(List Int×Int)→Option ((List Int×Int) ⊕ (List Int))
 | (a4,a3)=>must (0≤a1∧a1 < (a0.Txns.length:Int)) (bif decide (a3 < (((idx a0.Txns a1).Ops).length:Int)) then must (0≤a3∧a3 < (((idx a0.Txns a1).Ops).length:Int)) (bif ((idx ((idx a0.Txns a1).Ops) a3).Key == a2) then (eB ((idx ((idx a0.Txns a1).Ops) a3).Kind)).bind fun a5=>jB a0 a1 a4 a3 a5 else (jB a0 a1 a4 a3 false)) else (out (some a4)))
noncomputable def aQ (a0:History) (a1:Int) (a2:Int):Option (List Int) :=
 iter (lN a0 a1 a2) ([],0)
noncomputable def kT (a1:List Int) (a0:Int):Option ((List Int×Int) ⊕ ((List Int×Int) ⊕ (List Int))) :=
 some (.inl ((a1.set a0.toNat (idx a1 (w64 (a0 - 1)))).set (w64 (a0 - 1)).toNat (idx a1 a0),w64 (a0 - 1)))
noncomputable def jd (a2:Int) (a1:List Int) (a0:Int) (a3:Bool):Option ((List Int×Int) ⊕ ((List Int×Int) ⊕ (List Int))) :=
 bif a3 then must (0≤w64 (a0 - 1)∧w64 (a0 - 1) < (a1.length:Int)) (must (0≤a0∧a0 < (a1.length:Int)) (kT a1 a0)) else (out (some (.inl (a1,w64 (a2 + 1)))))
noncomputable def kU (a2:Int):(List Int×Int)→Option ((List Int×Int) ⊕ ((List Int×Int) ⊕ (List Int)))
 | (a1,a0)=>bif decide (a0 > 0) then must (0≤a0∧a0 < (a1.length:Int)) (must (0≤w64 (a0 - 1)∧w64 (a0 - 1) < (a1.length:Int)) (jd a2 a1 a0 (decide (idx a1 a0 < idx a1 (w64 (a0 - 1)))))) else (jd a2 a1 a0 false)
noncomputable def kV (a0:List Int):(List Int×Int)→Option ((List Int×Int) ⊕ (List Int))
 | (a1,a2)=>bif decide (a2 < (a0.length:Int)) then must (0≤a2∧a2 < (a0.length:Int)) (must (((a1.length + 1) + (a1.length + 1) / 4 + 192) * 8≤281474976710656∧a1.length + 1≤9223372036854775807) (iter (kU a2) (a1++([idx a0 a2]:List Int),w64 (((a1++([idx a0 a2]:List Int)).length:Int) - 1)))) else (out (some a1))
noncomputable def aU (a0:List Int):Option (List Int) :=
 iter (kV a0) ([],0)
noncomputable def dK (a0:List Int):Option (List Int) :=
 some a0
noncomputable def kW (a1:List Int):(Int×Int)→Option ((Int×Int) ⊕ (List Int))
 | (a2,a0)=>bif decide (a0 < (a1.length:Int)) then must (0≤a0∧a0 < (a1.length:Int)) (some (.inl (w64 (a2 + (idx a1 a0)),w64 (a0 + 1)))) else (out (dK ([a2]:List Int)))
noncomputable def fu (a2:Int) (a0:List Int):Option (List Int) :=
 bif (a2 == 1) then bif decide ((a0.length:Int) > 0) then must (0≤(w64 ((a0.length:Int) - 1))∧(w64 ((a0.length:Int) - 1))≤(a0.length:Int)∧(a0.length:Int)≤(a0.length:Int)) (dK (dh a0 (w64 ((a0.length:Int) - 1)) (a0.length:Int))) else (dK a0) else (bif (a2 == 3) then (aU a0).bind fun a1=>dK a1 else (bif (a2 == 4) then iter (kW a0) (0,0) else (dK a0)))
noncomputable def je (a0:History) (a1:List Int) (a2:Int) (a3:Int) (a4:Int) (a5:List Int) (a7:Int) (a8:Bool):Option ((List Int×Int) ⊕ (List Int)) :=
 bif a8 then must (0≤a7∧a7 < (a1.length:Int)) ((aQ a0 (idx a1 a7) a3).bind fun a6=>must (((a5.length + a6.length) + (a5.length + a6.length) / 4 + 192) * 8≤281474976710656∧a5.length + a6.length≤9223372036854775807) (bif (idx a1 a7 == a4) then out (fu a2 (a5++a6)) else (some (.inl (a5++a6,w64 (a7 + 1)))))) else (out (fu a2 a5))
noncomputable def kX (a0:History) (a1:List Int) (a2:Int) (a3:Int) (a4:Int):(List Int×Int)→Option ((List Int×Int) ⊕ (List Int))
 | (a6,a5)=>bif decide (a5 < (a1.length:Int)) then je a0 a1 a2 a3 a4 a6 a5 (decide (a4 ≥ 0)) else (je a0 a1 a2 a3 a4 a6 a5 false)
noncomputable def aJ (a0:History) (a1:List Int) (a2:Int) (a3:Int) (a4:Int):Option (List Int) :=
 iter (kX a0 a1 a2 a3 a4) ([],0)
noncomputable def bW (a0:History) (a1:List Int) (a3:Ask) (a4:Int) (a7:Bool):Option Int :=
 bif a7 then some 5 else (must (0≤a3.Txn∧a3.Txn < (a0.Txns.length:Int)) (must (0≤a3.Place∧a3.Place < (((idx a0.Txns a3.Txn).Ops).length:Int)) ((fA ((idx ((idx a0.Txns a3.Txn).Ops) a3.Place).Kind)).bind fun a6=>(aJ a0 a1 a6 a3.Key a4).bind fun a5=>(bD a5 a3.Base).bind fun a2=>bif !a2 then some 6 else (some 0))))
noncomputable def bE (a0:History) (a1:List Int) (a2:List Int) (a3:Ask) (a4:Int):Option Int :=
 bif (a4 != (-1)) then bif decide (a4 < 0) then bW a0 a1 a3 a4 true else (bif decide (a4 ≥ (a2.length:Int)) then bW a0 a1 a3 a4 true else (must (0≤a4∧a4 < (a2.length:Int)) (bif (idx a2 a4 == 0) then bW a0 a1 a3 a4 true else ((aQ a0 a4 a3.Key).bind fun a5=>bif ((a5.length:Int) == 0) then bW a0 a1 a3 a4 true else (must (0≤a3.Txn∧a3.Txn < (a2.length:Int)) (bW a0 a1 a3 a4 (decide (idx a2 a4 ≥ idx a2 a3.Txn)))))))) else (bW a0 a1 a3 a4 false)
noncomputable def iF (a1:Int) (a0:Bool):Option (Int ⊕ (Int ⊕ Int)) :=
 bif a0 then out (out (some 4)) else (some (.inl (w64 (a1 + 1))))
noncomputable def mG (a0:History) (a3:List Int×Bool) (a2:Int):Int→Option (Int ⊕ (Int ⊕ Int))
 | a1=>bif decide (a1 < a2) then must (0≤a2∧a2 < (a0.Txns.length:Int)) (must (0≤a1∧a1 < (a0.Txns.length:Int)) (bif ((idx a0.Txns a2).Proc == (idx a0.Txns a1).Proc) then must (0≤a2∧a2 < (a3.1.length:Int)) (bif (idx a3.1 a2 != 0) then must (0≤a1∧a1 < (a3.1.length:Int)) (iF a1 (decide (idx a3.1 a1 > idx a3.1 a2))) else (iF a1 false)) else (iF a1 false))) else (out (some (.inl (w64 (a2 + 1)))))
noncomputable def jQ (a0:History) (a1:Exec) (a3:List Ask×List eZ) (a5:List Int×Bool):Int→Option (Int ⊕ (Int ⊕ Int))
 | a2=>bif decide (a2 < (a3.1.length:Int)) then must (0≤a2∧a2 < (a3.1.length:Int)) (must (0≤a2∧a2 < (a1.Picks.length:Int)) ((bE a0 a1.Order a5.1 (idx a3.1 a2) (idx a1.Picks a2)).bind fun a4=>bif (a4 != 0) then out (out (some a4)) else (some (.inl (w64 (a2 + 1)))))) else (out (out (some 0)))
noncomputable def jR (a0:History) (a1:Exec) (a4:List Ask×List eZ) (a2:List Int×Bool):Int→Option (Int ⊕ Int)
 | a3=>bif decide (a3 < (a0.Txns.length:Int)) then iter (mG a0 a2 a3) 0 else (iter (jQ a0 a1 a4 a2) 0)
noncomputable def aS (a0:History) (a1:Exec):Option Int :=
 (eF a0).bind fun a2=>bif decide ((a2.2.length:Int) > 0) then some 1 else ((aP a0 a1.Order).bind fun a3=>bif !a3.2 then some 2 else (bif ((a1.Picks.length:Int) != (a2.1.length:Int)) then some 3 else (iter (jR a0 a1 a2 a3) 0)))
noncomputable def jl (a0:History) (a1:Exec):Option (Int×Int) :=
 (ak a0).bind fun a2=>bif (a2 != 0) then some (0,1) else ((aS a0 a1).bind fun a3=>some (a3,0))
noncomputable def kw (a0:History) (a1:Exec) (a3:History):Option Bool :=
 (fw a3 (⟨([]:List Int)++a1.Order,([]:List Int)++a1.Picks⟩:Exec)).bind fun a4=>(jl a0 a1).bind fun a2=>bif (a4.1 == a2.1) then bif (a4.2 == a2.2) then (aA a3 a0).bind fun a6=>bif a6 then (bQ (([]:List Int)++a1.Order) a1.Order).bind fun a7=>bif a7 then (bQ (([]:List Int)++a1.Picks) a1.Picks).bind fun a5=>some a5 else (some false) else (some false) else (some false) else (some false)
noncomputable def dV (a0:History) (a1:Exec):Option Bool :=
 (lc).bind fun a2=>bif !a2 then some false else ((cZ a0).bind fun a3=>must (((0 + a1.Order.length) + (0 + a1.Order.length) / 4 + 192) * 8≤281474976710656∧0 + a1.Order.length≤9223372036854775807) (must (((0 + a1.Picks.length) + (0 + a1.Picks.length) / 4 + 192) * 8≤281474976710656∧0 + a1.Picks.length≤9223372036854775807) (kw a0 a1 a3)))
noncomputable def rR (a1:Int) (a0:List Int):Option ((List Int×Int) ⊕ (List Int)) :=
 some (.inl (a0,w64 (a1 + 1)))
noncomputable def rT (a0:List Int) (a1:Int) (a2:Bool):Option ((List Int×Int) ⊕ (List Int)) :=
 bif a2 then must (((a0.length + 1) + (a0.length + 1) / 4 + 192) * 8≤281474976710656∧a0.length + 1≤9223372036854775807) (rR a1 (a0++([a1]:List Int))) else (rR a1 a0)
noncomputable def xO (a0:History) (a1:Int):(List Int×Int)→Option ((List Int×Int) ⊕ (List Int))
 | (a3,a2)=>bif decide (a2 < (a0.Txns.length:Int)) then must (0≤a2∧a2 < (a0.Txns.length:Int)) (bif ((idx a0.Txns a2).Status != 2) then (dA (idx a0.Txns a2) a1).bind fun a4=>rT a3 a2 (decide ((a4.length:Int) > 0)) else (rT a3 a2 false)) else (out (some a3))
noncomputable def gQ (a0:History) (a1:Int):Option (List Int) :=
 (aN a0).bind fun y8=>bif (y8 != 0) then some ([]:List Int) else (iter (xO a0 a1) ([],0))
noncomputable def rU (a0:Int) (a1:List bB):Option ((List bB×Int) ⊕ (List bB)) :=
 some (.inl (a1,w64 (a0 + 1)))
noncomputable def rV (a4:List Int) (a0:List bB) (a1:Int) (a3:List Int×Bool) (a2:Bool):Option ((List bB×Int) ⊕ (List bB)) :=
 bif a2 then must (((a0.length + 1) + (a0.length + 1) / 4 + 192) * 32≤281474976710656∧a0.length + 1≤9223372036854775807) (rU a1 (a0++([(⟨idx a4 a1,a3.1⟩:bB)]:List bB))) else (rU a1 a0)
noncomputable def xP (a0:History) (a1:Ask) (a3:List Int):(List bB×Int)→Option ((List bB×Int) ⊕ (List bB))
 | (a4,a2)=>bif decide (a2 < (a3.length:Int)) then must (0≤a2∧a2 < (a3.length:Int)) ((fV a0 (idx a3 a2) a1.Key).bind fun a5=>bif a5.2 then rV a3 a4 a2 a5 (idx a3 a2 != a1.Txn) else (rV a3 a4 a2 a5 false)) else (out (some a4))
noncomputable def eG (a0:History) (a1:Ask):Option (List bB) :=
 (gQ a0 a1.Key).bind fun a2=>iter (xP a0 a1 a2) ([],0)
noncomputable def zO (a0:bB) (a1:List Int):Option Bool :=
 must (0≤(0:Int)∧(0:Int) < (a0.args.length:Int)) (must (0≤(0:Int)∧(0:Int) < (a1.length:Int)) (some (idx a0.args (0:Int) == idx a1 (0:Int))))
noncomputable def vJ (a0:List Int) (a1:Int):Int→Option (Int ⊕ Int)
 | a2=>bif decide (a2 < (a0.length:Int)) then must (0≤a2∧a2 < (a0.length:Int)) (bif (a1 == idx a0 a2) then out (some a2) else (some (.inl (w64 (a2 + 1))))) else (out (some (-1)))
noncomputable def slices_Index_int (a0:List Int) (a1:Int):Option Int :=
 iter (vJ a0 a1) 0
noncomputable def slices_Contains_int (a0:List Int) (a1:Int):Option Bool :=
 (slices_Index_int a0 a1).bind fun y3=>some (decide (y3 ≥ 0))
noncomputable def lv (a0:List bB) (a1c0:List Int):Int→Option (Int ⊕ Int)
 | a1=>bif decide (a1 < (a0.length:Int)) then must (0≤a1∧a1 < (a0.length:Int)) ((zO (idx a0 a1) a1c0).bind fun a2=>bif a2 then out (some a1) else (some (.inl (w64 (a1 + 1))))) else (out (some (-1)))
noncomputable def eX (a0:List bB) (a1c0:List Int):Option Int :=
 iter (lv a0 a1c0) 0
noncomputable def nO (a1:List bB) (a2:List Int) (a3:List Int) (a0:Int) (a4:Bool):Option ((List Int×List Int) ⊕ (List Int×Bool)) :=
 bif a4 then out (some (([]:List Int),false)) else (must (0≤a0∧a0 < (a1.length:Int)) (must (((a3.length + 1) + (a3.length + 1) / 4 + 192) * 8≤281474976710656∧a3.length + 1≤9223372036854775807) (must (0≤(((idx a1 a0).args).length:Int)∧(((idx a1 a0).args).length:Int)≤(a2.length:Int)∧(a2.length:Int)≤(a2.length:Int)) (some (.inl (dh a2 (((idx a1 a0).args).length:Int) (a2.length:Int),a3++([(idx a1 a0).txn]:List Int)))))))
noncomputable def za (a1:List bB):(List Int×List Int)→Option ((List Int×List Int) ⊕ (List Int×Bool))
 | (a2,a3)=>bif decide ((a2.length:Int) > 0) then (eX a1 a2).bind fun a0=>bif decide (a0 < 0) then nO a1 a2 a3 a0 true else (must (0≤a0∧a0 < (a1.length:Int)) (bif decide ((((idx a1 a0).args).length:Int) > (a2.length:Int)) then nO a1 a2 a3 a0 true else (must (0≤(0:Int)∧(0:Int)≤(((idx a1 a0).args).length:Int)∧(((idx a1 a0).args).length:Int)≤(a2.length:Int)) ((di ((idx a1 a0).args) (dh a2 (0:Int) (((idx a1 a0).args).length:Int))).bind fun a5=>bif !a5 then nO a1 a2 a3 a0 true else ((slices_Contains_int a3 ((idx a1 a0).txn)).bind fun a4=>nO a1 a2 a3 a0 a4))))) else (out (some (a3,true)))
noncomputable def kg (a0:List Int) (a1:List bB):Option (List Int×Bool) :=
 iter (za a1) (a0,[])
noncomputable def vU (a0:Int) (a1:List Int) (a2:List (Int×Unit)):Option ((List Int×(List (Int×Unit))×Int) ⊕ (((List (Int×Unit))×Int) ⊕ (List Int×Bool))) :=
 some (.inl (a1,a2,w64 (a0 + 1)))
noncomputable def vV (a1:Int) (a2:List (Int×Unit)) (a0:Int):Option (((List (Int×Unit))×Int×Int) ⊕ ((List Int×(List (Int×Unit))×Int) ⊕ (((List (Int×Unit))×Int) ⊕ (List Int×Bool)))) :=
 some (.inl (a2,a0,w64 (a1 + 1)))
noncomputable def vW (a1:List bB) (a0:List Int) (a2:Int) (a3:List (Int×Unit)) (a4:Int) (a5:Bool):Option (((List (Int×Unit))×Int×Int) ⊕ ((List Int×(List (Int×Unit))×Int) ⊕ (((List (Int×Unit))×Int) ⊕ (List Int×Bool)))) :=
 bif a5 then out (out (out (some (([]:List Int),false)))) else (bif decide (a4 > 0) then must (((a0.length + 1) + (a0.length + 1) / 4 + 192) * 8≤281474976710656∧a0.length + 1≤9223372036854775807) (out (vU a2 (a0++([(idx a1 a2).txn]:List Int)) a3)) else (out (vU a2 a0 a3)))
noncomputable def zP (a1:List bB) (a5:List Int) (a0:Int):((List (Int×Unit))×Int×Int)→Option (((List (Int×Unit))×Int×Int) ⊕ ((List Int×(List (Int×Unit))×Int) ⊕ (((List (Int×Unit))×Int) ⊕ (List Int×Bool))))
 | (a4,a3,a2)=>bif decide (a2 < (((idx a1 a0).args).length:Int)) then must (0≤a2∧a2 < (((idx a1 a0).args).length:Int)) (bif kF a4 (idx ((idx a1 a0).args) a2) then vV a2 (Jn a4 (idx ((idx a1 a0).args) a2)) (w64 (a3 + 1)) else (vV a2 a4 a3)) else (bif decide (a3 > 0) then vW a1 a5 a0 a4 a3 (decide (a3 < (((idx a1 a0).args).length:Int))) else (vW a1 a5 a0 a4 a3 false))
noncomputable def zQ (a1:List bB):(List Int×(List (Int×Unit))×Int)→Option ((List Int×(List (Int×Unit))×Int) ⊕ (((List (Int×Unit))×Int) ⊕ (List Int×Bool)))
 | (a3,a2,a0)=>bif decide (a0 < (a1.length:Int)) then must (0≤a0∧a0 < (a1.length:Int)) (iter (zP a1 a3 a0) (a2,0,0)) else (bif decide ((a2.length:Int) > 0) then out (out (some (([]:List Int),false))) else (out (out (some (a3,true)))))
noncomputable def zR (a0:List Int) (a1:List bB):((List (Int×Unit))×Int)→Option (((List (Int×Unit))×Int) ⊕ (List Int×Bool))
 | (a3,a2)=>bif decide (a2 < (a0.length:Int)) then must (0≤a2∧a2 < (a0.length:Int)) (some (.inl (gN a3 (idx a0 a2) (),w64 (a2 + 1)))) else (iter (zQ a1) ([],a3,0))
noncomputable def eY (a0:List Int) (a1:List bB):Option (List Int×Bool) :=
 iter (zR a0 a1) ([],0)
noncomputable def wQ (a0:History) (a1:Ask):Option (List Int×Bool) :=
 (dW a0 a1.Key).bind fun a2=>bif (a2 == 2) then (eG a0 a1).bind fun a6=>(kg a1.Base a6).bind fun a3=>some (a3.1,a3.2) else (bif (a2 == 3) then (eG a0 a1).bind fun a5=>(eY a1.Base a5).bind fun a4=>some (a4.1,a4.2) else (some (([]:List Int),false)))
noncomputable def vK (a0:Int) (a2:Int) (a3:List bB) (a4:Int) (rec:Int→Int→Int→(List bB)→Int→Int→Option Int) (a6:Int):(Int×Int)→Option ((Int×Int) ⊕ Int)
 | (a5,a1)=>bif decide (a1 < (((idx a3 a0).args).length:Int)) then must (0≤a1∧a1 < (((idx a3 a0).args).length:Int)) (some (.inl (w64 (a5 + (idx ((idx a3 a0).args) a1)),w64 (a1 + 1)))) else (must (0≤a0∧a0 < (far:Int)) ((rec (w64 (a0 + 1)) a5 (bOr .u64 a2 (Ji .u64 1 a0)) a3 a4 a6).bind fun a7=>out (some a7)))
noncomputable def ui (rec:Int→Int→Int→(List bB)→Int→Int→Option Int) (a0:Int) (a1:Int) (a2:Int) (a3:List bB) (a4:Int) (a5:Int):Option Int :=
 bif (a0 == (a3.length:Int)) then bif (a1 == a4) then some (bOr .u64 a5 a2) else (some a5) else ((rec (w64 (a0 + 1)) a1 a2 a3 a4 a5).bind fun a6=>must (0≤a0∧a0 < (a3.length:Int)) (iter (vK a0 a2 a3 a4 rec a6) (a1,0)))
noncomputable def oq:Nat→Int→Int→Int→(List bB)→Int→Int→Option Int
 | 0=>fun _ _ _ _ _ _=>none
 | k + 1=>ui (oq k)
noncomputable def fH (a0:Int) (a1:Int) (a2:Int) (a3:List bB) (a4:Int) (a5:Int):Option Int:=oq 64 a0 a1 a2 a3 a4 a5
noncomputable def qN (a0:Int) (a1:List Int):Option ((List Int×Int) ⊕ (List Int)) :=
 some (.inl (a1,w64 (a0 + 1)))
noncomputable def wR (a1:List bB) (a3:Int):(List Int×Int)→Option ((List Int×Int) ⊕ (List Int))
 | (a2,a0)=>bif decide (a0 < (a1.length:Int)) then must (0≤a0∧a0 < (a1.length:Int)) (must (0≤a0∧a0 < (far:Int)) (bif (zX .u64 (vR .u64 a3 a0) 1 == 1) then must (((a2.length + 1) + (a2.length + 1) / 4 + 192) * 8≤281474976710656∧a2.length + 1≤9223372036854775807) (qN a0 (a2++([(idx a1 a0).txn]:List Int))) else (qN a0 a2))) else (out (some a2))
noncomputable def jU (a0:Int) (a1:List bB):Option (List Int) :=
 (fH 0 0 0 a1 a0 0).bind fun a2=>iter (wR a1 a2) ([],0)
noncomputable def iy (a0:List Int):Option (List Int) :=
 some a0
noncomputable def qO (a0:History) (a1:Ask) (a3:List Int):Option (List Int) :=
 must (0≤(0:Int)∧(0:Int) < (a1.Base.length:Int)) ((eG a0 a1).bind fun a4=>(jU (idx a1.Base (0:Int)) a4).bind fun a2=>must (((a3.length + a2.length) + (a3.length + a2.length) / 4 + 192) * 8≤281474976710656∧a3.length + a2.length≤9223372036854775807) (iy (a3++a2)))
noncomputable def qP (a0:Int) (a1:List Int):Option ((List Int×Int) ⊕ (List Int)) :=
 some (.inl (a1,w64 (a0 + 1)))
noncomputable def wS (a1:Ask) (a2:List bB):(List Int×Int)→Option ((List Int×Int) ⊕ (List Int))
 | (a3,a0)=>bif decide (a0 < (a2.length:Int)) then must (0≤a0∧a0 < (a2.length:Int)) (must (0≤w64 ((((idx a2 a0).args).length:Int) - 1)∧w64 ((((idx a2 a0).args).length:Int) - 1) < (((idx a2 a0).args).length:Int)) (must (0≤(0:Int)∧(0:Int) < (a1.Base.length:Int)) (bif (idx ((idx a2 a0).args) (w64 ((((idx a2 a0).args).length:Int) - 1)) == idx a1.Base (0:Int)) then must (((a3.length + 1) + (a3.length + 1) / 4 + 192) * 8≤281474976710656∧a3.length + 1≤9223372036854775807) (qP a0 (a3++([(idx a2 a0).txn]:List Int))) else (qP a0 a3)))) else (out (iy a3))
noncomputable def cK (a0:History) (a1:Ask):Option (List Int) :=
 (dW a0 a1.Key).bind fun a3=>bif (a3 == 4) then must (0≤(0:Int)∧(0:Int) < (a1.Base.length:Int)) (bif (idx a1.Base (0:Int) == 0) then must (((0 + 1) + (0 + 1) / 4 + 192) * 8≤281474976710656∧0 + 1≤9223372036854775807) (qO a0 a1 (([]:List Int)++([(-1)]:List Int))) else (qO a0 a1 [])) else (bif ((a1.Base.length:Int) == 0) then iy ([(-1)]:List Int) else (bif (a3 == 1) then (eG a0 a1).bind fun a4=>iter (wS a1 a4) ([],0) else (bif (a3 == 2) then (wQ a0 a1).bind fun a2=>bif a2.2 then must (0≤(w64 ((a2.1.length:Int) - 1))∧(w64 ((a2.1.length:Int) - 1))≤(a2.1.length:Int)∧(a2.1.length:Int)≤(a2.1.length:Int)) (iy (dh a2.1 (w64 ((a2.1.length:Int) - 1)) (a2.1.length:Int))) else (iy []) else ((wQ a0 a1).bind fun a5=>iy a5.1))))
noncomputable def uB (a0:Ask) (a1:History):Option Bool :=
 (cK a1 a0).bind fun y7=>some (decide ((y7.length:Int) > 0))
noncomputable def lQ (a0:List Ask) (a1c0:History):Int→Option (Int ⊕ Int)
 | a1=>bif decide (a1 < (a0.length:Int)) then must (0≤a1∧a1 < (a0.length:Int)) ((uB (idx a0 a1) a1c0).bind fun a2=>bif a2 then out (some a1) else (some (.inl (w64 (a1 + 1))))) else (out (some (-1)))
noncomputable def fB (a0:List Ask) (a1c0:History):Option Int :=
 iter (lQ a0 a1c0) 0
noncomputable def lw (a0:List Ask) (a1c0:History):List Ask×Int→Option ((List Ask×Int) ⊕ List Ask)
 | (l,x)=>bif decide (x < (a0.length:Int)) then must (0≤x∧x < (a0.length:Int)) ((uB (idx a0 x) a1c0).bind fun y=>bif !y then (some (.inl (l++[idx a0 x],w64 (x + 1)))) else (some (.inl (l,w64 (x + 1))))) else (out (some l))
noncomputable def iG (a0:List Ask) (a1c0:History):Option (List Ask) :=
 (fB a0 a1c0).bind fun i=>bif i == -1 then some a0 else must (0≤i∧i < (a0.length:Int)) (iter (lw a0 a1c0) (a0.take i.toNat,w64 (i + 1)))
noncomputable def zb (a0:Ask) (a1:Ask):Option Bool :=
 bif (a1.Txn == a0.Txn) then bif (a1.Place == a0.Place) then bif (a1.Key == a0.Key) then (di a1.Base a0.Base).bind fun a2=>some a2 else (some false) else (some false) else (some false)
noncomputable def lS (a0:List Ask) (a1c0:Ask):Int→Option (Int ⊕ Int)
 | a1=>bif decide (a1 < (a0.length:Int)) then must (0≤a1∧a1 < (a0.length:Int)) ((zb (idx a0 a1) a1c0).bind fun a2=>bif a2 then out (some a1) else (some (.inl (w64 (a1 + 1))))) else (out (some (-1)))
noncomputable def iM (a0:List Ask) (a1c0:Ask):Option Int :=
 iter (lS a0 a1c0) 0
noncomputable def jC (a1:Int) (a0:Bool):Option (Int ⊕ Bool) :=
 bif a0 then out (some true) else (some (.inl (w64 (a1 + 1))))
noncomputable def uC (a1:Ask) (a2:List Ask×List eZ):Int→Option (Int ⊕ Bool)
 | a0=>bif decide (a0 < (a2.1.length:Int)) then must (0≤a0∧a0 < (a2.1.length:Int)) (bif ((idx a2.1 a0).Txn == a1.Txn) then bif ((idx a2.1 a0).Place == a1.Place) then bif ((idx a2.1 a0).Key == a1.Key) then (bD ((idx a2.1 a0).Base) a1.Base).bind fun a3=>jC a0 a3 else (jC a0 false) else (jC a0 false) else (jC a0 false)) else (out (some false))
noncomputable def fM (a0:History) (a1:Ask):Option Bool :=
 (ak a0).bind fun a2=>bif (a2 != 0) then some false else ((eF a0).bind fun a3=>iter (uC a1 a3) 0)
noncomputable def xQ (a0:History) (a1:Ask):Option Int :=
 must (0≤a1.Txn∧a1.Txn < (a0.Txns.length:Int)) (must (0≤a1.Place∧a1.Place < (((idx a0.Txns a1.Txn).Ops).length:Int)) ((fA ((idx ((idx a0.Txns a1.Txn).Ops) a1.Place).Kind)).bind fun a2=>some a2))
noncomputable def ou (a1:Int) (a0:List Int):Option ((List Int×Int) ⊕ (List Int)) :=
 some (.inl (a0,w64 (a1 + 1)))
noncomputable def kY (a0:List Int) (a1:Int) (a2:Bool):Option ((List Int×Int) ⊕ (List Int)) :=
 bif a2 then must (((a0.length + 1) + (a0.length + 1) / 4 + 192) * 8≤281474976710656∧a0.length + 1≤9223372036854775807) (ou a1 (a0++([a1]:List Int))) else (ou a1 a0)
noncomputable def uj (a0:History) (a1:Ask):(List Int×Int)→Option ((List Int×Int) ⊕ (List Int))
 | (a3,a2)=>bif decide (a2 < (a0.Txns.length:Int)) then bif (a2 != a1.Txn) then must (0≤a2∧a2 < (a0.Txns.length:Int)) (bif ((idx a0.Txns a2).Status != 2) then (aQ a0 a2 a1.Key).bind fun a4=>kY a3 a2 (decide ((a4.length:Int) > 0)) else (kY a3 a2 false)) else (kY a3 a2 false) else (out (some a3))
noncomputable def bX (a0:History) (a1:Ask):Option (List Int) :=
 iter (uj a0 a1) ([],0)
noncomputable def wo (y7:List Int):(Int×Int)→Option ((Int×Int) ⊕ Int)
 | (a1,a0)=>bif decide (a0 < (y7.length:Int)) then must (0≤a0∧a0 < (y7.length:Int)) (some (.inl (w64 (a1 + (idx y7 a0)),w64 (a0 + 1)))) else (out (some a1))
noncomputable def pu (a0:History) (a1:Int) (a2:Int):Option Int :=
 (aQ a0 a1 a2).bind fun y7=>iter (wo y7) (0,0)
noncomputable def ow (a1:Int) (a0:Int):Option ((Int×Int) ⊕ ((List Bool×Int) ⊕ (List Int))) :=
 some (.inl (a0,w64 (a1 + 1)))
noncomputable def oz (a1:Int) (a0:List Bool):Option ((List Bool×Int) ⊕ ((Int×Int) ⊕ ((List Bool×Int) ⊕ (List Int)))) :=
 some (.inl (a0,w64 (a1 + 1)))
noncomputable def oC (a2:Int) (a1:List Bool) (a0:Int) (a3:Bool):Option ((List Bool×Int) ⊕ ((Int×Int) ⊕ ((List Bool×Int) ⊕ (List Int)))) :=
 bif a3 then must (0≤a0∧a0 < (a1.length:Int)) (bif idx a1 a0 then oz a0 (a1.set a0.toNat true) else (must (0≤a0∧a0 < (far:Int)) (oz a0 (a1.set a0.toNat (zX .i64 (vR .i64 a2 a0) 1 == 1))))) else (out (out (some (.inl (a1,w64 (a2 + 1))))))
noncomputable def uk (a1:Ask) (y9:List Int) (a3:Int) (a4:Int):(List Bool×Int)→Option ((List Bool×Int) ⊕ ((Int×Int) ⊕ ((List Bool×Int) ⊕ (List Int))))
 | (a2,a0)=>bif decide (a0 < (y9.length:Int)) then must (0≤(0:Int)∧(0:Int) < (a1.Base.length:Int)) (oC a3 a2 a0 (a4 == idx a1.Base (0:Int))) else (oC a3 a2 a0 false)
noncomputable def ul (a0:History) (a1:Ask) (y9:List Int) (a6:List Bool) (a4:Int):(Int×Int)→Option ((Int×Int) ⊕ ((List Bool×Int) ⊕ (List Int)))
 | (a3,a2)=>bif decide (a2 < (y9.length:Int)) then must (0≤a2∧a2 < (far:Int)) (bif (zX .i64 (vR .i64 a4 a2) 1 == 1) then must (0≤a2∧a2 < (y9.length:Int)) ((pu a0 (idx y9 a2) a1.Key).bind fun a5=>ow a2 (w64 (a3 + a5))) else (ow a2 a3)) else (iter (uk a1 y9 a4 a3) (a6,0))
noncomputable def oD (a1:Int) (a0:List Int):Option ((List Int×Int) ⊕ ((List Bool×Int) ⊕ (List Int))) :=
 some (.inl (a0,w64 (a1 + 1)))
noncomputable def um (y9:List Int) (a2:List Bool):(List Int×Int)→Option ((List Int×Int) ⊕ ((List Bool×Int) ⊕ (List Int)))
 | (a1,a0)=>bif decide (a0 < (y9.length:Int)) then must (0≤a0∧a0 < (a2.length:Int)) (bif idx a2 a0 then must (0≤a0∧a0 < (y9.length:Int)) (must (((a1.length + 1) + (a1.length + 1) / 4 + 192) * 8≤281474976710656∧a1.length + 1≤9223372036854775807) (oD a0 (a1++([idx y9 a0]:List Int)))) else (oD a0 a1)) else (out (out (some a1)))
noncomputable def uo (a0:History) (a1:Ask) (y9:List Int):(List Bool×Int)→Option ((List Bool×Int) ⊕ (List Int))
 | (a3,a2)=>must (0≤(y9.length:Int)∧(y9.length:Int) < (far:Int)) (bif decide (a2 < Ji .i64 1 (y9.length:Int)) then iter (ul a0 a1 y9 a3 a2) (0,0) else (iter (um y9 a3) ([],0)))
noncomputable def aV (a0:History) (a1:Ask):Option (List Int) :=
 (bX a0 a1).bind fun y9=>must (0≤(y9.length:Int)∧(y9.length:Int)≤9223372036854775807∧(1:Int) * (y9.length:Int)≤281474976710656) (iter (uo a0 a1 y9) (List.replicate (y9.length:Int).toNat (default:Bool),1))
noncomputable def wu (a0:List Int) (a1:List Int):Option Bool :=
 bif decide ((a1.length:Int) > (a0.length:Int)) then some false else (must (0≤(0:Int)∧(0:Int)≤(a1.length:Int)∧(a1.length:Int)≤(a0.length:Int)) ((bD (dh a0 (0:Int) (a1.length:Int)) a1).bind fun a2=>some a2))
noncomputable def pQ (a1:Int) (a0:Int):Option ((Int×Int) ⊕ ((List Int×List Int) ⊕ (List Int×Bool))) :=
 some (.inl (a0,w64 (a1 + 1)))
noncomputable def vL (a0:History) (a1:Ask) (a2:List Int) (a3:List Int) (a6:Int):Int→Option (Int ⊕ ((Int×Int) ⊕ ((List Int×List Int) ⊕ (List Int×Bool))))
 | a4=>bif decide (a4 < (a2.length:Int)) then must (0≤a4∧a4 < (a2.length:Int)) (bif (idx a2 a4 == a6) then out (out (out (some (([]:List Int),false)))) else (some (.inl (w64 (a4 + 1))))) else (must (((a2.length + 1) + (a2.length + 1) / 4 + 192) * 8≤281474976710656∧a2.length + 1≤9223372036854775807) ((aQ a0 a6 a1.Key).bind fun a5=>must (0≤(a5.length:Int)∧(a5.length:Int)≤(a3.length:Int)∧(a3.length:Int)≤(a3.length:Int)) (out (out (some (.inl (a2++([a6]:List Int),dh a3 (a5.length:Int) (a3.length:Int))))))))
noncomputable def vM (a0:History) (a1:Ask) (y9:List Int) (a6:List Int) (a4:List Int):(Int×Int)→Option ((Int×Int) ⊕ ((List Int×List Int) ⊕ (List Int×Bool)))
 | (a3,a2)=>bif decide (a2 < (y9.length:Int)) then must (0≤a2∧a2 < (y9.length:Int)) ((aQ a0 (idx y9 a2) a1.Key).bind fun a5=>(wu a4 a5).bind fun a7=>bif a7 then pQ a2 (idx y9 a2) else (pQ a2 a3)) else (bif decide (a3 < 0) then out (out (some (([]:List Int),false))) else (iter (vL a0 a1 a6 a4 a3) 0))
noncomputable def vN (a0:History) (a1:Ask) (y9:List Int):(List Int×List Int)→Option ((List Int×List Int) ⊕ (List Int×Bool))
 | (a3,a2)=>bif decide ((a2.length:Int) > 0) then iter (vM a0 a1 y9 a3 a2) ((-1),0) else (out (some (a3,true)))
noncomputable def dU (a0:History) (a1:Ask):Option (List Int×Bool) :=
 (bX a0 a1).bind fun y9=>iter (vN a0 a1 y9) ([],a1.Base)
noncomputable def uD (a0:List Int) (a1:Int):Int→Option (Int ⊕ Bool)
 | a2=>bif decide (a2 < (a0.length:Int)) then must (0≤a2∧a2 < (a0.length:Int)) (bif (idx a0 a2 == a1) then out (some true) else (some (.inl (w64 (a2 + 1))))) else (out (some false))
noncomputable def nP (a0:List Int) (a1:Int):Option Bool :=
 iter (uD a0 a1) 0
noncomputable def qf (a0:Int) (a1:List Int) (a2:Int):Option ((List Int×Int×Int) ⊕ (List Int×Bool)) :=
 some (.inl (a1,a2,w64 (a0 + 1)))
noncomputable def qg (a1:Int) (a0:Int):Option ((Int×Int) ⊕ ((List Int×Int×Int) ⊕ (List Int×Bool))) :=
 some (.inl (a0,w64 (a1 + 1)))
noncomputable def qh (y9:List Int) (a0:List Int) (a3:Int) (a1:Int) (a2:Int) (a4:Bool):Option ((Int×Int) ⊕ ((List Int×Int×Int) ⊕ (List Int×Bool))) :=
 bif a4 then out (out (some (([]:List Int),false))) else (bif decide (a2 > 0) then must (((a0.length + 1) + (a0.length + 1) / 4 + 192) * 8≤281474976710656∧a0.length + 1≤9223372036854775807) (out (qf a1 (a0++([idx y9 a1]:List Int)) (w64 (a3 + a2)))) else (out (qf a1 a0 a3)))
noncomputable def ww (a1:Ask) (y9:List Int) (a6:List Int) (a4:Int) (a5:Int) (a3:List Int):(Int×Int)→Option ((Int×Int) ⊕ ((List Int×Int×Int) ⊕ (List Int×Bool)))
 | (a2,a0)=>bif decide (a0 < (a3.length:Int)) then must (0≤a0∧a0 < (a3.length:Int)) ((nP a1.Base (idx a3 a0)).bind fun a7=>bif a7 then qg a0 (w64 (a2 + 1)) else (qg a0 a2)) else (bif decide (a2 > 0) then qh y9 a6 a4 a5 a2 (decide (a2 < (a3.length:Int))) else (qh y9 a6 a4 a5 a2 false))
noncomputable def wy (a0:History) (a1:Ask) (y9:List Int):(List Int×Int×Int)→Option ((List Int×Int×Int) ⊕ (List Int×Bool))
 | (a4,a3,a2)=>bif decide (a2 < (y9.length:Int)) then must (0≤a2∧a2 < (y9.length:Int)) ((aQ a0 (idx y9 a2) a1.Key).bind fun a5=>iter (ww a1 y9 a4 a3 a2 a5) (0,0)) else (bif (a3 != (a1.Base.length:Int)) then out (some (([]:List Int),false)) else (out (some (a4,true))))
noncomputable def df (a0:History) (a1:Ask):Option (List Int×Bool) :=
 (bX a0 a1).bind fun y9=>iter (wy a0 a1 y9) ([],0,0)
noncomputable def qQ (a0:List Int):Option (List Int) :=
 some a0
noncomputable def jD (a0:List Int):Option (List Int) :=
 some a0
noncomputable def qR (a0:Int) (a1:List Int):Option ((List Int×Int) ⊕ (List Int)) :=
 some (.inl (a1,w64 (a0 + 1)))
noncomputable def wT (a0:History) (a1:Ask) (a5:List Int):(List Int×Int)→Option ((List Int×Int) ⊕ (List Int))
 | (a3,a2)=>bif decide (a2 < (a5.length:Int)) then must (0≤a2∧a2 < (a5.length:Int)) ((aQ a0 (idx a5 a2) a1.Key).bind fun a4=>must (0≤w64 ((a4.length:Int) - 1)∧w64 ((a4.length:Int) - 1) < (a4.length:Int)) (must (0≤(0:Int)∧(0:Int) < (a1.Base.length:Int)) (bif (idx a4 (w64 ((a4.length:Int) - 1)) == idx a1.Base (0:Int)) then must (((a3.length + 1) + (a3.length + 1) / 4 + 192) * 8≤281474976710656∧a3.length + 1≤9223372036854775807) (qR a2 (a3++([idx a5 a2]:List Int))) else (qR a2 a3)))) else (out (jD a3))
noncomputable def dF (a0:History) (a1:Ask):Option (List Int) :=
 (xQ a0 a1).bind fun y7=>bif (y7 == 4) then (aV a0 a1).bind fun a3=>must (0≤(0:Int)∧(0:Int) < (a1.Base.length:Int)) (bif (idx a1.Base (0:Int) == 0) then must (((1 + a3.length) + (1 + a3.length) / 4 + 192) * 8≤281474976710656∧1 + a3.length≤9223372036854775807) (qQ (([(-1)]:List Int)++a3)) else (qQ a3)) else (bif ((a1.Base.length:Int) == 0) then some ([(-1)]:List Int) else (bif (y7 == 1) then (bX a0 a1).bind fun a5=>iter (wT a0 a1 a5) ([],0) else (bif (y7 == 2) then (dU a0 a1).bind fun a2=>bif a2.2 then must (0≤w64 ((a2.1.length:Int) - 1)∧w64 ((a2.1.length:Int) - 1) < (a2.1.length:Int)) (must (((0 + 1) + (0 + 1) / 4 + 192) * 8≤281474976710656∧0 + 1≤9223372036854775807) (jD (([]:List Int)++([idx a2.1 (w64 ((a2.1.length:Int) - 1))]:List Int)))) else (jD []) else ((df a0 a1).bind fun a4=>bif a4.2 then jD a4.1 else (jD [])))))
end Go.Proofs.YtnlkggppokcmfaaGreatT
