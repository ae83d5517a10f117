import Derived.Test.YtnlkggppokcmfaaGreatY
namespace Go.Proofs.YtnlkggppokcmfaaGreatT
open Go Go.Proofs Go.Proofs.YtnlkggppokcmfaaGreatE
set_option linter.unusedVariables false
set_option linter.unusedSimpArgs false
set_option maxHeartbeats 0
set_option maxRecDepth 4096
structure Op where
 Kind:Int
 Key:Int
 Arg:Int
 Got:Bool
 Vals:List Int
 deriving Inhabited
abbrev kOp:Ty Op:=Ty.iso (bP (aI .i64) (bP (aI .i64) (bP (aI .i64) (bP pq (bB 2 (aI .i64)))))) (fun g:Op=>(g.Kind,g.Key,g.Arg,g.Got,g.Vals))
structure Txn where
 Proc:Int
 Status:Int
 From:Int
 To:Int
 Ops:List Op
 deriving Inhabited
abbrev kr:Ty Txn:=Ty.iso (bP (aI .i64) (bP (aI .i64) (bP (aI .i64) (bP (aI .i64) (bB 50 kOp))))) (fun g:Txn=>(g.Proc,g.Status,g.From,g.To,g.Ops))
structure History where
 Keys:List ByteArray
 Txns:List Txn
 deriving Inhabited
structure bV where
 key:ByteArray
 arg:Int
 deriving Inhabited,DecidableEq
def bV.enc (x:bV):List Value:=[.string x.key,.int .i64 x.arg]
abbrev CB:Ty bV:=Ty.flat 2 bV.enc (fun _=>rfl) (fun _=>FJ rfl)
instance : Flat CB bV.enc:=⟨Iff.rfl,Iff.rfl⟩
structure aX where
 keys:List ByteArray
 at_:List (ByteArray×Int)
 types:List Int
 facts:List (bV×Unit)
 incs:List (ByteArray×(List Int))
 deriving Inhabited
structure Call where
 Kind:Int
 Key:ByteArray
 Arg:Int
 Got:Bool
 Vals:List Int
 deriving Inhabited
abbrev vU:Ty Call:=Ty.iso (bP (aI .i64) (bP gN (bP (aI .i64) (bP pq (bB 2 (aI .i64)))))) (fun g:Call=>(g.Kind,g.Key,g.Arg,g.Got,g.Vals))
abbrev nk (N:BM):Ty Call:=Ty.iso (bP (aI .i64) (bP gN (bP (aI .i64) (bP pq (FP N (aI .i64)))))) (fun g:Call=>(g.Kind,g.Key,g.Arg,g.Got,g.Vals))
theorem Aa (N:BM):ug N (nk N) vU:=Eu (tK tJ (tK tJ (tK tJ (tK tJ Da))))
structure Event where
 Proc:Int
 Kind:Int
 Calls:List Call
 deriving Inhabited
abbrev yY:Ty Event:=Ty.iso (bP (aI .i64) (bP (aI .i64) (bB 109 vU))) (fun g:Event=>(g.Proc,g.Kind,g.Calls))
structure Ask where
 Txn:Int
 Place:Int
 Key:Int
 Base:List Int
 deriving Inhabited
abbrev Ay:Ty Ask:=Ty.iso (bP (aI .i64) (bP (aI .i64) (bP (aI .i64) (bB 2 (aI .i64))))) (fun g:Ask=>(g.Txn,g.Place,g.Key,g.Base))
structure fe where
 Txn:Int
 Place:Int
 deriving Inhabited,DecidableEq
def fe.enc (x:fe):List Value:=[.int .i64 x.Txn,.int .i64 x.Place]
abbrev wL:Ty fe:=Ty.flat 2 fe.enc (fun _=>rfl) (fun _=>FJ rfl)
instance : Flat wL fe.enc:=⟨Iff.rfl,Iff.rfl⟩
structure dM where
 asks:List Ask
 bad:List fe
 deriving Inhabited
structure bO where
 h:History
 order:List Int
 at_:List (Int×Int)
 deriving Inhabited
structure Exec where
 Order:List Int
 Picks:List Int
 deriving Inhabited
structure aD where
 keys:List ByteArray
 types:List Int
 wrote:List (List Int)
 incs:List Int
 last_:List Int
 deriving Inhabited
structure bD where
 txn:Int
 args:List Int
 deriving Inhabited
abbrev Rw2 (A:Option Addr) (c:Nat) (l:List Int):bM := .row (aI .i64) 2 A l.length c l
abbrev Rn2 (A:Option Addr) (n c:Nat) (l:List Int):bM := .row (aI .i64) 2 A n c l
abbrev Rw3 (A:Option Addr) (c:Nat) (l:List Int):bM := .row (aI .i64) 3 A l.length c l
abbrev Rn3 (A:Option Addr) (n c:Nat) (l:List Int):bM := .row (aI .i64) 3 A n c l
abbrev Rw9 (A:Option Addr) (c:Nat) (l:List ByteArray):bM := .row gN 9 A l.length c l
abbrev Rn9 (A:Option Addr) (n c:Nat) (l:List ByteArray):bM := .row gN 9 A n c l
abbrev Bq (A:Option Addr) (c:Nat) (l:List (List Int)):bM := .row (bB 2 (aI .i64)) 26 A l.length c l
abbrev uz (A:Option Addr) (c:Nat) (l:List Ask):bM := .row Ay 28 A l.length c l
abbrev IX (A:Option Addr) (c:Nat) (l:List Op):bM := .row kOp 50 A l.length c l
abbrev FX (A:Option Addr) (n c:Nat) (l:List Op):bM := .row kOp 50 A n c l
abbrev mJ (A:Option Addr) (c:Nat) (l:List Txn):bM := .row kr 53 A l.length c l
abbrev IY (A:Option Addr) (n c:Nat) (l:List Txn):bM := .row kr 53 A n c l
abbrev mK (A:Option Addr) (c:Nat) (l:List fe):bM := .row wL 149 A l.length c l
abbrev Or2 (A:Option Addr) (c:Nat) (l:List Int):bM:=orA noM (aI .i64) 2 A l.length c l
abbrev zO (b:Nat) (m:List (Int×Int)):bM:=Ct (fun x:Int => .int .i64 x) (fun x:Int => .int .i64 x) b m
abbrev Iy (b:Nat) (m:List (Int×Int)):bM:=Ct (fun x:Int => .int .i64 x) (fun x:Int => .int .i64 x) b m
abbrev Ab (b:Nat) (m:List (Int×(List Int))):bM:=qJ (fun x:Int => .int .i64 x) (bB 2 (aI .i64)) b m
abbrev wM (b:Nat) (m:List (ByteArray×Int)):bM:=Ct (fun x:ByteArray => .string x) (fun x:Int => .int .i64 x) b m
abbrev wN (b:Nat) (m:List (bV×Unit)):bM:=Ct (fun x:bV => .agg #[.string x.key,.int .i64 x.arg]) (fun _:Unit => .agg #[]) b m
abbrev Ac (b:Nat) (m:List (ByteArray×(List Int))):bM:=qJ (fun x:ByteArray => .string x) (bB 3 (aI .i64)) b m
abbrev oH (x:History) (A0:Option Addr) (c0:Nat) (A1:Option Addr) (c1:Nat):List Value:=[vS A0 x.Keys.length c0,vS A1 x.Txns.length c1]
abbrev pu (x:History) (A0:Option Addr) (c0:Nat) (A1:Option Addr) (c1:Nat):Value := .agg (oH x A0 c0 A1 c1).toArray
abbrev bN (b:Nat) (x:History) (A0:Option Addr) (c0:Nat) (A1:Option Addr) (c1:Nat):bM := .blk b 25 (oH x A0 c0 A1 c1)
abbrev Ea (x:Ask) (A3:Option Addr) (c3:Nat):List Value:=[vI x.Txn,vI x.Place,vI x.Key,vS A3 x.Base.length c3]
abbrev IZ (x:Ask) (A3:Option Addr) (c3:Nat):Value := .agg (Ea x A3 c3).toArray
abbrev Iz (b:Nat) (x:Ask) (A3:Option Addr) (c3:Nat):bM := .blk b 28 (Ea x A3 c3)
abbrev Eb (x:Exec) (A0:Option Addr) (c0:Nat) (A1:Option Addr) (c1:Nat):List Value:=[vS A0 x.Order.length c0,vS A1 x.Picks.length c1]
abbrev FY (x:Exec) (A0:Option Addr) (c0:Nat) (A1:Option Addr) (c1:Nat):Value := .agg (Eb x A0 c0 A1 c1).toArray
abbrev lD (b:Nat) (x:Exec) (A0:Option Addr) (c0:Nat) (A1:Option Addr) (c1:Nat):bM := .blk b 45 (Eb x A0 c0 A1 c1)
abbrev wm (x:Op) (A4:Option Addr) (c4:Nat):List Value:=[vI x.Kind,vI x.Key,vI x.Arg,vB x.Got,vS A4 x.Vals.length c4]
abbrev mM (b:Nat) (x:Op) (A4:Option Addr) (c4:Nat):bM := .blk b 50 (wm x A4 c4)
abbrev sK (x:Txn) (A4:Option Addr) (c4:Nat):List Value:=[vI x.Proc,vI x.Status,vI x.From,vI x.To,vS A4 x.Ops.length c4]
abbrev Ec (x:Txn) (A4:Option Addr) (c4:Nat):Value := .agg (sK x A4 c4).toArray
abbrev lF (b:Nat) (x:Txn) (A4:Option Addr) (c4:Nat):bM := .blk b 53 (sK x A4 c4)
abbrev CE (x:bO) (A0:Option Addr) (c0:Nat) (A1:Option Addr) (c1:Nat) (A2:Option Addr) (c2:Nat) (b3:Nat):List Value:=[vS A0 x.h.Keys.length c0,vS A1 x.h.Txns.length c1,vS A2 x.order.length c2,.map (some b3)]
abbrev FZ (x:bO) (A0:Option Addr) (c0:Nat) (A1:Option Addr) (c1:Nat) (A2:Option Addr) (c2:Nat) (b3:Nat):Value := .agg (CE x A0 c0 A1 c1 A2 c2 b3).toArray
abbrev vJ (b:Nat) (x:bO) (A0:Option Addr) (c0:Nat) (A1:Option Addr) (c1:Nat) (A2:Option Addr) (c2:Nat) (b3:Nat):bM := .blk b 69 (CE x A0 c0 A1 c1 A2 c2 b3)
abbrev IA (x:dM) (A0:Option Addr) (c0:Nat) (A1:Option Addr) (c1:Nat):List Value:=[vS A0 x.asks.length c0,vS A1 x.bad.length c1]
abbrev Jq (x:dM) (A0:Option Addr) (c0:Nat) (A1:Option Addr) (c1:Nat):Value := .agg (IA x A0 c0 A1 c1).toArray
abbrev Ja (x:aD) (A0:Option Addr) (c0:Nat) (A1:Option Addr) (c1:Nat) (A2:Option Addr) (c2:Nat) (A3:Option Addr) (c3:Nat) (A4:Option Addr) (c4:Nat):List Value:=[vS A0 x.keys.length c0,vS A1 x.types.length c1,vS A2 x.wrote.length c2,vS A3 x.incs.length c3,vS A4 x.last_.length c4]
abbrev Ik (b:Nat) (x:aD) (A0:Option Addr) (c0:Nat) (A1:Option Addr) (c1:Nat) (A2:Option Addr) (c2:Nat) (A3:Option Addr) (c3:Nat) (A4:Option Addr) (c4:Nat):bM := .blk b 103 (Ja x A0 c0 A1 c1 A2 c2 A3 c3 A4 c4)
abbrev Ad (x:Event) (A2:Option Addr) (c2:Nat):List Value:=[vI x.Proc,vI x.Kind,vS A2 x.Calls.length c2]
abbrev Il (x:Event) (A2:Option Addr) (c2:Nat):Value := .agg (Ad x A2 c2).toArray
abbrev Dm (b:Nat) (x:Event) (A2:Option Addr) (c2:Nat):bM := .blk b 107 (Ad x A2 c2)
abbrev wO (x:Call) (A4:Option Addr) (c4:Nat):List Value:=[vI x.Kind,.string x.Key,vI x.Arg,vB x.Got,vS A4 x.Vals.length c4]
abbrev yZ (x:Call) (A4:Option Addr) (c4:Nat):Value := .agg (wO x A4 c4).toArray
abbrev fJ (b:Nat) (x:Call) (A4:Option Addr) (c4:Nat):bM := .blk b 109 (wO x A4 c4)
abbrev EC (b:Nat) (A0:Option Addr) (c0:Nat) (x0:List ByteArray) (A1:Option Addr) (c1:Nat) (x1:List Txn):List bM:=[.blk b 25 [vS A0 x0.length c0,vS A1 x1.length c1],Rw9 A0 c0 x0,mJ A1 c1 x1]
abbrev Jr (b:Nat) (x:History) (A0:Option Addr) (c0:Nat) (A1:Option Addr) (c1:Nat):List bM:=EC b A0 c0 x.Keys A1 c1 x.Txns
abbrev Js (b:Nat) (A0:Option Addr) (c0:Nat) (x0:List Int) (A1:Option Addr) (c1:Nat) (x1:List Int):List bM:=[.blk b 45 [vS A0 x0.length c0,vS A1 x1.length c1],Rw3 A0 c0 x0,Rw3 A1 c1 x1]
abbrev Jb (b:Nat) (x0:Int) (x1:Int) (x2:Int) (x3:Int) (A4:Option Addr) (c4:Nat) (x4:List Op):List bM:=[.blk b 53 [vI x0,vI x1,vI x2,vI x3,vS A4 x4.length c4],IX A4 c4 x4]
abbrev za (b:Nat) (A0:Option Addr) (c0:Nat) (x0:List Ask) (A1:Option Addr) (c1:Nat) (x1:List fe):List bM:=[.blk b 79 [vS A0 x0.length c0,vS A1 x1.length c1],uz A0 c0 x0,mK A1 c1 x1]
abbrev Jc (b:Nat) (x:dM) (A0:Option Addr) (c0:Nat) (A1:Option Addr) (c1:Nat):List bM:=za b A0 c0 x.asks A1 c1 x.bad
abbrev om (b:Nat) (A0:Option Addr) (c0:Nat) (x0:List ByteArray) (A1:Option Addr) (c1:Nat) (x1:List Int) (A2:Option Addr) (c2:Nat) (x2:List (List Int)) (A3:Option Addr) (c3:Nat) (x3:List Int) (A4:Option Addr) (c4:Nat) (x4:List Int):List bM:=[.blk b 103 [vS A0 x0.length c0,vS A1 x1.length c1,vS A2 x2.length c2,vS A3 x3.length c3,vS A4 x4.length c4],Rw9 A0 c0 x0,Rw3 A1 c1 x1,Bq A2 c2 x2,Rw3 A3 c3 x3,Rw3 A4 c4 x4]
abbrev Im (b:Nat) (x:aD) (A0:Option Addr) (c0:Nat) (A1:Option Addr) (c1:Nat) (A2:Option Addr) (c2:Nat) (A3:Option Addr) (c3:Nat) (A4:Option Addr) (c4:Nat):List bM:=om b A0 c0 x.keys A1 c1 x.types A2 c2 x.wrote A3 c3 x.incs A4 c4 x.last_
abbrev uA (b:Nat) (A0:Option Addr) (c0:Nat) (x0:List ByteArray) (b1:Nat) (x1:List (ByteArray×Int)) (A2:Option Addr) (c2:Nat) (x2:List Int) (b3:Nat) (x3:List (bV×Unit)) (b4:Nat) (x4:List (ByteArray×(List Int))):List bM:=[.blk b 155 [vS A0 x0.length c0,.map (some b1),vS A2 x2.length c2,.map (some b3),.map (some b4)],Rw9 A0 c0 x0,wM b1 x1,Rw3 A2 c2 x2,wN b3 x3,Ac b4 x4]
abbrev ED (b:Nat) (x:aX) (A0:Option Addr) (c0:Nat) (b1:Nat) (A2:Option Addr) (c2:Nat) (b3:Nat) (b4:Nat):List bM:=uA b A0 c0 x.keys b1 x.at_ A2 c2 x.types b3 x.facts b4 x.incs
theorem Io {H:BM} {x:Ask} {cs:List Value} (h:Ay.rd H x cs):∃ A3 c3,cs=Ea x A3 c3∧x.Base.length≤c3∧rdS (aI .i64) H A3 x.Base:=by
 obtain ⟨_,_,rfl,rfl,⟨_,_,rfl,rfl,⟨_,_,rfl,rfl,⟨A0,c0,rfl,l0,r0⟩⟩⟩⟩:=h;exact ⟨A0,c0,rfl,l0,r0⟩
theorem wo {H:BM} {x:Op} {cs:List Value} (h:kOp.rd H x cs):∃ A4 c4,cs=wm x A4 c4∧x.Vals.length≤c4∧rdS (aI .i64) H A4 x.Vals:=by
 obtain ⟨_,_,rfl,rfl,⟨_,_,rfl,rfl,⟨_,_,rfl,rfl,⟨_,_,rfl,rfl,⟨A0,c0,rfl,l0,r0⟩⟩⟩⟩⟩:=h;exact ⟨A0,c0,rfl,l0,r0⟩
theorem iD {H:BM} {x:Txn} {cs:List Value} (h:kr.rd H x cs):∃ A4 c4,cs=sK x A4 c4∧x.Ops.length≤c4∧rdS kOp H A4 x.Ops:=by
 obtain ⟨_,_,rfl,rfl,⟨_,_,rfl,rfl,⟨_,_,rfl,rfl,⟨_,_,rfl,rfl,⟨A0,c0,rfl,l0,r0⟩⟩⟩⟩⟩:=h;exact ⟨A0,c0,rfl,l0,r0⟩
theorem Dn {H:BM} {x:Event} {cs:List Value} (h:yY.rd H x cs):∃ A2 c2,cs=Ad x A2 c2∧x.Calls.length≤c2∧rdS vU H A2 x.Calls:=by
 obtain ⟨_,_,rfl,rfl,⟨_,_,rfl,rfl,⟨A0,c0,rfl,l0,r0⟩⟩⟩:=h;exact ⟨A0,c0,rfl,l0,r0⟩
theorem EE {H:BM} {x:Call} {cs:List Value} (h:vU.rd H x cs):∃ A4 c4,cs=wO x A4 c4∧x.Vals.length≤c4∧rdS (aI .i64) H A4 x.Vals:=by
 obtain ⟨_,_,rfl,rfl,⟨_,_,rfl,rfl,⟨_,_,rfl,rfl,⟨_,_,rfl,rfl,⟨A0,c0,rfl,l0,r0⟩⟩⟩⟩⟩:=h;exact ⟨A0,c0,rfl,l0,r0⟩
theorem EF (x:Ask) {R3:List bM} {c3:List Value} (h3:Mk (bB 2 (aI .i64)) R3 x.Base c3):Mk Ay ([]++([]++([]++R3))) x ([vI x.Txn]++([vI x.Place]++([vI x.Key]++c3))):=wJ (g:=fun g:Ask=>(g.Txn,g.Place,g.Key,g.Base)) (x:=x) (eP (ni _ _ rfl) (eP (ni _ _ rfl) (eP (ni _ _ rfl) h3)))
theorem IB (x:Op) {R4:List bM} {c4:List Value} (h4:Mk (bB 2 (aI .i64)) R4 x.Vals c4):Mk kOp ([]++([]++([]++([]++R4)))) x ([vI x.Kind]++([vI x.Key]++([vI x.Arg]++([vB x.Got]++c4)))):=wJ (g:=fun g:Op=>(g.Kind,g.Key,g.Arg,g.Got,g.Vals)) (x:=x) (eP (ni _ _ rfl) (eP (ni _ _ rfl) (eP (ni _ _ rfl) (eP (ni _ _ rfl) h4))))
theorem EG (x:Txn) {R4:List bM} {c4:List Value} (h4:Mk (bB 50 kOp) R4 x.Ops c4):Mk kr ([]++([]++([]++([]++R4)))) x ([vI x.Proc]++([vI x.Status]++([vI x.From]++([vI x.To]++c4)))):=wJ (g:=fun g:Txn=>(g.Proc,g.Status,g.From,g.To,g.Ops)) (x:=x) (eP (ni _ _ rfl) (eP (ni _ _ rfl) (eP (ni _ _ rfl) (eP (ni _ _ rfl) h4))))
noncomputable def mh (a0:History) (a4:List Txn) (a1:Int):(List Op×Int)→Option ((List Op×Int) ⊕ ((List Txn×Int) ⊕ History))
 | (a3,a2)=>bif decide (a2 < (((idx a0.Txns a1).Ops).length:Int)) then must (0≤a2∧a2 < (((idx a0.Txns a1).Ops).length:Int)) (must (((0 + (((idx ((idx a0.Txns a1).Ops) a2).Vals).length)) + (0 + (((idx ((idx a0.Txns a1).Ops) a2).Vals).length)) / 4 + 192) * 8≤281474976710656∧0 + (((idx ((idx a0.Txns a1).Ops) a2).Vals).length)≤9223372036854775807) (must (((a3.length + 1) + (a3.length + 1) / 4 + 192) * 56≤281474976710656∧a3.length + 1≤9223372036854775807) (some (.inl (a3++([(⟨(idx ((idx a0.Txns a1).Ops) a2).Kind,(idx ((idx a0.Txns a1).Ops) a2).Key,(idx ((idx a0.Txns a1).Ops) a2).Arg,(idx ((idx a0.Txns a1).Ops) a2).Got,([]:List Int)++((idx ((idx a0.Txns a1).Ops) a2).Vals)⟩:Op)]:List Op),w64 (a2 + 1)))))) else (must (((a4.length + 1) + (a4.length + 1) / 4 + 192) * 56≤281474976710656∧a4.length + 1≤9223372036854775807) (out (some (.inl (a4++([(⟨(idx a0.Txns a1).Proc,(idx a0.Txns a1).Status,(idx a0.Txns a1).From,(idx a0.Txns a1).To,a3⟩:Txn)]:List Txn),w64 (a1 + 1))))))
noncomputable def mi (a0:History):(List Txn×Int)→Option ((List Txn×Int) ⊕ History)
 | (a2,a1)=>bif decide (a1 < (a0.Txns.length:Int)) then must (0≤a1∧a1 < (a0.Txns.length:Int)) (iter (mh a0 a2 a1) ([],0)) else (out (some (⟨([]:List ByteArray)++a0.Keys,a2⟩:History)))
noncomputable def df (a0:History):Option History :=
 must (((0 + a0.Keys.length) + (0 + a0.Keys.length) / 4 + 192) * 16≤281474976710656∧0 + a0.Keys.length≤9223372036854775807) (iter (mi a0) ([],0))
noncomputable def jT (a0:List Int) (a1:List Int):Int→Option (Int ⊕ Bool)
 | a2=>bif decide (a2 < (a0.length:Int)) then must (0≤a2∧a2 < (a0.length:Int)) (must (0≤a2∧a2 < (a1.length:Int)) (bif (idx a0 a2 != idx a1 a2) then out (some false) else (some (.inl (w64 (a2 + 1)))))) else (out (some true))
noncomputable def bR (a0:List Int) (a1:List Int):Option Bool :=
 bif ((a0.length:Int) != (a1.length:Int)) then some false else (iter (jT a0 a1) 0)
noncomputable def iw (a0:List Int) (a1:List Int):Int→Option (Int ⊕ Bool)
 | a2=>bif decide (a2 < (a0.length:Int)) then must (0≤a2∧a2 < (a0.length:Int)) (must (0≤a2∧a2 < (a1.length:Int)) (bif (idx a0 a2 != idx a1 a2) then out (some false) else (some (.inl (w64 (a2 + 1)))))) else (out (some true))
noncomputable def bE (a0:List Int) (a1:List Int):Option Bool :=
 bif ((a0.length:Int) != (a1.length:Int)) then some false else (iter (iw a0 a1) 0)
noncomputable def eU (a1:Int) (a0:Bool):Option (Int ⊕ (Int ⊕ (Int ⊕ Bool))) :=
 bif a0 then out (out (out (some false))) else (some (.inl (w64 (a1 + 1))))
noncomputable def mo (a0:History) (a1:History) (a3:Int) (a2:Int):Option (Int ⊕ (Int ⊕ (Int ⊕ Bool))) :=
 bif ((idx ((idx a0.Txns a3).Ops) a2).Kind != (idx ((idx a1.Txns a3).Ops) a2).Kind) then eU a2 true else (bif ((idx ((idx a0.Txns a3).Ops) a2).Key != (idx ((idx a1.Txns a3).Ops) a2).Key) then eU a2 true else (bif ((idx ((idx a0.Txns a3).Ops) a2).Arg != (idx ((idx a1.Txns a3).Ops) a2).Arg) then eU a2 true else (bif ((idx ((idx a0.Txns a3).Ops) a2).Got != (idx ((idx a1.Txns a3).Ops) a2).Got) then eU a2 true else ((bE ((idx ((idx a0.Txns a3).Ops) a2).Vals) ((idx ((idx a1.Txns a3).Ops) a2).Vals)).bind fun a4=>eU a2 (!a4)))))
noncomputable def mq (a0:History) (a1:History) (a3:Int):Int→Option (Int ⊕ (Int ⊕ (Int ⊕ Bool)))
 | a2=>bif decide (a2 < (((idx a0.Txns a3).Ops).length:Int)) then must (0≤a2∧a2 < (((idx a0.Txns a3).Ops).length:Int)) (must (0≤a2∧a2 < (((idx a1.Txns a3).Ops).length:Int)) (mo a0 a1 a3 a2)) else (out (some (.inl (w64 (a3 + 1)))))
noncomputable def eX (a0:History) (a1:History) (a2:Int) (a3:Bool):Option (Int ⊕ (Int ⊕ Bool)) :=
 bif a3 then out (out (some false)) else (iter (mq a0 a1 a2) 0)
noncomputable def mr (a0:History) (a1:History) (a2:Int):Option (Int ⊕ (Int ⊕ Bool)) :=
 bif ((idx a0.Txns a2).Proc != (idx a1.Txns a2).Proc) then eX a0 a1 a2 true else (bif ((idx a0.Txns a2).Status != (idx a1.Txns a2).Status) then eX a0 a1 a2 true else (bif ((idx a0.Txns a2).From != (idx a1.Txns a2).From) then eX a0 a1 a2 true else (bif ((idx a0.Txns a2).To != (idx a1.Txns a2).To) then eX a0 a1 a2 true else (eX a0 a1 a2 ((((idx a0.Txns a2).Ops).length:Int) != (((idx a1.Txns a2).Ops).length:Int))))))
noncomputable def mD (a0:History) (a1:History):Int→Option (Int ⊕ (Int ⊕ Bool))
 | a2=>bif decide (a2 < (a0.Txns.length:Int)) then must (0≤a2∧a2 < (a0.Txns.length:Int)) (must (0≤a2∧a2 < (a1.Txns.length:Int)) (mr a0 a1 a2)) else (out (out (some true)))
noncomputable def mE (a0:History) (a1:History):Int→Option (Int ⊕ Bool)
 | a2=>bif decide (a2 < (a0.Keys.length:Int)) then must (0≤a2∧a2 < (a0.Keys.length:Int)) (must (0≤a2∧a2 < (a1.Keys.length:Int)) (bif !(sEq (idx a0.Keys a2) (idx a1.Keys a2)) then out (some false) else (some (.inl (w64 (a2 + 1)))))) else (iter (mD a0 a1) 0)
noncomputable def jL (a0:History) (a1:History) (b9:Bool):Option Bool :=
 bif b9 then some false else (iter (mE a0 a1) 0)
noncomputable def aA (a0:History) (a1:History):Option Bool :=
 bif ((a0.Keys.length:Int) != (a1.Keys.length:Int)) then jL a0 a1 true else (jL a0 a1 ((a0.Txns.length:Int) != (a1.Txns.length:Int)))
noncomputable def ku (a0:List ByteArray) (a1:ByteArray):Int→Option (Int ⊕ Int)
 | a2=>bif decide (a2 < (a0.length:Int)) then must (0≤a2∧a2 < (a0.length:Int)) (bif sEq a1 (idx a0 a2) then out (some a2) else (some (.inl (w64 (a2 + 1))))) else (out (some (-1)))
noncomputable def slices_Index_string (a0:List ByteArray) (a1:ByteArray):Option Int :=
 iter (ku a0 a1) 0
noncomputable def slices_Contains_string (a0:List ByteArray) (a1:ByteArray):Option Bool :=
 (slices_Index_string a0 a1).bind fun y3=>some (decide (y3 ≥ 0))
noncomputable def mX:Option aX :=
 some (⟨([]:List ByteArray),([]:List (ByteArray×Int)),([]:List Int),([]:List (bV×Unit)),([]:List (ByteArray×(List Int)))⟩:aX)
noncomputable def sM (a0:Int):Option (Int×Int) :=
 bif (a0 == 5) then some (0,1) else (bif (a0 == 8) then some (1,1) else (some (0,64)))
noncomputable def oN (a0:Call) (a1:Int) (a2:Bool):Option (Int ⊕ Bool) :=
 bif a2 then must (0≤w64 (a1 - 1)∧w64 (a1 - 1) < (a0.Vals.length:Int)) (must (0≤a1∧a1 < (a0.Vals.length:Int)) (bif decide (idx a0.Vals (w64 (a1 - 1)) ≥ idx a0.Vals a1) then out (some false) else (some (.inl (w64 (a1 + 1)))))) else (out (some true))
noncomputable def oO (a0:Call):Int→Option (Int ⊕ Bool)
 | a1=>bif (a0.Kind == 7) then oN a0 a1 (decide (a1 < (a0.Vals.length:Int))) else (oN a0 a1 false)
noncomputable def oP (a0:Call) (a1:Bool):Option Bool :=
 bif a1 then some false else (iter (oO a0) 1)
noncomputable def oQ (a0:Call) (a2:Bool):Option Bool :=
 bif a2 then some false else (bif !a0.Got then some ((a0.Vals.length:Int) == 0) else ((sM a0.Kind).bind fun a1=>bif decide ((a0.Vals.length:Int) < a1.1) then oP a0 true else (oP a0 (decide ((a0.Vals.length:Int) > a1.2)))))
noncomputable def kK (a0:Call) (a1:Int) (a2:Bool):Option Bool :=
 bif a2 then some false else (bif decide (a0.Kind≤4) then bif !a0.Got then bif ((a0.Vals.length:Int) == 0) then bif (a0.Kind != 4) then some true else (bif decide ((-1048576)≤a0.Arg) then some (decide (a0.Arg≤1048576)) else (some false)) else (some false) else (some false) else (bif (a0.Arg != 0) then oQ a0 true else (oQ a0 (a0.Got != (a1 == 1)))))
noncomputable def bK (a0:Call) (a1:Int):Option Bool :=
 bif decide (a0.Kind < 1) then kK a0 a1 true else (bif decide (a0.Kind > 8) then kK a0 a1 true else (bif sEq a0.Key (⟨#[]⟩:ByteArray) then kK a0 a1 true else (kK a0 a1 (decide ((a0.Key.size:Int) > 32)))))
noncomputable def pV (a0:Call) (a1:Event):Option Bool :=
 (bK a0 a1.Kind).bind fun y5=>some (!y5)
noncomputable def eO (a0:List Call) (a1c0:Event):Int→Option (Int ⊕ Int)
 | a1=>bif decide (a1 < (a0.length:Int)) then must (0≤a1∧a1 < (a0.length:Int)) ((pV (idx a0 a1) a1c0).bind fun a2=>bif a2 then out (some a1) else (some (.inl (w64 (a1 + 1))))) else (out (some (-1)))
noncomputable def bA (a0:List Call) (a1c0:Event):Option Int :=
 iter (eO a0 a1c0) 0
noncomputable def cz (a0:List Call) (a1c0:Event):Option Bool :=
 (bA a0 a1c0).bind fun y3=>some (decide (y3 ≥ 0))
noncomputable def mO (a0:List Event) (a1:Int) (a2:Bool):Option (Int ⊕ Int) :=
 bif a2 then out (some 1) else ((cz ((idx a0 a1).Calls) (idx a0 a1)).bind fun a3=>bif a3 then out (some 1) else (some (.inl (w64 (a1 + 1)))))
noncomputable def ry (a0:List Event):Int→Option (Int ⊕ Int)
 | a1=>bif decide (a1 < (a0.length:Int)) then must (0≤a1∧a1 < (a0.length:Int)) (bif decide ((idx a0 a1).Kind < 0) then mO a0 a1 true else (bif decide ((idx a0 a1).Kind > 3) then mO a0 a1 true else (mO a0 a1 (decide ((((idx a0 a1).Calls).length:Int) > 16))))) else (out (some 0))
noncomputable def fG (a0:List Event):Option Int :=
 bif decide ((a0.length:Int) > 256) then some 1 else (iter (ry a0) 0)
noncomputable def qb (a0:History) (a1:Txn) (a3:List Call) (a2:Int):Option ((List Call×Int) ⊕ (Event×Bool)) :=
 some (.inl (a3++([(⟨(idx a1.Ops a2).Kind,idx a0.Keys ((idx a1.Ops a2).Key),(idx a1.Ops a2).Arg,(idx a1.Ops a2).Got,(idx a1.Ops a2).Vals⟩:Call)]:List Call),w64 (a2 + 1)))
noncomputable def nD (a0:History) (a1:Txn) (a2:List Call) (a3:Int) (a4:Bool):Option ((List Call×Int) ⊕ (Event×Bool)) :=
 bif a4 then out (some ((⟨0,a1.Status,a2⟩:Event),false)) else (must (0≤(idx a1.Ops a3).Key∧(idx a1.Ops a3).Key < (a0.Keys.length:Int)) (must (((a2.length + 1) + (a2.length + 1) / 4 + 192) * 64≤281474976710656∧a2.length + 1≤9223372036854775807) (qb a0 a1 a2 a3)))
noncomputable def qc (a0:History) (a1:Txn):(List Call×Int)→Option ((List Call×Int) ⊕ (Event×Bool))
 | (a3,a2)=>bif decide (a2 < (a1.Ops.length:Int)) then must (0≤a2∧a2 < (a1.Ops.length:Int)) (bif decide ((idx a1.Ops a2).Key < 0) then nD a0 a1 a3 a2 true else (nD a0 a1 a3 a2 (decide ((idx a1.Ops a2).Key ≥ (a0.Keys.length:Int))))) else ((fG ([(⟨0,a1.Status,a3⟩:Event)]:List Event)).bind fun a4=>out (some ((⟨0,a1.Status,a3⟩:Event),(a4 == 0))))
noncomputable def dK (a0:History) (a1:Txn):Option (Event×Bool) :=
 iter (qc a0 a1) ([],0)
noncomputable def nE (a0:Txn) (a1:Txn):Option Bool :=
 bif (a0.Proc == a1.Proc) then bif (a0.To == (-1)) then some true else (some (decide (a0.To ≥ a1.From))) else (some false)
noncomputable def dZ (a0:List Txn) (a1c0:Txn):Int→Option (Int ⊕ Int)
 | a1=>bif decide (a1 < (a0.length:Int)) then must (0≤a1∧a1 < (a0.length:Int)) ((nE (idx a0 a1) a1c0).bind fun a2=>bif a2 then out (some a1) else (some (.inl (w64 (a1 + 1))))) else (out (some (-1)))
noncomputable def bf (a0:List Txn) (a1c0:Txn):Option Int :=
 iter (dZ a0 a1c0) 0
noncomputable def cu (a0:List Txn) (a1c0:Txn):Option Bool :=
 (bf a0 a1c0).bind fun y3=>some (decide (y3 ≥ 0))
noncomputable def kH (a0:List Txn) (a1:Txn) (a3:Bool):Option Bool :=
 bif a3 then some false else ((cu a0 a1).bind fun a2=>some (!a2))
noncomputable def mY (a0:List Txn) (a1:Txn):Option Bool :=
 bif decide (a1.From < 0) then kH a0 a1 true else (bif decide ((a0.length:Int) > 0) then must (0≤w64 ((a0.length:Int) - 1)∧w64 ((a0.length:Int) - 1) < (a0.length:Int)) (kH a0 a1 (decide ((idx a0 (w64 ((a0.length:Int) - 1))).From ≥ a1.From))) else (kH a0 a1 false))
noncomputable def mZ (a0:List Txn) (a1:Txn) (a2:Bool):Option Bool :=
 bif a2 then some false else (mY a0 a1)
noncomputable def ng (a0:List Txn) (a1:Txn) (a2:Bool):Option Bool :=
 bif a2 then bif decide (a1.To≤a1.From) then some false else (mY a0 a1) else (bif (a1.Status == 3) then bif (a1.To != (-1)) then mZ a0 a1 (decide (a1.To≤a1.From)) else (mZ a0 a1 false) else (some false))
noncomputable def bH (a0:List Txn) (a1:Txn):Option Bool :=
 bif (a1.Status == 1) then ng a0 a1 (a1.Status == 1) else (ng a0 a1 (a1.Status == 2))
noncomputable def lX (a0:Int):Option Int :=
 some (w64 ((zY .i64 (w64 (a0 - 1)) 3) + 1))
noncomputable def gy (a3:List ByteArray) (a4:List (ByteArray×Int)) (a0:List Int) (a2:List (bV×Unit)) (a1:List (ByteArray×(List Int))):Option (Int×aX) :=
 some (0,(⟨a3,a4,a0,a2,a1⟩:aX))
noncomputable def kM (a0:aX) (a1:Call) (a4:List ByteArray) (a3:List (ByteArray×Int)) (a2:List Int):Option (Int×aX) :=
 bif kF a0.facts (⟨a1.Key,a1.Arg⟩:bV) then some (3,(⟨a4,a3,a2,a0.facts,a0.incs⟩:aX)) else (gy a4 a3 a2 (gP a0.facts (⟨a1.Key,a1.Arg⟩:bV) ()) a0.incs)
noncomputable def iQ (a0:aX) (a1:Call) (a5:List ByteArray) (a4:List (ByteArray×Int)) (a3:List Int) (a2:List (ByteArray×(List Int))):Option (Int×aX) :=
 bif decide (((mat a2 a1.Key).length:Int) > 8) then some (51,(⟨a5,a4,a3,a0.facts,a2⟩:aX)) else (gy a5 a4 a3 a0.facts a2)
noncomputable def iR (a0:aX) (a1:Call) (a2:Int) (a5:List ByteArray) (a4:List (ByteArray×Int)) (a3:List Int) (a6:Bool):Option (Int×aX) :=
 bif a6 then must (((((mat a0.incs a1.Key).length) + 1) + (((mat a0.incs a1.Key).length) + 1) / 4 + 192) * 8≤281474976710656∧((mat a0.incs a1.Key).length) + 1≤9223372036854775807) (iQ a0 a1 a5 a4 a3 (gP a0.incs a1.Key ((mat a0.incs a1.Key)++([a2]:List Int)))) else (iQ a0 a1 a5 a4 a3 a0.incs)
noncomputable def iT (a0:aX) (a1:Call) (a2:Int) (a5:List ByteArray) (a4:List (ByteArray×Int)) (a3:List Int) (a6:Bool):Option (Int×aX) :=
 bif a6 then kM a0 a1 a5 a4 a3 else (bif (a1.Kind == 4) then bif (((mat a0.incs a1.Key).length:Int) == 0) then iR a0 a1 a2 a5 a4 a3 true else (must (0≤w64 (((mat a0.incs a1.Key).length:Int) - 1)∧w64 (((mat a0.incs a1.Key).length:Int) - 1) < ((mat a0.incs a1.Key).length:Int)) (iR a0 a1 a2 a5 a4 a3 (idx (mat a0.incs a1.Key) (w64 (((mat a0.incs a1.Key).length:Int) - 1)) != a2))) else (gy a5 a4 a3 a0.facts a0.incs))
noncomputable def gz (a0:aX) (a1:Call) (a2:Int) (a5:List ByteArray) (a6:List (ByteArray×Int)) (a3:List Int) (a4:Int):Option (Int×aX) :=
 must (0≤a4∧a4 < (a3.length:Int)) ((lX a1.Kind).bind fun a7=>bif (idx a3 a4 != a7) then some (50,(⟨a5,a6,a3,a0.facts,a0.incs⟩:aX)) else (bif (a1.Kind == 2) then iT a0 a1 a2 a5 a6 a3 (a1.Kind == 2) else (iT a0 a1 a2 a5 a6 a3 (a1.Kind == 3))))
noncomputable def kN (a0:aX) (a1:Call) (a2:Int):Option (Int×aX) :=
 (lX a1.Kind).bind fun a3=>must (((a0.types.length + 1) + (a0.types.length + 1) / 4 + 192) * 8≤281474976710656∧a0.types.length + 1≤9223372036854775807) (gz a0 a1 a2 (a0.keys++([a1.Key]:List ByteArray)) (gP a0.at_ a1.Key (a0.keys.length:Int)) (a0.types++([a3]:List Int)) (a0.keys.length:Int))
noncomputable def az (a0:aX) (a1:Call) (a2:Int):Option (Int×aX) :=
 bif !(kF a0.at_ a1.Key) then bif ((a0.keys.length:Int) == 32) then some (2,a0) else (must (((a0.keys.length + 1) + (a0.keys.length + 1) / 4 + 192) * 16≤281474976710656∧a0.keys.length + 1≤9223372036854775807) (kN a0 a1 a2)) else (gz a0 a1 a2 a0.keys a0.at_ a0.types (mat a0.at_ a1.Key))
noncomputable def lG (a1:Int) (a0:Bool):Option (Int ⊕ Int) :=
 bif a0 then out (some 1) else (some (.inl (w64 (a1 + 1))))
noncomputable def nG (a5:Int) (a2:Event×Bool):(List ByteArray×(List (ByteArray×Int))×List Int×(List (bV×Unit))×(List (ByteArray×(List Int)))×Int)→Option ((List ByteArray×(List (ByteArray×Int))×List Int×(List (bV×Unit))×(List (ByteArray×(List Int)))×Int) ⊕ ((List ByteArray×(List (ByteArray×Int))×List Int×(List (bV×Unit))×(List (ByteArray×(List Int)))×Int) ⊕ (Int ⊕ Int)))
 | (a4,a8,a7,a3,a6,a1)=>bif decide (a1 < (a2.1.Calls.length:Int)) then must (0≤a1∧a1 < (a2.1.Calls.length:Int)) ((az (⟨a4,a8,a7,a3,a6⟩:aX) (idx a2.1.Calls a1) a5).bind fun a0=>bif (a0.1 != 0) then out (out (out (some 1))) else (some (.inl (a0.2.keys,a0.2.at_,a0.2.types,a0.2.facts,a0.2.incs,w64 (a1 + 1))))) else (out (some (.inl (a4,a8,a7,a3,a6,w64 (a5 + 1)))))
noncomputable def nH (a0:List ByteArray) (a4:List (ByteArray×Int)) (a6:List Int) (a5:List (bV×Unit)) (a2:List (ByteArray×(List Int))) (a1:Int) (a7:Event×Bool) (a3:Bool):Option ((List ByteArray×(List (ByteArray×Int))×List Int×(List (bV×Unit))×(List (ByteArray×(List Int)))×Int) ⊕ (Int ⊕ Int)) :=
 bif a3 then out (out (some 1)) else (iter (nG a1 a7) (a0,a4,a6,a5,a2,0))
noncomputable def lH (a0:History):(List ByteArray×(List (ByteArray×Int))×List Int×(List (bV×Unit))×(List (ByteArray×(List Int)))×Int)→Option ((List ByteArray×(List (ByteArray×Int))×List Int×(List (bV×Unit))×(List (ByteArray×(List Int)))×Int) ⊕ (Int ⊕ Int))
 | (a3,a5,a7,a6,a4,a1)=>bif decide (a1 < (a0.Txns.length:Int)) then must (0≤a1∧a1 < (a0.Txns.length:Int)) ((dK a0 (idx a0.Txns a1)).bind fun a2=>bif !a2.2 then nH a3 a5 a7 a6 a4 a1 a2 true else (must (0≤(0:Int)∧(0:Int)≤a1∧a1≤(a0.Txns.length:Int)) ((bH (di a0.Txns (0:Int) a1) (idx a0.Txns a1)).bind fun a8=>nH a3 a5 a7 a6 a4 a1 a2 (!a8)))) else (out (out (some 0)))
noncomputable def qd (a0:History):Int→Option (Int ⊕ Int)
 | a1=>bif decide (a1 < (a0.Keys.length:Int)) then must (0≤a1∧a1 < (a0.Keys.length:Int)) (bif sEq (idx a0.Keys a1) (⟨#[]⟩:ByteArray) then lG a1 true else (bif decide (((idx a0.Keys a1).size:Int) > 32) then lG a1 true else (must (0≤(0:Int)∧(0:Int)≤a1∧a1≤(a0.Keys.length:Int)) ((slices_Contains_string (di a0.Keys (0:Int) a1) (idx a0.Keys a1)).bind fun a3=>lG a1 a3)))) else ((mX).bind fun a2=>iter (lH a0) (a2.keys,a2.at_,a2.types,a2.facts,a2.incs,0))
noncomputable def nI (a0:History) (b7:Bool):Option Int :=
 bif b7 then some 1 else (iter (qd a0) 0)
noncomputable def aO (a0:History):Option Int :=
 bif decide ((a0.Keys.length:Int) > 32) then nI a0 true else (nI a0 (decide ((a0.Txns.length:Int) > 32)))
noncomputable def ed (a0:List Int):Option (List Int) :=
 must (a0.length * 8≤140737488355328) (some a0)
noncomputable def jo (a0:Int):Option Int :=
 bif (a0 == 1) then some 188 else (bif (a0 == 2) then some 189 else (bif (a0 == 3) then some 190 else (bif (a0 == 4) then some 191 else (some (-1)))))
noncomputable def jq (a0:Unit) (a1:List Int):Option Bool :=
 some (decide ((a1.length:Int)≤1))
noncomputable def lY (a0:Unit) (a1:List Int):Option Bool :=
 some (decide ((a1.length:Int)≤64))
noncomputable def nu (a1:List Int):Int→Option (Int ⊕ Bool)
 | a0=>bif decide (a0 < (a1.length:Int)) then must (0≤w64 (a0 - 1)∧w64 (a0 - 1) < (a1.length:Int)) (must (0≤a0∧a0 < (a1.length:Int)) (bif decide (idx a1 (w64 (a0 - 1)) ≥ idx a1 a0) then out (some false) else (some (.inl (w64 (a0 + 1)))))) else (out (some (decide ((a1.length:Int)≤64))))
noncomputable def fE (a0:Unit) (a1:List Int):Option Bool :=
 iter (nu a1) 1
noncomputable def jM (a0:Unit) (a1:List Int):Option Bool :=
 some ((a1.length:Int) == 1)
noncomputable def jr (a0:Int) (a1:List Int):Option Int :=
 (jo a0).bind fun y8=>bif (y8 == (188:Int)) then (jq () a1).bind fun a2=>bif !a2 then some 80 else (some 0) else (bif (y8 == (189:Int)) then (lY () a1).bind fun a5=>bif !a5 then some 80 else (some 0) else (bif (y8 == (190:Int)) then (fE () a1).bind fun a4=>bif !a4 then some 80 else (some 0) else (bif (y8 == (191:Int)) then (jM () a1).bind fun a3=>bif !a3 then some 80 else (some 0) else (bif (y8 == ((-1):Int)) then some 1 else none))))
noncomputable def fK (a0:Unit) (a1:List Int) (a2:List Int):Option (List Int×Bool) :=
 bif ((a1.length:Int) == 1) then must (0≤(0:Int)∧(0:Int) < (a1.length:Int)) (must (0≤w64 ((a2.length:Int) - 1)∧w64 ((a2.length:Int) - 1) < (a2.length:Int)) (some (([]:List Int),(idx a1 (0:Int) == idx a2 (w64 ((a2.length:Int) - 1)))))) else (some (([]:List Int),false))
noncomputable def oo (a0:List Int) (a1:List Int):Int→Option (Int ⊕ Bool)
 | a2=>bif decide (a2 < (a0.length:Int)) then must (0≤a2∧a2 < (a0.length:Int)) (must (0≤a2∧a2 < (a1.length:Int)) (bif (idx a0 a2 != idx a1 a2) then out (some false) else (some (.inl (w64 (a2 + 1)))))) else (out (some true))
noncomputable def dm (a0:List Int) (a1:List Int):Option Bool :=
 bif ((a0.length:Int) != (a1.length:Int)) then some false else (iter (oo a0 a1) 0)
noncomputable def gF (a1:List Int) (a2:List Int) (a3:Bool):Option (List Int×Bool) :=
 bif a3 then some (([]:List Int),false) else (must (0≤(0:Int)∧(0:Int)≤(w64 ((a1.length:Int) - (a2.length:Int)))∧(w64 ((a1.length:Int) - (a2.length:Int)))≤(a1.length:Int)) ((ed (di a1 (0:Int) (w64 ((a1.length:Int) - (a2.length:Int))))).bind fun a0=>some (a0,true)))
noncomputable def dw (a0:Unit) (a1:List Int) (a2:List Int):Option (List Int×Bool) :=
 bif decide (w64 ((a1.length:Int) - (a2.length:Int)) < 0) then gF a1 a2 true else (must (0≤(w64 ((a1.length:Int) - (a2.length:Int)))∧(w64 ((a1.length:Int) - (a2.length:Int)))≤(a1.length:Int)∧(a1.length:Int)≤(a1.length:Int)) ((dm (di a1 (w64 ((a1.length:Int) - (a2.length:Int))) (a1.length:Int)) a2).bind fun a3=>gF a1 a2 (!a3)))
noncomputable def kI (a0:Int):Option Bool :=
 some (a0 != a0)
noncomputable def lI (a0:Int) (a1:Int):Option Bool :=
 (kI a0).bind fun y7=>bif y7 then (kI a1).bind fun a2=>bif !a2 then some true else (some (decide (a0 < a1))) else (some (decide (a0 < a1)))
noncomputable def iP (a0:Int):Option Bool :=
 some (a0 != a0)
noncomputable def iB (a1:Int) (a0:Int):Option ((Int×Int) ⊕ (Int×Bool)) :=
 some (.inl (a1,a0))
noncomputable def iC (a0:List Int) (a1:Int):(Int×Int)→Option ((Int×Int) ⊕ (Int×Bool))
 | (a2,a3)=>bif decide (a2 < a3) then must (0≤(1:Int)∧(1:Int) < (far:Int)) (must (0≤w64 (vT .u64 (IntKind.wrap .u64 (w64 (a2 + a3))) (1:Int))∧w64 (vT .u64 (IntKind.wrap .u64 (w64 (a2 + a3))) (1:Int)) < (a0.length:Int)) ((lI (idx a0 (w64 (vT .u64 (IntKind.wrap .u64 (w64 (a2 + a3))) (1:Int)))) a1).bind fun a4=>bif a4 then iB (w64 ((w64 (vT .u64 (IntKind.wrap .u64 (w64 (a2 + a3))) (1:Int))) + 1)) a3 else (iB a2 (w64 (vT .u64 (IntKind.wrap .u64 (w64 (a2 + a3))) (1:Int)))))) else (bif decide (a2 < (a0.length:Int)) then must (0≤a2∧a2 < (a0.length:Int)) (bif (idx a0 a2 == a1) then out (some (a2,true)) else ((iP (idx a0 a2)).bind fun a5=>bif a5 then (iP a1).bind fun a6=>out (some (a2,a6)) else (out (some (a2,false))))) else (out (some (a2,false))))
noncomputable def bz (a0:List Int) (a1:Int):Option (Int×Bool) :=
 iter (iC a0 a1) (0,(a0.length:Int))
noncomputable def iE (a0:List Int) (a1 a2:Int):Option (List Int) :=
 must (0≤a1∧a1≤a2∧a2≤(a0.length:Int)) (some (a0.take a1.toNat++a0.drop a2.toNat))
noncomputable def jv (a2:List Int):(List Int×Int)→Option ((List Int×Int) ⊕ (List Int×Bool))
 | (a1,a0)=>bif decide (a0 < (a2.length:Int)) then must (0≤a0∧a0 < (a2.length:Int)) ((bz a1 (idx a2 a0)).bind fun a3=>bif !a3.2 then out (some (([]:List Int),false)) else ((iE a1 a3.1 (w64 (a3.1 + 1))).bind fun a4=>some (.inl (a4,w64 (a0 + 1))))) else (out (some (a1,true)))
noncomputable def dO (a0:Unit) (a1:List Int) (a2:List Int):Option (List Int×Bool) :=
 (ed a1).bind fun y7=>iter (jv a2) (y7,0)
noncomputable def gQ (a2:List Int):(Int×Int)→Option ((Int×Int) ⊕ (List Int×Bool))
 | (a1,a0)=>bif decide (a0 < (a2.length:Int)) then must (0≤a0∧a0 < (a2.length:Int)) (some (.inl (w64 (a1 - (idx a2 a0)),w64 (a0 + 1)))) else (out (some (([a1]:List Int),true)))
noncomputable def dz (a0:Unit) (a1:List Int) (a2:List Int):Option (List Int×Bool) :=
 must (0≤(0:Int)∧(0:Int) < (a1.length:Int)) (iter (gQ a2) (idx a1 (0:Int),0))
noncomputable def jl (a0:Int) (a1:List Int) (a2:List Int) (b9:Bool):Option (List Int×Bool) :=
 bif b9 then some (([]:List Int),false) else ((jo a0).bind fun a3=>bif (a3 == (188:Int)) then (fK () a1 a2).bind fun a6=>some (a6.1,a6.2) else (bif (a3 == (189:Int)) then (dw () a1 a2).bind fun a5=>some (a5.1,a5.2) else (bif (a3 == (190:Int)) then (dO () a1 a2).bind fun a7=>some (a7.1,a7.2) else (bif (a3 == (191:Int)) then (dz () a1 a2).bind fun a4=>some (a4.1,a4.2) else (bif (a3 == ((-1):Int)) then none else none)))))
noncomputable def fF (a0:Int) (a1:List Int) (a2:List Int):Option (List Int×Bool) :=
 (jr a0 a1).bind fun a3=>bif (a3 != 0) then jl a0 a1 a2 true else (jl a0 a1 a2 ((a2.length:Int) == 0))
noncomputable def fT (a2:Int) (a0:List Ask) (a1:List fe) (a3:List (Int×(List Int))):Option ((List Ask×List fe×(List (Int×(List Int)))×Int) ⊕ dM) :=
 some (.inl (a0,a1,a3,w64 (a2 + 1)))
noncomputable def jN (a1:History) (a2:Int) (a4:List Ask) (a3:List fe) (a5:List (Int×(List Int))) (a0:Int) (a6:List Int) (a7:Bool):Option ((List Ask×List fe×(List (Int×(List Int)))×Int) ⊕ dM) :=
 bif !a7 then must (((a3.length + 1) + (a3.length + 1) / 4 + 192) * 16≤281474976710656∧a3.length + 1≤9223372036854775807) (fT a0 a4 (a3++([(⟨a2,a0⟩:fe)]:List fe)) a5) else (must (((a4.length + 1) + (a4.length + 1) / 4 + 192) * 48≤281474976710656∧a4.length + 1≤9223372036854775807) (fT a0 (a4++([(⟨a2,a0,(idx ((idx a1.Txns a2).Ops) a0).Key,a6⟩:Ask)]:List Ask)) a3 a5))
noncomputable def jO (a1:History) (a2:Int) (a6:List Ask) (a5:List fe) (a0:List (Int×(List Int))) (a3:Int) (a4:List Int×Bool) (a7:Bool):Option ((List Ask×List fe×(List (Int×(List Int)))×Int) ⊕ dM) :=
 bif a7 then fT a3 a6 a5 a0 else (jN a1 a2 a6 a5 a0 a3 a4.1 a4.2)
noncomputable def mF (a1:History) (a2:Int):(List Ask×List fe×(List (Int×(List Int)))×Int)→Option ((List Ask×List fe×(List (Int×(List Int)))×Int) ⊕ dM)
 | (a5,a4,a3,a0)=>bif decide (a0 < (((idx a1.Txns a2).Ops).length:Int)) then must (0≤a0∧a0 < (((idx a1.Txns a2).Ops).length:Int)) (bif decide ((idx ((idx a1.Txns a2).Ops) a0).Kind≤4) then must (((((mat a3 ((idx ((idx a1.Txns a2).Ops) a0).Key)).length) + 1) + (((mat a3 ((idx ((idx a1.Txns a2).Ops) a0).Key)).length) + 1) / 4 + 192) * 8≤281474976710656∧((mat a3 ((idx ((idx a1.Txns a2).Ops) a0).Key)).length) + 1≤9223372036854775807) (fT a0 a5 a4 (gP a3 ((idx ((idx a1.Txns a2).Ops) a0).Key) ((mat a3 ((idx ((idx a1.Txns a2).Ops) a0).Key))++([(idx ((idx a1.Txns a2).Ops) a0).Arg]:List Int)))) else ((ed ((idx ((idx a1.Txns a2).Ops) a0).Vals)).bind fun a7=>bif decide (((mat a3 ((idx ((idx a1.Txns a2).Ops) a0).Key)).length:Int) > 0) then (fF (w64 (((idx ((idx a1.Txns a2).Ops) a0).Kind) - 4)) ((idx ((idx a1.Txns a2).Ops) a0).Vals) (mat a3 ((idx ((idx a1.Txns a2).Ops) a0).Key))).bind fun a6=>bif a6.2 then jO a1 a2 a5 a4 a3 a0 a6 ((idx ((idx a1.Txns a2).Ops) a0).Kind == 5) else (jO a1 a2 a5 a4 a3 a0 a6 false) else (jN a1 a2 a5 a4 a3 a0 a7 true))) else (out (some (⟨a5,a4⟩:dM)))
noncomputable def aS (a0:dM) (a1:History) (a2:Int):Option dM :=
 must (0≤a2∧a2 < (a1.Txns.length:Int)) (bif ((idx a1.Txns a2).Status != 1) then some a0 else (iter (mF a1 a2) (a0.asks,a0.bad,[],0)))
noncomputable def sN (a0:History):(List Ask×List fe×Int)→Option ((List Ask×List fe×Int) ⊕ (dM×Int))
 | (a4,a3,a1)=>bif decide (a1 < (a0.Txns.length:Int)) then (aS (⟨a4,a3⟩:dM) a0 a1).bind fun a2=>some (.inl (a2.asks,a2.bad,w64 (a1 + 1))) else (out (some ((⟨a4,a3⟩:dM),0)))
noncomputable def jU (a0:History):Option (dM×Int) :=
 (aO a0).bind fun a1=>bif (a1 != 0) then some ((⟨([]:List Ask),([]:List fe)⟩:dM),a1) else (iter (sN a0) ([],[],0))
noncomputable def oI (a0:History):Option (List Ask×Int) :=
 (jU a0).bind fun a1=>some (a1.1.asks,a1.2)
noncomputable def rR (a0:History):Option (List fe×Int) :=
 (jU a0).bind fun a1=>some (a1.1.bad,a1.2)
noncomputable def oZ (a0:History) (a1:List Int) (a3:List (Int×Int)) (a2:Int) (a4:Bool):Option (((List (Int×Int))×Int) ⊕ (bO×Bool)) :=
 bif a4 then out (some ((⟨a0,a1,a3⟩:bO),false)) else (some (.inl (gP a3 (idx a1 a2) a2,w64 (a2 + 1))))
noncomputable def qK (a0:History) (a1:List Int) (a2:List (Int×Int)) (a4:Int) (a3:Bool):Option (Int ⊕ (((List (Int×Int))×Int) ⊕ (bO×Bool))) :=
 bif a3 then out (out (some ((⟨a0,a1,a2⟩:bO),false))) else (some (.inl (w64 (a4 + 1))))
noncomputable def qL (a0:History) (a1:List Int) (a3:List (Int×Int)):Int→Option (Int ⊕ (((List (Int×Int))×Int) ⊕ (bO×Bool)))
 | a2=>bif decide (a2 < (a0.Txns.length:Int)) then must (0≤a2∧a2 < (a0.Txns.length:Int)) (bif !(kF a3 a2) then qK a0 a1 a3 a2 ((idx a0.Txns a2).Status == 1) else (qK a0 a1 a3 a2 false)) else (out (out (some ((⟨a0,a1,a3⟩:bO),true))))
noncomputable def uB (a0:History) (a1:List Int):((List (Int×Int))×Int)→Option (((List (Int×Int))×Int) ⊕ (bO×Bool))
 | (a3,a2)=>bif decide (a2 < (a1.length:Int)) then must (0≤a2∧a2 < (a1.length:Int)) (bif decide (idx a1 a2 < 0) then oZ a0 a1 a3 a2 true else (bif decide (idx a1 a2 ≥ (a0.Txns.length:Int)) then oZ a0 a1 a3 a2 true else (must (0≤idx a1 a2∧idx a1 a2 < (a0.Txns.length:Int)) (oZ a0 a1 a3 a2 ((idx a0.Txns (idx a1 a2)).Status == 2))))) else (bif ((a3.length:Int) != (a1.length:Int)) then out (some ((⟨a0,a1,a3⟩:bO),false)) else (iter (qL a0 a1 a3) 0))
noncomputable def dP (a0:History) (a1:List Int):Option (bO×Bool) :=
 iter (uB a0 a1) ([],0)
noncomputable def iJ (a0:Int) (a1:List (Int×Int)):Option (((List (Int×Int))×Int) ⊕ Bool) :=
 some (.inl (a1,w64 (a0 + 1)))
noncomputable def iK (a0:bO) (a2:List (Int×Int)) (a1:Int) (a3:Bool):Option (((List (Int×Int))×Int) ⊕ Bool) :=
 bif a3 then out (some false) else (iJ a1 (gP a2 ((idx a0.h.Txns a1).Proc) (yL (mat a0.at_ a1) (mat a2 ((idx a0.h.Txns a1).Proc)))))
noncomputable def kw (a0:bO):((List (Int×Int))×Int)→Option (((List (Int×Int))×Int) ⊕ Bool)
 | (a2,a1)=>bif decide (a1 < (a0.h.Txns.length:Int)) then must (0≤a1∧a1 < (a0.h.Txns.length:Int)) (bif !(kF a0.at_ a1) then iJ a1 a2 else (bif kF a2 ((idx a0.h.Txns a1).Proc) then iK a0 a2 a1 (decide (mat a2 ((idx a0.h.Txns a1).Proc) > mat a0.at_ a1)) else (iK a0 a2 a1 false))) else (out (some true))
noncomputable def aY (a0:bO):Option Bool :=
 iter (kw a0) ([],0)
noncomputable def nJ (a1:Int) (a0:List Int):Option ((List Int×Int) ⊕ (List Int)) :=
 some (.inl (a0,w64 (a1 + 1)))
noncomputable def nK (a0:Txn) (a1:List Int) (a2:Int) (a3:Bool):Option ((List Int×Int) ⊕ (List Int)) :=
 bif a3 then must (((a1.length + 1) + (a1.length + 1) / 4 + 192) * 8≤281474976710656∧a1.length + 1≤9223372036854775807) (nJ a2 (a1++([(idx a0.Ops a2).Arg]:List Int))) else (nJ a2 a1)
noncomputable def qf (a0:Txn) (a1:Int):(List Int×Int)→Option ((List Int×Int) ⊕ (List Int))
 | (a3,a2)=>bif decide (a2 < (a0.Ops.length:Int)) then must (0≤a2∧a2 < (a0.Ops.length:Int)) (bif ((idx a0.Ops a2).Key == a1) then nK a0 a3 a2 (decide ((idx a0.Ops a2).Kind≤4)) else (nK a0 a3 a2 false)) else (out (some a3))
noncomputable def dB (a0:Txn) (a1:Int):Option (List Int) :=
 iter (qf a0 a1) ([],0)
noncomputable def lJ (a0:History) (a1:Int) (a2:Int) (a4:Bool):Option (List Int×Bool) :=
 bif a4 then some (([]:List Int),false) else (must (0≤a1∧a1 < (a0.Txns.length:Int)) ((dB (idx a0.Txns a1) a2).bind fun a3=>some (a3,decide ((a3.length:Int) > 0))))
noncomputable def fZ (a0:History) (a1:Int) (a2:Int):Option (List Int×Bool) :=
 bif decide (a1 < 0) then lJ a0 a1 a2 true else (bif decide (a1 ≥ (a0.Txns.length:Int)) then lJ a0 a1 a2 true else ((aO a0).bind fun a3=>lJ a0 a1 a2 (a3 != 0)))
noncomputable def jP (a0:bO) (a1:Ask) (a2:Int) (b9:Bool):Option Bool :=
 bif b9 then some false else ((fZ a0.h a2 a1.Key).bind fun a3=>some a3.2)
noncomputable def dU (a0:bO) (a1:Ask) (a2:Int):Option Bool :=
 bif !(kF a0.at_ a2) then jP a0 a1 a2 true else (jP a0 a1 a2 (decide (mat a0.at_ a2 ≥ mat a0.at_ a1.Txn)))
noncomputable def rz (a0:History) (a1:Int) (a3:Int):Int→Option (Int ⊕ (Int ⊕ Int))
 | a2=>bif decide (a2 < (((idx a0.Txns a3).Ops).length:Int)) then must (0≤a2∧a2 < (((idx a0.Txns a3).Ops).length:Int)) (bif ((idx ((idx a0.Txns a3).Ops) a2).Key == a1) then (lX ((idx ((idx a0.Txns a3).Ops) a2).Kind)).bind fun a4=>out (out (some a4)) else (some (.inl (w64 (a2 + 1))))) else (out (some (.inl (w64 (a3 + 1)))))
noncomputable def rA (a0:History) (a1:Int):Int→Option (Int ⊕ Int)
 | a2=>bif decide (a2 < (a0.Txns.length:Int)) then must (0≤a2∧a2 < (a0.Txns.length:Int)) (iter (rz a0 a1 a2) 0) else (out (some 0))
noncomputable def dX (a0:History) (a1:Int):Option Int :=
 (aO a0).bind fun y8=>bif (y8 != 0) then some 0 else (iter (rA a0 a1) 0)
noncomputable def nL (a0:List Int):Option (List Int):=must (a0.length < 4611686018427387904) (some (a0.mergeSort fun x y=>decide (x≤y)))
noncomputable def iU (a0:List Int):Option (List Int) :=
 some a0
noncomputable def kP (a1:List Int):(Int×Int)→Option ((Int×Int) ⊕ (List Int))
 | (a2,a0)=>bif decide (a0 < (a1.length:Int)) then must (0≤a0∧a0 < (a1.length:Int)) (some (.inl (w64 (a2 + (idx a1 a0)),w64 (a0 + 1)))) else (out (some ([a2]:List Int)))
noncomputable def gG (a0:bO) (a1:Int) (a2:List Int):Option (List Int) :=
 (dX a0.h a1).bind fun a3=>bif (a3 == 1) then must (0≤(yL 0 (w64 ((a2.length:Int) - 1)))∧(yL 0 (w64 ((a2.length:Int) - 1)))≤(a2.length:Int)∧(a2.length:Int)≤(a2.length:Int)) (some (di a2 (yL 0 (w64 ((a2.length:Int) - 1))) (a2.length:Int))) else (bif (a3 == 3) then (nL a2).bind fun a4=>iU a4 else (bif (a3 == 4) then iter (kP a2) (0,0) else (iU a2)))
noncomputable def iV (a0:Int) (a1:List Int):Option ((List Int×Int) ⊕ ((List Int×Int) ⊕ (List Int))) :=
 some (.inl (a1,w64 (a0 + 1)))
noncomputable def iW (a0:bO) (a2:Int) (a4:Int) (a1:List Int) (a3:Int) (a5:Bool):Option ((List Int×Int) ⊕ ((List Int×Int) ⊕ (List Int))) :=
 bif a5 then must (((a1.length + 1) + (a1.length + 1) / 4 + 192) * 8≤281474976710656∧a1.length + 1≤9223372036854775807) (iV a3 (a1++([(idx ((idx a0.h.Txns (idx (di a0.order (0:Int) (w64 ((mat a0.at_ a2) + 1))) a4)).Ops) a3).Arg]:List Int))) else (iV a3 a1)
noncomputable def kQ (a0:bO) (a1:Int) (a2:Int) (a3:Int):(List Int×Int)→Option ((List Int×Int) ⊕ ((List Int×Int) ⊕ (List Int)))
 | (a5,a4)=>bif decide (a4 < (((idx a0.h.Txns (idx (di a0.order (0:Int) (w64 ((mat a0.at_ a2) + 1))) a3)).Ops).length:Int)) then must (0≤a4∧a4 < (((idx a0.h.Txns (idx (di a0.order (0:Int) (w64 ((mat a0.at_ a2) + 1))) a3)).Ops).length:Int)) (bif ((idx ((idx a0.h.Txns (idx (di a0.order (0:Int) (w64 ((mat a0.at_ a2) + 1))) a3)).Ops) a4).Key == a1) then iW a0 a2 a3 a5 a4 (decide ((idx ((idx a0.h.Txns (idx (di a0.order (0:Int) (w64 ((mat a0.at_ a2) + 1))) a3)).Ops) a4).Kind≤4)) else (iW a0 a2 a3 a5 a4 false)) else (out (some (.inl (a5,w64 (a3 + 1)))))
noncomputable def kR (a0:bO) (a1:Int) (a2:Int):(List Int×Int)→Option ((List Int×Int) ⊕ (List Int))
 | (a4,a3)=>bif decide (a3 < ((di a0.order (0:Int) (w64 ((mat a0.at_ a2) + 1))).length:Int)) then must (0≤a3∧a3 < ((di a0.order (0:Int) (w64 ((mat a0.at_ a2) + 1))).length:Int)) (must (0≤idx (di a0.order (0:Int) (w64 ((mat a0.at_ a2) + 1))) a3∧idx (di a0.order (0:Int) (w64 ((mat a0.at_ a2) + 1))) a3 < (a0.h.Txns.length:Int)) (iter (kQ a0 a1 a2 a3) (a4,0))) else (out (gG a0 a1 a4))
noncomputable def aB (a0:bO) (a1:Int) (a2:Int):Option (List Int) :=
 bif decide (a2 ≥ 0) then must (0≤(0:Int)∧(0:Int)≤(w64 ((mat a0.at_ a2) + 1))∧(w64 ((mat a0.at_ a2) + 1))≤(a0.order.length:Int)) (iter (kR a0 a1 a2) ([],0)) else (gG a0 a1 [])
noncomputable def qM (a1:Exec) (a2:List Ask×Int) (a4:bO×Bool) (a0:Int) (a5:Bool):Option (Int ⊕ (Int×Int)) :=
 bif a5 then out (some (5,0)) else (must (0≤a0∧a0 < (a1.Picks.length:Int)) ((aB a4.1 ((idx a2.1 a0).Key) (idx a1.Picks a0)).bind fun a3=>(dm a3 ((idx a2.1 a0).Base)).bind fun a6=>bif !a6 then out (some (6,0)) else (some (.inl (w64 (a0 + 1))))))
noncomputable def qN (a1:Exec) (a2:List Ask×Int) (a3:bO×Bool):Int→Option (Int ⊕ (Int×Int))
 | a0=>bif decide (a0 < (a2.1.length:Int)) then must (0≤a0∧a0 < (a2.1.length:Int)) (must (0≤a0∧a0 < (a1.Picks.length:Int)) (bif (idx a1.Picks a0 != (-1)) then (dU a3.1 (idx a2.1 a0) (idx a1.Picks a0)).bind fun a4=>qM a1 a2 a3 a0 (!a4) else (qM a1 a2 a3 a0 false))) else (out (some (0,0)))
noncomputable def fA (a0:History) (a1:Exec):Option (Int×Int) :=
 (oI a0).bind fun a2=>bif (a2.2 != 0) then some (0,a2.2) else ((rR a0).bind fun a4=>bif decide ((a4.1.length:Int) > 0) then some (1,0) else ((dP a0 a1.Order).bind fun a3=>bif !a3.2 then some (2,0) else (bif ((a1.Picks.length:Int) != (a2.1.length:Int)) then some (3,0) else ((aY a3.1).bind fun a5=>bif !a5 then some (4,0) else (iter (qN a1 a2 a3) 0)))))
noncomputable def sO (a1:Int) (a0:Bool):Option (Int ⊕ (Int ⊕ Bool)) :=
 bif a0 then out (out (some false)) else (some (.inl (w64 (a1 + 1))))
noncomputable def wP (a0:History) (a1:List Int) (a2:Int):Int→Option (Int ⊕ (Int ⊕ Bool))
 | a3=>bif decide (a3 < ((di a1 (w64 (a2 + 1)) (a1.length:Int)).length:Int)) then must (0≤a3∧a3 < ((di a1 (w64 (a2 + 1)) (a1.length:Int)).length:Int)) (must (0≤idx (di a1 (w64 (a2 + 1)) (a1.length:Int)) a3∧idx (di a1 (w64 (a2 + 1)) (a1.length:Int)) a3 < (a0.Txns.length:Int)) (bif ((idx a0.Txns (idx (di a1 (w64 (a2 + 1)) (a1.length:Int)) a3)).Status == 1) then must (0≤idx a1 a2∧idx a1 a2 < (a0.Txns.length:Int)) (sO a3 (decide ((idx a0.Txns (idx (di a1 (w64 (a2 + 1)) (a1.length:Int)) a3)).To < (idx a0.Txns (idx a1 a2)).From))) else (sO a3 false))) else (out (some (.inl (w64 (a2 + 1)))))
noncomputable def wQ (a0:History) (a1:List Int) (a3:bO×Bool):Int→Option (Int ⊕ Bool)
 | a2=>bif decide (a2 < (a1.length:Int)) then must (0≤a2∧a2 < (a1.length:Int)) (must (0≤(w64 (a2 + 1))∧(w64 (a2 + 1))≤(a1.length:Int)∧(a1.length:Int)≤(a1.length:Int)) (iter (wP a0 a1 a2) 0)) else (out (some ((a3.1.order.length:Int) == (a1.length:Int))))
noncomputable def iy (a0:History) (a1:List Int):Option Bool :=
 (aO a0).bind fun y8=>bif (y8 != 0) then some false else ((dP a0 a1).bind fun a2=>bif !a2.2 then some false else (iter (wQ a0 a1 a2) 0))
noncomputable def lg:Option Bool :=
 (fA (⟨([(⟨#[120]⟩:ByteArray)]:List ByteArray),([(⟨0,1,0,1,([(⟨1,0,5,false,([]:List Int)⟩:Op)]:List Op)⟩:Txn),(⟨1,1,2,3,([(⟨5,0,0,true,([5]:List Int)⟩:Op)]:List Op)⟩:Txn)]:List Txn)⟩:History) (⟨([0,1]:List Int),([0]:List Int)⟩:Exec)).bind fun a1=>(fA (⟨([(⟨#[120]⟩:ByteArray)]:List ByteArray),([(⟨0,1,0,1,([(⟨1,0,5,false,([]:List Int)⟩:Op)]:List Op)⟩:Txn),(⟨1,1,2,3,([(⟨5,0,0,true,([5]:List Int)⟩:Op)]:List Op)⟩:Txn)]:List Txn)⟩:History) (⟨([1,0]:List Int),([0]:List Int)⟩:Exec)).bind fun a0=>bif (a1.1 == 0) then bif (a1.2 == 0) then bif (a0.1 == 5) then bif (a0.2 == 0) then (iy (⟨([(⟨#[120]⟩:ByteArray)]:List ByteArray),([(⟨0,1,0,1,([(⟨1,0,5,false,([]:List Int)⟩:Op)]:List Op)⟩:Txn),(⟨1,1,2,3,([(⟨5,0,0,true,([5]:List Int)⟩:Op)]:List Op)⟩:Txn)]:List Txn)⟩:History) ([0,1]:List Int)).bind fun a2=>bif a2 then (iy (⟨([(⟨#[120]⟩:ByteArray)]:List ByteArray),([(⟨0,1,0,1,([(⟨1,0,5,false,([]:List Int)⟩:Op)]:List Op)⟩:Txn),(⟨1,1,2,3,([(⟨5,0,0,true,([5]:List Int)⟩:Op)]:List Op)⟩:Txn)]:List Txn)⟩:History) ([1,0]:List Int)).bind fun a3=>some (!a3) else (some false) else (some false) else (some false) else (some false) else (some false)
noncomputable def mG (a0:List ByteArray) (a1:ByteArray):Int→Option (Int ⊕ Int)
 | a2=>bif decide (a2 < (a0.length:Int)) then must (0≤a2∧a2 < (a0.length:Int)) (bif sEq (idx a0 a2) a1 then out (some a2) else (some (.inl (w64 (a2 + 1))))) else (out (some (-1)))
noncomputable def dN (a0:List ByteArray) (a1:ByteArray):Option Int :=
 iter (mG a0 a1) 0
noncomputable def gX (a1:Int) (a0:Bool):Option (Int ⊕ Bool) :=
 bif a0 then out (some false) else (some (.inl (w64 (a1 + 1))))
noncomputable def lK (a0:List ByteArray):Int→Option (Int ⊕ Bool)
 | a1=>bif decide (a1 < (a0.length:Int)) then must (0≤a1∧a1 < (a0.length:Int)) (bif decide (((idx a0 a1).size:Int) < 1) then gX a1 true else (bif decide (((idx a0 a1).size:Int) > 32) then gX a1 true else (must (0≤(0:Int)∧(0:Int)≤a1∧a1≤(a0.length:Int)) ((dN (di a0 (0:Int) a1) (idx a0 a1)).bind fun a2=>gX a1 (decide (a2 ≥ 0)))))) else (out (some (decide ((a0.length:Int)≤32))))
noncomputable def bQ (a0:List ByteArray):Option Bool :=
 iter (lK a0) 0
noncomputable def gH (a1:Int) (a0:Bool):Option (Int ⊕ Bool) :=
 bif a0 then out (some false) else (some (.inl (w64 (a1 + 1))))
noncomputable def iX (a0:List Txn) (a1:Int):Int→Option (Int ⊕ Bool)
 | a2=>bif decide (a2 < a1) then must (0≤a2∧a2 < (a0.length:Int)) (bif ((idx a0 a2).Proc == (idx a0 a1).Proc) then bif ((idx a0 a2).To == (-1)) then gH a2 true else (gH a2 (decide ((idx a0 a2).To ≥ (idx a0 a1).From))) else (gH a2 false)) else (out (some true))
noncomputable def iY (a0:List Txn) (a1:Int) (a2:Bool):Option Bool :=
 bif a2 then some false else (iter (iX a0 a1) 0)
noncomputable def cK (a0:List Txn) (a1:Int) (a2:Bool):Option Bool :=
 bif a2 then some false else (bif decide (a1 > 0) then must (0≤w64 (a1 - 1)∧w64 (a1 - 1) < (a0.length:Int)) (iY a0 a1 (decide ((idx a0 a1).From≤(idx a0 (w64 (a1 - 1))).From))) else (iY a0 a1 false))
noncomputable def aK (a0:List Txn) (a1:Int):Option Bool :=
 must (0≤a1∧a1 < (a0.length:Int)) (bif decide ((idx a0 a1).Status < 1) then cK a0 a1 true else (bif decide ((idx a0 a1).Status > 3) then cK a0 a1 true else (bif decide ((idx a0 a1).From < 0) then cK a0 a1 true else (bif ((idx a0 a1).To != (-1)) then bif decide ((idx a0 a1).To≤(idx a0 a1).From) then cK a0 a1 true else (bif ((idx a0 a1).To == (-1)) then cK a0 a1 ((idx a0 a1).Status != 3) else (cK a0 a1 false)) else (bif ((idx a0 a1).To == (-1)) then cK a0 a1 ((idx a0 a1).Status != 3) else (cK a0 a1 false))))))
noncomputable def iF (a0:Call):Option Bool :=
 some (decide ((a0.Vals.length:Int)≤64))
noncomputable def jQ (a0:Call):Int→Option (Int ⊕ Bool)
 | a1=>bif decide (a1 < (a0.Vals.length:Int)) then must (0≤a1∧a1 < (a0.Vals.length:Int)) (must (0≤w64 (a1 - 1)∧w64 (a1 - 1) < (a0.Vals.length:Int)) (bif decide (idx a0.Vals a1≤idx a0.Vals (w64 (a1 - 1))) then out (some false) else (some (.inl (w64 (a1 + 1)))))) else (out (iF a0))
noncomputable def fU (a0:Call) (a1:Bool):Option Bool :=
 bif a1 then some false else (bif (a0.Kind == 5) then some (decide ((a0.Vals.length:Int)≤1)) else (bif (a0.Kind == 8) then bif !a0.Got then some true else (some ((a0.Vals.length:Int) == 1)) else (bif (a0.Kind == 7) then iter (jQ a0) 1 else (iF a0))))
noncomputable def fV (a0:Call) (a1:Int) (a2:Bool):Option Bool :=
 bif a2 then some false else (bif decide (a0.Kind≤4) then bif !a0.Got then bif ((a0.Vals.length:Int) == 0) then bif (a0.Kind != 4) then some true else (bif decide (a0.Arg ≥ (-1048576)) then some (decide (a0.Arg≤1048576)) else (some false)) else (some false) else (some false) else (bif (a0.Arg != 0) then fU a0 true else (bif (a0.Got != (a1 == 1)) then fU a0 true else (bif !a0.Got then fU a0 (decide ((a0.Vals.length:Int) > 0)) else (fU a0 false)))))
noncomputable def aP (a0:Call) (a1:Int):Option Bool :=
 bif decide (a0.Kind < 1) then fV a0 a1 true else (bif decide (a0.Kind > 8) then fV a0 a1 true else (bif decide ((a0.Key.size:Int) < 1) then fV a0 a1 true else (fV a0 a1 (decide ((a0.Key.size:Int) > 32)))))
noncomputable def jw (a0:Event):Int→Option (Int ⊕ Bool)
 | a1=>bif decide (a1 < (a0.Calls.length:Int)) then must (0≤a1∧a1 < (a0.Calls.length:Int)) ((aP (idx a0.Calls a1) a0.Kind).bind fun a2=>bif !a2 then out (some false) else (some (.inl (w64 (a1 + 1))))) else (out (some true))
noncomputable def gY (a0:Event) (b9:Bool):Option Bool :=
 bif b9 then some false else (iter (jw a0) 0)
noncomputable def bI (a0:Event):Option Bool :=
 bif decide (a0.Kind < 0) then gY a0 true else (bif decide (a0.Kind > 3) then gY a0 true else (gY a0 (decide ((a0.Calls.length:Int) > 16))))
noncomputable def lL (a0:List Event):Int→Option (Int ⊕ Int)
 | a1=>bif decide (a1 < (a0.length:Int)) then must (0≤a1∧a1 < (a0.length:Int)) ((bI (idx a0 a1)).bind fun a2=>bif !a2 then out (some 1) else (some (.inl (w64 (a1 + 1))))) else (out (some 0))
noncomputable def dY (a0:List Event):Option Int :=
 bif decide ((a0.length:Int) > 256) then some 1 else (iter (lL a0) 0)
noncomputable def fB (a0:Int):Option Int :=
 some (w64 (((w64 (a0 - 1)).tmod (4:Int)) + 1))
noncomputable def eQ (a2:List ByteArray) (a1:List Int) (a3:List (List Int)) (a4:List Int) (a0:List Int):Option (Int×aD) :=
 some (0,(⟨a2,a1,a3,a4,a0⟩:aD))
noncomputable def eT (a2:Int) (a5:List ByteArray) (a4:List Int) (a1:List Int) (a3:List Int) (a0:Int) (a6:List (List Int)) (a7:Bool):Option (Int×aD) :=
 bif a7 then must (0≤a0∧a0 < (a3.length:Int)) (must (0≤a0∧a0 < (a1.length:Int)) (bif decide (idx (a1.set a0.toNat (w64 ((idx a1 a0) + 1))) a0 > 8) then some (51,(⟨a5,a4,a6,a1.set a0.toNat (w64 ((idx a1 a0) + 1)),a3.set a0.toNat a2⟩:aD)) else (eQ a5 a4 a6 (a1.set a0.toNat (w64 ((idx a1 a0) + 1))) (a3.set a0.toNat a2)))) else (eQ a5 a4 a6 a1 a3)
noncomputable def dR (a1:Call) (a2:Int) (a6:List ByteArray) (a5:List Int) (a4:List Int) (a3:List Int) (a0:Int) (a7:List (List Int)):Option (Int×aD) :=
 bif (a1.Kind == 4) then must (0≤a0∧a0 < (a3.length:Int)) (eT a2 a6 a5 a4 a3 a0 a7 (idx a3 a0 != a2)) else (eT a2 a6 a5 a4 a3 a0 a7 false)
noncomputable def gm (a1:Call) (a2:Int) (a8:List ByteArray) (a7:List Int) (a3:List (List Int)) (a5:List Int) (a6:List Int) (a0:Int):Int→Option (Int ⊕ (Int×aD))
 | a4=>must (0≤a0∧a0 < (a3.length:Int)) (bif decide (a4 < ((idx a3 a0).length:Int)) then must (0≤a4∧a4 < ((idx a3 a0).length:Int)) (bif (idx (idx a3 a0) a4 == a1.Arg) then out (some (3,(⟨a8,a7,a3,a5,a6⟩:aD))) else (some (.inl (w64 (a4 + 1))))) else (must (((((idx a3 a0).length) + 1) + (((idx a3 a0).length) + 1) / 4 + 192) * 8≤281474976710656∧((idx a3 a0).length) + 1≤9223372036854775807) (out (dR a1 a2 a8 a7 a5 a6 a0 (a3.set a0.toNat ((idx a3 a0)++([a1.Arg]:List Int)))))))
noncomputable def gp (a1:Call) (a2:Int) (a7:List ByteArray) (a5:List Int) (a4:List (List Int)) (a0:List Int) (a3:List Int) (a6:Int) (a8:Bool):Option (Int×aD) :=
 bif a8 then iter (gm a1 a2 a7 a5 a4 a0 a3 a6) 0 else (dR a1 a2 a7 a5 a0 a3 a6 a4)
noncomputable def dC (a1:Call) (a2:Int) (a7:List ByteArray) (a0:List Int) (a6:List (List Int)) (a4:List Int) (a5:List Int) (a3:Int):Option (Int×aD) :=
 must (0≤a3∧a3 < (a0.length:Int)) ((fB a1.Kind).bind fun a8=>bif (idx a0 a3 != a8) then some (50,(⟨a7,a0,a6,a4,a5⟩:aD)) else (bif (a1.Kind == 2) then gp a1 a2 a7 a0 a6 a4 a5 a3 true else (gp a1 a2 a7 a0 a6 a4 a5 a3 (a1.Kind == 3))))
noncomputable def gq (a0:aD) (a1:Call) (a2:Int) (a3:List Int):Option (Int×aD) :=
 must (((a0.wrote.length + 1) + (a0.wrote.length + 1) / 4 + 192) * 24≤281474976710656∧a0.wrote.length + 1≤9223372036854775807) (must (((a0.incs.length + 1) + (a0.incs.length + 1) / 4 + 192) * 8≤281474976710656∧a0.incs.length + 1≤9223372036854775807) (must (((a0.last_.length + 1) + (a0.last_.length + 1) / 4 + 192) * 8≤281474976710656∧a0.last_.length + 1≤9223372036854775807) (dC a1 a2 (a0.keys++([a1.Key]:List ByteArray)) a3 (a0.wrote++([([]:List Int)]:List (List Int))) (a0.incs++([0]:List Int)) (a0.last_++([(-1)]:List Int)) (a0.keys.length:Int))))
noncomputable def gu (a0:aD) (a1:Call) (a2:Int):Option (Int×aD) :=
 (fB a1.Kind).bind fun a3=>must (((a0.types.length + 1) + (a0.types.length + 1) / 4 + 192) * 8≤281474976710656∧a0.types.length + 1≤9223372036854775807) (gq a0 a1 a2 (a0.types++([a3]:List Int)))
noncomputable def ag (a0:aD) (a1:Call) (a2:Int):Option (Int×aD) :=
 (dN a0.keys a1.Key).bind fun y5=>bif decide (y5 < 0) then bif decide ((a0.keys.length:Int) ≥ 32) then some (2,a0) else (must (((a0.keys.length + 1) + (a0.keys.length + 1) / 4 + 192) * 16≤281474976710656∧a0.keys.length + 1≤9223372036854775807) (gu a0 a1 a2)) else (dC a1 a2 a0.keys a0.types a0.wrote a0.incs a0.last_ y5)
noncomputable def lM (a0:History) (a2:Int) (a3:List Call) (a1:Int):Option ((List Call×Int) ⊕ ((List ByteArray×List Int×(List (List Int))×List Int×List Int×Int) ⊕ Int)) :=
 some (.inl (a3++([(⟨(idx ((idx a0.Txns a2).Ops) a1).Kind,idx a0.Keys ((idx ((idx a0.Txns a2).Ops) a1).Key),(idx ((idx a0.Txns a2).Ops) a1).Arg,(idx ((idx a0.Txns a2).Ops) a1).Got,(idx ((idx a0.Txns a2).Ops) a1).Vals⟩:Call)]:List Call),w64 (a1 + 1)))
noncomputable def jy (a0:History) (a3:Int) (a1:List Call) (a2:Int) (a4:Bool):Option ((List Call×Int) ⊕ ((List ByteArray×List Int×(List (List Int))×List Int×List Int×Int) ⊕ Int)) :=
 bif a4 then out (out (some 1)) else (must (0≤(idx ((idx a0.Txns a3).Ops) a2).Key∧(idx ((idx a0.Txns a3).Ops) a2).Key < (a0.Keys.length:Int)) (must (((a1.length + 1) + (a1.length + 1) / 4 + 192) * 64≤281474976710656∧a1.length + 1≤9223372036854775807) (lM a0 a3 a1 a2)))
noncomputable def eu (a8:Int) (a2:List Call):(List ByteArray×List Int×(List (List Int))×List Int×List Int×Int)→Option ((List ByteArray×List Int×(List (List Int))×List Int×List Int×Int) ⊕ ((List Call×Int) ⊕ ((List ByteArray×List Int×(List (List Int))×List Int×List Int×Int) ⊕ Int)))
 | (a5,a4,a7,a6,a3,a1)=>bif decide (a1 < (a2.length:Int)) then must (0≤a1∧a1 < (a2.length:Int)) ((ag (⟨a5,a4,a7,a6,a3⟩:aD) (idx a2 a1) a8).bind fun a0=>bif (a0.1 != 0) then out (out (out (some 1))) else (some (.inl (a0.2.keys,a0.2.types,a0.2.wrote,a0.2.incs,a0.2.last_,w64 (a1 + 1))))) else (out (out (some (.inl (a5,a4,a7,a6,a3,w64 (a8 + 1))))))
noncomputable def eB (a0:History) (a5:List ByteArray) (a6:List Int) (a4:List (List Int)) (a8:List Int) (a9:List Int) (a1:Int):(List Call×Int)→Option ((List Call×Int) ⊕ ((List ByteArray×List Int×(List (List Int))×List Int×List Int×Int) ⊕ Int))
 | (a3,a2)=>bif decide (a2 < (((idx a0.Txns a1).Ops).length:Int)) then must (0≤a2∧a2 < (((idx a0.Txns a1).Ops).length:Int)) (bif decide ((idx ((idx a0.Txns a1).Ops) a2).Key < 0) then jy a0 a1 a3 a2 true else (jy a0 a1 a3 a2 (decide ((idx ((idx a0.Txns a1).Ops) a2).Key ≥ (a0.Keys.length:Int))))) else ((dY ([(⟨0,(idx a0.Txns a1).Status,a3⟩:Event)]:List Event)).bind fun a7=>bif (a7 != 0) then out (out (some 1)) else (iter (eu a1 a3) (a5,a6,a4,a8,a9,0)))
noncomputable def gZ (a0:History) (a2:List ByteArray) (a5:List Int) (a1:List (List Int)) (a6:List Int) (a7:List Int) (a3:Int) (a4:Bool):Option ((List ByteArray×List Int×(List (List Int))×List Int×List Int×Int) ⊕ Int) :=
 bif a4 then out (some 1) else (iter (eB a0 a2 a5 a1 a6 a7 a3) ([],0))
noncomputable def ib (a0:History):(List ByteArray×List Int×(List (List Int))×List Int×List Int×Int)→Option ((List ByteArray×List Int×(List (List Int))×List Int×List Int×Int) ⊕ Int)
 | (a3,a4,a2,a5,a6,a1)=>bif decide (a1 < (a0.Txns.length:Int)) then must (0≤a1∧a1 < (a0.Txns.length:Int)) ((aK a0.Txns a1).bind fun a7=>bif !a7 then gZ a0 a3 a4 a2 a5 a6 a1 true else (gZ a0 a3 a4 a2 a5 a6 a1 (decide ((((idx a0.Txns a1).Ops).length:Int) > 16)))) else (out (some 0))
noncomputable def fH (a0:History) (a1:Bool):Option Int :=
 bif a1 then some 1 else (iter (ib a0) ([],[],[],[],[],0))
noncomputable def ak (a0:History):Option Int :=
 (bQ a0.Keys).bind fun a1=>bif !a1 then fH a0 true else (fH a0 (decide ((a0.Txns.length:Int) > 32)))
noncomputable def eD (a0:Int):Option Bool :=
 some (decide (a0≤4))
noncomputable def dE (a0:Bool):Option Int :=
 bif !a0 then some 80 else (some 0)
noncomputable def lN (a0:Int) (a1:Bool):Option ((Bool×Int) ⊕ Int) :=
 some (.inl (a1,w64 (a0 + 1)))
noncomputable def jA (a1:List Int):(Bool×Int)→Option ((Bool×Int) ⊕ Int)
 | (a2,a0)=>bif decide (a0 < (a1.length:Int)) then bif a2 then must (0≤w64 (a0 - 1)∧w64 (a0 - 1) < (a1.length:Int)) (must (0≤a0∧a0 < (a1.length:Int)) (lN a0 (decide (idx a1 (w64 (a0 - 1)) < idx a1 a0)))) else (lN a0 false) else (out (dE a2))
noncomputable def dF (a0:Int) (a1:List Int) (b5:Bool):Option Int :=
 bif b5 then some 1 else (bif (a0 == 1) then dE (decide ((a1.length:Int)≤1)) else (bif (a0 == 4) then dE ((a1.length:Int) == 1) else (bif (a0 == 3) then iter (jA a1) (decide ((a1.length:Int)≤64),1) else (dE (decide ((a1.length:Int)≤64))))))
noncomputable def aH (a0:Int) (a1:List Int):Option Int :=
 bif decide (a0 < 1) then dF a0 a1 true else (dF a0 a1 (decide (a0 > 4)))
noncomputable def nM (a0:List Int) (a1:Int):Int→Option (Int ⊕ Bool)
 | a2=>bif decide (a2 < (a0.length:Int)) then must (0≤a2∧a2 < (a0.length:Int)) (bif (idx a0 a2 == a1) then out (some true) else (some (.inl (w64 (a2 + 1))))) else (out (some false))
noncomputable def eF (a0:List Int) (a1:Int):Option Bool :=
 iter (nM a0 a1) 0
noncomputable def oq (a2:List Int):(Int×Int)→Option ((Int×Int) ⊕ (List Int×Bool))
 | (a1,a0)=>bif decide (a0 < (a2.length:Int)) then must (0≤a0∧a0 < (a2.length:Int)) (some (.inl (w64 (a1 - (idx a2 a0)),w64 (a0 + 1)))) else (out (some (([a1]:List Int),true)))
noncomputable def iZ (a1:List Int) (a2:List Int):Int→Option (Int ⊕ (List Int×Bool))
 | a0=>bif decide (a0 < (a2.length:Int)) then must (0≤w64 ((w64 ((a1.length:Int) - (a2.length:Int))) + a0)∧w64 ((w64 ((a1.length:Int) - (a2.length:Int))) + a0) < (a1.length:Int)) (must (0≤a0∧a0 < (a2.length:Int)) (bif (idx a1 (w64 ((w64 ((a1.length:Int) - (a2.length:Int))) + a0)) != idx a2 a0) then out (some (([]:List Int),false)) else (some (.inl (w64 (a0 + 1)))))) else (must (0≤(0:Int)∧(0:Int)≤(w64 ((a1.length:Int) - (a2.length:Int)))∧(w64 ((a1.length:Int) - (a2.length:Int)))≤(a1.length:Int)) (must (((0 + ((di a1 (0:Int) (w64 ((a1.length:Int) - (a2.length:Int)))).length)) + (0 + ((di a1 (0:Int) (w64 ((a1.length:Int) - (a2.length:Int)))).length)) / 4 + 192) * 8≤281474976710656∧0 + ((di a1 (0:Int) (w64 ((a1.length:Int) - (a2.length:Int)))).length)≤9223372036854775807) (out (some (([]:List Int)++(di a1 (0:Int) (w64 ((a1.length:Int) - (a2.length:Int)))),true)))))
noncomputable def gI (a0:Int) (a1:Bool):Option (Int ⊕ (List Int×Bool)) :=
 bif a1 then out (some (([]:List Int),false)) else (some (.inl (w64 (a0 + 1))))
noncomputable def kS (a0:Int) (a1:List Int):Option ((List Int×Int) ⊕ (Int ⊕ (List Int×Bool))) :=
 some (.inl (a1,w64 (a0 + 1)))
noncomputable def ja (a1:List Int) (a2:List Int):(List Int×Int)→Option ((List Int×Int) ⊕ (Int ⊕ (List Int×Bool)))
 | (a3,a0)=>bif decide (a0 < (a1.length:Int)) then must (0≤a0∧a0 < (a1.length:Int)) ((eF a2 (idx a1 a0)).bind fun a4=>bif !a4 then must (((a3.length + 1) + (a3.length + 1) / 4 + 192) * 8≤281474976710656∧a3.length + 1≤9223372036854775807) (kS a0 (a3++([idx a1 a0]:List Int))) else (kS a0 a3)) else (out (out (some (a3,true))))
noncomputable def jb (a1:List Int) (a2:List Int):Int→Option (Int ⊕ (List Int×Bool))
 | a0=>bif decide (a0 < (a2.length:Int)) then must (0≤a0∧a0 < (a2.length:Int)) ((eF a1 (idx a2 a0)).bind fun a3=>bif !a3 then gI a0 true else (must (0≤(0:Int)∧(0:Int)≤a0∧a0≤(a2.length:Int)) ((eF (di a2 (0:Int) a0) (idx a2 a0)).bind fun a4=>gI a0 a4))) else (iter (ja a1 a2) ([],0))
noncomputable def fq (a0:Int) (a1:List Int) (a2:List Int) (b9:Bool):Option (List Int×Bool) :=
 bif b9 then some (([]:List Int),false) else (bif (a0 == 1) then bif ((a1.length:Int) == 1) then must (0≤(0:Int)∧(0:Int) < (a1.length:Int)) (must (0≤w64 ((a2.length:Int) - 1)∧w64 ((a2.length:Int) - 1) < (a2.length:Int)) (some (([]:List Int),(idx a1 (0:Int) == idx a2 (w64 ((a2.length:Int) - 1)))))) else (some (([]:List Int),false)) else (bif (a0 == 4) then must (0≤(0:Int)∧(0:Int) < (a1.length:Int)) (iter (oq a2) (idx a1 (0:Int),0)) else (bif (a0 == 2) then bif decide ((a2.length:Int) > (a1.length:Int)) then some (([]:List Int),false) else (iter (iZ a1 a2) 0) else (iter (jb a1 a2) 0))))
noncomputable def aC (a0:Int) (a1:List Int) (a2:List Int):Option (List Int×Bool) :=
 (aH a0 a1).bind fun a3=>bif (a3 != 0) then fq a0 a1 a2 true else (fq a0 a1 a2 ((a2.length:Int) == 0))
noncomputable def fM (a2:Int) (a1:List Ask) (a0:List fe):Option ((List Ask×List fe×Int) ⊕ (List Ask×List fe)) :=
 some (.inl (a1,a0,w64 (a2 + 1)))
noncomputable def lh (a1:Int) (a0:List Int):Option ((List Int×Int) ⊕ ((List Ask×List fe×Int) ⊕ (List Ask×List fe))) :=
 some (.inl (a0,w64 (a1 + 1)))
noncomputable def lm (a0:History) (a1:Int) (a2:List Int) (a3:Int) (a4:Bool):Option ((List Int×Int) ⊕ ((List Ask×List fe×Int) ⊕ (List Ask×List fe))) :=
 bif a4 then must (0≤a3∧a3 < (((idx a0.Txns a1).Ops).length:Int)) (must (((a2.length + 1) + (a2.length + 1) / 4 + 192) * 8≤281474976710656∧a2.length + 1≤9223372036854775807) (lh a3 (a2++([(idx ((idx a0.Txns a1).Ops) a3).Arg]:List Int)))) else (lh a3 a2)
noncomputable def lq (a0:History) (a1:Int) (a2:List Ask) (a4:List fe) (a3:Int) (a5:List Int):Option ((List Int×Int) ⊕ ((List Ask×List fe×Int) ⊕ (List Ask×List fe))) :=
 must (((a2.length + 1) + (a2.length + 1) / 4 + 192) * 48≤281474976710656∧a2.length + 1≤9223372036854775807) (out (fM a3 (a2++([(⟨a1,a3,(idx ((idx a0.Txns a1).Ops) a3).Key,a5⟩:Ask)]:List Ask)) a4))
noncomputable def nN (a0:History) (a1:Int) (a5:List Ask) (a4:List fe) (a2:Int):(List Int×Int)→Option ((List Int×Int) ⊕ ((List Ask×List fe×Int) ⊕ (List Ask×List fe)))
 | (a6,a3)=>bif decide (a3 < a2) then must (0≤a3∧a3 < (((idx a0.Txns a1).Ops).length:Int)) (bif ((idx ((idx a0.Txns a1).Ops) a3).Key == (idx ((idx a0.Txns a1).Ops) a2).Key) then (eD ((idx ((idx a0.Txns a1).Ops) a3).Kind)).bind fun a9=>lm a0 a1 a6 a3 a9 else (lm a0 a1 a6 a3 false)) else (must (((0 + (((idx ((idx a0.Txns a1).Ops) a2).Vals).length)) + (0 + (((idx ((idx a0.Txns a1).Ops) a2).Vals).length)) / 4 + 192) * 8≤281474976710656∧0 + (((idx ((idx a0.Txns a1).Ops) a2).Vals).length)≤9223372036854775807) (bif decide ((a6.length:Int) > 0) then (fB ((idx ((idx a0.Txns a1).Ops) a2).Kind)).bind fun a8=>(aC a8 ((idx ((idx a0.Txns a1).Ops) a2).Vals) a6).bind fun a7=>bif !a7.2 then must (((a4.length + 1) + (a4.length + 1) / 4 + 192) * 16≤281474976710656∧a4.length + 1≤9223372036854775807) (out (fM a2 a5 (a4++([(⟨a1,a2⟩:fe)]:List fe)))) else (bif ((idx ((idx a0.Txns a1).Ops) a2).Kind == 5) then out (fM a2 a5 a4) else (lq a0 a1 a5 a4 a2 a7.1)) else (lq a0 a1 a5 a4 a2 (([]:List Int)++((idx ((idx a0.Txns a1).Ops) a2).Vals)))))
noncomputable def nO (a0:History) (a1:Int):(List Ask×List fe×Int)→Option ((List Ask×List fe×Int) ⊕ (List Ask×List fe))
 | (a4,a3,a2)=>bif decide (a2 < (((idx a0.Txns a1).Ops).length:Int)) then must (0≤a2∧a2 < (((idx a0.Txns a1).Ops).length:Int)) ((eD ((idx ((idx a0.Txns a1).Ops) a2).Kind)).bind fun a5=>bif a5 then fM a2 a4 a3 else (iter (nN a0 a1 a4 a3 a2) ([],0))) else (out (some (a4,a3)))
noncomputable def aN (a0:History) (a1:Int):Option (List Ask×List fe) :=
 must (0≤a1∧a1 < (a0.Txns.length:Int)) (bif ((idx a0.Txns a1).Status != 1) then some (([]:List Ask),([]:List fe)) else (iter (nO a0 a1) ([],[],0)))
noncomputable def ny (a0:History):(List Ask×List fe×Int)→Option ((List Ask×List fe×Int) ⊕ (List Ask×List fe))
 | (a2,a3,a4)=>bif decide (a4 < (a0.Txns.length:Int)) then (aN a0 a4).bind fun a1=>must (((a2.length + a1.1.length) + (a2.length + a1.1.length) / 4 + 192) * 48≤281474976710656∧a2.length + a1.1.length≤9223372036854775807) (must (((a3.length + a1.2.length) + (a3.length + a1.2.length) / 4 + 192) * 16≤281474976710656∧a3.length + a1.2.length≤9223372036854775807) (some (.inl (a2++a1.1,a3++a1.2,w64 (a4 + 1))))) else (out (some (a2,a3)))
noncomputable def eG (a0:History):Option (List Ask×List fe) :=
 iter (ny a0) ([],[],0)
noncomputable def fu (a1:List Int) (a2:List Int) (a0:Int) (a3:Bool):Option ((List Int×Int) ⊕ (List Int×Bool)) :=
 bif a3 then out (some (([]:List Int),false)) else (must (0≤idx a1 a0∧idx a1 a0 < (a2.length:Int)) (some (.inl (a2.set (idx a1 a0).toNat (w64 (a0 + 1)),w64 (a0 + 1)))))
noncomputable def jc (a1:Int) (a0:Bool):Option (Int ⊕ ((List Int×Int) ⊕ (List Int×Bool))) :=
 bif a0 then out (out (some (([]:List Int),false))) else (some (.inl (w64 (a1 + 1))))
noncomputable def jd (a0:History) (a2:List Int):Int→Option (Int ⊕ ((List Int×Int) ⊕ (List Int×Bool)))
 | a1=>bif decide (a1 < (a0.Txns.length:Int)) then must (0≤a1∧a1 < (a0.Txns.length:Int)) (bif ((idx a0.Txns a1).Status == 1) then must (0≤a1∧a1 < (a2.length:Int)) (jc a1 (idx a2 a1 == 0)) else (jc a1 false)) else (out (out (some (a2,true))))
noncomputable def kT (a0:History) (a1:List Int):(List Int×Int)→Option ((List Int×Int) ⊕ (List Int×Bool))
 | (a3,a2)=>bif decide (a2 < (a1.length:Int)) then must (0≤a2∧a2 < (a1.length:Int)) (bif decide (idx a1 a2 < 0) then fu a1 a3 a2 true else (bif decide (idx a1 a2 ≥ (a0.Txns.length:Int)) then fu a1 a3 a2 true else (must (0≤idx a1 a2∧idx a1 a2 < (a3.length:Int)) (bif (idx a3 (idx a1 a2) != 0) then fu a1 a3 a2 true else (must (0≤idx a1 a2∧idx a1 a2 < (a0.Txns.length:Int)) (fu a1 a3 a2 ((idx a0.Txns (idx a1 a2)).Status == 2))))))) else (iter (jd a0 a3) 0)
noncomputable def aQ (a0:History) (a1:List Int):Option (List Int×Bool) :=
 must (0≤(a0.Txns.length:Int)∧(a0.Txns.length:Int)≤9223372036854775807∧(8:Int) * (a0.Txns.length:Int)≤281474976710656) (iter (kT a0 a1) (List.replicate (a0.Txns.length:Int).toNat (default:Int),0))
noncomputable def jB (a1:Int) (a0:List Int):Option ((List Int×Int) ⊕ (List Int)) :=
 some (.inl (a0,w64 (a1 + 1)))
noncomputable def jC (a0:History) (a1:Int) (a2:List Int) (a3:Int) (a4:Bool):Option ((List Int×Int) ⊕ (List Int)) :=
 bif a4 then must (((a2.length + 1) + (a2.length + 1) / 4 + 192) * 8≤281474976710656∧a2.length + 1≤9223372036854775807) (jB a3 (a2++([(idx ((idx a0.Txns a1).Ops) a3).Arg]:List Int))) else (jB a3 a2)
noncomputable def lQ (a0:History) (a1:Int) (a2:Int):(List Int×Int)→Option ((List Int×Int) ⊕ (List Int))
 | (a4,a3)=>must (0≤a1∧a1 < (a0.Txns.length:Int)) (bif decide (a3 < (((idx a0.Txns a1).Ops).length:Int)) then must (0≤a3∧a3 < (((idx a0.Txns a1).Ops).length:Int)) (bif ((idx ((idx a0.Txns a1).Ops) a3).Key == a2) then (eD ((idx ((idx a0.Txns a1).Ops) a3).Kind)).bind fun a5=>jC a0 a1 a4 a3 a5 else (jC a0 a1 a4 a3 false)) else (out (some a4)))
noncomputable def aR (a0:History) (a1:Int) (a2:Int):Option (List Int) :=
 iter (lQ a0 a1 a2) ([],0)
noncomputable def kU (a1:List Int) (a0:Int):Option ((List Int×Int) ⊕ ((List Int×Int) ⊕ (List Int))) :=
 some (.inl ((a1.set a0.toNat (idx a1 (w64 (a0 - 1)))).set (w64 (a0 - 1)).toNat (idx a1 a0),w64 (a0 - 1)))
noncomputable def je (a2:Int) (a1:List Int) (a0:Int) (a3:Bool):Option ((List Int×Int) ⊕ ((List Int×Int) ⊕ (List Int))) :=
 bif a3 then must (0≤w64 (a0 - 1)∧w64 (a0 - 1) < (a1.length:Int)) (must (0≤a0∧a0 < (a1.length:Int)) (kU a1 a0)) else (out (some (.inl (a1,w64 (a2 + 1)))))
noncomputable def kV (a2:Int):(List Int×Int)→Option ((List Int×Int) ⊕ ((List Int×Int) ⊕ (List Int)))
 | (a1,a0)=>bif decide (a0 > 0) then must (0≤a0∧a0 < (a1.length:Int)) (must (0≤w64 (a0 - 1)∧w64 (a0 - 1) < (a1.length:Int)) (je a2 a1 a0 (decide (idx a1 a0 < idx a1 (w64 (a0 - 1)))))) else (je a2 a1 a0 false)
noncomputable def kW (a0:List Int):(List Int×Int)→Option ((List Int×Int) ⊕ (List Int))
 | (a2,a1)=>bif decide (a1 < (a0.length:Int)) then must (0≤a1∧a1 < (a0.length:Int)) (must (((a2.length + 1) + (a2.length + 1) / 4 + 192) * 8≤281474976710656∧a2.length + 1≤9223372036854775807) (iter (kV a1) (a2++([idx a0 a1]:List Int),w64 (((a2++([idx a0 a1]:List Int)).length:Int) - 1)))) else (out (some a2))
noncomputable def aV (a0:List Int):Option (List Int) :=
 iter (kW a0) ([],0)
noncomputable def dL (a0:List Int):Option (List Int) :=
 some a0
noncomputable def kX (a1:List Int):(Int×Int)→Option ((Int×Int) ⊕ (List Int))
 | (a2,a0)=>bif decide (a0 < (a1.length:Int)) then must (0≤a0∧a0 < (a1.length:Int)) (some (.inl (w64 (a2 + (idx a1 a0)),w64 (a0 + 1)))) else (out (dL ([a2]:List Int)))
noncomputable def fw (a2:Int) (a0:List Int):Option (List Int) :=
 bif (a2 == 1) then bif decide ((a0.length:Int) > 0) then must (0≤(w64 ((a0.length:Int) - 1))∧(w64 ((a0.length:Int) - 1))≤(a0.length:Int)∧(a0.length:Int)≤(a0.length:Int)) (dL (di a0 (w64 ((a0.length:Int) - 1)) (a0.length:Int))) else (dL a0) else (bif (a2 == 3) then (aV a0).bind fun a1=>dL a1 else (bif (a2 == 4) then iter (kX a0) (0,0) else (dL a0)))
noncomputable def jf (a0:History) (a1:List Int) (a2:Int) (a3:Int) (a4:Int) (a5:List Int) (a6:Int) (a8:Bool):Option ((List Int×Int) ⊕ (List Int)) :=
 bif a8 then must (0≤a6∧a6 < (a1.length:Int)) ((aR a0 (idx a1 a6) a3).bind fun a7=>must (((a5.length + a7.length) + (a5.length + a7.length) / 4 + 192) * 8≤281474976710656∧a5.length + a7.length≤9223372036854775807) (bif (idx a1 a6 == a4) then out (fw a2 (a5++a7)) else (some (.inl (a5++a7,w64 (a6 + 1)))))) else (out (fw a2 a5))
noncomputable def kY (a0:History) (a1:List Int) (a2:Int) (a3:Int) (a4:Int):(List Int×Int)→Option ((List Int×Int) ⊕ (List Int))
 | (a6,a5)=>bif decide (a5 < (a1.length:Int)) then jf a0 a1 a2 a3 a4 a6 a5 (decide (a4 ≥ 0)) else (jf a0 a1 a2 a3 a4 a6 a5 false)
noncomputable def aJ (a0:History) (a1:List Int) (a2:Int) (a3:Int) (a4:Int):Option (List Int) :=
 iter (kY a0 a1 a2 a3 a4) ([],0)
noncomputable def bX (a0:History) (a1:List Int) (a3:Ask) (a4:Int) (a2:Bool):Option Int :=
 bif a2 then some 5 else (must (0≤a3.Txn∧a3.Txn < (a0.Txns.length:Int)) (must (0≤a3.Place∧a3.Place < (((idx a0.Txns a3.Txn).Ops).length:Int)) ((fB ((idx ((idx a0.Txns a3.Txn).Ops) a3.Place).Kind)).bind fun a7=>(aJ a0 a1 a7 a3.Key a4).bind fun a5=>(bE a5 a3.Base).bind fun a6=>bif !a6 then some 6 else (some 0))))
noncomputable def bF (a0:History) (a1:List Int) (a2:List Int) (a3:Ask) (a4:Int):Option Int :=
 bif (a4 != (-1)) then bif decide (a4 < 0) then bX a0 a1 a3 a4 true else (bif decide (a4 ≥ (a2.length:Int)) then bX a0 a1 a3 a4 true else (must (0≤a4∧a4 < (a2.length:Int)) (bif (idx a2 a4 == 0) then bX a0 a1 a3 a4 true else ((aR a0 a4 a3.Key).bind fun a5=>bif ((a5.length:Int) == 0) then bX a0 a1 a3 a4 true else (must (0≤a3.Txn∧a3.Txn < (a2.length:Int)) (bX a0 a1 a3 a4 (decide (idx a2 a4 ≥ idx a2 a3.Txn)))))))) else (bX a0 a1 a3 a4 false)
noncomputable def iG (a0:Int) (a1:Bool):Option (Int ⊕ (Int ⊕ Int)) :=
 bif a1 then out (out (some 4)) else (some (.inl (w64 (a0 + 1))))
noncomputable def mH (a0:History) (a3:List Int×Bool) (a2:Int):Int→Option (Int ⊕ (Int ⊕ Int))
 | a1=>bif decide (a1 < a2) then must (0≤a2∧a2 < (a0.Txns.length:Int)) (must (0≤a1∧a1 < (a0.Txns.length:Int)) (bif ((idx a0.Txns a2).Proc == (idx a0.Txns a1).Proc) then must (0≤a2∧a2 < (a3.1.length:Int)) (bif (idx a3.1 a2 != 0) then must (0≤a1∧a1 < (a3.1.length:Int)) (iG a1 (decide (idx a3.1 a1 > idx a3.1 a2))) else (iG a1 false)) else (iG a1 false))) else (out (some (.inl (w64 (a2 + 1)))))
noncomputable def jR (a0:History) (a1:Exec) (a3:List Ask×List fe) (a5:List Int×Bool):Int→Option (Int ⊕ (Int ⊕ Int))
 | a2=>bif decide (a2 < (a3.1.length:Int)) then must (0≤a2∧a2 < (a3.1.length:Int)) (must (0≤a2∧a2 < (a1.Picks.length:Int)) ((bF a0 a1.Order a5.1 (idx a3.1 a2) (idx a1.Picks a2)).bind fun a4=>bif (a4 != 0) then out (out (some a4)) else (some (.inl (w64 (a2 + 1)))))) else (out (out (some 0)))
noncomputable def jS (a0:History) (a1:Exec) (a4:List Ask×List fe) (a3:List Int×Bool):Int→Option (Int ⊕ Int)
 | a2=>bif decide (a2 < (a0.Txns.length:Int)) then iter (mH a0 a3 a2) 0 else (iter (jR a0 a1 a4 a3) 0)
noncomputable def aT (a0:History) (a1:Exec):Option Int :=
 (eG a0).bind fun a2=>bif decide ((a2.2.length:Int) > 0) then some 1 else ((aQ a0 a1.Order).bind fun a3=>bif !a3.2 then some 2 else (bif ((a1.Picks.length:Int) != (a2.1.length:Int)) then some 3 else (iter (jS a0 a1 a2 a3) 0)))
noncomputable def jm (a0:History) (a1:Exec):Option (Int×Int) :=
 (ak a0).bind fun a3=>bif (a3 != 0) then some (0,1) else ((aT a0 a1).bind fun a2=>some (a2,0))
noncomputable def ky (a0:History) (a1:Exec) (a3:History):Option Bool :=
 (fA a3 (⟨([]:List Int)++a1.Order,([]:List Int)++a1.Picks⟩:Exec)).bind fun a4=>(jm a0 a1).bind fun a2=>bif (a4.1 == a2.1) then bif (a4.2 == a2.2) then (aA a3 a0).bind fun a5=>bif a5 then (bR (([]:List Int)++a1.Order) a1.Order).bind fun a7=>bif a7 then (bR (([]:List Int)++a1.Picks) a1.Picks).bind fun a6=>some a6 else (some false) else (some false) else (some false) else (some false)
noncomputable def dW (a0:History) (a1:Exec):Option Bool :=
 (lg).bind fun a3=>bif !a3 then some false else ((df a0).bind fun a2=>must (((0 + a1.Order.length) + (0 + a1.Order.length) / 4 + 192) * 8≤281474976710656∧0 + a1.Order.length≤9223372036854775807) (must (((0 + a1.Picks.length) + (0 + a1.Picks.length) / 4 + 192) * 8≤281474976710656∧0 + a1.Picks.length≤9223372036854775807) (ky a0 a1 a2)))
noncomputable def rT (a1:Int) (a0:List Int):Option ((List Int×Int) ⊕ (List Int)) :=
 some (.inl (a0,w64 (a1 + 1)))
noncomputable def rU (a0:List Int) (a1:Int) (a2:Bool):Option ((List Int×Int) ⊕ (List Int)) :=
 bif a2 then must (((a0.length + 1) + (a0.length + 1) / 4 + 192) * 8≤281474976710656∧a0.length + 1≤9223372036854775807) (rT a1 (a0++([a1]:List Int))) else (rT a1 a0)
noncomputable def xP (a0:History) (a1:Int):(List Int×Int)→Option ((List Int×Int) ⊕ (List Int))
 | (a3,a2)=>bif decide (a2 < (a0.Txns.length:Int)) then must (0≤a2∧a2 < (a0.Txns.length:Int)) (bif ((idx a0.Txns a2).Status != 2) then (dB (idx a0.Txns a2) a1).bind fun a4=>rU a3 a2 (decide ((a4.length:Int) > 0)) else (rU a3 a2 false)) else (out (some a3))
noncomputable def gT (a0:History) (a1:Int):Option (List Int) :=
 (aO a0).bind fun y8=>bif (y8 != 0) then some ([]:List Int) else (iter (xP a0 a1) ([],0))
noncomputable def rV (a0:Int) (a1:List bD):Option ((List bD×Int) ⊕ (List bD)) :=
 some (.inl (a1,w64 (a0 + 1)))
noncomputable def rW (a3:List Int) (a0:List bD) (a1:Int) (a2:List Int×Bool) (a4:Bool):Option ((List bD×Int) ⊕ (List bD)) :=
 bif a4 then must (((a0.length + 1) + (a0.length + 1) / 4 + 192) * 32≤281474976710656∧a0.length + 1≤9223372036854775807) (rV a1 (a0++([(⟨idx a3 a1,a2.1⟩:bD)]:List bD))) else (rV a1 a0)
noncomputable def xQ (a0:History) (a1:Ask) (a3:List Int):(List bD×Int)→Option ((List bD×Int) ⊕ (List bD))
 | (a5,a2)=>bif decide (a2 < (a3.length:Int)) then must (0≤a2∧a2 < (a3.length:Int)) ((fZ a0 (idx a3 a2) a1.Key).bind fun a4=>bif a4.2 then rW a3 a5 a2 a4 (idx a3 a2 != a1.Txn) else (rW a3 a5 a2 a4 false)) else (out (some a5))
noncomputable def eH (a0:History) (a1:Ask):Option (List bD) :=
 (gT a0 a1.Key).bind fun a2=>iter (xQ a0 a1 a2) ([],0)
noncomputable def zP (a0:bD) (a1:List Int):Option Bool :=
 must (0≤(0:Int)∧(0:Int) < (a0.args.length:Int)) (must (0≤(0:Int)∧(0:Int) < (a1.length:Int)) (some (idx a0.args (0:Int) == idx a1 (0:Int))))
noncomputable def vK (a0:List Int) (a1:Int):Int→Option (Int ⊕ Int)
 | a2=>bif decide (a2 < (a0.length:Int)) then must (0≤a2∧a2 < (a0.length:Int)) (bif (a1 == idx a0 a2) then out (some a2) else (some (.inl (w64 (a2 + 1))))) else (out (some (-1)))
noncomputable def slices_Index_int (a0:List Int) (a1:Int):Option Int :=
 iter (vK a0 a1) 0
noncomputable def slices_Contains_int (a0:List Int) (a1:Int):Option Bool :=
 (slices_Index_int a0 a1).bind fun y3=>some (decide (y3 ≥ 0))
noncomputable def lw (a0:List bD) (a1c0:List Int):Int→Option (Int ⊕ Int)
 | a1=>bif decide (a1 < (a0.length:Int)) then must (0≤a1∧a1 < (a0.length:Int)) ((zP (idx a0 a1) a1c0).bind fun a2=>bif a2 then out (some a1) else (some (.inl (w64 (a1 + 1))))) else (out (some (-1)))
noncomputable def eY (a0:List bD) (a1c0:List Int):Option Int :=
 iter (lw a0 a1c0) 0
noncomputable def nP (a1:List bD) (a2:List Int) (a3:List Int) (a0:Int) (a4:Bool):Option ((List Int×List Int) ⊕ (List Int×Bool)) :=
 bif a4 then out (some (([]:List Int),false)) else (must (0≤a0∧a0 < (a1.length:Int)) (must (((a3.length + 1) + (a3.length + 1) / 4 + 192) * 8≤281474976710656∧a3.length + 1≤9223372036854775807) (must (0≤(((idx a1 a0).args).length:Int)∧(((idx a1 a0).args).length:Int)≤(a2.length:Int)∧(a2.length:Int)≤(a2.length:Int)) (some (.inl (di a2 (((idx a1 a0).args).length:Int) (a2.length:Int),a3++([(idx a1 a0).txn]:List Int)))))))
noncomputable def zb (a1:List bD):(List Int×List Int)→Option ((List Int×List Int) ⊕ (List Int×Bool))
 | (a2,a3)=>bif decide ((a2.length:Int) > 0) then (eY a1 a2).bind fun a0=>bif decide (a0 < 0) then nP a1 a2 a3 a0 true else (must (0≤a0∧a0 < (a1.length:Int)) (bif decide ((((idx a1 a0).args).length:Int) > (a2.length:Int)) then nP a1 a2 a3 a0 true else (must (0≤(0:Int)∧(0:Int)≤(((idx a1 a0).args).length:Int)∧(((idx a1 a0).args).length:Int)≤(a2.length:Int)) ((dm ((idx a1 a0).args) (di a2 (0:Int) (((idx a1 a0).args).length:Int))).bind fun a4=>bif !a4 then nP a1 a2 a3 a0 true else ((slices_Contains_int a3 ((idx a1 a0).txn)).bind fun a5=>nP a1 a2 a3 a0 a5))))) else (out (some (a3,true)))
noncomputable def ko (a0:List Int) (a1:List bD):Option (List Int×Bool) :=
 iter (zb a1) (a0,[])
noncomputable def vV (a2:Int) (a1:List Int) (a0:List (Int×Unit)):Option ((List Int×(List (Int×Unit))×Int) ⊕ (((List (Int×Unit))×Int) ⊕ (List Int×Bool))) :=
 some (.inl (a1,a0,w64 (a2 + 1)))
noncomputable def vW (a2:Int) (a1:List (Int×Unit)) (a0:Int):Option (((List (Int×Unit))×Int×Int) ⊕ ((List Int×(List (Int×Unit))×Int) ⊕ (((List (Int×Unit))×Int) ⊕ (List Int×Bool)))) :=
 some (.inl (a1,a0,w64 (a2 + 1)))
noncomputable def vX (a1:List bD) (a0:List Int) (a2:Int) (a3:List (Int×Unit)) (a5:Int) (a4:Bool):Option (((List (Int×Unit))×Int×Int) ⊕ ((List Int×(List (Int×Unit))×Int) ⊕ (((List (Int×Unit))×Int) ⊕ (List Int×Bool)))) :=
 bif a4 then out (out (out (some (([]:List Int),false)))) else (bif decide (a5 > 0) then must (((a0.length + 1) + (a0.length + 1) / 4 + 192) * 8≤281474976710656∧a0.length + 1≤9223372036854775807) (out (vV a2 (a0++([(idx a1 a2).txn]:List Int)) a3)) else (out (vV a2 a0 a3)))
noncomputable def zQ (a1:List bD) (a5:List Int) (a0:Int):((List (Int×Unit))×Int×Int)→Option (((List (Int×Unit))×Int×Int) ⊕ ((List Int×(List (Int×Unit))×Int) ⊕ (((List (Int×Unit))×Int) ⊕ (List Int×Bool))))
 | (a4,a3,a2)=>bif decide (a2 < (((idx a1 a0).args).length:Int)) then must (0≤a2∧a2 < (((idx a1 a0).args).length:Int)) (bif kF a4 (idx ((idx a1 a0).args) a2) then vW a2 (Jn a4 (idx ((idx a1 a0).args) a2)) (w64 (a3 + 1)) else (vW a2 a4 a3)) else (bif decide (a3 > 0) then vX a1 a5 a0 a4 a3 (decide (a3 < (((idx a1 a0).args).length:Int))) else (vX a1 a5 a0 a4 a3 false))
noncomputable def zR (a1:List bD):(List Int×(List (Int×Unit))×Int)→Option ((List Int×(List (Int×Unit))×Int) ⊕ (((List (Int×Unit))×Int) ⊕ (List Int×Bool)))
 | (a2,a3,a0)=>bif decide (a0 < (a1.length:Int)) then must (0≤a0∧a0 < (a1.length:Int)) (iter (zQ a1 a2 a0) (a3,0,0)) else (bif decide ((a3.length:Int) > 0) then out (out (some (([]:List Int),false))) else (out (out (some (a2,true)))))
noncomputable def zS (a0:List Int) (a1:List bD):((List (Int×Unit))×Int)→Option (((List (Int×Unit))×Int) ⊕ (List Int×Bool))
 | (a3,a2)=>bif decide (a2 < (a0.length:Int)) then must (0≤a2∧a2 < (a0.length:Int)) (some (.inl (gP a3 (idx a0 a2) (),w64 (a2 + 1)))) else (iter (zR a1) ([],a3,0))
noncomputable def eZ (a0:List Int) (a1:List bD):Option (List Int×Bool) :=
 iter (zS a0 a1) ([],0)
noncomputable def wR (a0:History) (a1:Ask):Option (List Int×Bool) :=
 (dX a0 a1.Key).bind fun a2=>bif (a2 == 2) then (eH a0 a1).bind fun a5=>(ko a1.Base a5).bind fun a4=>some (a4.1,a4.2) else (bif (a2 == 3) then (eH a0 a1).bind fun a6=>(eZ a1.Base a6).bind fun a3=>some (a3.1,a3.2) else (some (([]:List Int),false)))
noncomputable def vL (a0:Int) (a2:Int) (a3:List bD) (a4:Int) (rec:Int→Int→Int→(List bD)→Int→Int→Option Int) (a6:Int):(Int×Int)→Option ((Int×Int) ⊕ Int)
 | (a5,a1)=>bif decide (a1 < (((idx a3 a0).args).length:Int)) then must (0≤a1∧a1 < (((idx a3 a0).args).length:Int)) (some (.inl (w64 (a5 + (idx ((idx a3 a0).args) a1)),w64 (a1 + 1)))) else (must (0≤a0∧a0 < (far:Int)) ((rec (w64 (a0 + 1)) a5 (bOr .u64 a2 (Jj .u64 1 a0)) a3 a4 a6).bind fun a7=>out (some a7)))
noncomputable def uj (rec:Int→Int→Int→(List bD)→Int→Int→Option Int) (a0:Int) (a1:Int) (a2:Int) (a3:List bD) (a4:Int) (a5:Int):Option Int :=
 bif (a0 == (a3.length:Int)) then bif (a1 == a4) then some (bOr .u64 a5 a2) else (some a5) else ((rec (w64 (a0 + 1)) a1 a2 a3 a4 a5).bind fun a6=>must (0≤a0∧a0 < (a3.length:Int)) (iter (vL a0 a2 a3 a4 rec a6) (a1,0)))
noncomputable def ou:Nat→Int→Int→Int→(List bD)→Int→Int→Option Int
 | 0=>fun _ _ _ _ _ _=>none
 | k + 1=>uj (ou k)
noncomputable def fI (a0:Int) (a1:Int) (a2:Int) (a3:List bD) (a4:Int) (a5:Int):Option Int:=ou 64 a0 a1 a2 a3 a4 a5
noncomputable def qO (a1:Int) (a0:List Int):Option ((List Int×Int) ⊕ (List Int)) :=
 some (.inl (a0,w64 (a1 + 1)))
noncomputable def wS (a1:List bD) (a3:Int):(List Int×Int)→Option ((List Int×Int) ⊕ (List Int))
 | (a2,a0)=>bif decide (a0 < (a1.length:Int)) then must (0≤a0∧a0 < (a1.length:Int)) (must (0≤a0∧a0 < (far:Int)) (bif (zY .u64 (vT .u64 a3 a0) 1 == 1) then must (((a2.length + 1) + (a2.length + 1) / 4 + 192) * 8≤281474976710656∧a2.length + 1≤9223372036854775807) (qO a0 (a2++([(idx a1 a0).txn]:List Int))) else (qO a0 a2))) else (out (some a2))
noncomputable def jV (a0:Int) (a1:List bD):Option (List Int) :=
 (fI 0 0 0 a1 a0 0).bind fun a2=>iter (wS a1 a2) ([],0)
noncomputable def iA (a0:List Int):Option (List Int) :=
 some a0
noncomputable def qP (a0:History) (a1:Ask) (a2:List Int):Option (List Int) :=
 must (0≤(0:Int)∧(0:Int) < (a1.Base.length:Int)) ((eH a0 a1).bind fun a4=>(jV (idx a1.Base (0:Int)) a4).bind fun a3=>must (((a2.length + a3.length) + (a2.length + a3.length) / 4 + 192) * 8≤281474976710656∧a2.length + a3.length≤9223372036854775807) (iA (a2++a3)))
noncomputable def qQ (a1:Int) (a0:List Int):Option ((List Int×Int) ⊕ (List Int)) :=
 some (.inl (a0,w64 (a1 + 1)))
noncomputable def wT (a1:Ask) (a2:List bD):(List Int×Int)→Option ((List Int×Int) ⊕ (List Int))
 | (a3,a0)=>bif decide (a0 < (a2.length:Int)) then must (0≤a0∧a0 < (a2.length:Int)) (must (0≤w64 ((((idx a2 a0).args).length:Int) - 1)∧w64 ((((idx a2 a0).args).length:Int) - 1) < (((idx a2 a0).args).length:Int)) (must (0≤(0:Int)∧(0:Int) < (a1.Base.length:Int)) (bif (idx ((idx a2 a0).args) (w64 ((((idx a2 a0).args).length:Int) - 1)) == idx a1.Base (0:Int)) then must (((a3.length + 1) + (a3.length + 1) / 4 + 192) * 8≤281474976710656∧a3.length + 1≤9223372036854775807) (qQ a0 (a3++([(idx a2 a0).txn]:List Int))) else (qQ a0 a3)))) else (out (iA a3))
noncomputable def cO (a0:History) (a1:Ask):Option (List Int) :=
 (dX a0 a1.Key).bind fun a3=>bif (a3 == 4) then must (0≤(0:Int)∧(0:Int) < (a1.Base.length:Int)) (bif (idx a1.Base (0:Int) == 0) then must (((0 + 1) + (0 + 1) / 4 + 192) * 8≤281474976710656∧0 + 1≤9223372036854775807) (qP a0 a1 (([]:List Int)++([(-1)]:List Int))) else (qP a0 a1 [])) else (bif ((a1.Base.length:Int) == 0) then iA ([(-1)]:List Int) else (bif (a3 == 1) then (eH a0 a1).bind fun a5=>iter (wT a1 a5) ([],0) else (bif (a3 == 2) then (wR a0 a1).bind fun a2=>bif a2.2 then must (0≤(w64 ((a2.1.length:Int) - 1))∧(w64 ((a2.1.length:Int) - 1))≤(a2.1.length:Int)∧(a2.1.length:Int)≤(a2.1.length:Int)) (iA (di a2.1 (w64 ((a2.1.length:Int) - 1)) (a2.1.length:Int))) else (iA []) else ((wR a0 a1).bind fun a4=>iA a4.1))))
noncomputable def uC (a0:Ask) (a1:History):Option Bool :=
 (cO a1 a0).bind fun y7=>some (decide ((y7.length:Int) > 0))
noncomputable def lS (a0:List Ask) (a1c0:History):Int→Option (Int ⊕ Int)
 | a1=>bif decide (a1 < (a0.length:Int)) then must (0≤a1∧a1 < (a0.length:Int)) ((uC (idx a0 a1) a1c0).bind fun a2=>bif a2 then out (some a1) else (some (.inl (w64 (a1 + 1))))) else (out (some (-1)))
noncomputable def fC (a0:List Ask) (a1c0:History):Option Int :=
 iter (lS a0 a1c0) 0
noncomputable def lC (a0:List Ask) (a1c0:History):List Ask×Int→Option ((List Ask×Int) ⊕ List Ask)
 | (l,x)=>bif decide (x < (a0.length:Int)) then must (0≤x∧x < (a0.length:Int)) ((uC (idx a0 x) a1c0).bind fun y=>bif !y then (some (.inl (l++[idx a0 x],w64 (x + 1)))) else (some (.inl (l,w64 (x + 1))))) else (out (some l))
noncomputable def iH (a0:List Ask) (a1c0:History):Option (List Ask) :=
 (fC a0 a1c0).bind fun i=>bif i == -1 then some a0 else must (0≤i∧i < (a0.length:Int)) (iter (lC a0 a1c0) (a0.take i.toNat,w64 (i + 1)))
noncomputable def ze (a0:Ask) (a1:Ask):Option Bool :=
 bif (a1.Txn == a0.Txn) then bif (a1.Place == a0.Place) then bif (a1.Key == a0.Key) then (dm a1.Base a0.Base).bind fun a2=>some a2 else (some false) else (some false) else (some false)
noncomputable def lT (a0:List Ask) (a1c0:Ask):Int→Option (Int ⊕ Int)
 | a1=>bif decide (a1 < (a0.length:Int)) then must (0≤a1∧a1 < (a0.length:Int)) ((ze (idx a0 a1) a1c0).bind fun a2=>bif a2 then out (some a1) else (some (.inl (w64 (a1 + 1))))) else (out (some (-1)))
noncomputable def iN (a0:List Ask) (a1c0:Ask):Option Int :=
 iter (lT a0 a1c0) 0
noncomputable def jD (a1:Int) (a0:Bool):Option (Int ⊕ Bool) :=
 bif a0 then out (some true) else (some (.inl (w64 (a1 + 1))))
noncomputable def uD (a1:Ask) (a2:List Ask×List fe):Int→Option (Int ⊕ Bool)
 | a0=>bif decide (a0 < (a2.1.length:Int)) then must (0≤a0∧a0 < (a2.1.length:Int)) (bif ((idx a2.1 a0).Txn == a1.Txn) then bif ((idx a2.1 a0).Place == a1.Place) then bif ((idx a2.1 a0).Key == a1.Key) then (bE ((idx a2.1 a0).Base) a1.Base).bind fun a3=>jD a0 a3 else (jD a0 false) else (jD a0 false) else (jD a0 false)) else (out (some false))
noncomputable def fO (a0:History) (a1:Ask):Option Bool :=
 (ak a0).bind fun a3=>bif (a3 != 0) then some false else ((eG a0).bind fun a2=>iter (uD a1 a2) 0)
noncomputable def xR (a0:History) (a1:Ask):Option Int :=
 must (0≤a1.Txn∧a1.Txn < (a0.Txns.length:Int)) (must (0≤a1.Place∧a1.Place < (((idx a0.Txns a1.Txn).Ops).length:Int)) ((fB ((idx ((idx a0.Txns a1.Txn).Ops) a1.Place).Kind)).bind fun a2=>some a2))
noncomputable def ow (a1:Int) (a0:List Int):Option ((List Int×Int) ⊕ (List Int)) :=
 some (.inl (a0,w64 (a1 + 1)))
noncomputable def kZ (a0:List Int) (a1:Int) (a2:Bool):Option ((List Int×Int) ⊕ (List Int)) :=
 bif a2 then must (((a0.length + 1) + (a0.length + 1) / 4 + 192) * 8≤281474976710656∧a0.length + 1≤9223372036854775807) (ow a1 (a0++([a1]:List Int))) else (ow a1 a0)
noncomputable def uk (a0:History) (a1:Ask):(List Int×Int)→Option ((List Int×Int) ⊕ (List Int))
 | (a3,a2)=>bif decide (a2 < (a0.Txns.length:Int)) then bif (a2 != a1.Txn) then must (0≤a2∧a2 < (a0.Txns.length:Int)) (bif ((idx a0.Txns a2).Status != 2) then (aR a0 a2 a1.Key).bind fun a4=>kZ a3 a2 (decide ((a4.length:Int) > 0)) else (kZ a3 a2 false)) else (kZ a3 a2 false) else (out (some a3))
noncomputable def bY (a0:History) (a1:Ask):Option (List Int) :=
 iter (uk a0 a1) ([],0)
noncomputable def wu (y7:List Int):(Int×Int)→Option ((Int×Int) ⊕ Int)
 | (a1,a0)=>bif decide (a0 < (y7.length:Int)) then must (0≤a0∧a0 < (y7.length:Int)) (some (.inl (w64 (a1 + (idx y7 a0)),w64 (a0 + 1)))) else (out (some a1))
noncomputable def pz (a0:History) (a1:Int) (a2:Int):Option Int :=
 (aR a0 a1 a2).bind fun y7=>iter (wu y7) (0,0)
noncomputable def oz (a1:Int) (a0:Int):Option ((Int×Int) ⊕ ((List Bool×Int) ⊕ (List Int))) :=
 some (.inl (a0,w64 (a1 + 1)))
noncomputable def oC (a1:Int) (a0:List Bool):Option ((List Bool×Int) ⊕ ((Int×Int) ⊕ ((List Bool×Int) ⊕ (List Int)))) :=
 some (.inl (a0,w64 (a1 + 1)))
noncomputable def oD (a2:Int) (a1:List Bool) (a0:Int) (a3:Bool):Option ((List Bool×Int) ⊕ ((Int×Int) ⊕ ((List Bool×Int) ⊕ (List Int)))) :=
 bif a3 then must (0≤a0∧a0 < (a1.length:Int)) (bif idx a1 a0 then oC a0 (a1.set a0.toNat true) else (must (0≤a0∧a0 < (far:Int)) (oC a0 (a1.set a0.toNat (zY .i64 (vT .i64 a2 a0) 1 == 1))))) else (out (out (some (.inl (a1,w64 (a2 + 1))))))
noncomputable def ul (a1:Ask) (y9:List Int) (a3:Int) (a4:Int):(List Bool×Int)→Option ((List Bool×Int) ⊕ ((Int×Int) ⊕ ((List Bool×Int) ⊕ (List Int))))
 | (a2,a0)=>bif decide (a0 < (y9.length:Int)) then must (0≤(0:Int)∧(0:Int) < (a1.Base.length:Int)) (oD a3 a2 a0 (a4 == idx a1.Base (0:Int))) else (oD a3 a2 a0 false)
noncomputable def um (a0:History) (a1:Ask) (y9:List Int) (a6:List Bool) (a4:Int):(Int×Int)→Option ((Int×Int) ⊕ ((List Bool×Int) ⊕ (List Int)))
 | (a3,a2)=>bif decide (a2 < (y9.length:Int)) then must (0≤a2∧a2 < (far:Int)) (bif (zY .i64 (vT .i64 a4 a2) 1 == 1) then must (0≤a2∧a2 < (y9.length:Int)) ((pz a0 (idx y9 a2) a1.Key).bind fun a5=>oz a2 (w64 (a3 + a5))) else (oz a2 a3)) else (iter (ul a1 y9 a4 a3) (a6,0))
noncomputable def oF (a1:Int) (a0:List Int):Option ((List Int×Int) ⊕ ((List Bool×Int) ⊕ (List Int))) :=
 some (.inl (a0,w64 (a1 + 1)))
noncomputable def uo (y9:List Int) (a2:List Bool):(List Int×Int)→Option ((List Int×Int) ⊕ ((List Bool×Int) ⊕ (List Int)))
 | (a1,a0)=>bif decide (a0 < (y9.length:Int)) then must (0≤a0∧a0 < (a2.length:Int)) (bif idx a2 a0 then must (0≤a0∧a0 < (y9.length:Int)) (must (((a1.length + 1) + (a1.length + 1) / 4 + 192) * 8≤281474976710656∧a1.length + 1≤9223372036854775807) (oF a0 (a1++([idx y9 a0]:List Int)))) else (oF a0 a1)) else (out (out (some a1)))
noncomputable def uq (a0:History) (a1:Ask) (y9:List Int):(List Bool×Int)→Option ((List Bool×Int) ⊕ (List Int))
 | (a2,a3)=>must (0≤(y9.length:Int)∧(y9.length:Int) < (far:Int)) (bif decide (a3 < Jj .i64 1 (y9.length:Int)) then iter (um a0 a1 y9 a2 a3) (0,0) else (iter (uo y9 a2) ([],0)))
noncomputable def aW (a0:History) (a1:Ask):Option (List Int) :=
 (bY a0 a1).bind fun y9=>must (0≤(y9.length:Int)∧(y9.length:Int)≤9223372036854775807∧(1:Int) * (y9.length:Int)≤281474976710656) (iter (uq a0 a1 y9) (List.replicate (y9.length:Int).toNat (default:Bool),1))
noncomputable def ww (a0:List Int) (a1:List Int):Option Bool :=
 bif decide ((a1.length:Int) > (a0.length:Int)) then some false else (must (0≤(0:Int)∧(0:Int)≤(a1.length:Int)∧(a1.length:Int)≤(a0.length:Int)) ((bE (di a0 (0:Int) (a1.length:Int)) a1).bind fun a2=>some a2))
noncomputable def pR (a0:Int) (a1:Int):Option ((Int×Int) ⊕ ((List Int×List Int) ⊕ (List Int×Bool))) :=
 some (.inl (a1,w64 (a0 + 1)))
noncomputable def vM (a0:History) (a1:Ask) (a2:List Int) (a3:List Int) (a6:Int):Int→Option (Int ⊕ ((Int×Int) ⊕ ((List Int×List Int) ⊕ (List Int×Bool))))
 | a4=>bif decide (a4 < (a2.length:Int)) then must (0≤a4∧a4 < (a2.length:Int)) (bif (idx a2 a4 == a6) then out (out (out (some (([]:List Int),false)))) else (some (.inl (w64 (a4 + 1))))) else (must (((a2.length + 1) + (a2.length + 1) / 4 + 192) * 8≤281474976710656∧a2.length + 1≤9223372036854775807) ((aR a0 a6 a1.Key).bind fun a5=>must (0≤(a5.length:Int)∧(a5.length:Int)≤(a3.length:Int)∧(a3.length:Int)≤(a3.length:Int)) (out (out (some (.inl (a2++([a6]:List Int),di a3 (a5.length:Int) (a3.length:Int))))))))
noncomputable def vN (a0:History) (a1:Ask) (y9:List Int) (a5:List Int) (a4:List Int):(Int×Int)→Option ((Int×Int) ⊕ ((List Int×List Int) ⊕ (List Int×Bool)))
 | (a3,a2)=>bif decide (a2 < (y9.length:Int)) then must (0≤a2∧a2 < (y9.length:Int)) ((aR a0 (idx y9 a2) a1.Key).bind fun a6=>(ww a4 a6).bind fun a7=>bif a7 then pR a2 (idx y9 a2) else (pR a2 a3)) else (bif decide (a3 < 0) then out (out (some (([]:List Int),false))) else (iter (vM a0 a1 a5 a4 a3) 0))
noncomputable def vO (a0:History) (a1:Ask) (y9:List Int):(List Int×List Int)→Option ((List Int×List Int) ⊕ (List Int×Bool))
 | (a2,a3)=>bif decide ((a3.length:Int) > 0) then iter (vN a0 a1 y9 a2 a3) ((-1),0) else (out (some (a2,true)))
noncomputable def dV (a0:History) (a1:Ask):Option (List Int×Bool) :=
 (bY a0 a1).bind fun y9=>iter (vO a0 a1 y9) ([],a1.Base)
noncomputable def uE (a0:List Int) (a1:Int):Int→Option (Int ⊕ Bool)
 | a2=>bif decide (a2 < (a0.length:Int)) then must (0≤a2∧a2 < (a0.length:Int)) (bif (idx a0 a2 == a1) then out (some true) else (some (.inl (w64 (a2 + 1))))) else (out (some false))
noncomputable def nQ (a0:List Int) (a1:Int):Option Bool :=
 iter (uE a0 a1) 0
noncomputable def qg (a0:Int) (a2:List Int) (a1:Int):Option ((List Int×Int×Int) ⊕ (List Int×Bool)) :=
 some (.inl (a2,a1,w64 (a0 + 1)))
noncomputable def qh (a0:Int) (a1:Int):Option ((Int×Int) ⊕ ((List Int×Int×Int) ⊕ (List Int×Bool))) :=
 some (.inl (a1,w64 (a0 + 1)))
noncomputable def qi (y9:List Int) (a0:List Int) (a3:Int) (a1:Int) (a2:Int) (a4:Bool):Option ((Int×Int) ⊕ ((List Int×Int×Int) ⊕ (List Int×Bool))) :=
 bif a4 then out (out (some (([]:List Int),false))) else (bif decide (a2 > 0) then must (((a0.length + 1) + (a0.length + 1) / 4 + 192) * 8≤281474976710656∧a0.length + 1≤9223372036854775807) (out (qg a1 (a0++([idx y9 a1]:List Int)) (w64 (a3 + a2)))) else (out (qg a1 a0 a3)))
noncomputable def wy (a1:Ask) (y9:List Int) (a4:List Int) (a6:Int) (a5:Int) (a3:List Int):(Int×Int)→Option ((Int×Int) ⊕ ((List Int×Int×Int) ⊕ (List Int×Bool)))
 | (a2,a0)=>bif decide (a0 < (a3.length:Int)) then must (0≤a0∧a0 < (a3.length:Int)) ((nQ a1.Base (idx a3 a0)).bind fun a7=>bif a7 then qh a0 (w64 (a2 + 1)) else (qh a0 a2)) else (bif decide (a2 > 0) then qi y9 a4 a6 a5 a2 (decide (a2 < (a3.length:Int))) else (qi y9 a4 a6 a5 a2 false))
noncomputable def wz (a0:History) (a1:Ask) (y9:List Int):(List Int×Int×Int)→Option ((List Int×Int×Int) ⊕ (List Int×Bool))
 | (a3,a4,a2)=>bif decide (a2 < (y9.length:Int)) then must (0≤a2∧a2 < (y9.length:Int)) ((aR a0 (idx y9 a2) a1.Key).bind fun a5=>iter (wy a1 y9 a3 a4 a2 a5) (0,0)) else (bif (a4 != (a1.Base.length:Int)) then out (some (([]:List Int),false)) else (out (some (a3,true))))
noncomputable def dh (a0:History) (a1:Ask):Option (List Int×Bool) :=
 (bY a0 a1).bind fun y9=>iter (wz a0 a1 y9) ([],0,0)
noncomputable def qR (a0:List Int):Option (List Int) :=
 some a0
noncomputable def jE (a0:List Int):Option (List Int) :=
 some a0
noncomputable def qU (a1:Int) (a0:List Int):Option ((List Int×Int) ⊕ (List Int)) :=
 some (.inl (a0,w64 (a1 + 1)))
noncomputable def wU (a0:History) (a1:Ask) (a5:List Int):(List Int×Int)→Option ((List Int×Int) ⊕ (List Int))
 | (a3,a2)=>bif decide (a2 < (a5.length:Int)) then must (0≤a2∧a2 < (a5.length:Int)) ((aR a0 (idx a5 a2) a1.Key).bind fun a4=>must (0≤w64 ((a4.length:Int) - 1)∧w64 ((a4.length:Int) - 1) < (a4.length:Int)) (must (0≤(0:Int)∧(0:Int) < (a1.Base.length:Int)) (bif (idx a4 (w64 ((a4.length:Int) - 1)) == idx a1.Base (0:Int)) then must (((a3.length + 1) + (a3.length + 1) / 4 + 192) * 8≤281474976710656∧a3.length + 1≤9223372036854775807) (qU a2 (a3++([idx a5 a2]:List Int))) else (qU a2 a3)))) else (out (jE a3))
noncomputable def dG (a0:History) (a1:Ask):Option (List Int) :=
 (xR a0 a1).bind fun y7=>bif (y7 == 4) then (aW a0 a1).bind fun a3=>must (0≤(0:Int)∧(0:Int) < (a1.Base.length:Int)) (bif (idx a1.Base (0:Int) == 0) then must (((1 + a3.length) + (1 + a3.length) / 4 + 192) * 8≤281474976710656∧1 + a3.length≤9223372036854775807) (qR (([(-1)]:List Int)++a3)) else (qR a3)) else (bif ((a1.Base.length:Int) == 0) then some ([(-1)]:List Int) else (bif (y7 == 1) then (bY a0 a1).bind fun a5=>iter (wU a0 a1 a5) ([],0) else (bif (y7 == 2) then (dV a0 a1).bind fun a2=>bif a2.2 then must (0≤w64 ((a2.1.length:Int) - 1)∧w64 ((a2.1.length:Int) - 1) < (a2.1.length:Int)) (must (((0 + 1) + (0 + 1) / 4 + 192) * 8≤281474976710656∧0 + 1≤9223372036854775807) (jE (([]:List Int)++([idx a2.1 (w64 ((a2.1.length:Int) - 1))]:List Int)))) else (jE []) else ((dh a0 a1).bind fun a4=>bif a4.2 then jE a4.1 else (jE [])))))
end Go.Proofs.YtnlkggppokcmfaaGreatT
