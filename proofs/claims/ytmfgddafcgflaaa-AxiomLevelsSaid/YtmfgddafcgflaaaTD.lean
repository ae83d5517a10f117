import Derived.Test.YtmfgddafcgflaaaI
namespace Go.Proofs.YtmfgddafcgflaaaT
noncomputable section
open Go Go.Proofs Go.Proofs.YtmfgddafcgflaaaE
set_option linter.unusedVariables false
set_option linter.unusedSimpArgs false
set_option maxHeartbeats 0
set_option maxRecDepth 4096
structure bH where
 key:ByteArray
 arg:Int
 deriving Inhabited,DecidableEq
def bH.enc (x:bH):List Value:=[.string x.key,.int .i64 x.arg]
abbrev Ar:Ty bH:=Ty.flat 2 bH.enc (fun _=>rfl) (fun _=>xD rfl)
instance : Flat Ar bH.enc:=⟨Iff.rfl,Iff.rfl⟩
structure aO where
 keys:List ByteArray
 at_:List (ByteArray×Int)
 types:List Int
 facts:List (bH×Unit)
 incs:List (ByteArray×(List Int))
 deriving Inhabited
structure Call where
 Kind:Int
 Key:ByteArray
 Arg:Int
 Got:Bool
 Vals:List Int
 deriving Inhabited
abbrev tV:Ty Call:=Ty.iso (bB (aJ .i64) (bB gz (bB (aJ .i64) (bB ou (bq 2 (aJ .i64)))))) (fun g:Call=>(g.Kind,g.Key,g.Arg,g.Got,g.Vals))
abbrev qg (N:BM):Ty Call:=Ty.iso (bB (aJ .i64) (bB gz (bB (aJ .i64) (bB ou (Es N (aJ .i64)))))) (fun g:Call=>(g.Kind,g.Key,g.Arg,g.Got,g.Vals))
theorem Ci (N:BM):rR N (qg N) tV:=CV (qF qE (qF qE (qF qE (qF qE Bd))))
structure Event where
 Proc:Int
 Kind:Int
 Calls:List Call
 deriving Inhabited
abbrev Au:Ty Event:=Ty.iso (bB (aJ .i64) (bB (aJ .i64) (bq 99 tV))) (fun g:Event=>(g.Proc,g.Kind,g.Calls))
structure Op where
 Kind:Int
 Key:Int
 Arg:Int
 Got:Bool
 Vals:List Int
 deriving Inhabited
abbrev kOp:Ty Op:=Ty.iso (bB (aJ .i64) (bB (aJ .i64) (bB (aJ .i64) (bB ou (bq 2 (aJ .i64)))))) (fun g:Op=>(g.Kind,g.Key,g.Arg,g.Got,g.Vals))
structure Txn where
 Proc:Int
 Status:Int
 From:Int
 To:Int
 Ops:List Op
 deriving Inhabited
abbrev jD:Ty Txn:=Ty.iso (bB (aJ .i64) (bB (aJ .i64) (bB (aJ .i64) (bB (aJ .i64) (bq 76 kOp))))) (fun g:Txn=>(g.Proc,g.Status,g.From,g.To,g.Ops))
structure History where
 Keys:List ByteArray
 Txns:List Txn
 deriving Inhabited
structure Ask where
 Txn:Int
 Place:Int
 Key:Int
 Base:List Int
 deriving Inhabited
abbrev tX:Ty Ask:=Ty.iso (bB (aJ .i64) (bB (aJ .i64) (bB (aJ .i64) (bq 2 (aJ .i64))))) (fun g:Ask=>(g.Txn,g.Place,g.Key,g.Base))
structure jW where
 Txn:Int
 Place:Int
 deriving Inhabited,DecidableEq
def jW.enc (x:jW):List Value:=[.int .i64 x.Txn,.int .i64 x.Place]
abbrev zq:Ty jW:=Ty.flat 2 jW.enc (fun _=>rfl) (fun _=>xD rfl)
instance : Flat zq jW.enc:=⟨Iff.rfl,Iff.rfl⟩
structure df where
 asks:List Ask
 bad:List jW
 deriving Inhabited
structure bD where
 h:History
 order:List Int
 at_:List (Int×Int)
 deriving Inhabited
structure Exec where
 Order:List Int
 Picks:List Int
 deriving Inhabited
structure aY where
 h:History
 x:Exec
 asks:List Ask
 at_:List Int
 behind:List Int
 near:List Int
 writes:List (Int×Int)
 deriving Inhabited
abbrev Rw2 (A:Option Addr) (c:Nat) (l:List Int):aX := .row (aJ .i64) 2 A l.length c l
abbrev Rw3 (A:Option Addr) (c:Nat) (l:List Int):aX := .row (aJ .i64) 3 A l.length c l
abbrev Rn3 (A:Option Addr) (n c:Nat) (l:List Int):aX := .row (aJ .i64) 3 A n c l
abbrev Rw9 (A:Option Addr) (c:Nat) (l:List ByteArray):aX := .row gz 9 A l.length c l
abbrev Rn9 (A:Option Addr) (n c:Nat) (l:List ByteArray):aX := .row gz 9 A n c l
abbrev GZ (A:Option Addr) (c:Nat) (l:List (Int×Int)):aX := .row (Ty.flat 2 (fun x:Int×Int=>[.int .i64 x.1,.int .i64 x.2]) (fun _=>rfl) (fun _=>xD rfl)) 36 A l.length c l
abbrev Ey (A:Option Addr) (c:Nat) (l:List Ask):aX := .row tX 46 A l.length c l
abbrev Hw (A:Option Addr) (c:Nat) (l:List Txn):aX := .row jD 74 A l.length c l
abbrev Ha (A:Option Addr) (n c:Nat) (l:List Txn):aX := .row jD 74 A n c l
abbrev Da (A:Option Addr) (c:Nat) (l:List Op):aX := .row kOp 76 A l.length c l
abbrev Hy (A:Option Addr) (n c:Nat) (l:List Op):aX := .row kOp 76 A n c l
abbrev zt (A:Option Addr) (c:Nat) (l:List jW):aX := .row zq 117 A l.length c l
abbrev Or2 (A:Option Addr) (c:Nat) (l:List Int):aX:=orA noM (aJ .i64) 2 A l.length c l
abbrev Gr (A:Option Addr) (c:Nat) (l:List Ask):aX:=orA noM tX 46 A l.length c l
abbrev Av (b:Nat) (m:List (Int×Int)):aX:=zh (fun x:Int => .int .i64 x) (fun x:Int => .int .i64 x) b m
abbrev Gs (b:Nat) (m:List (Int×Int)):aX:=zh (fun x:Int => .int .i64 x) (fun x:Int => .int .i64 x) b m
abbrev pM (b:Nat) (m:List (Int×Int)):aX:=zh (fun x:Int => .int .i64 x) (fun x:Int => .int .u32 x) b m
abbrev yg (b:Nat) (m:List (Int×(List Int))):aX:=oJ (fun x:Int => .int .i64 x) (bq 2 (aJ .i64)) b m
abbrev tY (b:Nat) (m:List (ByteArray×Int)):aX:=zh (fun x:ByteArray => .string x) (fun x:Int => .int .i64 x) b m
abbrev tZ (b:Nat) (m:List (bH×Unit)):aX:=zh (fun x:bH => .agg #[.string x.key,.int .i64 x.arg]) (fun _:Unit => .agg #[]) b m
abbrev yh (b:Nat) (m:List (ByteArray×(List Int))):aX:=oJ (fun x:ByteArray => .string x) (bq 3 (aJ .i64)) b m
abbrev qO (x:History) (A0:Option Addr) (c0:Nat) (A1:Option Addr) (c1:Nat):List Value:=[vS A0 x.Keys.length c0,vS A1 x.Txns.length c1]
abbrev sH (x:History) (A0:Option Addr) (c0:Nat) (A1:Option Addr) (c1:Nat):Value := .agg (qO x A0 c0 A1 c1).toArray
abbrev jX (b:Nat) (x:History) (A0:Option Addr) (c0:Nat) (A1:Option Addr) (c1:Nat):aX := .blk b 25 (qO x A0 c0 A1 c1)
abbrev zu (x:Exec) (A0:Option Addr) (c0:Nat) (A1:Option Addr) (c1:Nat):List Value:=[vS A0 x.Order.length c0,vS A1 x.Picks.length c1]
abbrev Cj (x:Exec) (A0:Option Addr) (c0:Nat) (A1:Option Addr) (c1:Nat):Value := .agg (zu x A0 c0 A1 c1).toArray
abbrev sW (b:Nat) (x:Exec) (A0:Option Addr) (c0:Nat) (A1:Option Addr) (c1:Nat):aX := .blk b 28 (zu x A0 c0 A1 c1)
abbrev yD (x:Ask) (A3:Option Addr) (c3:Nat):List Value:=[vI x.Txn,vI x.Place,vI x.Key,vS A3 x.Base.length c3]
abbrev Hz (x:Ask) (A3:Option Addr) (c3:Nat):Value := .agg (yD x A3 c3).toArray
abbrev Hd (b:Nat) (x:Ask) (A3:Option Addr) (c3:Nat):aX := .blk b 46 (yD x A3 c3)
abbrev Ck (x:bD) (A0:Option Addr) (c0:Nat) (A1:Option Addr) (c1:Nat) (A2:Option Addr) (c2:Nat) (b3:Nat):List Value:=[vS A0 x.h.Keys.length c0,vS A1 x.h.Txns.length c1,vS A2 x.order.length c2,.map (some b3)]
abbrev Ez (x:bD) (A0:Option Addr) (c0:Nat) (A1:Option Addr) (c1:Nat) (A2:Option Addr) (c2:Nat) (b3:Nat):Value := .agg (Ck x A0 c0 A1 c1 A2 c2 b3).toArray
abbrev uT (b:Nat) (x:bD) (A0:Option Addr) (c0:Nat) (A1:Option Addr) (c1:Nat) (A2:Option Addr) (c2:Nat) (b3:Nat):aX := .blk b 60 (Ck x A0 c0 A1 c1 A2 c2 b3)
abbrev Gt (x:df) (A0:Option Addr) (c0:Nat) (A1:Option Addr) (c1:Nat):List Value:=[vS A0 x.asks.length c0,vS A1 x.bad.length c1]
abbrev HV (x:df) (A0:Option Addr) (c0:Nat) (A1:Option Addr) (c1:Nat):Value := .agg (Gt x A0 c0 A1 c1).toArray
abbrev uf (x:Txn) (A4:Option Addr) (c4:Nat):List Value:=[vI x.Proc,vI x.Status,vI x.From,vI x.To,vS A4 x.Ops.length c4]
abbrev Cm (x:Txn) (A4:Option Addr) (c4:Nat):Value := .agg (uf x A4 c4).toArray
abbrev Aw (b:Nat) (x:Txn) (A4:Option Addr) (c4:Nat):aX := .blk b 74 (uf x A4 c4)
abbrev zw (x:Op) (A4:Option Addr) (c4:Nat):List Value:=[vI x.Kind,vI x.Key,vI x.Arg,vB x.Got,vS A4 x.Vals.length c4]
abbrev HY (x:Op) (A4:Option Addr) (c4:Nat):Value := .agg (zw x A4 c4).toArray
abbrev sI (b:Nat) (x:Op) (A4:Option Addr) (c4:Nat):aX := .blk b 76 (zw x A4 c4)
abbrev Db (x:Event) (A2:Option Addr) (c2:Nat):List Value:=[vI x.Proc,vI x.Kind,vS A2 x.Calls.length c2]
abbrev HZ (x:Event) (A2:Option Addr) (c2:Nat):Value := .agg (Db x A2 c2).toArray
abbrev He (b:Nat) (x:Event) (A2:Option Addr) (c2:Nat):aX := .blk b 94 (Db x A2 c2)
abbrev Ay (x:Call) (A4:Option Addr) (c4:Nat):List Value:=[vI x.Kind,.string x.Key,vI x.Arg,vB x.Got,vS A4 x.Vals.length c4]
abbrev Dc (x:Call) (A4:Option Addr) (c4:Nat):Value := .agg (Ay x A4 c4).toArray
abbrev qP (b:Nat) (x:Call) (A4:Option Addr) (c4:Nat):aX := .blk b 99 (Ay x A4 c4)
abbrev wQ (b:Nat) (A0:Option Addr) (c0:Nat) (x0:List Ask) (A1:Option Addr) (c1:Nat) (x1:List jW):List aX:=[.blk b 67 [vS A0 x0.length c0,vS A1 x1.length c1],Ey A0 c0 x0,zt A1 c1 x1]
abbrev Hf (b:Nat) (x:df) (A0:Option Addr) (c0:Nat) (A1:Option Addr) (c1:Nat):List aX:=wQ b A0 c0 x.asks A1 c1 x.bad
abbrev qU (b:Nat) (A0:Option Addr) (c0:Nat) (x0:List ByteArray) (b1:Nat) (x1:List (ByteArray×Int)) (A2:Option Addr) (c2:Nat) (x2:List Int) (b3:Nat) (x3:List (bH×Unit)) (b4:Nat) (x4:List (ByteArray×(List Int))):List aX:=[.blk b 123 [vS A0 x0.length c0,.map (some b1),vS A2 x2.length c2,.map (some b3),.map (some b4)],Rw9 A0 c0 x0,tY b1 x1,Rw3 A2 c2 x2,tZ b3 x3,yh b4 x4]
abbrev De (b:Nat) (x:aO) (A0:Option Addr) (c0:Nat) (b1:Nat) (A2:Option Addr) (c2:Nat) (b3:Nat) (b4:Nat):List aX:=qU b A0 c0 x.keys b1 x.at_ A2 c2 x.types b3 x.facts b4 x.incs
theorem wR {H:BM} {x:Ask} {cs:List Value} (h:tX.rd H x cs):∃ A3 c3,cs=yD x A3 c3∧x.Base.length≤c3∧rdS (aJ .i64) H A3 x.Base:=by
 obtain ⟨_,_,rfl,rfl,⟨_,_,rfl,rfl,⟨_,_,rfl,rfl,⟨A0,c0,rfl,l0,r0⟩⟩⟩⟩:=h;exact ⟨A0,c0,rfl,l0,r0⟩
theorem nC {H:BM} {x:Txn} {cs:List Value} (h:jD.rd H x cs):∃ A4 c4,cs=uf x A4 c4∧x.Ops.length≤c4∧rdS kOp H A4 x.Ops:=by
 obtain ⟨_,_,rfl,rfl,⟨_,_,rfl,rfl,⟨_,_,rfl,rfl,⟨_,_,rfl,rfl,⟨A0,c0,rfl,l0,r0⟩⟩⟩⟩⟩:=h;exact ⟨A0,c0,rfl,l0,r0⟩
theorem Df {H:BM} {x:Op} {cs:List Value} (h:kOp.rd H x cs):∃ A4 c4,cs=zw x A4 c4∧x.Vals.length≤c4∧rdS (aJ .i64) H A4 x.Vals:=by
 obtain ⟨_,_,rfl,rfl,⟨_,_,rfl,rfl,⟨_,_,rfl,rfl,⟨_,_,rfl,rfl,⟨A0,c0,rfl,l0,r0⟩⟩⟩⟩⟩:=h;exact ⟨A0,c0,rfl,l0,r0⟩
theorem EA {H:BM} {x:Event} {cs:List Value} (h:Au.rd H x cs):∃ A2 c2,cs=Db x A2 c2∧x.Calls.length≤c2∧rdS tV H A2 x.Calls:=by
 obtain ⟨_,_,rfl,rfl,⟨_,_,rfl,rfl,⟨A0,c0,rfl,l0,r0⟩⟩⟩:=h;exact ⟨A0,c0,rfl,l0,r0⟩
theorem Gu {H:BM} {x:Call} {cs:List Value} (h:tV.rd H x cs):∃ A4 c4,cs=Ay x A4 c4∧x.Vals.length≤c4∧rdS (aJ .i64) H A4 x.Vals:=by
 obtain ⟨_,_,rfl,rfl,⟨_,_,rfl,rfl,⟨_,_,rfl,rfl,⟨_,_,rfl,rfl,⟨A0,c0,rfl,l0,r0⟩⟩⟩⟩⟩:=h;exact ⟨A0,c0,rfl,l0,r0⟩
theorem Gl (x:Ask) {R3:List aX} {c3:List Value} (h3:Mk (bq 2 (aJ .i64)) R3 x.Base c3):Mk tX ([]++([]++([]++R3))) x ([vI x.Txn]++([vI x.Place]++([vI x.Key]++c3))):=xE (g:=fun g:Ask=>(g.Txn,g.Place,g.Key,g.Base)) (x:=x) (fK (kS _ _ rfl) (fK (kS _ _ rfl) (fK (kS _ _ rfl) h3)))
theorem Dg (x:Txn) {R4:List aX} {c4:List Value} (h4:Mk (bq 76 kOp) R4 x.Ops c4):Mk jD ([]++([]++([]++([]++R4)))) x ([vI x.Proc]++([vI x.Status]++([vI x.From]++([vI x.To]++c4)))):=xE (g:=fun g:Txn=>(g.Proc,g.Status,g.From,g.To,g.Ops)) (x:=x) (fK (kS _ _ rfl) (fK (kS _ _ rfl) (fK (kS _ _ rfl) (fK (kS _ _ rfl) h4))))
theorem Dh (x:Op) {R4:List aX} {c4:List Value} (h4:Mk (bq 2 (aJ .i64)) R4 x.Vals c4):Mk kOp ([]++([]++([]++([]++R4)))) x ([vI x.Kind]++([vI x.Key]++([vI x.Arg]++([vB x.Got]++c4)))):=xE (g:=fun g:Op=>(g.Kind,g.Key,g.Arg,g.Got,g.Vals)) (x:=x) (fK (kS _ _ rfl) (fK (kS _ _ rfl) (fK (kS _ _ rfl) (fK (kS _ _ rfl) h4))))
def iU (a0:List ByteArray) (a1:ByteArray):Int→Option (Int ⊕ Int)
 | a2=>bif decide (a2 < (a0.length:Int)) then must (0≤a2∧a2 < (a0.length:Int)) (bif sEq a1 (idx a0 a2) then out (some a2) else (some (.inl (w64 (a2 + 1))))) else (out (some (-1)))
def slices_Index_string (a0:List ByteArray) (a1:ByteArray):Option Int :=
 iter (iU a0 a1) 0
def slices_Contains_string (a0:List ByteArray) (a1:ByteArray):Option Bool :=
 (slices_Index_string a0 a1).bind fun y3=>some (decide (y3 ≥ 0))
def kE:Option aO :=
 some (⟨([]:List ByteArray),([]:List (ByteArray×Int)),([]:List Int),([]:List (bH×Unit)),([]:List (ByteArray×(List Int)))⟩:aO)
def qh (a0:Int):Option (Int×Int) :=
 bif (a0 == 5) then some (0,1) else (bif (a0 == 8) then some (1,1) else (some (0,64)))
def mE (a0:Call) (a1:Int) (a2:Bool):Option (Int ⊕ Bool) :=
 bif a2 then must (0≤w64 (a1 - 1)∧w64 (a1 - 1) < (a0.Vals.length:Int)) (must (0≤a1∧a1 < (a0.Vals.length:Int)) (bif decide (idx a0.Vals (w64 (a1 - 1)) ≥ idx a0.Vals a1) then out (some false) else (some (.inl (w64 (a1 + 1)))))) else (out (some true))
def mF (a0:Call):Int→Option (Int ⊕ Bool)
 | a1=>bif (a0.Kind == 7) then mE a0 a1 (decide (a1 < (a0.Vals.length:Int))) else (mE a0 a1 false)
def mG (a0:Call) (a1:Bool):Option Bool :=
 bif a1 then some false else (iter (mF a0) 1)
def mH (a0:Call) (a2:Bool):Option Bool :=
 bif a2 then some false else (bif !a0.Got then some ((a0.Vals.length:Int) == 0) else ((qh a0.Kind).bind fun a1=>bif decide ((a0.Vals.length:Int) < a1.1) then mG a0 true else (mG a0 (decide ((a0.Vals.length:Int) > a1.2)))))
def jk (a0:Call) (a1:Int) (a2:Bool):Option Bool :=
 bif a2 then some false else (bif decide (a0.Kind≤4) then bif !a0.Got then bif ((a0.Vals.length:Int) == 0) then bif (a0.Kind != 4) then some true else (bif decide ((-1048576)≤a0.Arg) then some (decide (a0.Arg≤1048576)) else (some false)) else (some false) else (some false) else (bif (a0.Arg != 0) then mH a0 true else (mH a0 (a0.Got != (a1 == 1)))))
def bn (a0:Call) (a1:Int):Option Bool :=
 bif decide (a0.Kind < 1) then jk a0 a1 true else (bif decide (a0.Kind > 8) then jk a0 a1 true else (bif sEq a0.Key (⟨#[]⟩:ByteArray) then jk a0 a1 true else (jk a0 a1 (decide ((a0.Key.size:Int) > 32)))))
def nG (a0:Call) (a1:Event):Option Bool :=
 (bn a0 a1.Kind).bind fun y5=>some (!y5)
def dJ (a0:List Call) (a1c0:Event):Int→Option (Int ⊕ Int)
 | a1=>bif decide (a1 < (a0.length:Int)) then must (0≤a1∧a1 < (a0.length:Int)) ((nG (idx a0 a1) a1c0).bind fun a2=>bif a2 then out (some a1) else (some (.inl (w64 (a1 + 1))))) else (out (some (-1)))
def aW (a0:List Call) (a1c0:Event):Option Int :=
 iter (dJ a0 a1c0) 0
def bN (a0:List Call) (a1c0:Event):Option Bool :=
 (aW a0 a1c0).bind fun y3=>some (decide (y3 ≥ 0))
def kw (a0:List Event) (a1:Int) (a3:Bool):Option (Int ⊕ Int) :=
 bif a3 then out (some 1) else ((bN ((idx a0 a1).Calls) (idx a0 a1)).bind fun a2=>bif a2 then out (some 1) else (some (.inl (w64 (a1 + 1)))))
def pg (a0:List Event):Int→Option (Int ⊕ Int)
 | a1=>bif decide (a1 < (a0.length:Int)) then must (0≤a1∧a1 < (a0.length:Int)) (bif decide ((idx a0 a1).Kind < 0) then kw a0 a1 true else (bif decide ((idx a0 a1).Kind > 3) then kw a0 a1 true else (kw a0 a1 (decide ((((idx a0 a1).Calls).length:Int) > 16))))) else (out (some 0))
def dQ (a0:List Event):Option Int :=
 bif decide ((a0.length:Int) > 256) then some 1 else (iter (pg a0) 0)
def nM (a0:History) (a1:Txn) (a3:List Call) (a2:Int):Option ((List Call×Int) ⊕ (Event×Bool)) :=
 some (.inl (a3++([(⟨(idx a1.Ops a2).Kind,idx a0.Keys ((idx a1.Ops a2).Key),(idx a1.Ops a2).Arg,(idx a1.Ops a2).Got,(idx a1.Ops a2).Vals⟩:Call)]:List Call),w64 (a2 + 1)))
def lq (a0:History) (a1:Txn) (a2:List Call) (a3:Int) (a4:Bool):Option ((List Call×Int) ⊕ (Event×Bool)) :=
 bif a4 then out (some ((⟨0,a1.Status,a2⟩:Event),false)) else (must (0≤(idx a1.Ops a3).Key∧(idx a1.Ops a3).Key < (a0.Keys.length:Int)) (must (((a2.length + 1) + (a2.length + 1) / 4 + 192) * 64≤281474976710656∧a2.length + 1≤9223372036854775807) (nM a0 a1 a2 a3)))
def nN (a0:History) (a1:Txn):(List Call×Int)→Option ((List Call×Int) ⊕ (Event×Bool))
 | (a3,a2)=>bif decide (a2 < (a1.Ops.length:Int)) then must (0≤a2∧a2 < (a1.Ops.length:Int)) (bif decide ((idx a1.Ops a2).Key < 0) then lq a0 a1 a3 a2 true else (lq a0 a1 a3 a2 (decide ((idx a1.Ops a2).Key ≥ (a0.Keys.length:Int))))) else ((dQ ([(⟨0,a1.Status,a3⟩:Event)]:List Event)).bind fun a4=>out (some ((⟨0,a1.Status,a3⟩:Event),(a4 == 0))))
def cO (a0:History) (a1:Txn):Option (Event×Bool) :=
 iter (nN a0 a1) ([],0)
def lu (a0:Txn) (a1:Txn):Option Bool :=
 bif (a0.Proc == a1.Proc) then bif (a0.To == (-1)) then some true else (some (decide (a0.To ≥ a1.From))) else (some false)
def dG (a0:List Txn) (a1c0:Txn):Int→Option (Int ⊕ Int)
 | a1=>bif decide (a1 < (a0.length:Int)) then must (0≤a1∧a1 < (a0.length:Int)) ((lu (idx a0 a1) a1c0).bind fun a2=>bif a2 then out (some a1) else (some (.inl (w64 (a1 + 1))))) else (out (some (-1)))
def aS (a0:List Txn) (a1c0:Txn):Option Int :=
 iter (dG a0 a1c0) 0
def bK (a0:List Txn) (a1c0:Txn):Option Bool :=
 (aS a0 a1c0).bind fun y3=>some (decide (y3 ≥ 0))
def jd (a0:List Txn) (a1:Txn) (a3:Bool):Option Bool :=
 bif a3 then some false else ((bK a0 a1).bind fun a2=>some (!a2))
def kF (a0:List Txn) (a1:Txn):Option Bool :=
 bif decide (a1.From < 0) then jd a0 a1 true else (bif decide ((a0.length:Int) > 0) then must (0≤w64 ((a0.length:Int) - 1)∧w64 ((a0.length:Int) - 1) < (a0.length:Int)) (jd a0 a1 (decide ((idx a0 (w64 ((a0.length:Int) - 1))).From ≥ a1.From))) else (jd a0 a1 false))
def kG (a0:List Txn) (a1:Txn) (a2:Bool):Option Bool :=
 bif a2 then some false else (kF a0 a1)
def kH (a0:List Txn) (a1:Txn) (a2:Bool):Option Bool :=
 bif a2 then bif decide (a1.To≤a1.From) then some false else (kF a0 a1) else (bif (a1.Status == 3) then bif (a1.To != (-1)) then kG a0 a1 (decide (a1.To≤a1.From)) else (kG a0 a1 false) else (some false))
def aZ (a0:List Txn) (a1:Txn):Option Bool :=
 bif (a1.Status == 1) then kH a0 a1 (a1.Status == 1) else (kH a0 a1 (a1.Status == 2))
def jO (a0:Int):Option Int :=
 some (w64 ((rP .i64 (w64 (a0 - 1)) 3) + 1))
def eP (a5:List ByteArray) (a3:List (ByteArray×Int)) (a2:List Int) (a1:List (bH×Unit)) (a4:List (ByteArray×(List Int))):Option (Int×aO) :=
 some (0,(⟨a5,a3,a2,a1,a4⟩:aO))
def jl (a0:aO) (a1:Call) (a2:List ByteArray) (a3:List (ByteArray×Int)) (a4:List Int):Option (Int×aO) :=
 bif jh a0.facts (⟨a1.Key,a1.Arg⟩:bH) then some (3,(⟨a2,a3,a4,a0.facts,a0.incs⟩:aO)) else (eP a2 a3 a4 (eF a0.facts (⟨a1.Key,a1.Arg⟩:bH) ()) a0.incs)
def fU (a0:aO) (a1:Call) (a3:List ByteArray) (a4:List (ByteArray×Int)) (a5:List Int) (a2:List (ByteArray×(List Int))):Option (Int×aO) :=
 bif decide (((mat a2 a1.Key).length:Int) > 8) then some (51,(⟨a3,a4,a5,a0.facts,a2⟩:aO)) else (eP a3 a4 a5 a0.facts a2)
def fV (a0:aO) (a1:Call) (a2:Int) (a3:List ByteArray) (a4:List (ByteArray×Int)) (a5:List Int) (a6:Bool):Option (Int×aO) :=
 bif a6 then must (((((mat a0.incs a1.Key).length) + 1) + (((mat a0.incs a1.Key).length) + 1) / 4 + 192) * 8≤281474976710656∧((mat a0.incs a1.Key).length) + 1≤9223372036854775807) (fU a0 a1 a3 a4 a5 (eF a0.incs a1.Key ((mat a0.incs a1.Key)++([a2]:List Int)))) else (fU a0 a1 a3 a4 a5 a0.incs)
def fZ (a0:aO) (a1:Call) (a2:Int) (a3:List ByteArray) (a4:List (ByteArray×Int)) (a5:List Int) (a6:Bool):Option (Int×aO) :=
 bif a6 then jl a0 a1 a3 a4 a5 else (bif (a1.Kind == 4) then bif (((mat a0.incs a1.Key).length:Int) == 0) then fV a0 a1 a2 a3 a4 a5 true else (must (0≤w64 (((mat a0.incs a1.Key).length:Int) - 1)∧w64 (((mat a0.incs a1.Key).length:Int) - 1) < ((mat a0.incs a1.Key).length:Int)) (fV a0 a1 a2 a3 a4 a5 (idx (mat a0.incs a1.Key) (w64 (((mat a0.incs a1.Key).length:Int) - 1)) != a2))) else (eP a3 a4 a5 a0.facts a0.incs))
def eQ (a0:aO) (a1:Call) (a2:Int) (a5:List ByteArray) (a4:List (ByteArray×Int)) (a3:List Int) (a6:Int):Option (Int×aO) :=
 must (0≤a6∧a6 < (a3.length:Int)) ((jO a1.Kind).bind fun a7=>bif (idx a3 a6 != a7) then some (50,(⟨a5,a4,a3,a0.facts,a0.incs⟩:aO)) else (bif (a1.Kind == 2) then fZ a0 a1 a2 a5 a4 a3 (a1.Kind == 2) else (fZ a0 a1 a2 a5 a4 a3 (a1.Kind == 3))))
def jm (a0:aO) (a1:Call) (a2:Int):Option (Int×aO) :=
 (jO a1.Kind).bind fun a3=>must (((a0.types.length + 1) + (a0.types.length + 1) / 4 + 192) * 8≤281474976710656∧a0.types.length + 1≤9223372036854775807) (eQ a0 a1 a2 (a0.keys++([a1.Key]:List ByteArray)) (eF a0.at_ a1.Key (a0.keys.length:Int)) (a0.types++([a3]:List Int)) (a0.keys.length:Int))
def av (a0:aO) (a1:Call) (a2:Int):Option (Int×aO) :=
 bif !(jh a0.at_ a1.Key) then bif ((a0.keys.length:Int) == 32) then some (2,a0) else (must (((a0.keys.length + 1) + (a0.keys.length + 1) / 4 + 192) * 16≤281474976710656∧a0.keys.length + 1≤9223372036854775807) (jm a0 a1 a2)) else (eQ a0 a1 a2 a0.keys a0.at_ a0.types (mat a0.at_ a1.Key))
def jE (a1:Int) (a2:Bool):Option (Int ⊕ Int) :=
 bif a2 then out (some 1) else (some (.inl (w64 (a1 + 1))))
def lv (a7:Int) (a3:Event×Bool):(List ByteArray×(List (ByteArray×Int))×List Int×(List (bH×Unit))×(List (ByteArray×(List Int)))×Int)→Option ((List ByteArray×(List (ByteArray×Int))×List Int×(List (bH×Unit))×(List (ByteArray×(List Int)))×Int) ⊕ ((List ByteArray×(List (ByteArray×Int))×List Int×(List (bH×Unit))×(List (ByteArray×(List Int)))×Int) ⊕ (Int ⊕ Int)))
 | (a8,a9,a6,a4,a5,a2)=>bif decide (a2 < (a3.1.Calls.length:Int)) then must (0≤a2∧a2 < (a3.1.Calls.length:Int)) ((av (⟨a8,a9,a6,a4,a5⟩:aO) (idx a3.1.Calls a2) a7).bind fun a1=>bif (a1.1 != 0) then out (out (out (some 1))) else (some (.inl (a1.2.keys,a1.2.at_,a1.2.types,a1.2.facts,a1.2.incs,w64 (a2 + 1))))) else (out (some (.inl (a8,a9,a6,a4,a5,w64 (a7 + 1)))))
def lw (a2:List ByteArray) (a8:List (ByteArray×Int)) (a3:List Int) (a1:List (bH×Unit)) (a4:List (ByteArray×(List Int))) (a7:Int) (a6:Event×Bool) (a5:Bool):Option ((List ByteArray×(List (ByteArray×Int))×List Int×(List (bH×Unit))×(List (ByteArray×(List Int)))×Int) ⊕ (Int ⊕ Int)) :=
 bif a5 then out (out (some 1)) else (iter (lv a7 a6) (a2,a8,a3,a1,a4,0))
def jF (a0:History):(List ByteArray×(List (ByteArray×Int))×List Int×(List (bH×Unit))×(List (ByteArray×(List Int)))×Int)→Option ((List ByteArray×(List (ByteArray×Int))×List Int×(List (bH×Unit))×(List (ByteArray×(List Int)))×Int) ⊕ (Int ⊕ Int))
 | (a4,a7,a5,a3,a6,a1)=>bif decide (a1 < (a0.Txns.length:Int)) then must (0≤a1∧a1 < (a0.Txns.length:Int)) ((cO a0 (idx a0.Txns a1)).bind fun a2=>bif !a2.2 then lw a4 a7 a5 a3 a6 a1 a2 true else (must (0≤(0:Int)∧(0:Int)≤a1∧a1≤(a0.Txns.length:Int)) ((aZ (cK a0.Txns (0:Int) a1) (idx a0.Txns a1)).bind fun a8=>lw a4 a7 a5 a3 a6 a1 a2 (!a8)))) else (out (out (some 0)))
def nO (a0:History):Int→Option (Int ⊕ Int)
 | a1=>bif decide (a1 < (a0.Keys.length:Int)) then must (0≤a1∧a1 < (a0.Keys.length:Int)) (bif sEq (idx a0.Keys a1) (⟨#[]⟩:ByteArray) then jE a1 true else (bif decide (((idx a0.Keys a1).size:Int) > 32) then jE a1 true else (must (0≤(0:Int)∧(0:Int)≤a1∧a1≤(a0.Keys.length:Int)) ((slices_Contains_string (cK a0.Keys (0:Int) a1) (idx a0.Keys a1)).bind fun a3=>jE a1 a3)))) else ((kE).bind fun a2=>iter (jF a0) (a2.keys,a2.at_,a2.types,a2.facts,a2.incs,0))
def lC (a0:History) (b7:Bool):Option Int :=
 bif b7 then some 1 else (iter (nO a0) 0)
def aG (a0:History):Option Int :=
 bif decide ((a0.Keys.length:Int) > 32) then lC a0 true else (lC a0 (decide ((a0.Txns.length:Int) > 32)))
def dH (a0:List Int):Option (List Int) :=
 must (a0.length * 8≤140737488355328) (some a0)
def gP (a0:Int):Option Int :=
 bif (a0 == 1) then some 164 else (bif (a0 == 2) then some 165 else (bif (a0 == 3) then some 166 else (bif (a0 == 4) then some 167 else (some (-1)))))
def gQ (a0:Unit) (a1:List Int):Option Bool :=
 some (decide ((a1.length:Int)≤1))
def jP (a0:Unit) (a1:List Int):Option Bool :=
 some (decide ((a1.length:Int)≤64))
def kT (a1:List Int):Int→Option (Int ⊕ Bool)
 | a2=>bif decide (a2 < (a1.length:Int)) then must (0≤w64 (a2 - 1)∧w64 (a2 - 1) < (a1.length:Int)) (must (0≤a2∧a2 < (a1.length:Int)) (bif decide (idx a1 (w64 (a2 - 1)) ≥ idx a1 a2) then out (some false) else (some (.inl (w64 (a2 + 1)))))) else (out (some (decide ((a1.length:Int)≤64))))
def dO (a0:Unit) (a1:List Int):Option Bool :=
 iter (kT a1) 1
def iC (a0:Unit) (a1:List Int):Option Bool :=
 some ((a1.length:Int) == 1)
def gT (a0:Int) (a1:List Int):Option Int :=
 (gP a0).bind fun y8=>bif (y8 == (164:Int)) then (gQ () a1).bind fun a4=>bif !a4 then some 80 else (some 0) else (bif (y8 == (165:Int)) then (jP () a1).bind fun a2=>bif !a2 then some 80 else (some 0) else (bif (y8 == (166:Int)) then (dO () a1).bind fun a5=>bif !a5 then some 80 else (some 0) else (bif (y8 == (167:Int)) then (iC () a1).bind fun a3=>bif !a3 then some 80 else (some 0) else (bif (y8 == ((-1):Int)) then some 1 else none))))
def dW (a0:Unit) (a1:List Int) (a2:List Int):Option (List Int×Bool) :=
 bif ((a1.length:Int) == 1) then must (0≤(0:Int)∧(0:Int) < (a1.length:Int)) (must (0≤w64 ((a2.length:Int) - 1)∧w64 ((a2.length:Int) - 1) < (a2.length:Int)) (some (([]:List Int),(idx a1 (0:Int) == idx a2 (w64 ((a2.length:Int) - 1)))))) else (some (([]:List Int),false))
def ma (a0:List Int) (a1:List Int):Int→Option (Int ⊕ Bool)
 | a2=>bif decide (a2 < (a0.length:Int)) then must (0≤a2∧a2 < (a0.length:Int)) (must (0≤a2∧a2 < (a1.length:Int)) (bif (idx a0 a2 != idx a1 a2) then out (some false) else (some (.inl (w64 (a2 + 1)))))) else (out (some true))
def dA (a0:List Int) (a1:List Int):Option Bool :=
 bif ((a0.length:Int) != (a1.length:Int)) then some false else (iter (ma a0 a1) 0)
def eT (a1:List Int) (a2:List Int) (a4:Bool):Option (List Int×Bool) :=
 bif a4 then some (([]:List Int),false) else (must (0≤(0:Int)∧(0:Int)≤(w64 ((a1.length:Int) - (a2.length:Int)))∧(w64 ((a1.length:Int) - (a2.length:Int)))≤(a1.length:Int)) ((dH (cK a1 (0:Int) (w64 ((a1.length:Int) - (a2.length:Int))))).bind fun a3=>some (a3,true)))
def bV (a0:Unit) (a1:List Int) (a2:List Int):Option (List Int×Bool) :=
 bif decide (w64 ((a1.length:Int) - (a2.length:Int)) < 0) then eT a1 a2 true else (must (0≤(w64 ((a1.length:Int) - (a2.length:Int)))∧(w64 ((a1.length:Int) - (a2.length:Int)))≤(a1.length:Int)∧(a1.length:Int)≤(a1.length:Int)) ((dA (cK a1 (w64 ((a1.length:Int) - (a2.length:Int))) (a1.length:Int)) a2).bind fun a3=>eT a1 a2 (!a3)))
def je (a0:Int):Option Bool :=
 some (a0 != a0)
def jG (a0:Int) (a1:Int):Option Bool :=
 (je a0).bind fun y7=>bif y7 then (je a1).bind fun a2=>bif !a2 then some true else (some (decide (a0 < a1))) else (some (decide (a0 < a1)))
def fO (a0:Int):Option Bool :=
 some (a0 != a0)
def fB (a2:Int) (a1:Int):Option ((Int×Int) ⊕ (Int×Bool)) :=
 some (.inl (a2,a1))
def fC (a0:List Int) (a1:Int):(Int×Int)→Option ((Int×Int) ⊕ (Int×Bool))
 | (a2,a3)=>bif decide (a2 < a3) then must (0≤(1:Int)∧(1:Int) < (far:Int)) (must (0≤w64 (om .u64 (IntKind.wrap .u64 (w64 (a2 + a3))) (1:Int))∧w64 (om .u64 (IntKind.wrap .u64 (w64 (a2 + a3))) (1:Int)) < (a0.length:Int)) ((jG (idx a0 (w64 (om .u64 (IntKind.wrap .u64 (w64 (a2 + a3))) (1:Int)))) a1).bind fun a6=>bif a6 then fB (w64 ((w64 (om .u64 (IntKind.wrap .u64 (w64 (a2 + a3))) (1:Int))) + 1)) a3 else (fB a2 (w64 (om .u64 (IntKind.wrap .u64 (w64 (a2 + a3))) (1:Int)))))) else (bif decide (a2 < (a0.length:Int)) then must (0≤a2∧a2 < (a0.length:Int)) (bif (idx a0 a2 == a1) then out (some (a2,true)) else ((fO (idx a0 a2)).bind fun a5=>bif a5 then (fO a1).bind fun a4=>out (some (a2,a4)) else (out (some (a2,false))))) else (out (some (a2,false))))
def aV (a0:List Int) (a1:Int):Option (Int×Bool) :=
 iter (fC a0 a1) (0,(a0.length:Int))
def fD (a0:List Int) (a1 a2:Int):Option (List Int) :=
 must (0≤a1∧a1≤a2∧a2≤(a0.length:Int)) (some (a0.take a1.toNat++a0.drop a2.toNat))
def gU (a2:List Int):(List Int×Int)→Option ((List Int×Int) ⊕ (List Int×Bool))
 | (a3,a1)=>bif decide (a1 < (a2.length:Int)) then must (0≤a1∧a1 < (a2.length:Int)) ((aV a3 (idx a2 a1)).bind fun a4=>bif !a4.2 then out (some (([]:List Int),false)) else ((fD a3 a4.1 (w64 (a4.1 + 1))).bind fun a5=>some (.inl (a5,w64 (a1 + 1))))) else (out (some (a3,true)))
def dm (a0:Unit) (a1:List Int) (a2:List Int):Option (List Int×Bool) :=
 (dH a1).bind fun y7=>iter (gU a2) (y7,0)
def eY (a2:List Int):(Int×Int)→Option ((Int×Int) ⊕ (List Int×Bool))
 | (a3,a1)=>bif decide (a1 < (a2.length:Int)) then must (0≤a1∧a1 < (a2.length:Int)) (some (.inl (w64 (a3 - (idx a2 a1)),w64 (a1 + 1)))) else (out (some (([a3]:List Int),true)))
def bW (a0:Unit) (a1:List Int) (a2:List Int):Option (List Int×Bool) :=
 must (0≤(0:Int)∧(0:Int) < (a1.length:Int)) (iter (eY a2) (idx a1 (0:Int),0))
def gM (a0:Int) (a1:List Int) (a2:List Int) (b9:Bool):Option (List Int×Bool) :=
 bif b9 then some (([]:List Int),false) else ((gP a0).bind fun a3=>bif (a3 == (164:Int)) then (dW () a1 a2).bind fun a5=>some (a5.1,a5.2) else (bif (a3 == (165:Int)) then (bV () a1 a2).bind fun a7=>some (a7.1,a7.2) else (bif (a3 == (166:Int)) then (dm () a1 a2).bind fun a6=>some (a6.1,a6.2) else (bif (a3 == (167:Int)) then (bW () a1 a2).bind fun a4=>some (a4.1,a4.2) else (bif (a3 == ((-1):Int)) then none else none)))))
def dP (a0:Int) (a1:List Int) (a2:List Int):Option (List Int×Bool) :=
 (gT a0 a1).bind fun a3=>bif (a3 != 0) then gM a0 a1 a2 true else (gM a0 a1 a2 ((a2.length:Int) == 0))
def eD (a1:Int) (a3:List Ask) (a2:List jW) (a4:List (Int×(List Int))):Option ((List Ask×List jW×(List (Int×(List Int)))×Int) ⊕ df) :=
 some (.inl (a3,a2,a4,w64 (a1 + 1)))
def iD (a1:History) (a2:Int) (a5:List Ask) (a4:List jW) (a6:List (Int×(List Int))) (a3:Int) (a7:List Int) (a8:Bool):Option ((List Ask×List jW×(List (Int×(List Int)))×Int) ⊕ df) :=
 bif !a8 then must (((a4.length + 1) + (a4.length + 1) / 4 + 192) * 16≤281474976710656∧a4.length + 1≤9223372036854775807) (eD a3 a5 (a4++([(⟨a2,a3⟩:jW)]:List jW)) a6) else (must (((a5.length + 1) + (a5.length + 1) / 4 + 192) * 48≤281474976710656∧a5.length + 1≤9223372036854775807) (eD a3 (a5++([(⟨a2,a3,(idx ((idx a1.Txns a2).Ops) a3).Key,a7⟩:Ask)]:List Ask)) a4 a6))
def iE (a1:History) (a2:Int) (a5:List Ask) (a4:List jW) (a6:List (Int×(List Int))) (a3:Int) (a7:List Int×Bool) (a8:Bool):Option ((List Ask×List jW×(List (Int×(List Int)))×Int) ⊕ df) :=
 bif a8 then eD a3 a5 a4 a6 else (iD a1 a2 a5 a4 a6 a3 a7.1 a7.2)
def jY (a1:History) (a2:Int):(List Ask×List jW×(List (Int×(List Int)))×Int)→Option ((List Ask×List jW×(List (Int×(List Int)))×Int) ⊕ df)
 | (a6,a5,a4,a3)=>bif decide (a3 < (((idx a1.Txns a2).Ops).length:Int)) then must (0≤a3∧a3 < (((idx a1.Txns a2).Ops).length:Int)) (bif decide ((idx ((idx a1.Txns a2).Ops) a3).Kind≤4) then must (((((mat a4 ((idx ((idx a1.Txns a2).Ops) a3).Key)).length) + 1) + (((mat a4 ((idx ((idx a1.Txns a2).Ops) a3).Key)).length) + 1) / 4 + 192) * 8≤281474976710656∧((mat a4 ((idx ((idx a1.Txns a2).Ops) a3).Key)).length) + 1≤9223372036854775807) (eD a3 a6 a5 (eF a4 ((idx ((idx a1.Txns a2).Ops) a3).Key) ((mat a4 ((idx ((idx a1.Txns a2).Ops) a3).Key))++([(idx ((idx a1.Txns a2).Ops) a3).Arg]:List Int)))) else ((dH ((idx ((idx a1.Txns a2).Ops) a3).Vals)).bind fun a8=>bif decide (((mat a4 ((idx ((idx a1.Txns a2).Ops) a3).Key)).length:Int) > 0) then (dP (w64 (((idx ((idx a1.Txns a2).Ops) a3).Kind) - 4)) ((idx ((idx a1.Txns a2).Ops) a3).Vals) (mat a4 ((idx ((idx a1.Txns a2).Ops) a3).Key))).bind fun a7=>bif a7.2 then iE a1 a2 a6 a5 a4 a3 a7 ((idx ((idx a1.Txns a2).Ops) a3).Kind == 5) else (iE a1 a2 a6 a5 a4 a3 a7 false) else (iD a1 a2 a6 a5 a4 a3 a8 true))) else (out (some (⟨a6,a5⟩:df)))
def aN (a0:df) (a1:History) (a2:Int):Option df :=
 must (0≤a2∧a2 < (a1.Txns.length:Int)) (bif ((idx a1.Txns a2).Status != 1) then some a0 else (iter (jY a1 a2) (a0.asks,a0.bad,[],0)))
def qi (a0:History):(List Ask×List jW×Int)→Option ((List Ask×List jW×Int) ⊕ (df×Int))
 | (a2,a4,a1)=>bif decide (a1 < (a0.Txns.length:Int)) then (aN (⟨a2,a4⟩:df) a0 a1).bind fun a3=>some (.inl (a3.asks,a3.bad,w64 (a1 + 1))) else (out (some ((⟨a2,a4⟩:df),0)))
def iO (a0:History):Option (df×Int) :=
 (aG a0).bind fun a1=>bif (a1 != 0) then some ((⟨([]:List Ask),([]:List jW)⟩:df),a1) else (iter (qi a0) ([],[],0))
def iV (a0:History):Option (List Ask×Int) :=
 (iO a0).bind fun a1=>some (a1.1.asks,a1.2)
def pO (a0:History):Option (List jW×Int) :=
 (iO a0).bind fun a1=>some (a1.1.bad,a1.2)
def mK (a0:History) (a1:List Int) (a3:List (Int×Int)) (a2:Int) (a4:Bool):Option (((List (Int×Int))×Int) ⊕ (bD×Bool)) :=
 bif a4 then out (some ((⟨a0,a1,a3⟩:bD),false)) else (some (.inl (eF a3 (idx a1 a2) a2,w64 (a2 + 1))))
def oK (a0:History) (a1:List Int) (a2:List (Int×Int)) (a3:Int) (a4:Bool):Option (Int ⊕ (((List (Int×Int))×Int) ⊕ (bD×Bool))) :=
 bif a4 then out (out (some ((⟨a0,a1,a2⟩:bD),false))) else (some (.inl (w64 (a3 + 1))))
def oL (a0:History) (a1:List Int) (a3:List (Int×Int)):Int→Option (Int ⊕ (((List (Int×Int))×Int) ⊕ (bD×Bool)))
 | a2=>bif decide (a2 < (a0.Txns.length:Int)) then must (0≤a2∧a2 < (a0.Txns.length:Int)) (bif !(jh a3 a2) then oK a0 a1 a3 a2 ((idx a0.Txns a2).Status == 1) else (oK a0 a1 a3 a2 false)) else (out (out (some ((⟨a0,a1,a3⟩:bD),true))))
def qV (a0:History) (a1:List Int):((List (Int×Int))×Int)→Option (((List (Int×Int))×Int) ⊕ (bD×Bool))
 | (a3,a2)=>bif decide (a2 < (a1.length:Int)) then must (0≤a2∧a2 < (a1.length:Int)) (bif decide (idx a1 a2 < 0) then mK a0 a1 a3 a2 true else (bif decide (idx a1 a2 ≥ (a0.Txns.length:Int)) then mK a0 a1 a3 a2 true else (must (0≤idx a1 a2∧idx a1 a2 < (a0.Txns.length:Int)) (mK a0 a1 a3 a2 ((idx a0.Txns (idx a1 a2)).Status == 2))))) else (bif ((a3.length:Int) != (a1.length:Int)) then out (some ((⟨a0,a1,a3⟩:bD),false)) else (iter (oL a0 a1 a3) 0))
def dC (a0:History) (a1:List Int):Option (bD×Bool) :=
 iter (qV a0 a1) ([],0)
def fI (a1:Int) (a2:List (Int×Int)):Option (((List (Int×Int))×Int) ⊕ Bool) :=
 some (.inl (a2,w64 (a1 + 1)))
def fJ (a0:bD) (a2:List (Int×Int)) (a1:Int) (a3:Bool):Option (((List (Int×Int))×Int) ⊕ Bool) :=
 bif a3 then out (some false) else (fI a1 (eF a2 ((idx a0.h.Txns a1).Proc) (wC (mat a0.at_ a1) (mat a2 ((idx a0.h.Txns a1).Proc)))))
def iX (a0:bD):((List (Int×Int))×Int)→Option (((List (Int×Int))×Int) ⊕ Bool)
 | (a2,a1)=>bif decide (a1 < (a0.h.Txns.length:Int)) then must (0≤a1∧a1 < (a0.h.Txns.length:Int)) (bif !(jh a0.at_ a1) then fI a1 a2 else (bif jh a2 ((idx a0.h.Txns a1).Proc) then fJ a0 a2 a1 (decide (mat a2 ((idx a0.h.Txns a1).Proc) > mat a0.at_ a1)) else (fJ a0 a2 a1 false))) else (out (some true))
def aR (a0:bD):Option Bool :=
 iter (iX a0) ([],0)
def lD (a2:Int) (a1:List Int):Option ((List Int×Int) ⊕ (List Int)) :=
 some (.inl (a1,w64 (a2 + 1)))
def lF (a0:Txn) (a1:List Int) (a2:Int) (a3:Bool):Option ((List Int×Int) ⊕ (List Int)) :=
 bif a3 then must (((a1.length + 1) + (a1.length + 1) / 4 + 192) * 8≤281474976710656∧a1.length + 1≤9223372036854775807) (lD a2 (a1++([(idx a0.Ops a2).Arg]:List Int))) else (lD a2 a1)
def nP (a0:Txn) (a1:Int):(List Int×Int)→Option ((List Int×Int) ⊕ (List Int))
 | (a3,a2)=>bif decide (a2 < (a0.Ops.length:Int)) then must (0≤a2∧a2 < (a0.Ops.length:Int)) (bif ((idx a0.Ops a2).Key == a1) then lF a0 a3 a2 (decide ((idx a0.Ops a2).Kind≤4)) else (lF a0 a3 a2 false)) else (out (some a3))
def cu (a0:Txn) (a1:Int):Option (List Int) :=
 iter (nP a0 a1) ([],0)
def jH (a0:History) (a1:Int) (a2:Int) (a4:Bool):Option (List Int×Bool) :=
 bif a4 then some (([]:List Int),false) else (must (0≤a1∧a1 < (a0.Txns.length:Int)) ((cu (idx a0.Txns a1) a2).bind fun a3=>some (a3,decide ((a3.length:Int) > 0))))
def fe (a0:History) (a1:Int) (a2:Int):Option (List Int×Bool) :=
 bif decide (a1 < 0) then jH a0 a1 a2 true else (bif decide (a1 ≥ (a0.Txns.length:Int)) then jH a0 a1 a2 true else ((aG a0).bind fun a3=>jH a0 a1 a2 (a3 != 0)))
def iF (a0:bD) (a1:Ask) (a2:Int) (b9:Bool):Option Bool :=
 bif b9 then some false else ((fe a0.h a2 a1.Key).bind fun a3=>some a3.2)
def dD (a0:bD) (a1:Ask) (a2:Int):Option Bool :=
 bif !(jh a0.at_ a2) then iF a0 a1 a2 true else (iF a0 a1 a2 (decide (mat a0.at_ a2 ≥ mat a0.at_ a1.Txn)))
def pq (a0:History) (a1:Int) (a3:Int):Int→Option (Int ⊕ (Int ⊕ Int))
 | a2=>bif decide (a2 < (((idx a0.Txns a3).Ops).length:Int)) then must (0≤a2∧a2 < (((idx a0.Txns a3).Ops).length:Int)) (bif ((idx ((idx a0.Txns a3).Ops) a2).Key == a1) then (jO ((idx ((idx a0.Txns a3).Ops) a2).Kind)).bind fun a4=>out (out (some a4)) else (some (.inl (w64 (a2 + 1))))) else (out (some (.inl (w64 (a3 + 1)))))
def pu (a0:History) (a1:Int):Int→Option (Int ⊕ Int)
 | a2=>bif decide (a2 < (a0.Txns.length:Int)) then must (0≤a2∧a2 < (a0.Txns.length:Int)) (iter (pq a0 a1 a2) 0) else (out (some 0))
def dM (a0:History) (a1:Int):Option Int :=
 (aG a0).bind fun y8=>bif (y8 != 0) then some 0 else (iter (pu a0 a1) 0)
def lG (a0:List Int):Option (List Int):=must (a0.length < 4611686018427387904) (some (a0.mergeSort fun x y=>decide (x≤y)))
def gm (a1:List Int):Option (List Int) :=
 some a1
def jo (a2:List Int):(Int×Int)→Option ((Int×Int) ⊕ (List Int))
 | (a3,a1)=>bif decide (a1 < (a2.length:Int)) then must (0≤a1∧a1 < (a2.length:Int)) (some (.inl (w64 (a3 + (idx a2 a1)),w64 (a1 + 1)))) else (out (some ([a3]:List Int)))
def eU (a0:bD) (a1:Int) (a2:List Int):Option (List Int) :=
 (dM a0.h a1).bind fun a3=>bif (a3 == 1) then must (0≤(wC 0 (w64 ((a2.length:Int) - 1)))∧(wC 0 (w64 ((a2.length:Int) - 1)))≤(a2.length:Int)∧(a2.length:Int)≤(a2.length:Int)) (some (cK a2 (wC 0 (w64 ((a2.length:Int) - 1))) (a2.length:Int))) else (bif (a3 == 3) then (lG a2).bind fun a4=>gm a4 else (bif (a3 == 4) then iter (jo a2) (0,0) else (gm a2)))
def gp (a2:Int) (a1:List Int):Option ((List Int×Int) ⊕ ((List Int×Int) ⊕ (List Int))) :=
 some (.inl (a1,w64 (a2 + 1)))
def gq (a0:bD) (a2:Int) (a5:Int) (a1:List Int) (a3:Int) (a4:Bool):Option ((List Int×Int) ⊕ ((List Int×Int) ⊕ (List Int))) :=
 bif a4 then must (((a1.length + 1) + (a1.length + 1) / 4 + 192) * 8≤281474976710656∧a1.length + 1≤9223372036854775807) (gp a3 (a1++([(idx ((idx a0.h.Txns (idx (cK a0.order (0:Int) (w64 ((mat a0.at_ a2) + 1))) a5)).Ops) a3).Arg]:List Int))) else (gp a3 a1)
def jq (a0:bD) (a1:Int) (a2:Int) (a4:Int):(List Int×Int)→Option ((List Int×Int) ⊕ ((List Int×Int) ⊕ (List Int)))
 | (a5,a3)=>bif decide (a3 < (((idx a0.h.Txns (idx (cK a0.order (0:Int) (w64 ((mat a0.at_ a2) + 1))) a4)).Ops).length:Int)) then must (0≤a3∧a3 < (((idx a0.h.Txns (idx (cK a0.order (0:Int) (w64 ((mat a0.at_ a2) + 1))) a4)).Ops).length:Int)) (bif ((idx ((idx a0.h.Txns (idx (cK a0.order (0:Int) (w64 ((mat a0.at_ a2) + 1))) a4)).Ops) a3).Key == a1) then gq a0 a2 a4 a5 a3 (decide ((idx ((idx a0.h.Txns (idx (cK a0.order (0:Int) (w64 ((mat a0.at_ a2) + 1))) a4)).Ops) a3).Kind≤4)) else (gq a0 a2 a4 a5 a3 false)) else (out (some (.inl (a5,w64 (a4 + 1)))))
def jr (a0:bD) (a1:Int) (a2:Int):(List Int×Int)→Option ((List Int×Int) ⊕ (List Int))
 | (a4,a3)=>bif decide (a3 < ((cK a0.order (0:Int) (w64 ((mat a0.at_ a2) + 1))).length:Int)) then must (0≤a3∧a3 < ((cK a0.order (0:Int) (w64 ((mat a0.at_ a2) + 1))).length:Int)) (must (0≤idx (cK a0.order (0:Int) (w64 ((mat a0.at_ a2) + 1))) a3∧idx (cK a0.order (0:Int) (w64 ((mat a0.at_ a2) + 1))) a3 < (a0.h.Txns.length:Int)) (iter (jq a0 a1 a2 a3) (a4,0))) else (out (eU a0 a1 a4))
def ax (a0:bD) (a1:Int) (a2:Int):Option (List Int) :=
 bif decide (a2 ≥ 0) then must (0≤(0:Int)∧(0:Int)≤(w64 ((mat a0.at_ a2) + 1))∧(w64 ((mat a0.at_ a2) + 1))≤(a0.order.length:Int)) (iter (jr a0 a1 a2) ([],0)) else (eU a0 a1 [])
def oM (a1:Exec) (a3:List Ask×Int) (a5:bD×Bool) (a2:Int) (a6:Bool):Option (Int ⊕ (Int×Int)) :=
 bif a6 then out (some (5,0)) else (must (0≤a2∧a2 < (a1.Picks.length:Int)) ((ax a5.1 ((idx a3.1 a2).Key) (idx a1.Picks a2)).bind fun a7=>(dA a7 ((idx a3.1 a2).Base)).bind fun a4=>bif !a4 then out (some (6,0)) else (some (.inl (w64 (a2 + 1))))))
def oN (a1:Exec) (a3:List Ask×Int) (a4:bD×Bool):Int→Option (Int ⊕ (Int×Int))
 | a2=>bif decide (a2 < (a3.1.length:Int)) then must (0≤a2∧a2 < (a3.1.length:Int)) (must (0≤a2∧a2 < (a1.Picks.length:Int)) (bif (idx a1.Picks a2 != (-1)) then (dD a4.1 (idx a3.1 a2) (idx a1.Picks a2)).bind fun a5=>oM a1 a3 a4 a2 (!a5) else (oM a1 a3 a4 a2 false))) else (out (some (0,0)))
def dX (a0:History) (a1:Exec):Option (Int×Int) :=
 (iV a0).bind fun a2=>bif (a2.2 != 0) then some (0,a2.2) else ((pO a0).bind fun a5=>bif decide ((a5.1.length:Int) > 0) then some (1,0) else ((dC a0 a1.Order).bind fun a3=>bif !a3.2 then some (2,0) else (bif ((a1.Picks.length:Int) != (a2.1.length:Int)) then some (3,0) else ((aR a3.1).bind fun a4=>bif !a4 then some (4,0) else (iter (oN a1 a2 a3) 0)))))
def jQ (a1:Int) (a2:List Int):Option ((List Int×Int) ⊕ (List Int)) :=
 some (.inl (a2,w64 (a1 + 1)))
def jR (a1:List Int) (a2:Int) (a3:Bool):Option ((List Int×Int) ⊕ (List Int)) :=
 bif a3 then must (((a1.length + 1) + (a1.length + 1) / 4 + 192) * 8≤281474976710656∧a1.length + 1≤9223372036854775807) (jQ a2 (a1++([a2]:List Int))) else (jQ a2 a1)
def mi (a0:History) (a1:Int):(List Int×Int)→Option ((List Int×Int) ⊕ (List Int))
 | (a3,a2)=>bif decide (a2 < (a0.Txns.length:Int)) then must (0≤a2∧a2 < (a0.Txns.length:Int)) (bif ((idx a0.Txns a2).Status != 2) then (cu (idx a0.Txns a2) a1).bind fun a4=>jR a3 a2 (decide ((a4.length:Int) > 0)) else (jR a3 a2 false)) else (out (some a3))
def bJ (a0:History) (a1:Int):Option (List Int) :=
 (aG a0).bind fun y8=>bif (y8 != 0) then some ([]:List Int) else (iter (mi a0 a1) ([],0))
def kI (a2:Int) (a1:List Int):Option ((List Int×Int) ⊕ ((List Int×List Int×List Int×Int×Int) ⊕ (aY×Int))) :=
 some (.inl (a1,w64 (a2 + 1)))
def kJ (a0:History) (a1:Exec) (a6:List Int) (a7:List Int) (a5:Int) (a2:Int):(List Int×Int)→Option ((List Int×Int) ⊕ ((List Int×List Int×List Int×Int×Int) ⊕ (aY×Int)))
 | (a4,a3)=>bif decide (a3 < ((cK a1.Order (0:Int) a2).length:Int)) then must (0≤a3∧a3 < ((cK a1.Order (0:Int) a2).length:Int)) (must (0≤idx (cK a1.Order (0:Int) a2) a3∧idx (cK a1.Order (0:Int) a2) a3 < (a0.Txns.length:Int)) (must (0≤idx a1.Order a2∧idx a1.Order a2 < (a0.Txns.length:Int)) (bif ((idx a0.Txns (idx (cK a1.Order (0:Int) a2) a3)).Proc == (idx a0.Txns (idx a1.Order a2)).Proc) then must (0≤idx (cK a1.Order (0:Int) a2) a3∧idx (cK a1.Order (0:Int) a2) a3 < (far:Int)) (kI a3 (mr 32 a4 (idx a1.Order a2) (bOr .u32 (idx a4 (idx a1.Order a2)) (mV .u32 1 (idx (cK a1.Order (0:Int) a2) a3))))) else (kI a3 a4)))) else (must (0≤idx a1.Order a2∧idx a1.Order a2 < (far:Int)) (out (some (.inl ((mr 32 a6 (idx a1.Order a2) (w64 (a2 + 1))),(mr 32 a7 (idx a1.Order a2) a5),a4,bOr .u32 a5 (mV .u32 1 (idx a1.Order a2)),w64 (a2 + 1))))))
def kK (a1:Int) (a2:List Int):Option ((List Int×Int) ⊕ ((List Int×List Int×List Int×Int×Int) ⊕ (aY×Int))) :=
 some (.inl (a2,w64 (a1 + 1)))
def kM (a2:Int) (a1:List (Int×Int)):Option (((List (Int×Int))×Int) ⊕ (((List (Int×Int))×Int) ⊕ ((List Int×Int) ⊕ ((List Int×List Int×List Int×Int×Int) ⊕ (aY×Int))))) :=
 some (.inl (a1,w64 (a2 + 1)))
def mY (a5:List Int) (a4:Int) (a2:List Int):((List (Int×Int))×Int)→Option (((List (Int×Int))×Int) ⊕ (((List (Int×Int))×Int) ⊕ ((List Int×Int) ⊕ ((List Int×List Int×List Int×Int×Int) ⊕ (aY×Int)))))
 | (a3,a1)=>bif decide (a1 < (a2.length:Int)) then must (0≤a1∧a1 < (a2.length:Int)) (must (0≤(idx a2 a1)∧(idx a2 a1) < ((32:Nat):Int)) (bif decide (idx a5 (idx a2 a1) > 0) then must (0≤idx a2 a1∧idx a2 a1 < (far:Int)) (kM a1 (eF a3 a4 (bOr .u32 (mat a3 a4) (mV .u32 1 (idx a2 a1))))) else (kM a1 a3))) else (out (some (.inl (a3,w64 (a4 + 1)))))
def mZ (a0:History) (a1:Exec) (a6:List Ask×Int) (a3:List Int) (a8:List Int) (a5:List Int):((List (Int×Int))×Int)→Option (((List (Int×Int))×Int) ⊕ ((List Int×Int) ⊕ ((List Int×List Int×List Int×Int×Int) ⊕ (aY×Int))))
 | (a4,a2)=>bif decide (a2 < (a0.Keys.length:Int)) then (bJ a0 a2).bind fun a7=>iter (mY a3 a2 a7) (a4,0) else (out (out (out (some ((⟨a0,a1,a6.1,a3,a8,a5,a4⟩:aY),0)))))
def ng (a0:History) (a1:Exec) (a3:List Ask×Int) (a5:List Int) (a6:List Int):(List Int×Int)→Option ((List Int×Int) ⊕ ((List Int×List Int×List Int×Int×Int) ⊕ (aY×Int)))
 | (a4,a2)=>bif decide (a2 < (a3.1.length:Int)) then must (0≤a2∧a2 < (a3.1.length:Int)) (must (0≤a2∧a2 < (a1.Picks.length:Int)) (bif decide (idx a1.Picks a2 ≥ 0) then must (0≤((idx a3.1 a2).Txn)∧((idx a3.1 a2).Txn) < ((32:Nat):Int)) (must (0≤idx a1.Picks a2∧idx a1.Picks a2 < (far:Int)) (kK a2 (mr 32 a4 ((idx a3.1 a2).Txn) (bOr .u32 (idx a4 ((idx a3.1 a2).Txn)) (mV .u32 1 (idx a1.Picks a2)))))) else (kK a2 a4))) else (iter (mZ a0 a1 a3 a5 a6 a4) ([],0))
def ni (a0:History) (a1:Exec) (a6:List Ask×Int):(List Int×List Int×List Int×Int×Int)→Option ((List Int×List Int×List Int×Int×Int) ⊕ (aY×Int))
 | (a3,a5,a4,a7,a2)=>bif decide (a2 < (a1.Order.length:Int)) then must (0≤a2∧a2 < (a1.Order.length:Int)) (must (0≤(idx a1.Order a2)∧(idx a1.Order a2) < ((32:Nat):Int)) (must (0≤(0:Int)∧(0:Int)≤a2∧a2≤(a1.Order.length:Int)) (iter (kJ a0 a1 a3 a5 a7 a2) (a4,0)))) else (iter (ng a0 a1 a6 a3 a5) (a4,0))
def kN (a0:History) (a1:Exec) (a3:Bool):Option (aY×Int) :=
 bif a3 then some ((default:aY),1) else ((iV a0).bind fun a2=>iter (ni a0 a1 a2) (([]:List Int),([]:List Int),([]:List Int),0,0))
def aF (a0:History) (a1:Exec):Option (aY×Int) :=
 (dX a0 a1).bind fun a2=>bif (a2.2 != 0) then kN a0 a1 true else (kN a0 a1 (a2.1 != 0))
def gV (a2:Int) (a1:Int):Option ((Int×Int) ⊕ Int) :=
 some (.inl (a1,w64 (a2 + 1)))
def fo (a0:aY) (a2:Int) (a1:Int) (a3:Bool):Option ((Int×Int) ⊕ Int) :=
 bif a3 then must (0≤a1∧a1 < (a0.x.Picks.length:Int)) (must (0≤idx a0.x.Picks a1∧idx a0.x.Picks a1 < (far:Int)) (gV a1 (bOr .u32 a2 (mV .u32 1 (idx a0.x.Picks a1))))) else (gV a1 a2)
def jI (a0:aY) (a1:Int):(Int×Int)→Option ((Int×Int) ⊕ Int)
 | (a3,a2)=>bif decide (a2 < (a0.asks.length:Int)) then must (0≤a2∧a2 < (a0.asks.length:Int)) (must (0≤a1∧a1 < (a0.asks.length:Int)) (bif ((idx a0.asks a2).Txn == (idx a0.asks a1).Txn) then bif decide ((idx a0.asks a2).Place < (idx a0.asks a1).Place) then must (0≤a2∧a2 < (a0.x.Picks.length:Int)) (fo a0 a3 a2 (decide (idx a0.x.Picks a2 ≥ 0))) else (fo a0 a3 a2 false) else (fo a0 a3 a2 false))) else (out (some a3))
def aT (a0:aY) (a1:Int):Option Int :=
 iter (jI a0 a1) (0,0)
def kP {σ:Type} (a2:Int) (a3:Int) (a4:Bool) (a1:σ):Option ((Int×Int×σ) ⊕ σ) :=
 bif a4 then out (some a1) else (must (0≤(1:Int)∧(1:Int) < (far:Int)) (some (.inl (om .u32 a2 (1:Int),w64 (a3 + 1),a1))))
def nk {σ:Type} (Y:σ→Int→Option (Bool×σ)):(Int×Int×σ)→Option ((Int×Int×σ) ⊕ σ)
 | (a1,a2,a3)=>bif (a1 != 0) then bif (rP .u32 a1 1 == 1) then (Y a3 a2).bind fun a4=>kP a1 a2 (!a4.1) a4.2 else (kP a1 a2 false a3) else (out (some a3))
def bX {σ:Type} (Y:σ→Int→Option (Bool×σ)) (a1:Int) (s0:σ):Option σ :=
 iter (nk Y) (a1,0,s0)
def jJ (a0:Int):Option Unit :=
 some ()
def jA (a0:aY):(Int ⊕ Unit)→Int→Option (Bool×(Int ⊕ Unit))
 | .inl a2,a1=>must (0≤a1∧a1 < ((32:Nat):Int)) (some (true,.inl (bOr .u32 a2 (idx a0.near a1))))
 | .inr _,_=>none
def lH (a2:Int):(Int ⊕ Unit)→Option (Int ⊕ Int)
 | .inl a1=>bif (a1 == a2) then out (some a2) else (some (.inl a1))
 | .inr _=>none
def lI (a0:aY):Int→Option (Int ⊕ Int)
 | a1=>(jJ a1).bind fun a3=>(bX (jA a0) a1 (.inl a1)).bind fun a2=>lH a1 a2
def bI (a0:aY) (a1:Int):Option Int :=
 must (0≤a1∧a1 < ((32:Nat):Int)) (iter (lI a0) (idx a0.near a1))
def iY (a0:aY):(Int ⊕ Unit)→Int→Option (Bool×(Int ⊕ Unit))
 | .inl a2,a1=>must (0≤a1∧a1 < ((32:Nat):Int)) (some (true,.inl (bOr .u32 a2 (idx a0.behind a1))))
 | .inr _,_=>none
def nQ:(Int ⊕ Unit)→Option Int
 | .inl a1=>some a1
 | .inr _=>none
def bU (a0:aY) (a1:Int):Option Int :=
 (jJ a1).bind fun a3=>(bX (iY a0) a1 (.inl a1)).bind fun a2=>nQ a2
def dh.m1 (a0:aY) (a1:Int):Int→(Int×Int)→Option Int
 | a2,p62=>must (0≤a1∧a1 < (far:Int)) (bif (rP .u32 (om .u32 p62.2 a1) 1 == 1) then must (0≤a1∧a1 < ((32:Nat):Int)) (some (bOr .u32 a2 (rP .u32 p62.2 (idx a0.behind a1)))) else (some a2))
def dh (a0:aY) (a1:Int):Option Int :=
 (uB (dh.m1 a0 a1) 0 a0.writes).bind fun a2=>some a2
def jK (a0:aY) (a1:Int) (a2:Int):Option Int :=
 must (0≤a2∧a2 < (a0.asks.length:Int)) (bif (a1 == 1) then (aT a0 a2).bind fun a6=>some a6 else (bif (a1 == 2) then must (0≤(idx a0.asks a2).Txn∧(idx a0.asks a2).Txn < (far:Int)) (bif (rP .u32 (om .u32 (mat a0.writes ((idx a0.asks a2).Key)) ((idx a0.asks a2).Txn)) 1 == 1) then must (0≤((idx a0.asks a2).Txn)∧((idx a0.asks a2).Txn) < ((32:Nat):Int)) (some (idx a0.behind ((idx a0.asks a2).Txn))) else ((aT a0 a2).bind fun a5=>some a5)) else (bif (a1 == 3) then must (0≤((idx a0.asks a2).Txn)∧((idx a0.asks a2).Txn) < ((32:Nat):Int)) (some (idx a0.near ((idx a0.asks a2).Txn))) else (bif (a1 == 4) then (bI a0 ((idx a0.asks a2).Txn)).bind fun a3=>some a3 else (bif (a1 == 5) then must (0≤((idx a0.asks a2).Txn)∧((idx a0.asks a2).Txn) < ((32:Nat):Int)) ((bU a0 (idx a0.near ((idx a0.asks a2).Txn))).bind fun a4=>some a4) else (bif (a1 == 6) then must (0≤((idx a0.asks a2).Txn)∧((idx a0.asks a2).Txn) < ((32:Nat):Int)) ((dh a0 ((idx a0.asks a2).Txn)).bind fun a8=>(bU a0 (bOr .u32 (idx a0.near ((idx a0.asks a2).Txn)) a8)).bind fun a7=>some a7) else (must (0≤((idx a0.asks a2).Txn)∧((idx a0.asks a2).Txn) < ((32:Nat):Int)) (some (idx a0.behind ((idx a0.asks a2).Txn))))))))))
def iG (a1:Int):Option (Int ⊕ ((Int×Int×Int)×Bool)) :=
 some (.inl (w64 (a1 + 1)))
def jZ (a0:aY) (a2:Int) (a3:Int):Int→Option (Int ⊕ (Int ⊕ ((Int×Int×Int)×Bool)))
 | a1=>bif decide (a1 < (a0.x.Order.length:Int)) then must (0≤a1∧a1 < (a0.x.Order.length:Int)) (must (0≤idx a0.x.Order a1∧idx a0.x.Order a1 < (far:Int)) (bif (rP .u32 (om .u32 a3 (idx a0.x.Order a1)) 1 == 1) then out (out (some (((idx a0.x.Order a1,idx a0.x.Picks a2,a2):Int×Int×Int),true))) else (some (.inl (w64 (a1 + 1)))))) else (out (iG a2))
def fE (a0:aY) (a2:Int) (a1:Int):Option (Int ⊕ ((Int×Int×Int)×Bool)) :=
 bif (a1 == 0) then iG a2 else (iter (jZ a0 a2 a1) 0)
def kg (a0:aY) (a1:Int) (a2:Int):Option (Int ⊕ ((Int×Int×Int)×Bool)) :=
 bif decide (idx a0.x.Picks a1 ≥ 0) then must (0≤idx a0.x.Picks a1∧idx a0.x.Picks a1 < (far:Int)) (must (0≤(idx a0.x.Picks a1)∧(idx a0.x.Picks a1) < ((32:Nat):Int)) (fE a0 a1 (oV .u32 a2 (bOr .u32 (mV .u32 1 (idx a0.x.Picks a1)) (idx a0.behind (idx a0.x.Picks a1)))))) else (fE a0 a1 a2)
def ko (a0:aY) (a1:Int):Int→Option (Int ⊕ ((Int×Int×Int)×Bool))
 | a2=>bif decide (a2 < (a0.asks.length:Int)) then must (0≤a2∧a2 < (a0.asks.length:Int)) (must (0≤a2∧a2 < (a0.x.Picks.length:Int)) ((jK a0 a1 a2).bind fun a3=>must (0≤(idx a0.asks a2).Txn∧(idx a0.asks a2).Txn < (far:Int)) (kg a0 a2 (oV .u32 (rP .u32 a3 (mat a0.writes ((idx a0.asks a2).Key))) (mV .u32 1 ((idx a0.asks a2).Txn)))))) else (out (some (((0,0,0):Int×Int×Int),false)))
def aK (a0:aY) (a1:Int):Option ((Int×Int×Int)×Bool) :=
 iter (ko a0 a1) 0
def fw (a2:Int) (a1:Int) (a3:Bool):Option (Int ⊕ (Int ⊕ ((Int×Int×Int)×Bool))) :=
 bif a3 then out (out (some (((a2,a1,(-1)):Int×Int×Int),true))) else (some (.inl (w64 (a1 + 1))))
def lJ (a0:aY) (a2:Int):Int→Option (Int ⊕ (Int ⊕ ((Int×Int×Int)×Bool)))
 | a1=>bif decide (a1 < (a0.h.Txns.length:Int)) then must (0≤a1∧a1 < (a0.h.Txns.length:Int)) (bif ((idx a0.h.Txns a2).Status == 1) then bif decide ((idx a0.h.Txns a2).To < (idx a0.h.Txns a1).From) then must (0≤a1∧a1 < ((32:Nat):Int)) (bif decide (idx a0.at_ a1 > 0) then must (0≤a2∧a2 < ((32:Nat):Int)) (fw a2 a1 (decide (idx a0.at_ a1 < idx a0.at_ a2))) else (fw a2 a1 false)) else (fw a2 a1 false) else (fw a2 a1 false)) else (out (some (.inl (w64 (a2 + 1)))))
def lK (a0:aY):Int→Option (Int ⊕ ((Int×Int×Int)×Bool))
 | a1=>bif decide (a1 < (a0.h.Txns.length:Int)) then must (0≤a1∧a1 < (a0.h.Txns.length:Int)) (iter (lJ a0 a1) 0) else (out (some (((0,0,0):Int×Int×Int),false)))
def bA (a0:aY):Option ((Int×Int×Int)×Bool) :=
 iter (lK a0) 0
def kQ (a1:Int) (a3:Int) (a4:Int) (a2:Bool):Option ((Int×Int×Int)×Bool×Int) :=
 some (((a1,a3,a4):Int×Int×Int),a2,0)
def kR (a4:aY×Int) (a2:(Int×Int×Int)×Bool) (a3:Bool):Option ((Int×Int×Int)×Bool×Int) :=
 bif a3 then (bA a4.1).bind fun a1=>kQ a1.1.1 a1.1.2.1 a1.1.2.2 a1.2 else (kQ a2.1.1 a2.1.2.1 a2.1.2.2 a2.2)
def gN (a2:Int) (a3:aY×Int) (a4:Bool):Option ((Int×Int×Int)×Bool×Int) :=
 bif a4 then some (((0,0,0):Int×Int×Int),false,1) else ((aK a3.1 a2).bind fun a1=>bif !a1.2 then kR a3 a1 (a2 == 8) else (kR a3 a1 false))
def bG (a0:History) (a1:Exec) (a2:Int):Option ((Int×Int×Int)×Bool×Int) :=
 (aF a0 a1).bind fun a3=>bif (a3.2 != 0) then gN a2 a3 true else (bif decide (a2 < 1) then gN a2 a3 true else (gN a2 a3 (decide (a2 > 8))))
def lc (a0:History) (a1:Exec) (a2:Int):Option (Bool×Int) :=
 (bG a0 a1 a2).bind fun y8=>bif (y8.2.2 == 0) then some (!y8.2.1,y8.2.2) else (some (false,y8.2.2))
def jS (a0:Int):Option Op :=
 some (⟨5,0,0,true,([a0]:List Int)⟩:Op)
def mo:Option (History×Exec) :=
 (jS 1).bind fun a2=>(jS 1).bind fun a1=>some ((⟨([(⟨#[120]⟩:ByteArray)]:List ByteArray),([(⟨0,1,0,1,([(⟨1,0,1,false,([]:List Int)⟩:Op)]:List Op)⟩:Txn),(⟨1,1,2,5,([a2,(⟨1,0,2,false,([]:List Int)⟩:Op)]:List Op)⟩:Txn),(⟨2,1,3,4,([a1,(⟨1,0,3,false,([]:List Int)⟩:Op)]:List Op)⟩:Txn)]:List Txn)⟩:History),(⟨([0,1,2]:List Int),([0,0]:List Int)⟩:Exec))
def jB:Option Bool :=
 (mo).bind fun a2=>(bG a2.1 a2.2 7).bind fun a1=>(lc a2.1 a2.2 5).bind fun a3=>bif (a1.2.2 == 0) then bif a1.2.1 then bif ((a1.1.1 == 1) && ((a1.1.2.1 == 0) && ((a1.1.2.2 == 1) && true))) then bif (a3.2 == 0) then some a3.1 else (some false) else (some false) else (some false) else (some false)
def dY (a1:Int) (a2:List Bool):Option ((List Bool×Int) ⊕ Bool) :=
 some (.inl (a2,w64 (a1 + 1)))
def dZ (a2:List Bool) (a1:Int) (a3:Bool):Option ((List Bool×Int) ⊕ Bool) :=
 bif a3 then out (some false) else (dY a1 a2)
def ed (a3:List Bool) (a1:Int) (a2:Bool×Int) (a4:Bool):Option ((List Bool×Int) ⊕ Bool) :=
 bif a4 then bif (a2.2 != 1) then dZ a3 a1 true else (dZ a3 a1 a2.1) else (bif (a2.2 != 0) then out (some false) else (must (0≤a1∧a1 < ((9:Nat):Int)) (dY a1 (mr 9 a3 a1 a2.1))))
def eu (a2:Int) (a1:Bool):Option (Int ⊕ ((List Bool×Int) ⊕ Bool)) :=
 bif a1 then out (out (some false)) else (some (.inl (w64 (a2 + 1))))
def dI (a2:List Bool):Int→Option (Int ⊕ ((List Bool×Int) ⊕ Bool))
 | a1=>bif decide (a1 < (([((1,2):Int×Int),((2,6):Int×Int),((1,3):Int×Int),((3,4):Int×Int),((4,5):Int×Int),((5,6):Int×Int),((6,7):Int×Int),((7,8):Int×Int)]:List (Int×Int)).length:Int)) then must (0≤a1∧a1 < (([((1,2):Int×Int),((2,6):Int×Int),((1,3):Int×Int),((3,4):Int×Int),((4,5):Int×Int),((5,6):Int×Int),((6,7):Int×Int),((7,8):Int×Int)]:List (Int×Int)).length:Int)) (must (0≤((idx ([((1,2):Int×Int),((2,6):Int×Int),((1,3):Int×Int),((3,4):Int×Int),((4,5):Int×Int),((5,6):Int×Int),((6,7):Int×Int),((7,8):Int×Int)]:List (Int×Int)) a1).2)∧((idx ([((1,2):Int×Int),((2,6):Int×Int),((1,3):Int×Int),((3,4):Int×Int),((4,5):Int×Int),((5,6):Int×Int),((6,7):Int×Int),((7,8):Int×Int)]:List (Int×Int)) a1).2) < ((9:Nat):Int)) (bif idx a2 ((idx ([((1,2):Int×Int),((2,6):Int×Int),((1,3):Int×Int),((3,4):Int×Int),((4,5):Int×Int),((5,6):Int×Int),((6,7):Int×Int),((7,8):Int×Int)]:List (Int×Int)) a1).2) then must (0≤((idx ([((1,2):Int×Int),((2,6):Int×Int),((1,3):Int×Int),((3,4):Int×Int),((4,5):Int×Int),((5,6):Int×Int),((6,7):Int×Int),((7,8):Int×Int)]:List (Int×Int)) a1).1)∧((idx ([((1,2):Int×Int),((2,6):Int×Int),((1,3):Int×Int),((3,4):Int×Int),((4,5):Int×Int),((5,6):Int×Int),((6,7):Int×Int),((7,8):Int×Int)]:List (Int×Int)) a1).1) < ((9:Nat):Int)) (eu a1 (!(idx a2 ((idx ([((1,2):Int×Int),((2,6):Int×Int),((1,3):Int×Int),((3,4):Int×Int),((4,5):Int×Int),((5,6):Int×Int),((6,7):Int×Int),((7,8):Int×Int)]:List (Int×Int)) a1).1)))) else (eu a1 false))) else (out (out (some true)))
def fP (a0:History) (a1:Exec) (a5:Int×Int):(List Bool×Int)→Option ((List Bool×Int) ⊕ Bool)
 | (a3,a2)=>bif decide (a2≤8) then (lc a0 a1 a2).bind fun a4=>bif (a5.2 != 0) then ed a3 a2 a4 true else (ed a3 a2 a4 (a5.1 != 0)) else (iter (dI a3) 0)
def aj (a0:History) (a1:Exec):Option Bool :=
 (jB).bind fun a2=>bif !a2 then some false else ((dX a0 a1).bind fun a3=>iter (fP a0 a1 a3) (([]:List Bool),1))
end
end Go.Proofs.YtmfgddafcgflaaaT
