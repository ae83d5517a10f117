import Derived.Test.YtmfgddafcgflaaaI
namespace Go.Proofs.YtmfgddafcgflaaaT
noncomputable section
open Go Go.Proofs Go.Proofs.YtmfgddafcgflaaaE
set_option linter.unusedVariables false
set_option linter.unusedSimpArgs false
set_option maxHeartbeats 0
set_option maxRecDepth 4096
structure bH where
 key:ByteArray
 arg:Int
 deriving Inhabited,DecidableEq
def bH.enc (x:bH):List Value:=[.string x.key,.int .i64 x.arg]
abbrev Ar:Ty bH:=Ty.flat 2 bH.enc (fun _=>rfl) (fun _=>Ec rfl)
instance : Flat Ar bH.enc:=⟨Iff.rfl,Iff.rfl⟩
structure aO where
 keys:List ByteArray
 at_:List (ByteArray×Int)
 types:List Int
 facts:List (bH×Unit)
 incs:List (ByteArray×(List Int))
 deriving Inhabited
structure Call where
 Kind:Int
 Key:ByteArray
 Arg:Int
 Got:Bool
 Vals:List Int
 deriving Inhabited
abbrev tZ:Ty Call:=Ty.iso (bB (aJ .i64) (bB gG (bB (aJ .i64) (bB oC (bv 2 (aJ .i64)))))) (fun g:Call=>(g.Kind,g.Key,g.Arg,g.Got,g.Vals))
abbrev qi (N:BM):Ty Call:=Ty.iso (bB (aJ .i64) (bB gG (bB (aJ .i64) (bB oC (Es N (aJ .i64)))))) (fun g:Call=>(g.Kind,g.Key,g.Arg,g.Got,g.Vals))
theorem Cn (N:BM):rW N (qi N) tZ:=Da (qJ qI (qJ qI (qJ qI (qJ qI Be))))
structure Event where
 Proc:Int
 Kind:Int
 Calls:List Call
 deriving Inhabited
abbrev Au:Ty Event:=Ty.iso (bB (aJ .i64) (bB (aJ .i64) (bv 99 tZ))) (fun g:Event=>(g.Proc,g.Kind,g.Calls))
structure Op where
 Kind:Int
 Key:Int
 Arg:Int
 Got:Bool
 Vals:List Int
 deriving Inhabited
abbrev kOp:Ty Op:=Ty.iso (bB (aJ .i64) (bB (aJ .i64) (bB (aJ .i64) (bB oC (bv 2 (aJ .i64)))))) (fun g:Op=>(g.Kind,g.Key,g.Arg,g.Got,g.Vals))
structure Txn where
 Proc:Int
 Status:Int
 From:Int
 To:Int
 Ops:List Op
 deriving Inhabited
abbrev jG:Ty Txn:=Ty.iso (bB (aJ .i64) (bB (aJ .i64) (bB (aJ .i64) (bB (aJ .i64) (bv 76 kOp))))) (fun g:Txn=>(g.Proc,g.Status,g.From,g.To,g.Ops))
structure History where
 Keys:List ByteArray
 Txns:List Txn
 deriving Inhabited
structure Ask where
 Txn:Int
 Place:Int
 Key:Int
 Base:List Int
 deriving Inhabited
abbrev uf:Ty Ask:=Ty.iso (bB (aJ .i64) (bB (aJ .i64) (bB (aJ .i64) (bv 2 (aJ .i64))))) (fun g:Ask=>(g.Txn,g.Place,g.Key,g.Base))
structure kg where
 Txn:Int
 Place:Int
 deriving Inhabited,DecidableEq
def kg.enc (x:kg):List Value:=[.int .i64 x.Txn,.int .i64 x.Place]
abbrev zt:Ty kg:=Ty.flat 2 kg.enc (fun _=>rfl) (fun _=>Ec rfl)
instance : Flat zt kg.enc:=⟨Iff.rfl,Iff.rfl⟩
structure di where
 asks:List Ask
 bad:List kg
 deriving Inhabited
structure bD where
 h:History
 order:List Int
 at_:List (Int×Int)
 deriving Inhabited
structure Exec where
 Order:List Int
 Picks:List Int
 deriving Inhabited
structure aY where
 h:History
 x:Exec
 asks:List Ask
 at_:List Int
 behind:List Int
 near:List Int
 writes:List (Int×Int)
 deriving Inhabited
abbrev Rw2 (A:Option Addr) (c:Nat) (l:List Int):aX := .row (aJ .i64) 2 A l.length c l
abbrev Rw3 (A:Option Addr) (c:Nat) (l:List Int):aX := .row (aJ .i64) 3 A l.length c l
abbrev Rn3 (A:Option Addr) (n c:Nat) (l:List Int):aX := .row (aJ .i64) 3 A n c l
abbrev Rw9 (A:Option Addr) (c:Nat) (l:List ByteArray):aX := .row gG 9 A l.length c l
abbrev Rn9 (A:Option Addr) (n c:Nat) (l:List ByteArray):aX := .row gG 9 A n c l
abbrev Ey (A:Option Addr) (c:Nat) (l:List Ask):aX := .row uf 46 A l.length c l
abbrev Hz (A:Option Addr) (c:Nat) (l:List Txn):aX := .row jG 74 A l.length c l
abbrev Hd (A:Option Addr) (n c:Nat) (l:List Txn):aX := .row jG 74 A n c l
abbrev Dg (A:Option Addr) (c:Nat) (l:List Op):aX := .row kOp 76 A l.length c l
abbrev HV (A:Option Addr) (n c:Nat) (l:List Op):aX := .row kOp 76 A n c l
abbrev zu (A:Option Addr) (c:Nat) (l:List kg):aX := .row zt 117 A l.length c l
abbrev Or2 (A:Option Addr) (c:Nat) (l:List Int):aX:=orA noM (aJ .i64) 2 A l.length c l
abbrev Gt (A:Option Addr) (c:Nat) (l:List Ask):aX:=orA noM uf 46 A l.length c l
abbrev Av (b:Nat) (m:List (Int×Int)):aX:=zo (fun x:Int => .int .i64 x) (fun x:Int => .int .i64 x) b m
abbrev Gu (b:Nat) (m:List (Int×Int)):aX:=zo (fun x:Int => .int .i64 x) (fun x:Int => .int .i64 x) b m
abbrev pQ (b:Nat) (m:List (Int×Int)):aX:=zo (fun x:Int => .int .i64 x) (fun x:Int => .int .u32 x) b m
abbrev yg (b:Nat) (m:List (Int×(List Int))):aX:=oM (fun x:Int => .int .i64 x) (bv 2 (aJ .i64)) b m
abbrev ug (b:Nat) (m:List (ByteArray×Int)):aX:=zo (fun x:ByteArray => .string x) (fun x:Int => .int .i64 x) b m
abbrev uh (b:Nat) (m:List (bH×Unit)):aX:=zo (fun x:bH => .agg #[.string x.key,.int .i64 x.arg]) (fun _:Unit => .agg #[]) b m
abbrev yh (b:Nat) (m:List (ByteArray×(List Int))):aX:=oM (fun x:ByteArray => .string x) (bv 3 (aJ .i64)) b m
abbrev qR (x:History) (A0:Option Addr) (c0:Nat) (A1:Option Addr) (c1:Nat):List Value:=[vS A0 x.Keys.length c0,vS A1 x.Txns.length c1]
abbrev sN (x:History) (A0:Option Addr) (c0:Nat) (A1:Option Addr) (c1:Nat):Value := .agg (qR x A0 c0 A1 c1).toArray
abbrev jm (b:Nat) (x:History) (A0:Option Addr) (c0:Nat) (A1:Option Addr) (c1:Nat):aX := .blk b 25 (qR x A0 c0 A1 c1)
abbrev zw (x:Exec) (A0:Option Addr) (c0:Nat) (A1:Option Addr) (c1:Nat):List Value:=[vS A0 x.Order.length c0,vS A1 x.Picks.length c1]
abbrev Co (x:Exec) (A0:Option Addr) (c0:Nat) (A1:Option Addr) (c1:Nat):Value := .agg (zw x A0 c0 A1 c1).toArray
abbrev qj (b:Nat) (x:Exec) (A0:Option Addr) (c0:Nat) (A1:Option Addr) (c1:Nat):aX := .blk b 28 (zw x A0 c0 A1 c1)
abbrev yF (x:Ask) (A3:Option Addr) (c3:Nat):List Value:=[vI x.Txn,vI x.Place,vI x.Key,vS A3 x.Base.length c3]
abbrev HY (x:Ask) (A3:Option Addr) (c3:Nat):Value := .agg (yF x A3 c3).toArray
abbrev He (b:Nat) (x:Ask) (A3:Option Addr) (c3:Nat):aX := .blk b 46 (yF x A3 c3)
abbrev Cq (x:bD) (A0:Option Addr) (c0:Nat) (A1:Option Addr) (c1:Nat) (A2:Option Addr) (c2:Nat) (b3:Nat):List Value:=[vS A0 x.h.Keys.length c0,vS A1 x.h.Txns.length c1,vS A2 x.order.length c2,.map (some b3)]
abbrev Ez (x:bD) (A0:Option Addr) (c0:Nat) (A1:Option Addr) (c1:Nat) (A2:Option Addr) (c2:Nat) (b3:Nat):Value := .agg (Cq x A0 c0 A1 c1 A2 c2 b3).toArray
abbrev uV (b:Nat) (x:bD) (A0:Option Addr) (c0:Nat) (A1:Option Addr) (c1:Nat) (A2:Option Addr) (c2:Nat) (b3:Nat):aX := .blk b 60 (Cq x A0 c0 A1 c1 A2 c2 b3)
abbrev Gv (x:di) (A0:Option Addr) (c0:Nat) (A1:Option Addr) (c1:Nat):List Value:=[vS A0 x.asks.length c0,vS A1 x.bad.length c1]
abbrev HZ (x:di) (A0:Option Addr) (c0:Nat) (A1:Option Addr) (c1:Nat):Value := .agg (Gv x A0 c0 A1 c1).toArray
abbrev ui (x:Txn) (A4:Option Addr) (c4:Nat):List Value:=[vI x.Proc,vI x.Status,vI x.From,vI x.To,vS A4 x.Ops.length c4]
abbrev Cr (x:Txn) (A4:Option Addr) (c4:Nat):Value := .agg (ui x A4 c4).toArray
abbrev Aw (b:Nat) (x:Txn) (A4:Option Addr) (c4:Nat):aX := .blk b 74 (ui x A4 c4)
abbrev zx (x:Op) (A4:Option Addr) (c4:Nat):List Value:=[vI x.Kind,vI x.Key,vI x.Arg,vB x.Got,vS A4 x.Vals.length c4]
abbrev Ia (x:Op) (A4:Option Addr) (c4:Nat):Value := .agg (zx x A4 c4).toArray
abbrev sO (b:Nat) (x:Op) (A4:Option Addr) (c4:Nat):aX := .blk b 76 (zx x A4 c4)
abbrev Dh (x:Event) (A2:Option Addr) (c2:Nat):List Value:=[vI x.Proc,vI x.Kind,vS A2 x.Calls.length c2]
abbrev Ib (x:Event) (A2:Option Addr) (c2:Nat):Value := .agg (Dh x A2 c2).toArray
abbrev Hf (b:Nat) (x:Event) (A2:Option Addr) (c2:Nat):aX := .blk b 94 (Dh x A2 c2)
abbrev Ay (x:Call) (A4:Option Addr) (c4:Nat):List Value:=[vI x.Kind,.string x.Key,vI x.Arg,vB x.Got,vS A4 x.Vals.length c4]
abbrev Di (x:Call) (A4:Option Addr) (c4:Nat):Value := .agg (Ay x A4 c4).toArray
abbrev qU (b:Nat) (x:Call) (A4:Option Addr) (c4:Nat):aX := .blk b 99 (Ay x A4 c4)
abbrev wR (b:Nat) (A0:Option Addr) (c0:Nat) (x0:List Ask) (A1:Option Addr) (c1:Nat) (x1:List kg):List aX:=[.blk b 67 [vS A0 x0.length c0,vS A1 x1.length c1],Ey A0 c0 x0,zu A1 c1 x1]
abbrev Hg (b:Nat) (x:di) (A0:Option Addr) (c0:Nat) (A1:Option Addr) (c1:Nat):List aX:=wR b A0 c0 x.asks A1 c1 x.bad
abbrev qY (b:Nat) (A0:Option Addr) (c0:Nat) (x0:List ByteArray) (b1:Nat) (x1:List (ByteArray×Int)) (A2:Option Addr) (c2:Nat) (x2:List Int) (b3:Nat) (x3:List (bH×Unit)) (b4:Nat) (x4:List (ByteArray×(List Int))):List aX:=[.blk b 123 [vS A0 x0.length c0,.map (some b1),vS A2 x2.length c2,.map (some b3),.map (some b4)],Rw9 A0 c0 x0,ug b1 x1,Rw3 A2 c2 x2,uh b3 x3,yh b4 x4]
abbrev Dj (b:Nat) (x:aO) (A0:Option Addr) (c0:Nat) (b1:Nat) (A2:Option Addr) (c2:Nat) (b3:Nat) (b4:Nat):List aX:=qY b A0 c0 x.keys b1 x.at_ A2 c2 x.types b3 x.facts b4 x.incs
theorem wS {H:BM} {x:Ask} {cs:List Value} (h:uf.rd H x cs):∃ A3 c3,cs=yF x A3 c3∧x.Base.length≤c3∧rdS (aJ .i64) H A3 x.Base:=by
 obtain ⟨_,_,rfl,rfl,⟨_,_,rfl,rfl,⟨_,_,rfl,rfl,⟨A0,c0,rfl,l0,r0⟩⟩⟩⟩:=h;exact ⟨A0,c0,rfl,l0,r0⟩
theorem nA {H:BM} {x:Txn} {cs:List Value} (h:jG.rd H x cs):∃ A4 c4,cs=ui x A4 c4∧x.Ops.length≤c4∧rdS kOp H A4 x.Ops:=by
 obtain ⟨_,_,rfl,rfl,⟨_,_,rfl,rfl,⟨_,_,rfl,rfl,⟨_,_,rfl,rfl,⟨A0,c0,rfl,l0,r0⟩⟩⟩⟩⟩:=h;exact ⟨A0,c0,rfl,l0,r0⟩
theorem Dk {H:BM} {x:Op} {cs:List Value} (h:kOp.rd H x cs):∃ A4 c4,cs=zx x A4 c4∧x.Vals.length≤c4∧rdS (aJ .i64) H A4 x.Vals:=by
 obtain ⟨_,_,rfl,rfl,⟨_,_,rfl,rfl,⟨_,_,rfl,rfl,⟨_,_,rfl,rfl,⟨A0,c0,rfl,l0,r0⟩⟩⟩⟩⟩:=h;exact ⟨A0,c0,rfl,l0,r0⟩
theorem EA {H:BM} {x:Event} {cs:List Value} (h:Au.rd H x cs):∃ A2 c2,cs=Dh x A2 c2∧x.Calls.length≤c2∧rdS tZ H A2 x.Calls:=by
 obtain ⟨_,_,rfl,rfl,⟨_,_,rfl,rfl,⟨A0,c0,rfl,l0,r0⟩⟩⟩:=h;exact ⟨A0,c0,rfl,l0,r0⟩
theorem Gw {H:BM} {x:Call} {cs:List Value} (h:tZ.rd H x cs):∃ A4 c4,cs=Ay x A4 c4∧x.Vals.length≤c4∧rdS (aJ .i64) H A4 x.Vals:=by
 obtain ⟨_,_,rfl,rfl,⟨_,_,rfl,rfl,⟨_,_,rfl,rfl,⟨_,_,rfl,rfl,⟨A0,c0,rfl,l0,r0⟩⟩⟩⟩⟩:=h;exact ⟨A0,c0,rfl,l0,r0⟩
theorem Gm (x:Ask) {R3:List aX} {c3:List Value} (h3:Mk (bv 2 (aJ .i64)) R3 x.Base c3):Mk uf ([]++([]++([]++R3))) x ([vI x.Txn]++([vI x.Place]++([vI x.Key]++c3))):=xK (g:=fun g:Ask=>(g.Txn,g.Place,g.Key,g.Base)) (x:=x) (fO (kV _ _ rfl) (fO (kV _ _ rfl) (fO (kV _ _ rfl) h3)))
theorem Dl (x:Txn) {R4:List aX} {c4:List Value} (h4:Mk (bv 76 kOp) R4 x.Ops c4):Mk jG ([]++([]++([]++([]++R4)))) x ([vI x.Proc]++([vI x.Status]++([vI x.From]++([vI x.To]++c4)))):=xK (g:=fun g:Txn=>(g.Proc,g.Status,g.From,g.To,g.Ops)) (x:=x) (fO (kV _ _ rfl) (fO (kV _ _ rfl) (fO (kV _ _ rfl) (fO (kV _ _ rfl) h4))))
theorem Dm (x:Op) {R4:List aX} {c4:List Value} (h4:Mk (bv 2 (aJ .i64)) R4 x.Vals c4):Mk kOp ([]++([]++([]++([]++R4)))) x ([vI x.Kind]++([vI x.Key]++([vI x.Arg]++([vB x.Got]++c4)))):=xK (g:=fun g:Op=>(g.Kind,g.Key,g.Arg,g.Got,g.Vals)) (x:=x) (fO (kV _ _ rfl) (fO (kV _ _ rfl) (fO (kV _ _ rfl) (fO (kV _ _ rfl) h4))))
def iT (a0:List ByteArray) (a1:ByteArray):Int→Option (Int ⊕ Int)
 | a2=>bif decide (a2 < (a0.length:Int)) then must (0≤a2∧a2 < (a0.length:Int)) (bif sEq a1 (idx a0 a2) then out (some a2) else (some (.inl (w64 (a2 + 1))))) else (out (some (-1)))
def slices_Index_string (a0:List ByteArray) (a1:ByteArray):Option Int :=
 iter (iT a0 a1) 0
def slices_Contains_string (a0:List ByteArray) (a1:ByteArray):Option Bool :=
 (slices_Index_string a0 a1).bind fun y3=>some (decide (y3 ≥ 0))
def kH:Option aO :=
 some (⟨([]:List ByteArray),([]:List (ByteArray×Int)),([]:List Int),([]:List (bH×Unit)),([]:List (ByteArray×(List Int)))⟩:aO)
def ql (a0:Int):Option (Int×Int) :=
 bif (a0 == 5) then some (0,1) else (bif (a0 == 8) then some (1,1) else (some (0,64)))
def mr (a0:Call) (a1:Int) (a2:Bool):Option (Int ⊕ Bool) :=
 bif a2 then must (0≤w64 (a1 - 1)∧w64 (a1 - 1) < (a0.Vals.length:Int)) (must (0≤a1∧a1 < (a0.Vals.length:Int)) (bif decide (idx a0.Vals (w64 (a1 - 1)) ≥ idx a0.Vals a1) then out (some false) else (some (.inl (w64 (a1 + 1)))))) else (out (some true))
def mD (a0:Call):Int→Option (Int ⊕ Bool)
 | a1=>bif (a0.Kind == 7) then mr a0 a1 (decide (a1 < (a0.Vals.length:Int))) else (mr a0 a1 false)
def mE (a0:Call) (a1:Bool):Option Bool :=
 bif a1 then some false else (iter (mD a0) 1)
def mF (a0:Call) (a2:Bool):Option Bool :=
 bif a2 then some false else (bif !a0.Got then some ((a0.Vals.length:Int) == 0) else ((ql a0.Kind).bind fun a1=>bif decide ((a0.Vals.length:Int) < a1.1) then mE a0 true else (mE a0 (decide ((a0.Vals.length:Int) > a1.2)))))
def jk (a0:Call) (a1:Int) (a2:Bool):Option Bool :=
 bif a2 then some false else (bif decide (a0.Kind≤4) then bif !a0.Got then bif ((a0.Vals.length:Int) == 0) then bif (a0.Kind != 4) then some true else (bif decide ((-1048576)≤a0.Arg) then some (decide (a0.Arg≤1048576)) else (some false)) else (some false) else (some false) else (bif (a0.Arg != 0) then mF a0 true else (mF a0 (a0.Got != (a1 == 1)))))
def bq (a0:Call) (a1:Int):Option Bool :=
 bif decide (a0.Kind < 1) then jk a0 a1 true else (bif decide (a0.Kind > 8) then jk a0 a1 true else (bif sEq a0.Key (⟨#[]⟩:ByteArray) then jk a0 a1 true else (jk a0 a1 (decide ((a0.Key.size:Int) > 32)))))
def nE (a0:Call) (a1:Event):Option Bool :=
 (bq a0 a1.Kind).bind fun y5=>some (!y5)
def dL (a0:List Call) (a1c0:Event):Int→Option (Int ⊕ Int)
 | a1=>bif decide (a1 < (a0.length:Int)) then must (0≤a1∧a1 < (a0.length:Int)) ((nE (idx a0 a1) a1c0).bind fun a2=>bif a2 then out (some a1) else (some (.inl (w64 (a1 + 1))))) else (out (some (-1)))
def aW (a0:List Call) (a1c0:Event):Option Int :=
 iter (dL a0 a1c0) 0
def bN (a0:List Call) (a1c0:Event):Option Bool :=
 (aW a0 a1c0).bind fun y3=>some (decide (y3 ≥ 0))
def kC (a0:List Event) (a1:Int) (a2:Bool):Option (Int ⊕ Int) :=
 bif a2 then out (some 1) else ((bN ((idx a0 a1).Calls) (idx a0 a1)).bind fun a3=>bif a3 then out (some 1) else (some (.inl (w64 (a1 + 1)))))
def pu (a0:List Event):Int→Option (Int ⊕ Int)
 | a1=>bif decide (a1 < (a0.length:Int)) then must (0≤a1∧a1 < (a0.length:Int)) (bif decide ((idx a0 a1).Kind < 0) then kC a0 a1 true else (bif decide ((idx a0 a1).Kind > 3) then kC a0 a1 true else (kC a0 a1 (decide ((((idx a0 a1).Calls).length:Int) > 16))))) else (out (some 0))
def dR (a0:List Event):Option Int :=
 bif decide ((a0.length:Int) > 256) then some 1 else (iter (pu a0) 0)
def nM (a0:History) (a1:Txn) (a3:List Call) (a2:Int):Option ((List Call×Int) ⊕ (Event×Bool)) :=
 some (.inl (a3++([(⟨(idx a1.Ops a2).Kind,idx a0.Keys ((idx a1.Ops a2).Key),(idx a1.Ops a2).Arg,(idx a1.Ops a2).Got,(idx a1.Ops a2).Vals⟩:Call)]:List Call),w64 (a2 + 1)))
def lq (a0:History) (a1:Txn) (a2:List Call) (a3:Int) (a4:Bool):Option ((List Call×Int) ⊕ (Event×Bool)) :=
 bif a4 then out (some ((⟨0,a1.Status,a2⟩:Event),false)) else (must (0≤(idx a1.Ops a3).Key∧(idx a1.Ops a3).Key < (a0.Keys.length:Int)) (must (((a2.length + 1) + (a2.length + 1) / 4 + 192) * 64≤281474976710656∧a2.length + 1≤9223372036854775807) (nM a0 a1 a2 a3)))
def nN (a0:History) (a1:Txn):(List Call×Int)→Option ((List Call×Int) ⊕ (Event×Bool))
 | (a3,a2)=>bif decide (a2 < (a1.Ops.length:Int)) then must (0≤a2∧a2 < (a1.Ops.length:Int)) (bif decide ((idx a1.Ops a2).Key < 0) then lq a0 a1 a3 a2 true else (lq a0 a1 a3 a2 (decide ((idx a1.Ops a2).Key ≥ (a0.Keys.length:Int))))) else ((dR ([(⟨0,a1.Status,a3⟩:Event)]:List Event)).bind fun a4=>out (some ((⟨0,a1.Status,a3⟩:Event),(a4 == 0))))
def df (a0:History) (a1:Txn):Option (Event×Bool) :=
 iter (nN a0 a1) ([],0)
def lu (a0:Txn) (a1:Txn):Option Bool :=
 bif (a0.Proc == a1.Proc) then bif (a0.To == (-1)) then some true else (some (decide (a0.To ≥ a1.From))) else (some false)
def dJ (a0:List Txn) (a1c0:Txn):Int→Option (Int ⊕ Int)
 | a1=>bif decide (a1 < (a0.length:Int)) then must (0≤a1∧a1 < (a0.length:Int)) ((lu (idx a0 a1) a1c0).bind fun a2=>bif a2 then out (some a1) else (some (.inl (w64 (a1 + 1))))) else (out (some (-1)))
def aS (a0:List Txn) (a1c0:Txn):Option Int :=
 iter (dJ a0 a1c0) 0
def bL (a0:List Txn) (a1c0:Txn):Option Bool :=
 (aS a0 a1c0).bind fun y3=>some (decide (y3 ≥ 0))
def jd (a0:List Txn) (a1:Txn) (a3:Bool):Option Bool :=
 bif a3 then some false else ((bL a0 a1).bind fun a2=>some (!a2))
def kI (a0:List Txn) (a1:Txn):Option Bool :=
 bif decide (a1.From < 0) then jd a0 a1 true else (bif decide ((a0.length:Int) > 0) then must (0≤w64 ((a0.length:Int) - 1)∧w64 ((a0.length:Int) - 1) < (a0.length:Int)) (jd a0 a1 (decide ((idx a0 (w64 ((a0.length:Int) - 1))).From ≥ a1.From))) else (jd a0 a1 false))
def kJ (a0:List Txn) (a1:Txn) (a2:Bool):Option Bool :=
 bif a2 then some false else (kI a0 a1)
def kK (a0:List Txn) (a1:Txn) (a2:Bool):Option Bool :=
 bif a2 then bif decide (a1.To≤a1.From) then some false else (kI a0 a1) else (bif (a1.Status == 3) then bif (a1.To != (-1)) then kJ a0 a1 (decide (a1.To≤a1.From)) else (kJ a0 a1 false) else (some false))
def aZ (a0:List Txn) (a1:Txn):Option Bool :=
 bif (a1.Status == 1) then kK a0 a1 (a1.Status == 1) else (kK a0 a1 (a1.Status == 2))
def jS (a0:Int):Option Int :=
 some (w64 ((rU .i64 (w64 (a0 - 1)) 3) + 1))
def eH (a5:List ByteArray) (a3:List (ByteArray×Int)) (a2:List Int) (a1:List (bH×Unit)) (a4:List (ByteArray×(List Int))):Option (Int×aO) :=
 some (0,(⟨a5,a3,a2,a1,a4⟩:aO))
def jo (a0:aO) (a1:Call) (a4:List ByteArray) (a2:List (ByteArray×Int)) (a3:List Int):Option (Int×aO) :=
 bif ji a0.facts (⟨a1.Key,a1.Arg⟩:bH) then some (3,(⟨a4,a2,a3,a0.facts,a0.incs⟩:aO)) else (eH a4 a2 a3 (eB a0.facts (⟨a1.Key,a1.Arg⟩:bH) ()) a0.incs)
def fZ (a0:aO) (a1:Call) (a5:List ByteArray) (a3:List (ByteArray×Int)) (a4:List Int) (a2:List (ByteArray×(List Int))):Option (Int×aO) :=
 bif decide (((mat a2 a1.Key).length:Int) > 8) then some (51,(⟨a5,a3,a4,a0.facts,a2⟩:aO)) else (eH a5 a3 a4 a0.facts a2)
def gm (a0:aO) (a1:Call) (a2:Int) (a5:List ByteArray) (a3:List (ByteArray×Int)) (a4:List Int) (a6:Bool):Option (Int×aO) :=
 bif a6 then must (((((mat a0.incs a1.Key).length) + 1) + (((mat a0.incs a1.Key).length) + 1) / 4 + 192) * 8≤281474976710656∧((mat a0.incs a1.Key).length) + 1≤9223372036854775807) (fZ a0 a1 a5 a3 a4 (eB a0.incs a1.Key ((mat a0.incs a1.Key)++([a2]:List Int)))) else (fZ a0 a1 a5 a3 a4 a0.incs)
def gp (a0:aO) (a1:Call) (a2:Int) (a5:List ByteArray) (a3:List (ByteArray×Int)) (a4:List Int) (a6:Bool):Option (Int×aO) :=
 bif a6 then jo a0 a1 a5 a3 a4 else (bif (a1.Kind == 4) then bif (((mat a0.incs a1.Key).length:Int) == 0) then gm a0 a1 a2 a5 a3 a4 true else (must (0≤w64 (((mat a0.incs a1.Key).length:Int) - 1)∧w64 (((mat a0.incs a1.Key).length:Int) - 1) < ((mat a0.incs a1.Key).length:Int)) (gm a0 a1 a2 a5 a3 a4 (idx (mat a0.incs a1.Key) (w64 (((mat a0.incs a1.Key).length:Int) - 1)) != a2))) else (eH a5 a3 a4 a0.facts a0.incs))
def eO (a0:aO) (a1:Call) (a2:Int) (a6:List ByteArray) (a5:List (ByteArray×Int)) (a3:List Int) (a4:Int):Option (Int×aO) :=
 must (0≤a4∧a4 < (a3.length:Int)) ((jS a1.Kind).bind fun a7=>bif (idx a3 a4 != a7) then some (50,(⟨a6,a5,a3,a0.facts,a0.incs⟩:aO)) else (bif (a1.Kind == 2) then gp a0 a1 a2 a6 a5 a3 (a1.Kind == 2) else (gp a0 a1 a2 a6 a5 a3 (a1.Kind == 3))))
def jq (a0:aO) (a1:Call) (a2:Int):Option (Int×aO) :=
 (jS a1.Kind).bind fun a3=>must (((a0.types.length + 1) + (a0.types.length + 1) / 4 + 192) * 8≤281474976710656∧a0.types.length + 1≤9223372036854775807) (eO a0 a1 a2 (a0.keys++([a1.Key]:List ByteArray)) (eB a0.at_ a1.Key (a0.keys.length:Int)) (a0.types++([a3]:List Int)) (a0.keys.length:Int))
def av (a0:aO) (a1:Call) (a2:Int):Option (Int×aO) :=
 bif !(ji a0.at_ a1.Key) then bif ((a0.keys.length:Int) == 32) then some (2,a0) else (must (((a0.keys.length + 1) + (a0.keys.length + 1) / 4 + 192) * 16≤281474976710656∧a0.keys.length + 1≤9223372036854775807) (jq a0 a1 a2)) else (eO a0 a1 a2 a0.keys a0.at_ a0.types (mat a0.at_ a1.Key))
def jH (a2:Int) (a1:Bool):Option (Int ⊕ Int) :=
 bif a1 then out (some 1) else (some (.inl (w64 (a2 + 1))))
def lv (a5:Int) (a3:Event×Bool):(List ByteArray×(List (ByteArray×Int))×List Int×(List (bH×Unit))×(List (ByteArray×(List Int)))×Int)→Option ((List ByteArray×(List (ByteArray×Int))×List Int×(List (bH×Unit))×(List (ByteArray×(List Int)))×Int) ⊕ ((List ByteArray×(List (ByteArray×Int))×List Int×(List (bH×Unit))×(List (ByteArray×(List Int)))×Int) ⊕ (Int ⊕ Int)))
 | (a7,a6,a9,a4,a8,a2)=>bif decide (a2 < (a3.1.Calls.length:Int)) then must (0≤a2∧a2 < (a3.1.Calls.length:Int)) ((av (⟨a7,a6,a9,a4,a8⟩:aO) (idx a3.1.Calls a2) a5).bind fun a1=>bif (a1.1 != 0) then out (out (out (some 1))) else (some (.inl (a1.2.keys,a1.2.at_,a1.2.types,a1.2.facts,a1.2.incs,w64 (a2 + 1))))) else (out (some (.inl (a7,a6,a9,a4,a8,w64 (a5 + 1)))))
def lw (a1:List ByteArray) (a5:List (ByteArray×Int)) (a7:List Int) (a2:List (bH×Unit)) (a4:List (ByteArray×(List Int))) (a3:Int) (a6:Event×Bool) (a8:Bool):Option ((List ByteArray×(List (ByteArray×Int))×List Int×(List (bH×Unit))×(List (ByteArray×(List Int)))×Int) ⊕ (Int ⊕ Int)) :=
 bif a8 then out (out (some 1)) else (iter (lv a3 a6) (a1,a5,a7,a2,a4,0))
def jI (a0:History):(List ByteArray×(List (ByteArray×Int))×List Int×(List (bH×Unit))×(List (ByteArray×(List Int)))×Int)→Option ((List ByteArray×(List (ByteArray×Int))×List Int×(List (bH×Unit))×(List (ByteArray×(List Int)))×Int) ⊕ (Int ⊕ Int))
 | (a3,a6,a7,a4,a5,a1)=>bif decide (a1 < (a0.Txns.length:Int)) then must (0≤a1∧a1 < (a0.Txns.length:Int)) ((df a0 (idx a0.Txns a1)).bind fun a2=>bif !a2.2 then lw a3 a6 a7 a4 a5 a1 a2 true else (must (0≤(0:Int)∧(0:Int)≤a1∧a1≤(a0.Txns.length:Int)) ((aZ (cZ a0.Txns (0:Int) a1) (idx a0.Txns a1)).bind fun a8=>lw a3 a6 a7 a4 a5 a1 a2 (!a8)))) else (out (out (some 0)))
def nO (a0:History):Int→Option (Int ⊕ Int)
 | a1=>bif decide (a1 < (a0.Keys.length:Int)) then must (0≤a1∧a1 < (a0.Keys.length:Int)) (bif sEq (idx a0.Keys a1) (⟨#[]⟩:ByteArray) then jH a1 true else (bif decide (((idx a0.Keys a1).size:Int) > 32) then jH a1 true else (must (0≤(0:Int)∧(0:Int)≤a1∧a1≤(a0.Keys.length:Int)) ((slices_Contains_string (cZ a0.Keys (0:Int) a1) (idx a0.Keys a1)).bind fun a3=>jH a1 a3)))) else ((kH).bind fun a2=>iter (jI a0) (a2.keys,a2.at_,a2.types,a2.facts,a2.incs,0))
def lC (a0:History) (b7:Bool):Option Int :=
 bif b7 then some 1 else (iter (nO a0) 0)
def aH (a0:History):Option Int :=
 bif decide ((a0.Keys.length:Int) > 32) then lC a0 true else (lC a0 (decide ((a0.Txns.length:Int) > 32)))
def dK (a0:List Int):Option (List Int) :=
 must (a0.length * 8≤140737488355328) (some a0)
def gQ (a0:Int):Option Int :=
 bif (a0 == 1) then some 164 else (bif (a0 == 2) then some 165 else (bif (a0 == 3) then some 166 else (bif (a0 == 4) then some 167 else (some (-1)))))
def gT (a0:Unit) (a1:List Int):Option Bool :=
 some (decide ((a1.length:Int)≤1))
def jT (a0:Unit) (a1:List Int):Option Bool :=
 some (decide ((a1.length:Int)≤64))
def kW (a1:List Int):Int→Option (Int ⊕ Bool)
 | a2=>bif decide (a2 < (a1.length:Int)) then must (0≤w64 (a2 - 1)∧w64 (a2 - 1) < (a1.length:Int)) (must (0≤a2∧a2 < (a1.length:Int)) (bif decide (idx a1 (w64 (a2 - 1)) ≥ idx a1 a2) then out (some false) else (some (.inl (w64 (a2 + 1)))))) else (out (some (decide ((a1.length:Int)≤64))))
def dP (a0:Unit) (a1:List Int):Option Bool :=
 iter (kW a1) 1
def iC (a0:Unit) (a1:List Int):Option Bool :=
 some ((a1.length:Int) == 1)
def gU (a0:Int) (a1:List Int):Option Int :=
 (gQ a0).bind fun y8=>bif (y8 == (164:Int)) then (gT () a1).bind fun a5=>bif !a5 then some 80 else (some 0) else (bif (y8 == (165:Int)) then (jT () a1).bind fun a4=>bif !a4 then some 80 else (some 0) else (bif (y8 == (166:Int)) then (dP () a1).bind fun a3=>bif !a3 then some 80 else (some 0) else (bif (y8 == (167:Int)) then (iC () a1).bind fun a2=>bif !a2 then some 80 else (some 0) else (bif (y8 == ((-1):Int)) then some 1 else none))))
def dZ (a0:Unit) (a1:List Int) (a2:List Int):Option (List Int×Bool) :=
 bif ((a1.length:Int) == 1) then must (0≤(0:Int)∧(0:Int) < (a1.length:Int)) (must (0≤w64 ((a2.length:Int) - 1)∧w64 ((a2.length:Int) - 1) < (a2.length:Int)) (some (([]:List Int),(idx a1 (0:Int) == idx a2 (w64 ((a2.length:Int) - 1)))))) else (some (([]:List Int),false))
def lZ (a0:List Int) (a1:List Int):Int→Option (Int ⊕ Bool)
 | a2=>bif decide (a2 < (a0.length:Int)) then must (0≤a2∧a2 < (a0.length:Int)) (must (0≤a2∧a2 < (a1.length:Int)) (bif (idx a0 a2 != idx a1 a2) then out (some false) else (some (.inl (w64 (a2 + 1)))))) else (out (some true))
def dD (a0:List Int) (a1:List Int):Option Bool :=
 bif ((a0.length:Int) != (a1.length:Int)) then some false else (iter (lZ a0 a1) 0)
def eP (a1:List Int) (a2:List Int) (a3:Bool):Option (List Int×Bool) :=
 bif a3 then some (([]:List Int),false) else (must (0≤(0:Int)∧(0:Int)≤(w64 ((a1.length:Int) - (a2.length:Int)))∧(w64 ((a1.length:Int) - (a2.length:Int)))≤(a1.length:Int)) ((dK (cZ a1 (0:Int) (w64 ((a1.length:Int) - (a2.length:Int))))).bind fun a4=>some (a4,true)))
def bW (a0:Unit) (a1:List Int) (a2:List Int):Option (List Int×Bool) :=
 bif decide (w64 ((a1.length:Int) - (a2.length:Int)) < 0) then eP a1 a2 true else (must (0≤(w64 ((a1.length:Int) - (a2.length:Int)))∧(w64 ((a1.length:Int) - (a2.length:Int)))≤(a1.length:Int)∧(a1.length:Int)≤(a1.length:Int)) ((dD (cZ a1 (w64 ((a1.length:Int) - (a2.length:Int))) (a1.length:Int)) a2).bind fun a3=>eP a1 a2 (!a3)))
def je (a0:Int):Option Bool :=
 some (a0 != a0)
def jJ (a0:Int) (a1:Int):Option Bool :=
 (je a0).bind fun y7=>bif y7 then (je a1).bind fun a2=>bif !a2 then some true else (some (decide (a0 < a1))) else (some (decide (a0 < a1)))
def fQ (a0:Int):Option Bool :=
 some (a0 != a0)
def fA (a1:Int) (a2:Int):Option ((Int×Int) ⊕ (Int×Bool)) :=
 some (.inl (a1,a2))
def fB (a0:List Int) (a1:Int):(Int×Int)→Option ((Int×Int) ⊕ (Int×Bool))
 | (a2,a3)=>bif decide (a2 < a3) then must (0≤(1:Int)∧(1:Int) < (far:Int)) (must (0≤w64 (oq .u64 (IntKind.wrap .u64 (w64 (a2 + a3))) (1:Int))∧w64 (oq .u64 (IntKind.wrap .u64 (w64 (a2 + a3))) (1:Int)) < (a0.length:Int)) ((jJ (idx a0 (w64 (oq .u64 (IntKind.wrap .u64 (w64 (a2 + a3))) (1:Int)))) a1).bind fun a5=>bif a5 then fA (w64 ((w64 (oq .u64 (IntKind.wrap .u64 (w64 (a2 + a3))) (1:Int))) + 1)) a3 else (fA a2 (w64 (oq .u64 (IntKind.wrap .u64 (w64 (a2 + a3))) (1:Int)))))) else (bif decide (a2 < (a0.length:Int)) then must (0≤a2∧a2 < (a0.length:Int)) (bif (idx a0 a2 == a1) then out (some (a2,true)) else ((fQ (idx a0 a2)).bind fun a6=>bif a6 then (fQ a1).bind fun a4=>out (some (a2,a4)) else (out (some (a2,false))))) else (out (some (a2,false))))
def aV (a0:List Int) (a1:Int):Option (Int×Bool) :=
 iter (fB a0 a1) (0,(a0.length:Int))
def fC (a0:List Int) (a1 a2:Int):Option (List Int) :=
 must (0≤a1∧a1≤a2∧a2≤(a0.length:Int)) (some (a0.take a1.toNat++a0.drop a2.toNat))
def gV (a2:List Int):(List Int×Int)→Option ((List Int×Int) ⊕ (List Int×Bool))
 | (a4,a1)=>bif decide (a1 < (a2.length:Int)) then must (0≤a1∧a1 < (a2.length:Int)) ((aV a4 (idx a2 a1)).bind fun a3=>bif !a3.2 then out (some (([]:List Int),false)) else ((fC a4 a3.1 (w64 (a3.1 + 1))).bind fun a5=>some (.inl (a5,w64 (a1 + 1))))) else (out (some (a4,true)))
def dw (a0:Unit) (a1:List Int) (a2:List Int):Option (List Int×Bool) :=
 (dK a1).bind fun y7=>iter (gV a2) (y7,0)
def eU (a2:List Int):(Int×Int)→Option ((Int×Int) ⊕ (List Int×Bool))
 | (a3,a1)=>bif decide (a1 < (a2.length:Int)) then must (0≤a1∧a1 < (a2.length:Int)) (some (.inl (w64 (a3 - (idx a2 a1)),w64 (a1 + 1)))) else (out (some (([a3]:List Int),true)))
def bX (a0:Unit) (a1:List Int) (a2:List Int):Option (List Int×Bool) :=
 must (0≤(0:Int)∧(0:Int) < (a1.length:Int)) (iter (eU a2) (idx a1 (0:Int),0))
def gN (a0:Int) (a1:List Int) (a2:List Int) (b9:Bool):Option (List Int×Bool) :=
 bif b9 then some (([]:List Int),false) else ((gQ a0).bind fun a3=>bif (a3 == (164:Int)) then (dZ () a1 a2).bind fun a5=>some (a5.1,a5.2) else (bif (a3 == (165:Int)) then (bW () a1 a2).bind fun a7=>some (a7.1,a7.2) else (bif (a3 == (166:Int)) then (dw () a1 a2).bind fun a4=>some (a4.1,a4.2) else (bif (a3 == (167:Int)) then (bX () a1 a2).bind fun a6=>some (a6.1,a6.2) else (bif (a3 == ((-1):Int)) then none else none)))))
def dQ (a0:Int) (a1:List Int) (a2:List Int):Option (List Int×Bool) :=
 (gU a0 a1).bind fun a3=>bif (a3 != 0) then gN a0 a1 a2 true else (gN a0 a1 a2 ((a2.length:Int) == 0))
def eu (a4:Int) (a1:List Ask) (a3:List kg) (a2:List (Int×(List Int))):Option ((List Ask×List kg×(List (Int×(List Int)))×Int) ⊕ di) :=
 some (.inl (a1,a3,a2,w64 (a4 + 1)))
def iD (a1:History) (a2:Int) (a4:List Ask) (a3:List kg) (a6:List (Int×(List Int))) (a5:Int) (a7:List Int) (a8:Bool):Option ((List Ask×List kg×(List (Int×(List Int)))×Int) ⊕ di) :=
 bif !a8 then must (((a3.length + 1) + (a3.length + 1) / 4 + 192) * 16≤281474976710656∧a3.length + 1≤9223372036854775807) (eu a5 a4 (a3++([(⟨a2,a5⟩:kg)]:List kg)) a6) else (must (((a4.length + 1) + (a4.length + 1) / 4 + 192) * 48≤281474976710656∧a4.length + 1≤9223372036854775807) (eu a5 (a4++([(⟨a2,a5,(idx ((idx a1.Txns a2).Ops) a5).Key,a7⟩:Ask)]:List Ask)) a3 a6))
def iE (a1:History) (a2:Int) (a4:List Ask) (a3:List kg) (a6:List (Int×(List Int))) (a7:Int) (a5:List Int×Bool) (a8:Bool):Option ((List Ask×List kg×(List (Int×(List Int)))×Int) ⊕ di) :=
 bif a8 then eu a7 a4 a3 a6 else (iD a1 a2 a4 a3 a6 a7 a5.1 a5.2)
def ko (a1:History) (a2:Int):(List Ask×List kg×(List (Int×(List Int)))×Int)→Option ((List Ask×List kg×(List (Int×(List Int)))×Int) ⊕ di)
 | (a6,a5,a4,a3)=>bif decide (a3 < (((idx a1.Txns a2).Ops).length:Int)) then must (0≤a3∧a3 < (((idx a1.Txns a2).Ops).length:Int)) (bif decide ((idx ((idx a1.Txns a2).Ops) a3).Kind≤4) then must (((((mat a4 ((idx ((idx a1.Txns a2).Ops) a3).Key)).length) + 1) + (((mat a4 ((idx ((idx a1.Txns a2).Ops) a3).Key)).length) + 1) / 4 + 192) * 8≤281474976710656∧((mat a4 ((idx ((idx a1.Txns a2).Ops) a3).Key)).length) + 1≤9223372036854775807) (eu a3 a6 a5 (eB a4 ((idx ((idx a1.Txns a2).Ops) a3).Key) ((mat a4 ((idx ((idx a1.Txns a2).Ops) a3).Key))++([(idx ((idx a1.Txns a2).Ops) a3).Arg]:List Int)))) else ((dK ((idx ((idx a1.Txns a2).Ops) a3).Vals)).bind fun a8=>bif decide (((mat a4 ((idx ((idx a1.Txns a2).Ops) a3).Key)).length:Int) > 0) then (dQ (w64 (((idx ((idx a1.Txns a2).Ops) a3).Kind) - 4)) ((idx ((idx a1.Txns a2).Ops) a3).Vals) (mat a4 ((idx ((idx a1.Txns a2).Ops) a3).Key))).bind fun a7=>bif a7.2 then iE a1 a2 a6 a5 a4 a3 a7 ((idx ((idx a1.Txns a2).Ops) a3).Kind == 5) else (iE a1 a2 a6 a5 a4 a3 a7 false) else (iD a1 a2 a6 a5 a4 a3 a8 true))) else (out (some (⟨a6,a5⟩:di)))
def aN (a0:di) (a1:History) (a2:Int):Option di :=
 must (0≤a2∧a2 < (a1.Txns.length:Int)) (bif ((idx a1.Txns a2).Status != 1) then some a0 else (iter (ko a1 a2) (a0.asks,a0.bad,[],0)))
def qm (a0:History):(List Ask×List kg×Int)→Option ((List Ask×List kg×Int) ⊕ (di×Int))
 | (a3,a2,a1)=>bif decide (a1 < (a0.Txns.length:Int)) then (aN (⟨a3,a2⟩:di) a0 a1).bind fun a4=>some (.inl (a4.asks,a4.bad,w64 (a1 + 1))) else (out (some ((⟨a3,a2⟩:di),0)))
def iO (a0:History):Option (di×Int) :=
 (aH a0).bind fun a1=>bif (a1 != 0) then some ((⟨([]:List Ask),([]:List kg)⟩:di),a1) else (iter (qm a0) ([],[],0))
def iU (a0:History):Option (List Ask×Int) :=
 (iO a0).bind fun a1=>some (a1.1.asks,a1.2)
def pR (a0:History):Option (List kg×Int) :=
 (iO a0).bind fun a1=>some (a1.1.bad,a1.2)
def mI (a0:History) (a1:List Int) (a3:List (Int×Int)) (a2:Int) (a4:Bool):Option (((List (Int×Int))×Int) ⊕ (bD×Bool)) :=
 bif a4 then out (some ((⟨a0,a1,a3⟩:bD),false)) else (some (.inl (eB a3 (idx a1 a2) a2,w64 (a2 + 1))))
def oN (a0:History) (a1:List Int) (a2:List (Int×Int)) (a3:Int) (a4:Bool):Option (Int ⊕ (((List (Int×Int))×Int) ⊕ (bD×Bool))) :=
 bif a4 then out (out (some ((⟨a0,a1,a2⟩:bD),false))) else (some (.inl (w64 (a3 + 1))))
def oO (a0:History) (a1:List Int) (a3:List (Int×Int)):Int→Option (Int ⊕ (((List (Int×Int))×Int) ⊕ (bD×Bool)))
 | a2=>bif decide (a2 < (a0.Txns.length:Int)) then must (0≤a2∧a2 < (a0.Txns.length:Int)) (bif !(ji a3 a2) then oN a0 a1 a3 a2 ((idx a0.Txns a2).Status == 1) else (oN a0 a1 a3 a2 false)) else (out (out (some ((⟨a0,a1,a3⟩:bD),true))))
def qZ (a0:History) (a1:List Int):((List (Int×Int))×Int)→Option (((List (Int×Int))×Int) ⊕ (bD×Bool))
 | (a3,a2)=>bif decide (a2 < (a1.length:Int)) then must (0≤a2∧a2 < (a1.length:Int)) (bif decide (idx a1 a2 < 0) then mI a0 a1 a3 a2 true else (bif decide (idx a1 a2 ≥ (a0.Txns.length:Int)) then mI a0 a1 a3 a2 true else (must (0≤idx a1 a2∧idx a1 a2 < (a0.Txns.length:Int)) (mI a0 a1 a3 a2 ((idx a0.Txns (idx a1 a2)).Status == 2))))) else (bif ((a3.length:Int) != (a1.length:Int)) then out (some ((⟨a0,a1,a3⟩:bD),false)) else (iter (oO a0 a1 a3) 0))
def dE (a0:History) (a1:List Int):Option (bD×Bool) :=
 iter (qZ a0 a1) ([],0)
def fH (a2:Int) (a1:List (Int×Int)):Option (((List (Int×Int))×Int) ⊕ Bool) :=
 some (.inl (a1,w64 (a2 + 1)))
def fI (a0:bD) (a2:List (Int×Int)) (a1:Int) (a3:Bool):Option (((List (Int×Int))×Int) ⊕ Bool) :=
 bif a3 then out (some false) else (fH a1 (eB a2 ((idx a0.h.Txns a1).Proc) (wD (mat a0.at_ a1) (mat a2 ((idx a0.h.Txns a1).Proc)))))
def iV (a0:bD):((List (Int×Int))×Int)→Option (((List (Int×Int))×Int) ⊕ Bool)
 | (a2,a1)=>bif decide (a1 < (a0.h.Txns.length:Int)) then must (0≤a1∧a1 < (a0.h.Txns.length:Int)) (bif !(ji a0.at_ a1) then fH a1 a2 else (bif ji a2 ((idx a0.h.Txns a1).Proc) then fI a0 a2 a1 (decide (mat a2 ((idx a0.h.Txns a1).Proc) > mat a0.at_ a1)) else (fI a0 a2 a1 false))) else (out (some true))
def aR (a0:bD):Option Bool :=
 iter (iV a0) ([],0)
def lD (a1:Int) (a2:List Int):Option ((List Int×Int) ⊕ (List Int)) :=
 some (.inl (a2,w64 (a1 + 1)))
def lF (a0:Txn) (a1:List Int) (a2:Int) (a3:Bool):Option ((List Int×Int) ⊕ (List Int)) :=
 bif a3 then must (((a1.length + 1) + (a1.length + 1) / 4 + 192) * 8≤281474976710656∧a1.length + 1≤9223372036854775807) (lD a2 (a1++([(idx a0.Ops a2).Arg]:List Int))) else (lD a2 a1)
def nP (a0:Txn) (a1:Int):(List Int×Int)→Option ((List Int×Int) ⊕ (List Int))
 | (a3,a2)=>bif decide (a2 < (a0.Ops.length:Int)) then must (0≤a2∧a2 < (a0.Ops.length:Int)) (bif ((idx a0.Ops a2).Key == a1) then lF a0 a3 a2 (decide ((idx a0.Ops a2).Kind≤4)) else (lF a0 a3 a2 false)) else (out (some a3))
def cz (a0:Txn) (a1:Int):Option (List Int) :=
 iter (nP a0 a1) ([],0)
def jK (a0:History) (a1:Int) (a2:Int) (a4:Bool):Option (List Int×Bool) :=
 bif a4 then some (([]:List Int),false) else (must (0≤a1∧a1 < (a0.Txns.length:Int)) ((cz (idx a0.Txns a1) a2).bind fun a3=>some (a3,decide ((a3.length:Int) > 0))))
def eY (a0:History) (a1:Int) (a2:Int):Option (List Int×Bool) :=
 bif decide (a1 < 0) then jK a0 a1 a2 true else (bif decide (a1 ≥ (a0.Txns.length:Int)) then jK a0 a1 a2 true else ((aH a0).bind fun a3=>jK a0 a1 a2 (a3 != 0)))
def iF (a0:bD) (a1:Ask) (a2:Int) (b9:Bool):Option Bool :=
 bif b9 then some false else ((eY a0.h a2 a1.Key).bind fun a3=>some a3.2)
def dF (a0:bD) (a1:Ask) (a2:Int):Option Bool :=
 bif !(ji a0.at_ a2) then iF a0 a1 a2 true else (iF a0 a1 a2 (decide (mat a0.at_ a2 ≥ mat a0.at_ a1.Txn)))
def pz (a0:History) (a1:Int) (a3:Int):Int→Option (Int ⊕ (Int ⊕ Int))
 | a2=>bif decide (a2 < (((idx a0.Txns a3).Ops).length:Int)) then must (0≤a2∧a2 < (((idx a0.Txns a3).Ops).length:Int)) (bif ((idx ((idx a0.Txns a3).Ops) a2).Key == a1) then (jS ((idx ((idx a0.Txns a3).Ops) a2).Kind)).bind fun a4=>out (out (some a4)) else (some (.inl (w64 (a2 + 1))))) else (out (some (.inl (w64 (a3 + 1)))))
def pE (a0:History) (a1:Int):Int→Option (Int ⊕ Int)
 | a2=>bif decide (a2 < (a0.Txns.length:Int)) then must (0≤a2∧a2 < (a0.Txns.length:Int)) (iter (pz a0 a1 a2) 0) else (out (some 0))
def dN (a0:History) (a1:Int):Option Int :=
 (aH a0).bind fun y8=>bif (y8 != 0) then some 0 else (iter (pE a0 a1) 0)
def lG (a0:List Int):Option (List Int):=must (a0.length < 4611686018427387904) (some (a0.mergeSort fun x y=>decide (x≤y)))
def gq (a1:List Int):Option (List Int) :=
 some a1
def jr (a2:List Int):(Int×Int)→Option ((Int×Int) ⊕ (List Int))
 | (a3,a1)=>bif decide (a1 < (a2.length:Int)) then must (0≤a1∧a1 < (a2.length:Int)) (some (.inl (w64 (a3 + (idx a2 a1)),w64 (a1 + 1)))) else (out (some ([a3]:List Int)))
def eQ (a0:bD) (a1:Int) (a2:List Int):Option (List Int) :=
 (dN a0.h a1).bind fun a3=>bif (a3 == 1) then must (0≤(wD 0 (w64 ((a2.length:Int) - 1)))∧(wD 0 (w64 ((a2.length:Int) - 1)))≤(a2.length:Int)∧(a2.length:Int)≤(a2.length:Int)) (some (cZ a2 (wD 0 (w64 ((a2.length:Int) - 1))) (a2.length:Int))) else (bif (a3 == 3) then (lG a2).bind fun a4=>gq a4 else (bif (a3 == 4) then iter (jr a2) (0,0) else (gq a2)))
def gu (a1:Int) (a2:List Int):Option ((List Int×Int) ⊕ ((List Int×Int) ⊕ (List Int))) :=
 some (.inl (a2,w64 (a1 + 1)))
def gy (a0:bD) (a2:Int) (a4:Int) (a1:List Int) (a3:Int) (a5:Bool):Option ((List Int×Int) ⊕ ((List Int×Int) ⊕ (List Int))) :=
 bif a5 then must (((a1.length + 1) + (a1.length + 1) / 4 + 192) * 8≤281474976710656∧a1.length + 1≤9223372036854775807) (gu a3 (a1++([(idx ((idx a0.h.Txns (idx (cZ a0.order (0:Int) (w64 ((mat a0.at_ a2) + 1))) a4)).Ops) a3).Arg]:List Int))) else (gu a3 a1)
def jv (a0:bD) (a1:Int) (a2:Int) (a4:Int):(List Int×Int)→Option ((List Int×Int) ⊕ ((List Int×Int) ⊕ (List Int)))
 | (a5,a3)=>bif decide (a3 < (((idx a0.h.Txns (idx (cZ a0.order (0:Int) (w64 ((mat a0.at_ a2) + 1))) a4)).Ops).length:Int)) then must (0≤a3∧a3 < (((idx a0.h.Txns (idx (cZ a0.order (0:Int) (w64 ((mat a0.at_ a2) + 1))) a4)).Ops).length:Int)) (bif ((idx ((idx a0.h.Txns (idx (cZ a0.order (0:Int) (w64 ((mat a0.at_ a2) + 1))) a4)).Ops) a3).Key == a1) then gy a0 a2 a4 a5 a3 (decide ((idx ((idx a0.h.Txns (idx (cZ a0.order (0:Int) (w64 ((mat a0.at_ a2) + 1))) a4)).Ops) a3).Kind≤4)) else (gy a0 a2 a4 a5 a3 false)) else (out (some (.inl (a5,w64 (a4 + 1)))))
def jw (a0:bD) (a1:Int) (a2:Int):(List Int×Int)→Option ((List Int×Int) ⊕ (List Int))
 | (a4,a3)=>bif decide (a3 < ((cZ a0.order (0:Int) (w64 ((mat a0.at_ a2) + 1))).length:Int)) then must (0≤a3∧a3 < ((cZ a0.order (0:Int) (w64 ((mat a0.at_ a2) + 1))).length:Int)) (must (0≤idx (cZ a0.order (0:Int) (w64 ((mat a0.at_ a2) + 1))) a3∧idx (cZ a0.order (0:Int) (w64 ((mat a0.at_ a2) + 1))) a3 < (a0.h.Txns.length:Int)) (iter (jv a0 a1 a2 a3) (a4,0))) else (out (eQ a0 a1 a4))
def ax (a0:bD) (a1:Int) (a2:Int):Option (List Int) :=
 bif decide (a2 ≥ 0) then must (0≤(0:Int)∧(0:Int)≤(w64 ((mat a0.at_ a2) + 1))∧(w64 ((mat a0.at_ a2) + 1))≤(a0.order.length:Int)) (iter (jw a0 a1 a2) ([],0)) else (eQ a0 a1 [])
def oP (a1:Exec) (a3:List Ask×Int) (a4:bD×Bool) (a2:Int) (a6:Bool):Option (Int ⊕ (Int×Int)) :=
 bif a6 then out (some (5,0)) else (must (0≤a2∧a2 < (a1.Picks.length:Int)) ((ax a4.1 ((idx a3.1 a2).Key) (idx a1.Picks a2)).bind fun a5=>(dD a5 ((idx a3.1 a2).Base)).bind fun a7=>bif !a7 then out (some (6,0)) else (some (.inl (w64 (a2 + 1))))))
def oQ (a1:Exec) (a3:List Ask×Int) (a4:bD×Bool):Int→Option (Int ⊕ (Int×Int))
 | a2=>bif decide (a2 < (a3.1.length:Int)) then must (0≤a2∧a2 < (a3.1.length:Int)) (must (0≤a2∧a2 < (a1.Picks.length:Int)) (bif (idx a1.Picks a2 != (-1)) then (dF a4.1 (idx a3.1 a2) (idx a1.Picks a2)).bind fun a5=>oP a1 a3 a4 a2 (!a5) else (oP a1 a3 a4 a2 false))) else (out (some (0,0)))
def dS (a0:History) (a1:Exec):Option (Int×Int) :=
 (iU a0).bind fun a2=>bif (a2.2 != 0) then some (0,a2.2) else ((pR a0).bind fun a4=>bif decide ((a4.1.length:Int) > 0) then some (1,0) else ((dE a0 a1.Order).bind fun a3=>bif !a3.2 then some (2,0) else (bif ((a1.Picks.length:Int) != (a2.1.length:Int)) then some (3,0) else ((aR a3.1).bind fun a5=>bif !a5 then some (4,0) else (iter (oQ a1 a2 a3) 0)))))
def jU (a2:Int) (a1:List Int):Option ((List Int×Int) ⊕ (List Int)) :=
 some (.inl (a1,w64 (a2 + 1)))
def jV (a1:List Int) (a2:Int) (a3:Bool):Option ((List Int×Int) ⊕ (List Int)) :=
 bif a3 then must (((a1.length + 1) + (a1.length + 1) / 4 + 192) * 8≤281474976710656∧a1.length + 1≤9223372036854775807) (jU a2 (a1++([a2]:List Int))) else (jU a2 a1)
def mh (a0:History) (a1:Int):(List Int×Int)→Option ((List Int×Int) ⊕ (List Int))
 | (a3,a2)=>bif decide (a2 < (a0.Txns.length:Int)) then must (0≤a2∧a2 < (a0.Txns.length:Int)) (bif ((idx a0.Txns a2).Status != 2) then (cz (idx a0.Txns a2) a1).bind fun a4=>jV a3 a2 (decide ((a4.length:Int) > 0)) else (jV a3 a2 false)) else (out (some a3))
def bK (a0:History) (a1:Int):Option (List Int) :=
 (aH a0).bind fun y8=>bif (y8 != 0) then some ([]:List Int) else (iter (mh a0 a1) ([],0))
def kM (a2:Int) (a1:List Int):Option ((List Int×Int) ⊕ ((List Int×List Int×List Int×Int×Int) ⊕ (aY×Int))) :=
 some (.inl (a1,w64 (a2 + 1)))
def kN (a0:History) (a1:Exec) (a6:List Int) (a7:List Int) (a5:Int) (a2:Int):(List Int×Int)→Option ((List Int×Int) ⊕ ((List Int×List Int×List Int×Int×Int) ⊕ (aY×Int)))
 | (a4,a3)=>bif decide (a3 < ((cZ a1.Order (0:Int) a2).length:Int)) then must (0≤a3∧a3 < ((cZ a1.Order (0:Int) a2).length:Int)) (must (0≤idx (cZ a1.Order (0:Int) a2) a3∧idx (cZ a1.Order (0:Int) a2) a3 < (a0.Txns.length:Int)) (must (0≤idx a1.Order a2∧idx a1.Order a2 < (a0.Txns.length:Int)) (bif ((idx a0.Txns (idx (cZ a1.Order (0:Int) a2) a3)).Proc == (idx a0.Txns (idx a1.Order a2)).Proc) then must (0≤idx (cZ a1.Order (0:Int) a2) a3∧idx (cZ a1.Order (0:Int) a2) a3 < (far:Int)) (kM a3 (ny 32 a4 (idx a1.Order a2) (bOr .u32 (idx a4 (idx a1.Order a2)) (mQ .u32 1 (idx (cZ a1.Order (0:Int) a2) a3))))) else (kM a3 a4)))) else (must (0≤idx a1.Order a2∧idx a1.Order a2 < (far:Int)) (out (some (.inl ((ny 32 a6 (idx a1.Order a2) (w64 (a2 + 1))),(ny 32 a7 (idx a1.Order a2) a5),a4,bOr .u32 a5 (mQ .u32 1 (idx a1.Order a2)),w64 (a2 + 1))))))
def kP (a1:Int) (a2:List Int):Option ((List Int×Int) ⊕ ((List Int×List Int×List Int×Int×Int) ⊕ (aY×Int))) :=
 some (.inl (a2,w64 (a1 + 1)))
def kQ (a1:Int) (a2:List (Int×Int)):Option (((List (Int×Int))×Int) ⊕ (((List (Int×Int))×Int) ⊕ ((List Int×Int) ⊕ ((List Int×List Int×List Int×Int×Int) ⊕ (aY×Int))))) :=
 some (.inl (a2,w64 (a1 + 1)))
def mV (a5:List Int) (a4:Int) (a2:List Int):((List (Int×Int))×Int)→Option (((List (Int×Int))×Int) ⊕ (((List (Int×Int))×Int) ⊕ ((List Int×Int) ⊕ ((List Int×List Int×List Int×Int×Int) ⊕ (aY×Int)))))
 | (a3,a1)=>bif decide (a1 < (a2.length:Int)) then must (0≤a1∧a1 < (a2.length:Int)) (must (0≤(idx a2 a1)∧(idx a2 a1) < ((32:Nat):Int)) (bif decide (idx a5 (idx a2 a1) > 0) then must (0≤idx a2 a1∧idx a2 a1 < (far:Int)) (kQ a1 (eB a3 a4 (bOr .u32 (mat a3 a4) (mQ .u32 1 (idx a2 a1))))) else (kQ a1 a3))) else (out (some (.inl (a3,w64 (a4 + 1)))))
def mW (a0:History) (a1:Exec) (a8:List Ask×Int) (a3:List Int) (a7:List Int) (a5:List Int):((List (Int×Int))×Int)→Option (((List (Int×Int))×Int) ⊕ ((List Int×Int) ⊕ ((List Int×List Int×List Int×Int×Int) ⊕ (aY×Int))))
 | (a4,a2)=>bif decide (a2 < (a0.Keys.length:Int)) then (bK a0 a2).bind fun a6=>iter (mV a3 a2 a6) (a4,0) else (out (out (out (some ((⟨a0,a1,a8.1,a3,a7,a5,a4⟩:aY),0)))))
def mX (a0:History) (a1:Exec) (a3:List Ask×Int) (a5:List Int) (a6:List Int):(List Int×Int)→Option ((List Int×Int) ⊕ ((List Int×List Int×List Int×Int×Int) ⊕ (aY×Int)))
 | (a4,a2)=>bif decide (a2 < (a3.1.length:Int)) then must (0≤a2∧a2 < (a3.1.length:Int)) (must (0≤a2∧a2 < (a1.Picks.length:Int)) (bif decide (idx a1.Picks a2 ≥ 0) then must (0≤((idx a3.1 a2).Txn)∧((idx a3.1 a2).Txn) < ((32:Nat):Int)) (must (0≤idx a1.Picks a2∧idx a1.Picks a2 < (far:Int)) (kP a2 (ny 32 a4 ((idx a3.1 a2).Txn) (bOr .u32 (idx a4 ((idx a3.1 a2).Txn)) (mQ .u32 1 (idx a1.Picks a2)))))) else (kP a2 a4))) else (iter (mW a0 a1 a3 a5 a6 a4) ([],0))
def mY (a0:History) (a1:Exec) (a7:List Ask×Int):(List Int×List Int×List Int×Int×Int)→Option ((List Int×List Int×List Int×Int×Int) ⊕ (aY×Int))
 | (a3,a5,a4,a6,a2)=>bif decide (a2 < (a1.Order.length:Int)) then must (0≤a2∧a2 < (a1.Order.length:Int)) (must (0≤(idx a1.Order a2)∧(idx a1.Order a2) < ((32:Nat):Int)) (must (0≤(0:Int)∧(0:Int)≤a2∧a2≤(a1.Order.length:Int)) (iter (kN a0 a1 a3 a5 a6 a2) (a4,0)))) else (iter (mX a0 a1 a7 a3 a5) (a4,0))
def kR (a0:History) (a1:Exec) (a2:Bool):Option (aY×Int) :=
 bif a2 then some ((default:aY),1) else ((iU a0).bind fun a3=>iter (mY a0 a1 a3) (([]:List Int),([]:List Int),([]:List Int),0,0))
def aG (a0:History) (a1:Exec):Option (aY×Int) :=
 (dS a0 a1).bind fun a2=>bif (a2.2 != 0) then kR a0 a1 true else (kR a0 a1 (a2.1 != 0))
def gW (a1:Int) (a2:Int):Option ((Int×Int) ⊕ Int) :=
 some (.inl (a2,w64 (a1 + 1)))
def eZ (a0:aY) (a2:Int) (a1:Int) (a3:Bool):Option ((Int×Int) ⊕ Int) :=
 bif a3 then must (0≤a1∧a1 < (a0.x.Picks.length:Int)) (must (0≤idx a0.x.Picks a1∧idx a0.x.Picks a1 < (far:Int)) (gW a1 (bOr .u32 a2 (mQ .u32 1 (idx a0.x.Picks a1))))) else (gW a1 a2)
def jL (a0:aY) (a1:Int):(Int×Int)→Option ((Int×Int) ⊕ Int)
 | (a3,a2)=>bif decide (a2 < (a0.asks.length:Int)) then must (0≤a2∧a2 < (a0.asks.length:Int)) (must (0≤a1∧a1 < (a0.asks.length:Int)) (bif ((idx a0.asks a2).Txn == (idx a0.asks a1).Txn) then bif decide ((idx a0.asks a2).Place < (idx a0.asks a1).Place) then must (0≤a2∧a2 < (a0.x.Picks.length:Int)) (eZ a0 a3 a2 (decide (idx a0.x.Picks a2 ≥ 0))) else (eZ a0 a3 a2 false) else (eZ a0 a3 a2 false))) else (out (some a3))
def aT (a0:aY) (a1:Int):Option Int :=
 iter (jL a0 a1) (0,0)
def kS {σ:Type} (a2:Int) (a3:Int) (a4:Bool) (a1:σ):Option ((Int×Int×σ) ⊕ σ) :=
 bif a4 then out (some a1) else (must (0≤(1:Int)∧(1:Int) < (far:Int)) (some (.inl (oq .u32 a2 (1:Int),w64 (a3 + 1),a1))))
def mZ {σ:Type} (Y:σ→Int→Option (Bool×σ)):(Int×Int×σ)→Option ((Int×Int×σ) ⊕ σ)
 | (a1,a2,a3)=>bif (a1 != 0) then bif (rU .u32 a1 1 == 1) then (Y a3 a2).bind fun a4=>kS a1 a2 (!a4.1) a4.2 else (kS a1 a2 false a3) else (out (some a3))
def bY {σ:Type} (Y:σ→Int→Option (Bool×σ)) (a1:Int) (s0:σ):Option σ :=
 iter (mZ Y) (a1,0,s0)
def jM (a0:Int):Option Unit :=
 some ()
def jC (a0:aY):(Int ⊕ Unit)→Int→Option (Bool×(Int ⊕ Unit))
 | .inl a2,a1=>must (0≤a1∧a1 < ((32:Nat):Int)) (some (true,.inl (bOr .u32 a2 (idx a0.near a1))))
 | .inr _,_=>none
def lH (a1:Int):(Int ⊕ Unit)→Option (Int ⊕ Int)
 | .inl a2=>bif (a2 == a1) then out (some a1) else (some (.inl a2))
 | .inr _=>none
def lI (a0:aY):Int→Option (Int ⊕ Int)
 | a1=>(jM a1).bind fun a3=>(bY (jC a0) a1 (.inl a1)).bind fun a2=>lH a1 a2
def bI (a0:aY) (a1:Int):Option Int :=
 must (0≤a1∧a1 < ((32:Nat):Int)) (iter (lI a0) (idx a0.near a1))
def iX (a0:aY):(Int ⊕ Unit)→Int→Option (Bool×(Int ⊕ Unit))
 | .inl a2,a1=>must (0≤a1∧a1 < ((32:Nat):Int)) (some (true,.inl (bOr .u32 a2 (idx a0.behind a1))))
 | .inr _,_=>none
def nQ:(Int ⊕ Unit)→Option Int
 | .inl a1=>some a1
 | .inr _=>none
def bV (a0:aY) (a1:Int):Option Int :=
 (jM a1).bind fun a3=>(bY (iX a0) a1 (.inl a1)).bind fun a2=>nQ a2
def dm.m1 (a0:aY) (a1:Int):Int→(Int×Int)→Option Int
 | a2,p62=>must (0≤a1∧a1 < (far:Int)) (bif (rU .u32 (oq .u32 p62.2 a1) 1 == 1) then must (0≤a1∧a1 < ((32:Nat):Int)) (some (bOr .u32 a2 (rU .u32 p62.2 (idx a0.behind a1)))) else (some a2))
def dm (a0:aY) (a1:Int):Option Int :=
 (uE (dm.m1 a0 a1) 0 a0.writes).bind fun a2=>some a2
def jN (a0:aY) (a1:Int) (a2:Int):Option Int :=
 must (0≤a2∧a2 < (a0.asks.length:Int)) (bif (a1 == 1) then (aT a0 a2).bind fun a8=>some a8 else (bif (a1 == 2) then must (0≤(idx a0.asks a2).Txn∧(idx a0.asks a2).Txn < (far:Int)) (bif (rU .u32 (oq .u32 (mat a0.writes ((idx a0.asks a2).Key)) ((idx a0.asks a2).Txn)) 1 == 1) then must (0≤((idx a0.asks a2).Txn)∧((idx a0.asks a2).Txn) < ((32:Nat):Int)) (some (idx a0.behind ((idx a0.asks a2).Txn))) else ((aT a0 a2).bind fun a3=>some a3)) else (bif (a1 == 3) then must (0≤((idx a0.asks a2).Txn)∧((idx a0.asks a2).Txn) < ((32:Nat):Int)) (some (idx a0.near ((idx a0.asks a2).Txn))) else (bif (a1 == 4) then (bI a0 ((idx a0.asks a2).Txn)).bind fun a7=>some a7 else (bif (a1 == 5) then must (0≤((idx a0.asks a2).Txn)∧((idx a0.asks a2).Txn) < ((32:Nat):Int)) ((bV a0 (idx a0.near ((idx a0.asks a2).Txn))).bind fun a6=>some a6) else (bif (a1 == 6) then must (0≤((idx a0.asks a2).Txn)∧((idx a0.asks a2).Txn) < ((32:Nat):Int)) ((dm a0 ((idx a0.asks a2).Txn)).bind fun a4=>(bV a0 (bOr .u32 (idx a0.near ((idx a0.asks a2).Txn)) a4)).bind fun a5=>some a5) else (must (0≤((idx a0.asks a2).Txn)∧((idx a0.asks a2).Txn) < ((32:Nat):Int)) (some (idx a0.behind ((idx a0.asks a2).Txn))))))))))
def iG (a1:Int):Option (Int ⊕ ((Int×Int×Int)×Bool)) :=
 some (.inl (w64 (a1 + 1)))
def kr (a0:aY) (a2:Int) (a3:Int):Int→Option (Int ⊕ (Int ⊕ ((Int×Int×Int)×Bool)))
 | a1=>bif decide (a1 < (a0.x.Order.length:Int)) then must (0≤a1∧a1 < (a0.x.Order.length:Int)) (must (0≤idx a0.x.Order a1∧idx a0.x.Order a1 < (far:Int)) (bif (rU .u32 (oq .u32 a3 (idx a0.x.Order a1)) 1 == 1) then out (out (some (((idx a0.x.Order a1,idx a0.x.Picks a2,a2):Int×Int×Int),true))) else (some (.inl (w64 (a1 + 1)))))) else (out (iG a2))
def fD (a0:aY) (a1:Int) (a2:Int):Option (Int ⊕ ((Int×Int×Int)×Bool)) :=
 bif (a2 == 0) then iG a1 else (iter (kr a0 a1 a2) 0)
def ku (a0:aY) (a1:Int) (a2:Int):Option (Int ⊕ ((Int×Int×Int)×Bool)) :=
 bif decide (idx a0.x.Picks a1 ≥ 0) then must (0≤idx a0.x.Picks a1∧idx a0.x.Picks a1 < (far:Int)) (must (0≤(idx a0.x.Picks a1)∧(idx a0.x.Picks a1) < ((32:Nat):Int)) (fD a0 a1 (oZ .u32 a2 (bOr .u32 (mQ .u32 1 (idx a0.x.Picks a1)) (idx a0.behind (idx a0.x.Picks a1)))))) else (fD a0 a1 a2)
def kw (a0:aY) (a1:Int):Int→Option (Int ⊕ ((Int×Int×Int)×Bool))
 | a2=>bif decide (a2 < (a0.asks.length:Int)) then must (0≤a2∧a2 < (a0.asks.length:Int)) (must (0≤a2∧a2 < (a0.x.Picks.length:Int)) ((jN a0 a1 a2).bind fun a3=>must (0≤(idx a0.asks a2).Txn∧(idx a0.asks a2).Txn < (far:Int)) (ku a0 a2 (oZ .u32 (rU .u32 a3 (mat a0.writes ((idx a0.asks a2).Key))) (mQ .u32 1 ((idx a0.asks a2).Txn)))))) else (out (some (((0,0,0):Int×Int×Int),false)))
def aK (a0:aY) (a1:Int):Option ((Int×Int×Int)×Bool) :=
 iter (kw a0 a1) 0
def fu (a3:Int) (a1:Int) (a2:Bool):Option (Int ⊕ (Int ⊕ ((Int×Int×Int)×Bool))) :=
 bif a2 then out (out (some (((a3,a1,(-1)):Int×Int×Int),true))) else (some (.inl (w64 (a1 + 1))))
def lJ (a0:aY) (a2:Int):Int→Option (Int ⊕ (Int ⊕ ((Int×Int×Int)×Bool)))
 | a1=>bif decide (a1 < (a0.h.Txns.length:Int)) then must (0≤a1∧a1 < (a0.h.Txns.length:Int)) (bif ((idx a0.h.Txns a2).Status == 1) then bif decide ((idx a0.h.Txns a2).To < (idx a0.h.Txns a1).From) then must (0≤a1∧a1 < ((32:Nat):Int)) (bif decide (idx a0.at_ a1 > 0) then must (0≤a2∧a2 < ((32:Nat):Int)) (fu a2 a1 (decide (idx a0.at_ a1 < idx a0.at_ a2))) else (fu a2 a1 false)) else (fu a2 a1 false) else (fu a2 a1 false)) else (out (some (.inl (w64 (a2 + 1)))))
def lK (a0:aY):Int→Option (Int ⊕ ((Int×Int×Int)×Bool))
 | a1=>bif decide (a1 < (a0.h.Txns.length:Int)) then must (0≤a1∧a1 < (a0.h.Txns.length:Int)) (iter (lJ a0 a1) 0) else (out (some (((0,0,0):Int×Int×Int),false)))
def bA (a0:aY):Option ((Int×Int×Int)×Bool) :=
 iter (lK a0) 0
def kT (a3:Int) (a2:Int) (a4:Int) (a1:Bool):Option ((Int×Int×Int)×Bool×Int) :=
 some (((a3,a2,a4):Int×Int×Int),a1,0)
def kU (a3:aY×Int) (a1:(Int×Int×Int)×Bool) (a4:Bool):Option ((Int×Int×Int)×Bool×Int) :=
 bif a4 then (bA a3.1).bind fun a2=>kT a2.1.1 a2.1.2.1 a2.1.2.2 a2.2 else (kT a1.1.1 a1.1.2.1 a1.1.2.2 a1.2)
def gP (a2:Int) (a1:aY×Int) (a4:Bool):Option ((Int×Int×Int)×Bool×Int) :=
 bif a4 then some (((0,0,0):Int×Int×Int),false,1) else ((aK a1.1 a2).bind fun a3=>bif !a3.2 then kU a1 a3 (a2 == 8) else (kU a1 a3 false))
def bG (a0:History) (a1:Exec) (a2:Int):Option ((Int×Int×Int)×Bool×Int) :=
 (aG a0 a1).bind fun a3=>bif (a3.2 != 0) then gP a2 a3 true else (bif decide (a2 < 1) then gP a2 a3 true else (gP a2 a3 (decide (a2 > 8))))
def jO (a0:History) (a1:Exec) (a2:Int):Option (Bool×Int) :=
 (bG a0 a1 a2).bind fun y8=>bif (y8.2.2 == 0) then some (!y8.2.1,y8.2.2) else (some (false,y8.2.2))
def jW (a0:Int):Option Op :=
 some (⟨5,0,0,true,([a0]:List Int)⟩:Op)
def mi:Option (History×Exec) :=
 (jW 1).bind fun a1=>(jW 1).bind fun a2=>some ((⟨([(⟨#[120]⟩:ByteArray)]:List ByteArray),([(⟨0,1,0,1,([(⟨1,0,1,false,([]:List Int)⟩:Op)]:List Op)⟩:Txn),(⟨1,1,2,5,([a1,(⟨1,0,2,false,([]:List Int)⟩:Op)]:List Op)⟩:Txn),(⟨2,1,3,4,([a2,(⟨1,0,3,false,([]:List Int)⟩:Op)]:List Op)⟩:Txn)]:List Txn)⟩:History),(⟨([0,1,2]:List Int),([0,0]:List Int)⟩:Exec))
def jD:Option Bool :=
 (mi).bind fun a2=>(bG a2.1 a2.2 7).bind fun a1=>(jO a2.1 a2.2 5).bind fun a3=>bif (a1.2.2 == 0) then bif a1.2.1 then bif ((a1.1.1 == 1) && ((a1.1.2.1 == 0) && ((a1.1.2.2 == 1) && true))) then bif (a3.2 == 0) then some a3.1 else (some false) else (some false) else (some false) else (some false)
def dX (a1:Int) (a2:List Int):Option ((List Int×Int) ⊕ (Int ⊕ Bool)) :=
 some (.inl (a2,w64 (a1 + 1)))
def cO (a2:Int) (a1:Bool):Option (Int ⊕ ((List Int×Int) ⊕ (Int ⊕ Bool))) :=
 bif a1 then out (out (out (some false))) else (some (.inl (w64 (a2 + 1))))
def fJ (a0:History) (a1:Exec) (a5:List Int):Int→Option (Int ⊕ ((List Int×Int) ⊕ (Int ⊕ Bool)))
 | a2=>bif decide (a2≤8) then (jO a0 a1 a2).bind fun a3=>(jO a0 (⟨a5,a1.Picks⟩:Exec) a2).bind fun a4=>bif (a3.2 != 0) then cO a2 true else (bif (a4.2 != 0) then cO a2 true else (bif a3.1 then cO a2 (!a4.1) else (cO a2 false))) else (out (out (out (some true))))
def dY (a0:History) (a1:Exec) (a2:List Int) (a3:Bool):Option ((List Int×Int) ⊕ (Int ⊕ Bool)) :=
 bif a3 then out (out (some true)) else (iter (fJ a0 a1 a2) 1)
def fK (a0:History) (a1:Exec) (a2:Int):(List Int×Int)→Option ((List Int×Int) ⊕ (Int ⊕ Bool))
 | (a3,a4)=>bif decide (a4 < (a1.Order.length:Int)) then must (0≤a4∧a4 < (a1.Order.length:Int)) (bif (idx a1.Order a4 != w64 ((IntKind.wrap .u64 (a2)).tmod (IntKind.wrap .u64 ((a0.Txns.length:Int))))) then must (((a3.length + 1) + (a3.length + 1) / 4 + 192) * 8≤281474976710656∧a3.length + 1≤9223372036854775807) (dX a4 (a3++([idx a1.Order a4]:List Int))) else (dX a4 a3)) else ((dS a0 (⟨a3,a1.Picks⟩:Exec)).bind fun a5=>bif (a5.2 != 0) then dY a0 a1 a3 true else (dY a0 a1 a3 (a5.1 != 0)))
def fM (a0:History) (a1:Exec) (a2:Int):Int→Option (Int ⊕ Bool)
 | a3=>bif decide (a3 < (a1.Picks.length:Int)) then must (0≤a3∧a3 < (a1.Picks.length:Int)) (bif (idx a1.Picks a3 == w64 ((IntKind.wrap .u64 (a2)).tmod (IntKind.wrap .u64 ((a0.Txns.length:Int))))) then out (some true) else (some (.inl (w64 (a3 + 1))))) else (iter (fK a0 a1 a2) ([],0))
def bU (a0:History) (a1:Exec) (a2:Int) (a3:Bool):Option Bool :=
 bif a3 then some true else (must ((IntKind.wrap .u64 ((a0.Txns.length:Int)))≠0) (iter (fM a0 a1 a2) 0))
def ag (a0:History) (a1:Exec) (a2:Int):Option Bool :=
 (jD).bind fun a4=>bif !a4 then some false else ((dS a0 a1).bind fun a3=>bif (a3.2 != 0) then bU a0 a1 a2 true else (bif (a3.1 != 0) then bU a0 a1 a2 true else (bU a0 a1 a2 ((a0.Txns.length:Int) == 0))))
end
end Go.Proofs.YtmfgddafcgflaaaT
