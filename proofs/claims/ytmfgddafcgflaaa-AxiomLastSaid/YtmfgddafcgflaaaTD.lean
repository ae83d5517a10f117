import Derived.Test.YtmfgddafcgflaaaI
namespace Go.Proofs.YtmfgddafcgflaaaT
noncomputable section
open Go Go.Proofs Go.Proofs.YtmfgddafcgflaaaE
set_option linter.unusedVariables false
set_option linter.unusedSimpArgs false
set_option maxHeartbeats 0
set_option maxRecDepth 4096
structure bI where
 key:ByteArray
 arg:Int
 deriving Inhabited,DecidableEq
def bI.enc (x:bI):List Value:=[.string x.key,.int .i64 x.arg]
abbrev Aw:Ty bI:=Ty.flat 2 bI.enc (fun _=>rfl) (fun _=>En rfl)
instance : Flat Aw bI.enc:=⟨Iff.rfl,Iff.rfl⟩
structure aO where
 keys:List ByteArray
 at_:List (ByteArray×Int)
 types:List Int
 facts:List (bI×Unit)
 incs:List (ByteArray×(List Int))
 deriving Inhabited
structure Call where
 Kind:Int
 Key:ByteArray
 Arg:Int
 Got:Bool
 Vals:List Int
 deriving Inhabited
abbrev ui:Ty Call:=Ty.iso (bE (aJ .i64) (bE fZ (bE (aJ .i64) (bE oC (bv 2 (aJ .i64)))))) (fun g:Call=>(g.Kind,g.Key,g.Arg,g.Got,g.Vals))
abbrev qj (N:BM):Ty Call:=Ty.iso (bE (aJ .i64) (bE fZ (bE (aJ .i64) (bE oC (Ew N (aJ .i64)))))) (fun g:Call=>(g.Kind,g.Key,g.Arg,g.Got,g.Vals))
theorem Cq (N:BM):rV N (qj N) ui:=CX (qJ qI (qJ qI (qJ qI (qJ qI Ba))))
structure Event where
 Proc:Int
 Kind:Int
 Calls:List Call
 deriving Inhabited
abbrev Ay:Ty Event:=Ty.iso (bE (aJ .i64) (bE (aJ .i64) (bv 99 ui))) (fun g:Event=>(g.Proc,g.Kind,g.Calls))
structure Op where
 Kind:Int
 Key:Int
 Arg:Int
 Got:Bool
 Vals:List Int
 deriving Inhabited
abbrev kOp:Ty Op:=Ty.iso (bE (aJ .i64) (bE (aJ .i64) (bE (aJ .i64) (bE oC (bv 2 (aJ .i64)))))) (fun g:Op=>(g.Kind,g.Key,g.Arg,g.Got,g.Vals))
structure Txn where
 Proc:Int
 Status:Int
 From:Int
 To:Int
 Ops:List Op
 deriving Inhabited
abbrev jq:Ty Txn:=Ty.iso (bE (aJ .i64) (bE (aJ .i64) (bE (aJ .i64) (bE (aJ .i64) (bv 76 kOp))))) (fun g:Txn=>(g.Proc,g.Status,g.From,g.To,g.Ops))
structure History where
 Keys:List ByteArray
 Txns:List Txn
 deriving Inhabited
structure Ask where
 Txn:Int
 Place:Int
 Key:Int
 Base:List Int
 deriving Inhabited
abbrev uj:Ty Ask:=Ty.iso (bE (aJ .i64) (bE (aJ .i64) (bE (aJ .i64) (bv 2 (aJ .i64))))) (fun g:Ask=>(g.Txn,g.Place,g.Key,g.Base))
structure ko where
 Txn:Int
 Place:Int
 deriving Inhabited,DecidableEq
def ko.enc (x:ko):List Value:=[.int .i64 x.Txn,.int .i64 x.Place]
abbrev zw:Ty ko:=Ty.flat 2 ko.enc (fun _=>rfl) (fun _=>En rfl)
instance : Flat zw ko.enc:=⟨Iff.rfl,Iff.rfl⟩
structure di where
 asks:List Ask
 bad:List ko
 deriving Inhabited
structure bA where
 h:History
 order:List Int
 at_:List (Int×Int)
 deriving Inhabited
structure Exec where
 Order:List Int
 Picks:List Int
 deriving Inhabited
structure bf where
 h:History
 x:Exec
 asks:List Ask
 at_:List Int
 behind:List Int
 near:List Int
 writes:List (Int×Int)
 deriving Inhabited
abbrev Rw2 (A:Option Addr) (c:Nat) (l:List Int):aY := .row (aJ .i64) 2 A l.length c l
abbrev Rw3 (A:Option Addr) (c:Nat) (l:List Int):aY := .row (aJ .i64) 3 A l.length c l
abbrev Rn3 (A:Option Addr) (n c:Nat) (l:List Int):aY := .row (aJ .i64) 3 A n c l
abbrev Rw9 (A:Option Addr) (c:Nat) (l:List ByteArray):aY := .row fZ 9 A l.length c l
abbrev Rn9 (A:Option Addr) (n c:Nat) (l:List ByteArray):aY := .row fZ 9 A n c l
abbrev EC (A:Option Addr) (c:Nat) (l:List Ask):aY := .row uj 46 A l.length c l
abbrev HY (A:Option Addr) (c:Nat) (l:List Txn):aY := .row jq 74 A l.length c l
abbrev He (A:Option Addr) (n c:Nat) (l:List Txn):aY := .row jq 74 A n c l
abbrev Dh (A:Option Addr) (c:Nat) (l:List Op):aY := .row kOp 76 A l.length c l
abbrev HZ (A:Option Addr) (n c:Nat) (l:List Op):aY := .row kOp 76 A n c l
abbrev zx (A:Option Addr) (c:Nat) (l:List ko):aY := .row zw 117 A l.length c l
abbrev Or2 (A:Option Addr) (c:Nat) (l:List Int):aY:=orA noM (aJ .i64) 2 A l.length c l
abbrev Gv (A:Option Addr) (c:Nat) (l:List Ask):aY:=orA noM uj 46 A l.length c l
abbrev xV (b:Nat) (m:List (Int×Int)):aY:=zl (fun x:Int => .int .i64 x) (fun x:Int => .int .i64 x) b m
abbrev Gw (b:Nat) (m:List (Int×Int)):aY:=zl (fun x:Int => .int .i64 x) (fun x:Int => .int .i64 x) b m
abbrev pV (b:Nat) (m:List (Int×Int)):aY:=zl (fun x:Int => .int .i64 x) (fun x:Int => .int .u32 x) b m
abbrev yf (b:Nat) (m:List (Int×(List Int))):aY:=oO (fun x:Int => .int .i64 x) (bv 2 (aJ .i64)) b m
abbrev uk (b:Nat) (m:List (ByteArray×Int)):aY:=zl (fun x:ByteArray => .string x) (fun x:Int => .int .i64 x) b m
abbrev ul (b:Nat) (m:List (bI×Unit)):aY:=zl (fun x:bI => .agg #[.string x.key,.int .i64 x.arg]) (fun _:Unit => .agg #[]) b m
abbrev yg (b:Nat) (m:List (ByteArray×(List Int))):aY:=oO (fun x:ByteArray => .string x) (bv 3 (aJ .i64)) b m
abbrev ql (x:History) (A0:Option Addr) (c0:Nat) (A1:Option Addr) (c1:Nat):List Value:=[vS A0 x.Keys.length c0,vS A1 x.Txns.length c1]
abbrev qX (x:History) (A0:Option Addr) (c0:Nat) (A1:Option Addr) (c1:Nat):Value := .agg (ql x A0 c0 A1 c1).toArray
abbrev jf (b:Nat) (x:History) (A0:Option Addr) (c0:Nat) (A1:Option Addr) (c1:Nat):aY := .blk b 25 (ql x A0 c0 A1 c1)
abbrev zy (x:Exec) (A0:Option Addr) (c0:Nat) (A1:Option Addr) (c1:Nat):List Value:=[vS A0 x.Order.length c0,vS A1 x.Picks.length c1]
abbrev Cr (x:Exec) (A0:Option Addr) (c0:Nat) (A1:Option Addr) (c1:Nat):Value := .agg (zy x A0 c0 A1 c1).toArray
abbrev qY (b:Nat) (x:Exec) (A0:Option Addr) (c0:Nat) (A1:Option Addr) (c1:Nat):aY := .blk b 28 (zy x A0 c0 A1 c1)
abbrev yE (x:Ask) (A3:Option Addr) (c3:Nat):List Value:=[vI x.Txn,vI x.Place,vI x.Key,vS A3 x.Base.length c3]
abbrev Ia (x:Ask) (A3:Option Addr) (c3:Nat):Value := .agg (yE x A3 c3).toArray
abbrev Hf (b:Nat) (x:Ask) (A3:Option Addr) (c3:Nat):aY := .blk b 46 (yE x A3 c3)
abbrev Az (x:bA) (A0:Option Addr) (c0:Nat) (A1:Option Addr) (c1:Nat) (A2:Option Addr) (c2:Nat) (b3:Nat):List Value:=[vS A0 x.h.Keys.length c0,vS A1 x.h.Txns.length c1,vS A2 x.order.length c2,.map (some b3)]
abbrev ED (x:bA) (A0:Option Addr) (c0:Nat) (A1:Option Addr) (c1:Nat) (A2:Option Addr) (c2:Nat) (b3:Nat):Value := .agg (Az x A0 c0 A1 c1 A2 c2 b3).toArray
abbrev sU (b:Nat) (x:bA) (A0:Option Addr) (c0:Nat) (A1:Option Addr) (c1:Nat) (A2:Option Addr) (c2:Nat) (b3:Nat):aY := .blk b 60 (Az x A0 c0 A1 c1 A2 c2 b3)
abbrev Gx (x:di) (A0:Option Addr) (c0:Nat) (A1:Option Addr) (c1:Nat):List Value:=[vS A0 x.asks.length c0,vS A1 x.bad.length c1]
abbrev Ib (x:di) (A0:Option Addr) (c0:Nat) (A1:Option Addr) (c1:Nat):Value := .agg (Gx x A0 c0 A1 c1).toArray
abbrev um (x:Txn) (A4:Option Addr) (c4:Nat):List Value:=[vI x.Proc,vI x.Status,vI x.From,vI x.To,vS A4 x.Ops.length c4]
abbrev Cs (x:Txn) (A4:Option Addr) (c4:Nat):Value := .agg (um x A4 c4).toArray
abbrev AA (b:Nat) (x:Txn) (A4:Option Addr) (c4:Nat):aY := .blk b 74 (um x A4 c4)
abbrev zz (x:Op) (A4:Option Addr) (c4:Nat):List Value:=[vI x.Kind,vI x.Key,vI x.Arg,vB x.Got,vS A4 x.Vals.length c4]
abbrev Ic (x:Op) (A4:Option Addr) (c4:Nat):Value := .agg (zz x A4 c4).toArray
abbrev sV (b:Nat) (x:Op) (A4:Option Addr) (c4:Nat):aY := .blk b 76 (zz x A4 c4)
abbrev Di (x:Event) (A2:Option Addr) (c2:Nat):List Value:=[vI x.Proc,vI x.Kind,vS A2 x.Calls.length c2]
abbrev Ie (x:Event) (A2:Option Addr) (c2:Nat):Value := .agg (Di x A2 c2).toArray
abbrev Hg (b:Nat) (x:Event) (A2:Option Addr) (c2:Nat):aY := .blk b 94 (Di x A2 c2)
abbrev AB (x:Call) (A4:Option Addr) (c4:Nat):List Value:=[vI x.Kind,.string x.Key,vI x.Arg,vB x.Got,vS A4 x.Vals.length c4]
abbrev Dj (x:Call) (A4:Option Addr) (c4:Nat):Value := .agg (AB x A4 c4).toArray
abbrev qU (b:Nat) (x:Call) (A4:Option Addr) (c4:Nat):aY := .blk b 99 (AB x A4 c4)
abbrev wU (b:Nat) (A0:Option Addr) (c0:Nat) (x0:List Ask) (A1:Option Addr) (c1:Nat) (x1:List ko):List aY:=[.blk b 67 [vS A0 x0.length c0,vS A1 x1.length c1],EC A0 c0 x0,zx A1 c1 x1]
abbrev Hl (b:Nat) (x:di) (A0:Option Addr) (c0:Nat) (A1:Option Addr) (c1:Nat):List aY:=wU b A0 c0 x.asks A1 c1 x.bad
abbrev qZ (b:Nat) (A0:Option Addr) (c0:Nat) (x0:List ByteArray) (b1:Nat) (x1:List (ByteArray×Int)) (A2:Option Addr) (c2:Nat) (x2:List Int) (b3:Nat) (x3:List (bI×Unit)) (b4:Nat) (x4:List (ByteArray×(List Int))):List aY:=[.blk b 123 [vS A0 x0.length c0,.map (some b1),vS A2 x2.length c2,.map (some b3),.map (some b4)],Rw9 A0 c0 x0,uk b1 x1,Rw3 A2 c2 x2,ul b3 x3,yg b4 x4]
abbrev Dk (b:Nat) (x:aO) (A0:Option Addr) (c0:Nat) (b1:Nat) (A2:Option Addr) (c2:Nat) (b3:Nat) (b4:Nat):List aY:=qZ b A0 c0 x.keys b1 x.at_ A2 c2 x.types b3 x.facts b4 x.incs
theorem uo {H:BM} {x:Ask} {cs:List Value} (h:uj.rd H x cs):∃ A3 c3,cs=yE x A3 c3∧x.Base.length≤c3∧rdS (aJ .i64) H A3 x.Base:=by
 obtain ⟨_,_,rfl,rfl,⟨_,_,rfl,rfl,⟨_,_,rfl,rfl,⟨A0,c0,rfl,l0,r0⟩⟩⟩⟩:=h;exact ⟨A0,c0,rfl,l0,r0⟩
theorem lq {H:BM} {x:Txn} {cs:List Value} (h:jq.rd H x cs):∃ A4 c4,cs=um x A4 c4∧x.Ops.length≤c4∧rdS kOp H A4 x.Ops:=by
 obtain ⟨_,_,rfl,rfl,⟨_,_,rfl,rfl,⟨_,_,rfl,rfl,⟨_,_,rfl,rfl,⟨A0,c0,rfl,l0,r0⟩⟩⟩⟩⟩:=h;exact ⟨A0,c0,rfl,l0,r0⟩
theorem Dl {H:BM} {x:Op} {cs:List Value} (h:kOp.rd H x cs):∃ A4 c4,cs=zz x A4 c4∧x.Vals.length≤c4∧rdS (aJ .i64) H A4 x.Vals:=by
 obtain ⟨_,_,rfl,rfl,⟨_,_,rfl,rfl,⟨_,_,rfl,rfl,⟨_,_,rfl,rfl,⟨A0,c0,rfl,l0,r0⟩⟩⟩⟩⟩:=h;exact ⟨A0,c0,rfl,l0,r0⟩
theorem EE {H:BM} {x:Event} {cs:List Value} (h:Ay.rd H x cs):∃ A2 c2,cs=Di x A2 c2∧x.Calls.length≤c2∧rdS ui H A2 x.Calls:=by
 obtain ⟨_,_,rfl,rfl,⟨_,_,rfl,rfl,⟨A0,c0,rfl,l0,r0⟩⟩⟩:=h;exact ⟨A0,c0,rfl,l0,r0⟩
theorem Gy {H:BM} {x:Call} {cs:List Value} (h:ui.rd H x cs):∃ A4 c4,cs=AB x A4 c4∧x.Vals.length≤c4∧rdS (aJ .i64) H A4 x.Vals:=by
 obtain ⟨_,_,rfl,rfl,⟨_,_,rfl,rfl,⟨_,_,rfl,rfl,⟨_,_,rfl,rfl,⟨A0,c0,rfl,l0,r0⟩⟩⟩⟩⟩:=h;exact ⟨A0,c0,rfl,l0,r0⟩
theorem Gq (x:Ask) {R3:List aY} {c3:List Value} (h3:Mk (bv 2 (aJ .i64)) R3 x.Base c3):Mk uj ([]++([]++([]++R3))) x ([vI x.Txn]++([vI x.Place]++([vI x.Key]++c3))):=xI (g:=fun g:Ask=>(g.Txn,g.Place,g.Key,g.Base)) (x:=x) (fO (kV _ _ rfl) (fO (kV _ _ rfl) (fO (kV _ _ rfl) h3)))
theorem Dm (x:Txn) {R4:List aY} {c4:List Value} (h4:Mk (bv 76 kOp) R4 x.Ops c4):Mk jq ([]++([]++([]++([]++R4)))) x ([vI x.Proc]++([vI x.Status]++([vI x.From]++([vI x.To]++c4)))):=xI (g:=fun g:Txn=>(g.Proc,g.Status,g.From,g.To,g.Ops)) (x:=x) (fO (kV _ _ rfl) (fO (kV _ _ rfl) (fO (kV _ _ rfl) (fO (kV _ _ rfl) h4))))
theorem Dn (x:Op) {R4:List aY} {c4:List Value} (h4:Mk (bv 2 (aJ .i64)) R4 x.Vals c4):Mk kOp ([]++([]++([]++([]++R4)))) x ([vI x.Kind]++([vI x.Key]++([vI x.Arg]++([vB x.Got]++c4)))):=xI (g:=fun g:Op=>(g.Kind,g.Key,g.Arg,g.Got,g.Vals)) (x:=x) (fO (kV _ _ rfl) (fO (kV _ _ rfl) (fO (kV _ _ rfl) (fO (kV _ _ rfl) h4))))
def iY (a0:List ByteArray) (a1:ByteArray):Int→Option (Int ⊕ Int)
 | a2=>bif decide (a2 < (a0.length:Int)) then must (0≤a2∧a2 < (a0.length:Int)) (bif sEq a1 (idx a0 a2) then out (some a2) else (some (.inl (w64 (a2 + 1))))) else (out (some (-1)))
def slices_Index_string (a0:List ByteArray) (a1:ByteArray):Option Int :=
 iter (iY a0 a1) 0
def slices_Contains_string (a0:List ByteArray) (a1:ByteArray):Option Bool :=
 (slices_Index_string a0 a1).bind fun y3=>some (decide (y3 ≥ 0))
def kH:Option aO :=
 some (⟨([]:List ByteArray),([]:List (ByteArray×Int)),([]:List Int),([]:List (bI×Unit)),([]:List (ByteArray×(List Int)))⟩:aO)
def qm (a0:Int):Option (Int×Int) :=
 bif (a0 == 5) then some (0,1) else (bif (a0 == 8) then some (1,1) else (some (0,64)))
def mF (a0:Call) (a1:Int) (a2:Bool):Option (Int ⊕ Bool) :=
 bif a2 then must (0≤w64 (a1 - 1)∧w64 (a1 - 1) < (a0.Vals.length:Int)) (must (0≤a1∧a1 < (a0.Vals.length:Int)) (bif decide (idx a0.Vals (w64 (a1 - 1)) ≥ idx a0.Vals a1) then out (some false) else (some (.inl (w64 (a1 + 1)))))) else (out (some true))
def mG (a0:Call):Int→Option (Int ⊕ Bool)
 | a1=>bif (a0.Kind == 7) then mF a0 a1 (decide (a1 < (a0.Vals.length:Int))) else (mF a0 a1 false)
def mH (a0:Call) (a1:Bool):Option Bool :=
 bif a1 then some false else (iter (mG a0) 1)
def mI (a0:Call) (a2:Bool):Option Bool :=
 bif a2 then some false else (bif !a0.Got then some ((a0.Vals.length:Int) == 0) else ((qm a0.Kind).bind fun a1=>bif decide ((a0.Vals.length:Int) < a1.1) then mH a0 true else (mH a0 (decide ((a0.Vals.length:Int) > a1.2)))))
def jo (a0:Call) (a1:Int) (a2:Bool):Option Bool :=
 bif a2 then some false else (bif decide (a0.Kind≤4) then bif !a0.Got then bif ((a0.Vals.length:Int) == 0) then bif (a0.Kind != 4) then some true else (bif decide ((-1048576)≤a0.Arg) then some (decide (a0.Arg≤1048576)) else (some false)) else (some false) else (some false) else (bif (a0.Arg != 0) then mI a0 true else (mI a0 (a0.Got != (a1 == 1)))))
def bu (a0:Call) (a1:Int):Option Bool :=
 bif decide (a0.Kind < 1) then jo a0 a1 true else (bif decide (a0.Kind > 8) then jo a0 a1 true else (bif sEq a0.Key (⟨#[]⟩:ByteArray) then jo a0 a1 true else (jo a0 a1 (decide ((a0.Key.size:Int) > 32)))))
def nI (a0:Call) (a1:Event):Option Bool :=
 (bu a0 a1.Kind).bind fun y5=>some (!y5)
def dL (a0:List Call) (a1c0:Event):Int→Option (Int ⊕ Int)
 | a1=>bif decide (a1 < (a0.length:Int)) then must (0≤a1∧a1 < (a0.length:Int)) ((nI (idx a0 a1) a1c0).bind fun a2=>bif a2 then out (some a1) else (some (.inl (w64 (a1 + 1))))) else (out (some (-1)))
def aW (a0:List Call) (a1c0:Event):Option Int :=
 iter (dL a0 a1c0) 0
def bO (a0:List Call) (a1c0:Event):Option Bool :=
 (aW a0 a1c0).bind fun y3=>some (decide (y3 ≥ 0))
def kD (a0:List Event) (a1:Int) (a2:Bool):Option (Int ⊕ Int) :=
 bif a2 then out (some 1) else ((bO ((idx a0 a1).Calls) (idx a0 a1)).bind fun a3=>bif a3 then out (some 1) else (some (.inl (w64 (a1 + 1)))))
def pF (a0:List Event):Int→Option (Int ⊕ Int)
 | a1=>bif decide (a1 < (a0.length:Int)) then must (0≤a1∧a1 < (a0.length:Int)) (bif decide ((idx a0 a1).Kind < 0) then kD a0 a1 true else (bif decide ((idx a0 a1).Kind > 3) then kD a0 a1 true else (kD a0 a1 (decide ((((idx a0 a1).Calls).length:Int) > 16))))) else (out (some 0))
def dR (a0:List Event):Option Int :=
 bif decide ((a0.length:Int) > 256) then some 1 else (iter (pF a0) 0)
def nQ (a0:History) (a1:Txn) (a3:List Call) (a2:Int):Option ((List Call×Int) ⊕ (Event×Bool)) :=
 some (.inl (a3++([(⟨(idx a1.Ops a2).Kind,idx a0.Keys ((idx a1.Ops a2).Key),(idx a1.Ops a2).Arg,(idx a1.Ops a2).Got,(idx a1.Ops a2).Vals⟩:Call)]:List Call),w64 (a2 + 1)))
def lu (a0:History) (a1:Txn) (a2:List Call) (a3:Int) (a4:Bool):Option ((List Call×Int) ⊕ (Event×Bool)) :=
 bif a4 then out (some ((⟨0,a1.Status,a2⟩:Event),false)) else (must (0≤(idx a1.Ops a3).Key∧(idx a1.Ops a3).Key < (a0.Keys.length:Int)) (must (((a2.length + 1) + (a2.length + 1) / 4 + 192) * 64≤281474976710656∧a2.length + 1≤9223372036854775807) (nQ a0 a1 a2 a3)))
def nR (a0:History) (a1:Txn):(List Call×Int)→Option ((List Call×Int) ⊕ (Event×Bool))
 | (a3,a2)=>bif decide (a2 < (a1.Ops.length:Int)) then must (0≤a2∧a2 < (a1.Ops.length:Int)) (bif decide ((idx a1.Ops a2).Key < 0) then lu a0 a1 a3 a2 true else (lu a0 a1 a3 a2 (decide ((idx a1.Ops a2).Key ≥ (a0.Keys.length:Int))))) else ((dR ([(⟨0,a1.Status,a3⟩:Event)]:List Event)).bind fun a4=>out (some ((⟨0,a1.Status,a3⟩:Event),(a4 == 0))))
def cZ (a0:History) (a1:Txn):Option (Event×Bool) :=
 iter (nR a0 a1) ([],0)
def lv (a0:Txn) (a1:Txn):Option Bool :=
 bif (a0.Proc == a1.Proc) then bif (a0.To == (-1)) then some true else (some (decide (a0.To ≥ a1.From))) else (some false)
def dI (a0:List Txn) (a1c0:Txn):Int→Option (Int ⊕ Int)
 | a1=>bif decide (a1 < (a0.length:Int)) then must (0≤a1∧a1 < (a0.length:Int)) ((lv (idx a0 a1) a1c0).bind fun a2=>bif a2 then out (some a1) else (some (.inl (w64 (a1 + 1))))) else (out (some (-1)))
def aS (a0:List Txn) (a1c0:Txn):Option Int :=
 iter (dI a0 a1c0) 0
def bL (a0:List Txn) (a1c0:Txn):Option Bool :=
 (aS a0 a1c0).bind fun y3=>some (decide (y3 ≥ 0))
def jg (a0:List Txn) (a1:Txn) (a3:Bool):Option Bool :=
 bif a3 then some false else ((bL a0 a1).bind fun a2=>some (!a2))
def kI (a0:List Txn) (a1:Txn):Option Bool :=
 bif decide (a1.From < 0) then jg a0 a1 true else (bif decide ((a0.length:Int) > 0) then must (0≤w64 ((a0.length:Int) - 1)∧w64 ((a0.length:Int) - 1) < (a0.length:Int)) (jg a0 a1 (decide ((idx a0 (w64 ((a0.length:Int) - 1))).From ≥ a1.From))) else (jg a0 a1 false))
def kJ (a0:List Txn) (a1:Txn) (a2:Bool):Option Bool :=
 bif a2 then some false else (kI a0 a1)
def kK (a0:List Txn) (a1:Txn) (a2:Bool):Option Bool :=
 bif a2 then bif decide (a1.To≤a1.From) then some false else (kI a0 a1) else (bif (a1.Status == 3) then bif (a1.To != (-1)) then kJ a0 a1 (decide (a1.To≤a1.From)) else (kJ a0 a1 false) else (some false))
def bn (a0:List Txn) (a1:Txn):Option Bool :=
 bif (a1.Status == 1) then kK a0 a1 (a1.Status == 1) else (kK a0 a1 (a1.Status == 2))
def jU (a0:Int):Option Int :=
 some (w64 ((rZ .i64 (w64 (a0 - 1)) 3) + 1))
def eO (a3:List ByteArray) (a4:List (ByteArray×Int)) (a1:List Int) (a2:List (bI×Unit)) (a5:List (ByteArray×(List Int))):Option (Int×aO) :=
 some (0,(⟨a3,a4,a1,a2,a5⟩:aO))
def jr (a0:aO) (a1:Call) (a2:List ByteArray) (a4:List (ByteArray×Int)) (a3:List Int):Option (Int×aO) :=
 bif jl a0.facts (⟨a1.Key,a1.Arg⟩:bI) then some (3,(⟨a2,a4,a3,a0.facts,a0.incs⟩:aO)) else (eO a2 a4 a3 (eB a0.facts (⟨a1.Key,a1.Arg⟩:bI) ()) a0.incs)
def gm (a0:aO) (a1:Call) (a3:List ByteArray) (a5:List (ByteArray×Int)) (a4:List Int) (a2:List (ByteArray×(List Int))):Option (Int×aO) :=
 bif decide (((mat a2 a1.Key).length:Int) > 8) then some (51,(⟨a3,a5,a4,a0.facts,a2⟩:aO)) else (eO a3 a5 a4 a0.facts a2)
def gp (a0:aO) (a1:Call) (a2:Int) (a3:List ByteArray) (a5:List (ByteArray×Int)) (a4:List Int) (a6:Bool):Option (Int×aO) :=
 bif a6 then must (((((mat a0.incs a1.Key).length) + 1) + (((mat a0.incs a1.Key).length) + 1) / 4 + 192) * 8≤281474976710656∧((mat a0.incs a1.Key).length) + 1≤9223372036854775807) (gm a0 a1 a3 a5 a4 (eB a0.incs a1.Key ((mat a0.incs a1.Key)++([a2]:List Int)))) else (gm a0 a1 a3 a5 a4 a0.incs)
def gq (a0:aO) (a1:Call) (a2:Int) (a3:List ByteArray) (a5:List (ByteArray×Int)) (a4:List Int) (a6:Bool):Option (Int×aO) :=
 bif a6 then jr a0 a1 a3 a5 a4 else (bif (a1.Kind == 4) then bif (((mat a0.incs a1.Key).length:Int) == 0) then gp a0 a1 a2 a3 a5 a4 true else (must (0≤w64 (((mat a0.incs a1.Key).length:Int) - 1)∧w64 (((mat a0.incs a1.Key).length:Int) - 1) < ((mat a0.incs a1.Key).length:Int)) (gp a0 a1 a2 a3 a5 a4 (idx (mat a0.incs a1.Key) (w64 (((mat a0.incs a1.Key).length:Int) - 1)) != a2))) else (eO a3 a5 a4 a0.facts a0.incs))
def eP (a0:aO) (a1:Call) (a2:Int) (a4:List ByteArray) (a5:List (ByteArray×Int)) (a3:List Int) (a6:Int):Option (Int×aO) :=
 must (0≤a6∧a6 < (a3.length:Int)) ((jU a1.Kind).bind fun a7=>bif (idx a3 a6 != a7) then some (50,(⟨a4,a5,a3,a0.facts,a0.incs⟩:aO)) else (bif (a1.Kind == 2) then gq a0 a1 a2 a4 a5 a3 (a1.Kind == 2) else (gq a0 a1 a2 a4 a5 a3 (a1.Kind == 3))))
def jv (a0:aO) (a1:Call) (a2:Int):Option (Int×aO) :=
 (jU a1.Kind).bind fun a3=>must (((a0.types.length + 1) + (a0.types.length + 1) / 4 + 192) * 8≤281474976710656∧a0.types.length + 1≤9223372036854775807) (eP a0 a1 a2 (a0.keys++([a1.Key]:List ByteArray)) (eB a0.at_ a1.Key (a0.keys.length:Int)) (a0.types++([a3]:List Int)) (a0.keys.length:Int))
def av (a0:aO) (a1:Call) (a2:Int):Option (Int×aO) :=
 bif !(jl a0.at_ a1.Key) then bif ((a0.keys.length:Int) == 32) then some (2,a0) else (must (((a0.keys.length + 1) + (a0.keys.length + 1) / 4 + 192) * 16≤281474976710656∧a0.keys.length + 1≤9223372036854775807) (jv a0 a1 a2)) else (eP a0 a1 a2 a0.keys a0.at_ a0.types (mat a0.at_ a1.Key))
def jH (a1:Int) (a2:Bool):Option (Int ⊕ Int) :=
 bif a2 then out (some 1) else (some (.inl (w64 (a1 + 1))))
def lw (a4:Int) (a3:Event×Bool):(List ByteArray×(List (ByteArray×Int))×List Int×(List (bI×Unit))×(List (ByteArray×(List Int)))×Int)→Option ((List ByteArray×(List (ByteArray×Int))×List Int×(List (bI×Unit))×(List (ByteArray×(List Int)))×Int) ⊕ ((List ByteArray×(List (ByteArray×Int))×List Int×(List (bI×Unit))×(List (ByteArray×(List Int)))×Int) ⊕ (Int ⊕ Int)))
 | (a9,a5,a8,a7,a6,a2)=>bif decide (a2 < (a3.1.Calls.length:Int)) then must (0≤a2∧a2 < (a3.1.Calls.length:Int)) ((av (⟨a9,a5,a8,a7,a6⟩:aO) (idx a3.1.Calls a2) a4).bind fun a1=>bif (a1.1 != 0) then out (out (out (some 1))) else (some (.inl (a1.2.keys,a1.2.at_,a1.2.types,a1.2.facts,a1.2.incs,w64 (a2 + 1))))) else (out (some (.inl (a9,a5,a8,a7,a6,w64 (a4 + 1)))))
def lC (a1:List ByteArray) (a6:List (ByteArray×Int)) (a4:List Int) (a8:List (bI×Unit)) (a7:List (ByteArray×(List Int))) (a3:Int) (a5:Event×Bool) (a2:Bool):Option ((List ByteArray×(List (ByteArray×Int))×List Int×(List (bI×Unit))×(List (ByteArray×(List Int)))×Int) ⊕ (Int ⊕ Int)) :=
 bif a2 then out (out (some 1)) else (iter (lw a3 a5) (a1,a6,a4,a8,a7,0))
def jI (a0:History):(List ByteArray×(List (ByteArray×Int))×List Int×(List (bI×Unit))×(List (ByteArray×(List Int)))×Int)→Option ((List ByteArray×(List (ByteArray×Int))×List Int×(List (bI×Unit))×(List (ByteArray×(List Int)))×Int) ⊕ (Int ⊕ Int))
 | (a3,a5,a4,a7,a6,a1)=>bif decide (a1 < (a0.Txns.length:Int)) then must (0≤a1∧a1 < (a0.Txns.length:Int)) ((cZ a0 (idx a0.Txns a1)).bind fun a2=>bif !a2.2 then lC a3 a5 a4 a7 a6 a1 a2 true else (must (0≤(0:Int)∧(0:Int)≤a1∧a1≤(a0.Txns.length:Int)) ((bn (bV a0.Txns (0:Int) a1) (idx a0.Txns a1)).bind fun a8=>lC a3 a5 a4 a7 a6 a1 a2 (!a8)))) else (out (out (some 0)))
def nS (a0:History):Int→Option (Int ⊕ Int)
 | a1=>bif decide (a1 < (a0.Keys.length:Int)) then must (0≤a1∧a1 < (a0.Keys.length:Int)) (bif sEq (idx a0.Keys a1) (⟨#[]⟩:ByteArray) then jH a1 true else (bif decide (((idx a0.Keys a1).size:Int) > 32) then jH a1 true else (must (0≤(0:Int)∧(0:Int)≤a1∧a1≤(a0.Keys.length:Int)) ((slices_Contains_string (bV a0.Keys (0:Int) a1) (idx a0.Keys a1)).bind fun a3=>jH a1 a3)))) else ((kH).bind fun a2=>iter (jI a0) (a2.keys,a2.at_,a2.types,a2.facts,a2.incs,0))
def lD (a0:History) (b7:Bool):Option Int :=
 bif b7 then some 1 else (iter (nS a0) 0)
def aG (a0:History):Option Int :=
 bif decide ((a0.Keys.length:Int) > 32) then lD a0 true else (lD a0 (decide ((a0.Txns.length:Int) > 32)))
def dJ (a0:List Int):Option (List Int) :=
 must (a0.length * 8≤140737488355328) (some a0)
def gV (a0:Int):Option Int :=
 bif (a0 == 1) then some 164 else (bif (a0 == 2) then some 165 else (bif (a0 == 3) then some 166 else (bif (a0 == 4) then some 167 else (some (-1)))))
def gW (a0:Unit) (a1:List Int):Option Bool :=
 some (decide ((a1.length:Int)≤1))
def jV (a0:Unit) (a1:List Int):Option Bool :=
 some (decide ((a1.length:Int)≤64))
def kW (a1:List Int):Int→Option (Int ⊕ Bool)
 | a2=>bif decide (a2 < (a1.length:Int)) then must (0≤w64 (a2 - 1)∧w64 (a2 - 1) < (a1.length:Int)) (must (0≤a2∧a2 < (a1.length:Int)) (bif decide (idx a1 (w64 (a2 - 1)) ≥ idx a1 a2) then out (some false) else (some (.inl (w64 (a2 + 1)))))) else (out (some (decide ((a1.length:Int)≤64))))
def dP (a0:Unit) (a1:List Int):Option Bool :=
 iter (kW a1) 1
def iH (a0:Unit) (a1:List Int):Option Bool :=
 some ((a1.length:Int) == 1)
def gX (a0:Int) (a1:List Int):Option Int :=
 (gV a0).bind fun y8=>bif (y8 == (164:Int)) then (gW () a1).bind fun a3=>bif !a3 then some 80 else (some 0) else (bif (y8 == (165:Int)) then (jV () a1).bind fun a4=>bif !a4 then some 80 else (some 0) else (bif (y8 == (166:Int)) then (dP () a1).bind fun a2=>bif !a2 then some 80 else (some 0) else (bif (y8 == (167:Int)) then (iH () a1).bind fun a5=>bif !a5 then some 80 else (some 0) else (bif (y8 == ((-1):Int)) then some 1 else none))))
def dW (a0:Unit) (a1:List Int) (a2:List Int):Option (List Int×Bool) :=
 bif ((a1.length:Int) == 1) then must (0≤(0:Int)∧(0:Int) < (a1.length:Int)) (must (0≤w64 ((a2.length:Int) - 1)∧w64 ((a2.length:Int) - 1) < (a2.length:Int)) (some (([]:List Int),(idx a1 (0:Int) == idx a2 (w64 ((a2.length:Int) - 1)))))) else (some (([]:List Int),false))
def ma (a0:List Int) (a1:List Int):Int→Option (Int ⊕ Bool)
 | a2=>bif decide (a2 < (a0.length:Int)) then must (0≤a2∧a2 < (a0.length:Int)) (must (0≤a2∧a2 < (a1.length:Int)) (bif (idx a0 a2 != idx a1 a2) then out (some false) else (some (.inl (w64 (a2 + 1)))))) else (out (some true))
def dD (a0:List Int) (a1:List Int):Option Bool :=
 bif ((a0.length:Int) != (a1.length:Int)) then some false else (iter (ma a0 a1) 0)
def eQ (a1:List Int) (a2:List Int) (a4:Bool):Option (List Int×Bool) :=
 bif a4 then some (([]:List Int),false) else (must (0≤(0:Int)∧(0:Int)≤(w64 ((a1.length:Int) - (a2.length:Int)))∧(w64 ((a1.length:Int) - (a2.length:Int)))≤(a1.length:Int)) ((dJ (bV a1 (0:Int) (w64 ((a1.length:Int) - (a2.length:Int))))).bind fun a3=>some (a3,true)))
def bX (a0:Unit) (a1:List Int) (a2:List Int):Option (List Int×Bool) :=
 bif decide (w64 ((a1.length:Int) - (a2.length:Int)) < 0) then eQ a1 a2 true else (must (0≤(w64 ((a1.length:Int) - (a2.length:Int)))∧(w64 ((a1.length:Int) - (a2.length:Int)))≤(a1.length:Int)∧(a1.length:Int)≤(a1.length:Int)) ((dD (bV a1 (w64 ((a1.length:Int) - (a2.length:Int))) (a1.length:Int)) a2).bind fun a3=>eQ a1 a2 (!a3)))
def jh (a0:Int):Option Bool :=
 some (a0 != a0)
def jJ (a0:Int) (a1:Int):Option Bool :=
 (jh a0).bind fun y7=>bif y7 then (jh a1).bind fun a2=>bif !a2 then some true else (some (decide (a0 < a1))) else (some (decide (a0 < a1)))
def fT (a0:Int):Option Bool :=
 some (a0 != a0)
def fD (a2:Int) (a1:Int):Option ((Int×Int) ⊕ (Int×Bool)) :=
 some (.inl (a2,a1))
def fE (a0:List Int) (a1:Int):(Int×Int)→Option ((Int×Int) ⊕ (Int×Bool))
 | (a2,a3)=>bif decide (a2 < a3) then must (0≤(1:Int)∧(1:Int) < (far:Int)) (must (0≤w64 (ow .u64 (IntKind.wrap .u64 (w64 (a2 + a3))) (1:Int))∧w64 (ow .u64 (IntKind.wrap .u64 (w64 (a2 + a3))) (1:Int)) < (a0.length:Int)) ((jJ (idx a0 (w64 (ow .u64 (IntKind.wrap .u64 (w64 (a2 + a3))) (1:Int)))) a1).bind fun a4=>bif a4 then fD (w64 ((w64 (ow .u64 (IntKind.wrap .u64 (w64 (a2 + a3))) (1:Int))) + 1)) a3 else (fD a2 (w64 (ow .u64 (IntKind.wrap .u64 (w64 (a2 + a3))) (1:Int)))))) else (bif decide (a2 < (a0.length:Int)) then must (0≤a2∧a2 < (a0.length:Int)) (bif (idx a0 a2 == a1) then out (some (a2,true)) else ((fT (idx a0 a2)).bind fun a6=>bif a6 then (fT a1).bind fun a5=>out (some (a2,a5)) else (out (some (a2,false))))) else (out (some (a2,false))))
def aV (a0:List Int) (a1:Int):Option (Int×Bool) :=
 iter (fE a0 a1) (0,(a0.length:Int))
def fF (a0:List Int) (a1 a2:Int):Option (List Int) :=
 must (0≤a1∧a1≤a2∧a2≤(a0.length:Int)) (some (a0.take a1.toNat++a0.drop a2.toNat))
def gY (a2:List Int):(List Int×Int)→Option ((List Int×Int) ⊕ (List Int×Bool))
 | (a4,a1)=>bif decide (a1 < (a2.length:Int)) then must (0≤a1∧a1 < (a2.length:Int)) ((aV a4 (idx a2 a1)).bind fun a3=>bif !a3.2 then out (some (([]:List Int),false)) else ((fF a4 a3.1 (w64 (a3.1 + 1))).bind fun a5=>some (.inl (a5,w64 (a1 + 1))))) else (out (some (a4,true)))
def dw (a0:Unit) (a1:List Int) (a2:List Int):Option (List Int×Bool) :=
 (dJ a1).bind fun y7=>iter (gY a2) (y7,0)
def eX (a2:List Int):(Int×Int)→Option ((Int×Int) ⊕ (List Int×Bool))
 | (a3,a1)=>bif decide (a1 < (a2.length:Int)) then must (0≤a1∧a1 < (a2.length:Int)) (some (.inl (w64 (a3 - (idx a2 a1)),w64 (a1 + 1)))) else (out (some (([a3]:List Int),true)))
def bY (a0:Unit) (a1:List Int) (a2:List Int):Option (List Int×Bool) :=
 must (0≤(0:Int)∧(0:Int) < (a1.length:Int)) (iter (eX a2) (idx a1 (0:Int),0))
def gQ (a0:Int) (a1:List Int) (a2:List Int) (b9:Bool):Option (List Int×Bool) :=
 bif b9 then some (([]:List Int),false) else ((gV a0).bind fun a3=>bif (a3 == (164:Int)) then (dW () a1 a2).bind fun a4=>some (a4.1,a4.2) else (bif (a3 == (165:Int)) then (bX () a1 a2).bind fun a7=>some (a7.1,a7.2) else (bif (a3 == (166:Int)) then (dw () a1 a2).bind fun a6=>some (a6.1,a6.2) else (bif (a3 == (167:Int)) then (bY () a1 a2).bind fun a5=>some (a5.1,a5.2) else (bif (a3 == ((-1):Int)) then none else none)))))
def dQ (a0:Int) (a1:List Int) (a2:List Int):Option (List Int×Bool) :=
 (gX a0 a1).bind fun a3=>bif (a3 != 0) then gQ a0 a1 a2 true else (gQ a0 a1 a2 ((a2.length:Int) == 0))
def eu (a3:Int) (a2:List Ask) (a4:List ko) (a1:List (Int×(List Int))):Option ((List Ask×List ko×(List (Int×(List Int)))×Int) ⊕ di) :=
 some (.inl (a2,a4,a1,w64 (a3 + 1)))
def iI (a1:History) (a2:Int) (a4:List Ask) (a3:List ko) (a6:List (Int×(List Int))) (a5:Int) (a7:List Int) (a8:Bool):Option ((List Ask×List ko×(List (Int×(List Int)))×Int) ⊕ di) :=
 bif !a8 then must (((a3.length + 1) + (a3.length + 1) / 4 + 192) * 16≤281474976710656∧a3.length + 1≤9223372036854775807) (eu a5 a4 (a3++([(⟨a2,a5⟩:ko)]:List ko)) a6) else (must (((a4.length + 1) + (a4.length + 1) / 4 + 192) * 48≤281474976710656∧a4.length + 1≤9223372036854775807) (eu a5 (a4++([(⟨a2,a5,(idx ((idx a1.Txns a2).Ops) a5).Key,a7⟩:Ask)]:List Ask)) a3 a6))
def iL (a1:History) (a2:Int) (a6:List Ask) (a3:List ko) (a5:List (Int×(List Int))) (a7:Int) (a4:List Int×Bool) (a8:Bool):Option ((List Ask×List ko×(List (Int×(List Int)))×Int) ⊕ di) :=
 bif a8 then eu a7 a6 a3 a5 else (iI a1 a2 a6 a3 a5 a7 a4.1 a4.2)
def kr (a1:History) (a2:Int):(List Ask×List ko×(List (Int×(List Int)))×Int)→Option ((List Ask×List ko×(List (Int×(List Int)))×Int) ⊕ di)
 | (a6,a5,a4,a3)=>bif decide (a3 < (((idx a1.Txns a2).Ops).length:Int)) then must (0≤a3∧a3 < (((idx a1.Txns a2).Ops).length:Int)) (bif decide ((idx ((idx a1.Txns a2).Ops) a3).Kind≤4) then must (((((mat a4 ((idx ((idx a1.Txns a2).Ops) a3).Key)).length) + 1) + (((mat a4 ((idx ((idx a1.Txns a2).Ops) a3).Key)).length) + 1) / 4 + 192) * 8≤281474976710656∧((mat a4 ((idx ((idx a1.Txns a2).Ops) a3).Key)).length) + 1≤9223372036854775807) (eu a3 a6 a5 (eB a4 ((idx ((idx a1.Txns a2).Ops) a3).Key) ((mat a4 ((idx ((idx a1.Txns a2).Ops) a3).Key))++([(idx ((idx a1.Txns a2).Ops) a3).Arg]:List Int)))) else ((dJ ((idx ((idx a1.Txns a2).Ops) a3).Vals)).bind fun a8=>bif decide (((mat a4 ((idx ((idx a1.Txns a2).Ops) a3).Key)).length:Int) > 0) then (dQ (w64 (((idx ((idx a1.Txns a2).Ops) a3).Kind) - 4)) ((idx ((idx a1.Txns a2).Ops) a3).Vals) (mat a4 ((idx ((idx a1.Txns a2).Ops) a3).Key))).bind fun a7=>bif a7.2 then iL a1 a2 a6 a5 a4 a3 a7 ((idx ((idx a1.Txns a2).Ops) a3).Kind == 5) else (iL a1 a2 a6 a5 a4 a3 a7 false) else (iI a1 a2 a6 a5 a4 a3 a8 true))) else (out (some (⟨a6,a5⟩:di)))
def aN (a0:di) (a1:History) (a2:Int):Option di :=
 must (0≤a2∧a2 < (a1.Txns.length:Int)) (bif ((idx a1.Txns a2).Status != 1) then some a0 else (iter (kr a1 a2) (a0.asks,a0.bad,[],0)))
def qo (a0:History):(List Ask×List ko×Int)→Option ((List Ask×List ko×Int) ⊕ (di×Int))
 | (a4,a2,a1)=>bif decide (a1 < (a0.Txns.length:Int)) then (aN (⟨a4,a2⟩:di) a0 a1).bind fun a3=>some (.inl (a3.asks,a3.bad,w64 (a1 + 1))) else (out (some ((⟨a4,a2⟩:di),0)))
def gT (a0:History):Option (di×Int) :=
 (aG a0).bind fun a1=>bif (a1 != 0) then some ((⟨([]:List Ask),([]:List ko)⟩:di),a1) else (iter (qo a0) ([],[],0))
def dX (a0:History):Option (List Ask×Int) :=
 (gT a0).bind fun a1=>some (a1.1.asks,a1.2)
def pW (a0:History):Option (List ko×Int) :=
 (gT a0).bind fun a1=>some (a1.1.bad,a1.2)
def mP (a0:History) (a1:List Int) (a3:List (Int×Int)) (a2:Int) (a4:Bool):Option (((List (Int×Int))×Int) ⊕ (bA×Bool)) :=
 bif a4 then out (some ((⟨a0,a1,a3⟩:bA),false)) else (some (.inl (eB a3 (idx a1 a2) a2,w64 (a2 + 1))))
def oP (a0:History) (a1:List Int) (a3:List (Int×Int)) (a4:Int) (a2:Bool):Option (Int ⊕ (((List (Int×Int))×Int) ⊕ (bA×Bool))) :=
 bif a2 then out (out (some ((⟨a0,a1,a3⟩:bA),false))) else (some (.inl (w64 (a4 + 1))))
def oQ (a0:History) (a1:List Int) (a3:List (Int×Int)):Int→Option (Int ⊕ (((List (Int×Int))×Int) ⊕ (bA×Bool)))
 | a2=>bif decide (a2 < (a0.Txns.length:Int)) then must (0≤a2∧a2 < (a0.Txns.length:Int)) (bif !(jl a3 a2) then oP a0 a1 a3 a2 ((idx a0.Txns a2).Status == 1) else (oP a0 a1 a3 a2 false)) else (out (out (some ((⟨a0,a1,a3⟩:bA),true))))
def rq (a0:History) (a1:List Int):((List (Int×Int))×Int)→Option (((List (Int×Int))×Int) ⊕ (bA×Bool))
 | (a3,a2)=>bif decide (a2 < (a1.length:Int)) then must (0≤a2∧a2 < (a1.length:Int)) (bif decide (idx a1 a2 < 0) then mP a0 a1 a3 a2 true else (bif decide (idx a1 a2 ≥ (a0.Txns.length:Int)) then mP a0 a1 a3 a2 true else (must (0≤idx a1 a2∧idx a1 a2 < (a0.Txns.length:Int)) (mP a0 a1 a3 a2 ((idx a0.Txns (idx a1 a2)).Status == 2))))) else (bif ((a3.length:Int) != (a1.length:Int)) then out (some ((⟨a0,a1,a3⟩:bA),false)) else (iter (oQ a0 a1 a3) 0))
def dz (a0:History) (a1:List Int):Option (bA×Bool) :=
 iter (rq a0 a1) ([],0)
def fK (a2:Int) (a1:List (Int×Int)):Option (((List (Int×Int))×Int) ⊕ Bool) :=
 some (.inl (a1,w64 (a2 + 1)))
def fM (a0:bA) (a2:List (Int×Int)) (a1:Int) (a3:Bool):Option (((List (Int×Int))×Int) ⊕ Bool) :=
 bif a3 then out (some false) else (fK a1 (eB a2 ((idx a0.h.Txns a1).Proc) (wJ (mat a0.at_ a1) (mat a2 ((idx a0.h.Txns a1).Proc)))))
def iZ (a0:bA):((List (Int×Int))×Int)→Option (((List (Int×Int))×Int) ⊕ Bool)
 | (a2,a1)=>bif decide (a1 < (a0.h.Txns.length:Int)) then must (0≤a1∧a1 < (a0.h.Txns.length:Int)) (bif !(jl a0.at_ a1) then fK a1 a2 else (bif jl a2 ((idx a0.h.Txns a1).Proc) then fM a0 a2 a1 (decide (mat a2 ((idx a0.h.Txns a1).Proc) > mat a0.at_ a1)) else (fM a0 a2 a1 false))) else (out (some true))
def aR (a0:bA):Option Bool :=
 iter (iZ a0) ([],0)
def lF (a1:Int) (a2:List Int):Option ((List Int×Int) ⊕ (List Int)) :=
 some (.inl (a2,w64 (a1 + 1)))
def lG (a0:Txn) (a1:List Int) (a2:Int) (a3:Bool):Option ((List Int×Int) ⊕ (List Int)) :=
 bif a3 then must (((a1.length + 1) + (a1.length + 1) / 4 + 192) * 8≤281474976710656∧a1.length + 1≤9223372036854775807) (lF a2 (a1++([(idx a0.Ops a2).Arg]:List Int))) else (lF a2 a1)
def nT (a0:Txn) (a1:Int):(List Int×Int)→Option ((List Int×Int) ⊕ (List Int))
 | (a3,a2)=>bif decide (a2 < (a0.Ops.length:Int)) then must (0≤a2∧a2 < (a0.Ops.length:Int)) (bif ((idx a0.Ops a2).Key == a1) then lG a0 a3 a2 (decide ((idx a0.Ops a2).Kind≤4)) else (lG a0 a3 a2 false)) else (out (some a3))
def cB (a0:Txn) (a1:Int):Option (List Int) :=
 iter (nT a0 a1) ([],0)
def jK (a0:History) (a1:Int) (a2:Int) (a4:Bool):Option (List Int×Bool) :=
 bif a4 then some (([]:List Int),false) else (must (0≤a1∧a1 < (a0.Txns.length:Int)) ((cB (idx a0.Txns a1) a2).bind fun a3=>some (a3,decide ((a3.length:Int) > 0))))
def eD (a0:History) (a1:Int) (a2:Int):Option (List Int×Bool) :=
 bif decide (a1 < 0) then jK a0 a1 a2 true else (bif decide (a1 ≥ (a0.Txns.length:Int)) then jK a0 a1 a2 true else ((aG a0).bind fun a3=>jK a0 a1 a2 (a3 != 0)))
def iO (a0:bA) (a1:Ask) (a2:Int) (b9:Bool):Option Bool :=
 bif b9 then some false else ((eD a0.h a2 a1.Key).bind fun a3=>some a3.2)
def dH (a0:bA) (a1:Ask) (a2:Int):Option Bool :=
 bif !(jl a0.at_ a2) then iO a0 a1 a2 true else (iO a0 a1 a2 (decide (mat a0.at_ a2 ≥ mat a0.at_ a1.Txn)))
def pG (a0:History) (a1:Int) (a3:Int):Int→Option (Int ⊕ (Int ⊕ Int))
 | a2=>bif decide (a2 < (((idx a0.Txns a3).Ops).length:Int)) then must (0≤a2∧a2 < (((idx a0.Txns a3).Ops).length:Int)) (bif ((idx ((idx a0.Txns a3).Ops) a2).Key == a1) then (jU ((idx ((idx a0.Txns a3).Ops) a2).Kind)).bind fun a4=>out (out (some a4)) else (some (.inl (w64 (a2 + 1))))) else (out (some (.inl (w64 (a3 + 1)))))
def pI (a0:History) (a1:Int):Int→Option (Int ⊕ Int)
 | a2=>bif decide (a2 < (a0.Txns.length:Int)) then must (0≤a2∧a2 < (a0.Txns.length:Int)) (iter (pG a0 a1 a2) 0) else (out (some 0))
def dN (a0:History) (a1:Int):Option Int :=
 (aG a0).bind fun y8=>bif (y8 != 0) then some 0 else (iter (pI a0 a1) 0)
def lH (a0:List Int):Option (List Int):=must (a0.length < 4611686018427387904) (some (a0.mergeSort fun x y=>decide (x≤y)))
def gu (a1:List Int):Option (List Int) :=
 some a1
def jw (a2:List Int):(Int×Int)→Option ((Int×Int) ⊕ (List Int))
 | (a3,a1)=>bif decide (a1 < (a2.length:Int)) then must (0≤a1∧a1 < (a2.length:Int)) (some (.inl (w64 (a3 + (idx a2 a1)),w64 (a1 + 1)))) else (out (some ([a3]:List Int)))
def eT (a0:bA) (a1:Int) (a2:List Int):Option (List Int) :=
 (dN a0.h a1).bind fun a3=>bif (a3 == 1) then must (0≤(wJ 0 (w64 ((a2.length:Int) - 1)))∧(wJ 0 (w64 ((a2.length:Int) - 1)))≤(a2.length:Int)∧(a2.length:Int)≤(a2.length:Int)) (some (bV a2 (wJ 0 (w64 ((a2.length:Int) - 1))) (a2.length:Int))) else (bif (a3 == 3) then (lH a2).bind fun a4=>gu a4 else (bif (a3 == 4) then iter (jw a2) (0,0) else (gu a2)))
def gy (a2:Int) (a1:List Int):Option ((List Int×Int) ⊕ ((List Int×Int) ⊕ (List Int))) :=
 some (.inl (a1,w64 (a2 + 1)))
def gz (a0:bA) (a2:Int) (a4:Int) (a1:List Int) (a3:Int) (a5:Bool):Option ((List Int×Int) ⊕ ((List Int×Int) ⊕ (List Int))) :=
 bif a5 then must (((a1.length + 1) + (a1.length + 1) / 4 + 192) * 8≤281474976710656∧a1.length + 1≤9223372036854775807) (gy a3 (a1++([(idx ((idx a0.h.Txns (idx (bV a0.order (0:Int) (w64 ((mat a0.at_ a2) + 1))) a4)).Ops) a3).Arg]:List Int))) else (gy a3 a1)
def jy (a0:bA) (a1:Int) (a2:Int) (a3:Int):(List Int×Int)→Option ((List Int×Int) ⊕ ((List Int×Int) ⊕ (List Int)))
 | (a5,a4)=>bif decide (a4 < (((idx a0.h.Txns (idx (bV a0.order (0:Int) (w64 ((mat a0.at_ a2) + 1))) a3)).Ops).length:Int)) then must (0≤a4∧a4 < (((idx a0.h.Txns (idx (bV a0.order (0:Int) (w64 ((mat a0.at_ a2) + 1))) a3)).Ops).length:Int)) (bif ((idx ((idx a0.h.Txns (idx (bV a0.order (0:Int) (w64 ((mat a0.at_ a2) + 1))) a3)).Ops) a4).Key == a1) then gz a0 a2 a3 a5 a4 (decide ((idx ((idx a0.h.Txns (idx (bV a0.order (0:Int) (w64 ((mat a0.at_ a2) + 1))) a3)).Ops) a4).Kind≤4)) else (gz a0 a2 a3 a5 a4 false)) else (out (some (.inl (a5,w64 (a3 + 1)))))
def jA (a0:bA) (a1:Int) (a2:Int):(List Int×Int)→Option ((List Int×Int) ⊕ (List Int))
 | (a4,a3)=>bif decide (a3 < ((bV a0.order (0:Int) (w64 ((mat a0.at_ a2) + 1))).length:Int)) then must (0≤a3∧a3 < ((bV a0.order (0:Int) (w64 ((mat a0.at_ a2) + 1))).length:Int)) (must (0≤idx (bV a0.order (0:Int) (w64 ((mat a0.at_ a2) + 1))) a3∧idx (bV a0.order (0:Int) (w64 ((mat a0.at_ a2) + 1))) a3 < (a0.h.Txns.length:Int)) (iter (jy a0 a1 a2 a3) (a4,0))) else (out (eT a0 a1 a4))
def ax (a0:bA) (a1:Int) (a2:Int):Option (List Int) :=
 bif decide (a2 ≥ 0) then must (0≤(0:Int)∧(0:Int)≤(w64 ((mat a0.at_ a2) + 1))∧(w64 ((mat a0.at_ a2) + 1))≤(a0.order.length:Int)) (iter (jA a0 a1 a2) ([],0)) else (eT a0 a1 [])
def oU (a1:Exec) (a3:List Ask×Int) (a7:bA×Bool) (a2:Int) (a5:Bool):Option (Int ⊕ (Int×Int)) :=
 bif a5 then out (some (5,0)) else (must (0≤a2∧a2 < (a1.Picks.length:Int)) ((ax a7.1 ((idx a3.1 a2).Key) (idx a1.Picks a2)).bind fun a4=>(dD a4 ((idx a3.1 a2).Base)).bind fun a6=>bif !a6 then out (some (6,0)) else (some (.inl (w64 (a2 + 1))))))
def oV (a1:Exec) (a3:List Ask×Int) (a4:bA×Bool):Int→Option (Int ⊕ (Int×Int))
 | a2=>bif decide (a2 < (a3.1.length:Int)) then must (0≤a2∧a2 < (a3.1.length:Int)) (must (0≤a2∧a2 < (a1.Picks.length:Int)) (bif (idx a1.Picks a2 != (-1)) then (dH a4.1 (idx a3.1 a2) (idx a1.Picks a2)).bind fun a5=>oU a1 a3 a4 a2 (!a5) else (oU a1 a3 a4 a2 false))) else (out (some (0,0)))
def dY (a0:History) (a1:Exec):Option (Int×Int) :=
 (dX a0).bind fun a2=>bif (a2.2 != 0) then some (0,a2.2) else ((pW a0).bind fun a4=>bif decide ((a4.1.length:Int) > 0) then some (1,0) else ((dz a0 a1.Order).bind fun a3=>bif !a3.2 then some (2,0) else (bif ((a1.Picks.length:Int) != (a2.1.length:Int)) then some (3,0) else ((aR a3.1).bind fun a5=>bif !a5 then some (4,0) else (iter (oV a1 a2 a3) 0)))))
def jW (a1:Int) (a2:List Int):Option ((List Int×Int) ⊕ (List Int)) :=
 some (.inl (a2,w64 (a1 + 1)))
def jX (a1:List Int) (a2:Int) (a3:Bool):Option ((List Int×Int) ⊕ (List Int)) :=
 bif a3 then must (((a1.length + 1) + (a1.length + 1) / 4 + 192) * 8≤281474976710656∧a1.length + 1≤9223372036854775807) (jW a2 (a1++([a2]:List Int))) else (jW a2 a1)
def mo (a0:History) (a1:Int):(List Int×Int)→Option ((List Int×Int) ⊕ (List Int))
 | (a3,a2)=>bif decide (a2 < (a0.Txns.length:Int)) then must (0≤a2∧a2 < (a0.Txns.length:Int)) (bif ((idx a0.Txns a2).Status != 2) then (cB (idx a0.Txns a2) a1).bind fun a4=>jX a3 a2 (decide ((a4.length:Int) > 0)) else (jX a3 a2 false)) else (out (some a3))
def bK (a0:History) (a1:Int):Option (List Int) :=
 (aG a0).bind fun y8=>bif (y8 != 0) then some ([]:List Int) else (iter (mo a0 a1) ([],0))
def kM (a1:Int) (a2:List Int):Option ((List Int×Int) ⊕ ((List Int×List Int×List Int×Int×Int) ⊕ (bf×Int))) :=
 some (.inl (a2,w64 (a1 + 1)))
def kN (a0:History) (a1:Exec) (a7:List Int) (a6:List Int) (a5:Int) (a2:Int):(List Int×Int)→Option ((List Int×Int) ⊕ ((List Int×List Int×List Int×Int×Int) ⊕ (bf×Int)))
 | (a4,a3)=>bif decide (a3 < ((bV a1.Order (0:Int) a2).length:Int)) then must (0≤a3∧a3 < ((bV a1.Order (0:Int) a2).length:Int)) (must (0≤idx (bV a1.Order (0:Int) a2) a3∧idx (bV a1.Order (0:Int) a2) a3 < (a0.Txns.length:Int)) (must (0≤idx a1.Order a2∧idx a1.Order a2 < (a0.Txns.length:Int)) (bif ((idx a0.Txns (idx (bV a1.Order (0:Int) a2) a3)).Proc == (idx a0.Txns (idx a1.Order a2)).Proc) then must (0≤idx (bV a1.Order (0:Int) a2) a3∧idx (bV a1.Order (0:Int) a2) a3 < (far:Int)) (kM a3 (nD 32 a4 (idx a1.Order a2) (bOr .u32 (idx a4 (idx a1.Order a2)) (mX .u32 1 (idx (bV a1.Order (0:Int) a2) a3))))) else (kM a3 a4)))) else (must (0≤idx a1.Order a2∧idx a1.Order a2 < (far:Int)) (out (some (.inl ((nD 32 a7 (idx a1.Order a2) (w64 (a2 + 1))),(nD 32 a6 (idx a1.Order a2) a5),a4,bOr .u32 a5 (mX .u32 1 (idx a1.Order a2)),w64 (a2 + 1))))))
def kP (a1:Int) (a2:List Int):Option ((List Int×Int) ⊕ ((List Int×List Int×List Int×Int×Int) ⊕ (bf×Int))) :=
 some (.inl (a2,w64 (a1 + 1)))
def kQ (a1:Int) (a2:List (Int×Int)):Option (((List (Int×Int))×Int) ⊕ (((List (Int×Int))×Int) ⊕ ((List Int×Int) ⊕ ((List Int×List Int×List Int×Int×Int) ⊕ (bf×Int))))) :=
 some (.inl (a2,w64 (a1 + 1)))
def ng (a5:List Int) (a4:Int) (a2:List Int):((List (Int×Int))×Int)→Option (((List (Int×Int))×Int) ⊕ (((List (Int×Int))×Int) ⊕ ((List Int×Int) ⊕ ((List Int×List Int×List Int×Int×Int) ⊕ (bf×Int)))))
 | (a3,a1)=>bif decide (a1 < (a2.length:Int)) then must (0≤a1∧a1 < (a2.length:Int)) (must (0≤(idx a2 a1)∧(idx a2 a1) < ((32:Nat):Int)) (bif decide (idx a5 (idx a2 a1) > 0) then must (0≤idx a2 a1∧idx a2 a1 < (far:Int)) (kQ a1 (eB a3 a4 (bOr .u32 (mat a3 a4) (mX .u32 1 (idx a2 a1))))) else (kQ a1 a3))) else (out (some (.inl (a3,w64 (a4 + 1)))))
def ni (a0:History) (a1:Exec) (a8:List Ask×Int) (a4:List Int) (a5:List Int) (a6:List Int):((List (Int×Int))×Int)→Option (((List (Int×Int))×Int) ⊕ ((List Int×Int) ⊕ ((List Int×List Int×List Int×Int×Int) ⊕ (bf×Int))))
 | (a3,a2)=>bif decide (a2 < (a0.Keys.length:Int)) then (bK a0 a2).bind fun a7=>iter (ng a4 a2 a7) (a3,0) else (out (out (out (some ((⟨a0,a1,a8.1,a4,a5,a6,a3⟩:bf),0)))))
def nk (a0:History) (a1:Exec) (a3:List Ask×Int) (a6:List Int) (a5:List Int):(List Int×Int)→Option ((List Int×Int) ⊕ ((List Int×List Int×List Int×Int×Int) ⊕ (bf×Int)))
 | (a4,a2)=>bif decide (a2 < (a3.1.length:Int)) then must (0≤a2∧a2 < (a3.1.length:Int)) (must (0≤a2∧a2 < (a1.Picks.length:Int)) (bif decide (idx a1.Picks a2 ≥ 0) then must (0≤((idx a3.1 a2).Txn)∧((idx a3.1 a2).Txn) < ((32:Nat):Int)) (must (0≤idx a1.Picks a2∧idx a1.Picks a2 < (far:Int)) (kP a2 (nD 32 a4 ((idx a3.1 a2).Txn) (bOr .u32 (idx a4 ((idx a3.1 a2).Txn)) (mX .u32 1 (idx a1.Picks a2)))))) else (kP a2 a4))) else (iter (ni a0 a1 a3 a6 a5 a4) ([],0))
def nu (a0:History) (a1:Exec) (a6:List Ask×Int):(List Int×List Int×List Int×Int×Int)→Option ((List Int×List Int×List Int×Int×Int) ⊕ (bf×Int))
 | (a4,a3,a5,a7,a2)=>bif decide (a2 < (a1.Order.length:Int)) then must (0≤a2∧a2 < (a1.Order.length:Int)) (must (0≤(idx a1.Order a2)∧(idx a1.Order a2) < ((32:Nat):Int)) (must (0≤(0:Int)∧(0:Int)≤a2∧a2≤(a1.Order.length:Int)) (iter (kN a0 a1 a4 a3 a7 a2) (a5,0)))) else (iter (nk a0 a1 a6 a4 a3) (a5,0))
def kR (a0:History) (a1:Exec) (a2:Bool):Option (bf×Int) :=
 bif a2 then some ((default:bf),1) else ((dX a0).bind fun a3=>iter (nu a0 a1 a3) (([]:List Int),([]:List Int),([]:List Int),0,0))
def aH (a0:History) (a1:Exec):Option (bf×Int) :=
 (dY a0 a1).bind fun a2=>bif (a2.2 != 0) then kR a0 a1 true else (kR a0 a1 (a2.1 != 0))
def gZ (a2:Int) (a1:Int):Option ((Int×Int) ⊕ Int) :=
 some (.inl (a1,w64 (a2 + 1)))
def fq (a0:bf) (a2:Int) (a1:Int) (a3:Bool):Option ((Int×Int) ⊕ Int) :=
 bif a3 then must (0≤a1∧a1 < (a0.x.Picks.length:Int)) (must (0≤idx a0.x.Picks a1∧idx a0.x.Picks a1 < (far:Int)) (gZ a1 (bOr .u32 a2 (mX .u32 1 (idx a0.x.Picks a1))))) else (gZ a1 a2)
def jL (a0:bf) (a1:Int):(Int×Int)→Option ((Int×Int) ⊕ Int)
 | (a3,a2)=>bif decide (a2 < (a0.asks.length:Int)) then must (0≤a2∧a2 < (a0.asks.length:Int)) (must (0≤a1∧a1 < (a0.asks.length:Int)) (bif ((idx a0.asks a2).Txn == (idx a0.asks a1).Txn) then bif decide ((idx a0.asks a2).Place < (idx a0.asks a1).Place) then must (0≤a2∧a2 < (a0.x.Picks.length:Int)) (fq a0 a3 a2 (decide (idx a0.x.Picks a2 ≥ 0))) else (fq a0 a3 a2 false) else (fq a0 a3 a2 false))) else (out (some a3))
def aT (a0:bf) (a1:Int):Option Int :=
 iter (jL a0 a1) (0,0)
def kS {σ:Type} (a3:Int) (a2:Int) (a4:Bool) (a1:σ):Option ((Int×Int×σ) ⊕ σ) :=
 bif a4 then out (some a1) else (must (0≤(1:Int)∧(1:Int) < (far:Int)) (some (.inl (ow .u32 a3 (1:Int),w64 (a2 + 1),a1))))
def ny {σ:Type} (Y:σ→Int→Option (Bool×σ)):(Int×Int×σ)→Option ((Int×Int×σ) ⊕ σ)
 | (a1,a2,a3)=>bif (a1 != 0) then bif (rZ .u32 a1 1 == 1) then (Y a3 a2).bind fun a4=>kS a1 a2 (!a4.1) a4.2 else (kS a1 a2 false a3) else (out (some a3))
def cu {σ:Type} (Y:σ→Int→Option (Bool×σ)) (a1:Int) (s0:σ):Option σ :=
 iter (ny Y) (a1,0,s0)
def jM (a0:Int):Option Unit :=
 some ()
def jE (a0:bf):(Int ⊕ Unit)→Int→Option (Bool×(Int ⊕ Unit))
 | .inl a2,a1=>must (0≤a1∧a1 < ((32:Nat):Int)) (some (true,.inl (bOr .u32 a2 (idx a0.near a1))))
 | .inr _,_=>none
def lI (a2:Int):(Int ⊕ Unit)→Option (Int ⊕ Int)
 | .inl a1=>bif (a1 == a2) then out (some a2) else (some (.inl a1))
 | .inr _=>none
def lJ (a0:bf):Int→Option (Int ⊕ Int)
 | a1=>(jM a1).bind fun a3=>(cu (jE a0) a1 (.inl a1)).bind fun a2=>lI a1 a2
def bJ (a0:bf) (a1:Int):Option Int :=
 must (0≤a1∧a1 < ((32:Nat):Int)) (iter (lJ a0) (idx a0.near a1))
def ja (a0:bf):(Int ⊕ Unit)→Int→Option (Bool×(Int ⊕ Unit))
 | .inl a2,a1=>must (0≤a1∧a1 < ((32:Nat):Int)) (some (true,.inl (bOr .u32 a2 (idx a0.behind a1))))
 | .inr _,_=>none
def nU:(Int ⊕ Unit)→Option Int
 | .inl a1=>some a1
 | .inr _=>none
def bW (a0:bf) (a1:Int):Option Int :=
 (jM a1).bind fun a3=>(cu (ja a0) a1 (.inl a1)).bind fun a2=>nU a2
def dm.m1 (a0:bf) (a1:Int):Int→(Int×Int)→Option Int
 | a2,p62=>must (0≤a1∧a1 < (far:Int)) (bif (rZ .u32 (ow .u32 p62.2 a1) 1 == 1) then must (0≤a1∧a1 < ((32:Nat):Int)) (some (bOr .u32 a2 (rZ .u32 p62.2 (idx a0.behind a1)))) else (some a2))
def dm (a0:bf) (a1:Int):Option Int :=
 (uL (dm.m1 a0 a1) 0 a0.writes).bind fun a2=>some a2
def jN (a0:bf) (a1:Int) (a2:Int):Option Int :=
 must (0≤a2∧a2 < (a0.asks.length:Int)) (bif (a1 == 1) then (aT a0 a2).bind fun a3=>some a3 else (bif (a1 == 2) then must (0≤(idx a0.asks a2).Txn∧(idx a0.asks a2).Txn < (far:Int)) (bif (rZ .u32 (ow .u32 (mat a0.writes ((idx a0.asks a2).Key)) ((idx a0.asks a2).Txn)) 1 == 1) then must (0≤((idx a0.asks a2).Txn)∧((idx a0.asks a2).Txn) < ((32:Nat):Int)) (some (idx a0.behind ((idx a0.asks a2).Txn))) else ((aT a0 a2).bind fun a6=>some a6)) else (bif (a1 == 3) then must (0≤((idx a0.asks a2).Txn)∧((idx a0.asks a2).Txn) < ((32:Nat):Int)) (some (idx a0.near ((idx a0.asks a2).Txn))) else (bif (a1 == 4) then (bJ a0 ((idx a0.asks a2).Txn)).bind fun a8=>some a8 else (bif (a1 == 5) then must (0≤((idx a0.asks a2).Txn)∧((idx a0.asks a2).Txn) < ((32:Nat):Int)) ((bW a0 (idx a0.near ((idx a0.asks a2).Txn))).bind fun a5=>some a5) else (bif (a1 == 6) then must (0≤((idx a0.asks a2).Txn)∧((idx a0.asks a2).Txn) < ((32:Nat):Int)) ((dm a0 ((idx a0.asks a2).Txn)).bind fun a4=>(bW a0 (bOr .u32 (idx a0.near ((idx a0.asks a2).Txn)) a4)).bind fun a7=>some a7) else (must (0≤((idx a0.asks a2).Txn)∧((idx a0.asks a2).Txn) < ((32:Nat):Int)) (some (idx a0.behind ((idx a0.asks a2).Txn))))))))))
def iP (a1:Int):Option (Int ⊕ ((Int×Int×Int)×Bool)) :=
 some (.inl (w64 (a1 + 1)))
def ku (a0:bf) (a2:Int) (a3:Int):Int→Option (Int ⊕ (Int ⊕ ((Int×Int×Int)×Bool)))
 | a1=>bif decide (a1 < (a0.x.Order.length:Int)) then must (0≤a1∧a1 < (a0.x.Order.length:Int)) (must (0≤idx a0.x.Order a1∧idx a0.x.Order a1 < (far:Int)) (bif (rZ .u32 (ow .u32 a3 (idx a0.x.Order a1)) 1 == 1) then out (out (some (((idx a0.x.Order a1,idx a0.x.Picks a2,a2):Int×Int×Int),true))) else (some (.inl (w64 (a1 + 1)))))) else (out (iP a2))
def fG (a0:bf) (a1:Int) (a2:Int):Option (Int ⊕ ((Int×Int×Int)×Bool)) :=
 bif (a2 == 0) then iP a1 else (iter (ku a0 a1 a2) 0)
def kw (a0:bf) (a1:Int) (a2:Int):Option (Int ⊕ ((Int×Int×Int)×Bool)) :=
 bif decide (idx a0.x.Picks a1 ≥ 0) then must (0≤idx a0.x.Picks a1∧idx a0.x.Picks a1 < (far:Int)) (must (0≤(idx a0.x.Picks a1)∧(idx a0.x.Picks a1) < ((32:Nat):Int)) (fG a0 a1 (pz .u32 a2 (bOr .u32 (mX .u32 1 (idx a0.x.Picks a1)) (idx a0.behind (idx a0.x.Picks a1)))))) else (fG a0 a1 a2)
def ky (a0:bf) (a1:Int):Int→Option (Int ⊕ ((Int×Int×Int)×Bool))
 | a2=>bif decide (a2 < (a0.asks.length:Int)) then must (0≤a2∧a2 < (a0.asks.length:Int)) (must (0≤a2∧a2 < (a0.x.Picks.length:Int)) ((jN a0 a1 a2).bind fun a3=>must (0≤(idx a0.asks a2).Txn∧(idx a0.asks a2).Txn < (far:Int)) (kw a0 a2 (pz .u32 (rZ .u32 a3 (mat a0.writes ((idx a0.asks a2).Key))) (mX .u32 1 ((idx a0.asks a2).Txn)))))) else (out (some (((0,0,0):Int×Int×Int),false)))
def aK (a0:bf) (a1:Int):Option ((Int×Int×Int)×Bool) :=
 iter (ky a0 a1) 0
def fB (a2:Int) (a1:Int) (a3:Bool):Option (Int ⊕ (Int ⊕ ((Int×Int×Int)×Bool))) :=
 bif a3 then out (out (some (((a2,a1,(-1)):Int×Int×Int),true))) else (some (.inl (w64 (a1 + 1))))
def lK (a0:bf) (a2:Int):Int→Option (Int ⊕ (Int ⊕ ((Int×Int×Int)×Bool)))
 | a1=>bif decide (a1 < (a0.h.Txns.length:Int)) then must (0≤a1∧a1 < (a0.h.Txns.length:Int)) (bif ((idx a0.h.Txns a2).Status == 1) then bif decide ((idx a0.h.Txns a2).To < (idx a0.h.Txns a1).From) then must (0≤a1∧a1 < ((32:Nat):Int)) (bif decide (idx a0.at_ a1 > 0) then must (0≤a2∧a2 < ((32:Nat):Int)) (fB a2 a1 (decide (idx a0.at_ a1 < idx a0.at_ a2))) else (fB a2 a1 false)) else (fB a2 a1 false) else (fB a2 a1 false)) else (out (some (.inl (w64 (a2 + 1)))))
def lL (a0:bf):Int→Option (Int ⊕ ((Int×Int×Int)×Bool))
 | a1=>bif decide (a1 < (a0.h.Txns.length:Int)) then must (0≤a1∧a1 < (a0.h.Txns.length:Int)) (iter (lK a0 a1) 0) else (out (some (((0,0,0):Int×Int×Int),false)))
def bB (a0:bf):Option ((Int×Int×Int)×Bool) :=
 iter (lL a0) 0
def kT (a4:Int) (a2:Int) (a3:Int) (a1:Bool):Option ((Int×Int×Int)×Bool×Int) :=
 some (((a4,a2,a3):Int×Int×Int),a1,0)
def kU (a3:bf×Int) (a2:(Int×Int×Int)×Bool) (a4:Bool):Option ((Int×Int×Int)×Bool×Int) :=
 bif a4 then (bB a3.1).bind fun a1=>kT a1.1.1 a1.1.2.1 a1.1.2.2 a1.2 else (kT a2.1.1 a2.1.2.1 a2.1.2.2 a2.2)
def gU (a2:Int) (a1:bf×Int) (a4:Bool):Option ((Int×Int×Int)×Bool×Int) :=
 bif a4 then some (((0,0,0):Int×Int×Int),false,1) else ((aK a1.1 a2).bind fun a3=>bif !a3.2 then kU a1 a3 (a2 == 8) else (kU a1 a3 false))
def bG (a0:History) (a1:Exec) (a2:Int):Option ((Int×Int×Int)×Bool×Int) :=
 (aH a0 a1).bind fun a3=>bif (a3.2 != 0) then gU a2 a3 true else (bif decide (a2 < 1) then gU a2 a3 true else (gU a2 a3 (decide (a2 > 8))))
def jO (a0:History) (a1:Exec) (a2:Int):Option (Bool×Int) :=
 (bG a0 a1 a2).bind fun y8=>bif (y8.2.2 == 0) then some (!y8.2.1,y8.2.2) else (some (false,y8.2.2))
def jY (a0:Int):Option Op :=
 some (⟨5,0,0,true,([a0]:List Int)⟩:Op)
def mq:Option (History×Exec) :=
 (jY 1).bind fun a1=>(jY 1).bind fun a2=>some ((⟨([(⟨#[120]⟩:ByteArray)]:List ByteArray),([(⟨0,1,0,1,([(⟨1,0,1,false,([]:List Int)⟩:Op)]:List Op)⟩:Txn),(⟨1,1,2,5,([a1,(⟨1,0,2,false,([]:List Int)⟩:Op)]:List Op)⟩:Txn),(⟨2,1,3,4,([a2,(⟨1,0,3,false,([]:List Int)⟩:Op)]:List Op)⟩:Txn)]:List Txn)⟩:History),(⟨([0,1,2]:List Int),([0,0]:List Int)⟩:Exec))
def jF:Option Bool :=
 (mq).bind fun a2=>(bG a2.1 a2.2 7).bind fun a1=>(jO a2.1 a2.2 5).bind fun a3=>bif (a1.2.2 == 0) then bif a1.2.1 then bif ((a1.1.1 == 1) && ((a1.1.2.1 == 0) && ((a1.1.2.2 == 1) && true))) then bif (a3.2 == 0) then some a3.1 else (some false) else (some false) else (some false) else (some false)
def nJ (a1:Int) (a2:Bool):Option (Int ⊕ (Int ⊕ Bool)) :=
 bif a2 then out (out (some false)) else (some (.inl (w64 (a1 + 1))))
def qp (a0:History) (a1:List Int) (a2:Int):Int→Option (Int ⊕ (Int ⊕ Bool))
 | a3=>bif decide (a3 < ((bV a1 (w64 (a2 + 1)) (a1.length:Int)).length:Int)) then must (0≤a3∧a3 < ((bV a1 (w64 (a2 + 1)) (a1.length:Int)).length:Int)) (must (0≤idx (bV a1 (w64 (a2 + 1)) (a1.length:Int)) a3∧idx (bV a1 (w64 (a2 + 1)) (a1.length:Int)) a3 < (a0.Txns.length:Int)) (bif ((idx a0.Txns (idx (bV a1 (w64 (a2 + 1)) (a1.length:Int)) a3)).Status == 1) then must (0≤idx a1 a2∧idx a1 a2 < (a0.Txns.length:Int)) (nJ a3 (decide ((idx a0.Txns (idx (bV a1 (w64 (a2 + 1)) (a1.length:Int)) a3)).To < (idx a0.Txns (idx a1 a2)).From))) else (nJ a3 false))) else (out (some (.inl (w64 (a2 + 1)))))
def qw (a0:History) (a1:List Int) (a3:bA×Bool):Int→Option (Int ⊕ Bool)
 | a2=>bif decide (a2 < (a1.length:Int)) then must (0≤a2∧a2 < (a1.length:Int)) (must (0≤(w64 (a2 + 1))∧(w64 (a2 + 1))≤(a1.length:Int)∧(a1.length:Int)≤(a1.length:Int)) (iter (qp a0 a1 a2) 0)) else (out (some ((a3.1.order.length:Int) == (a1.length:Int))))
def dO (a0:History) (a1:List Int):Option Bool :=
 (aG a0).bind fun y8=>bif (y8 != 0) then some false else ((dz a0 a1).bind fun a2=>bif !a2.2 then some false else (iter (qw a0 a1 a2) 0))
def eY (a1:Int) (a2:Bool):Option ((Bool×Int) ⊕ Bool) :=
 some (.inl (a2,w64 (a1 + 1)))
def eZ (a2:Int) (a1:Int):Option ((Int×Int) ⊕ ((Bool×Int) ⊕ Bool)) :=
 some (.inl (a1,w64 (a2 + 1)))
def fe (a0:History) (a1:Exec) (a4:List Ask×Int) (a8:Bool) (a2:Int) (a5:Int) (a3:Int) (a6:Bool):Option ((Int×Int) ⊕ ((Bool×Int) ⊕ Bool)) :=
 bif a6 then must (0≤a3∧a3 < (a1.Order.length:Int)) (must (0≤a2∧a2 < (a4.1.length:Int)) ((eD a0 (idx a1.Order a3) ((idx a4.1 a2).Key)).bind fun a7=>bif a7.2 then eZ a3 (idx a1.Order a3) else (eZ a3 a5))) else (bif a8 then must (0≤a2∧a2 < (a1.Picks.length:Int)) (out (eY a2 (a5 == idx a1.Picks a2))) else (out (eY a2 false)))
def iD (a0:History) (a1:Exec) (a4:List Ask×Int) (a5:Bool) (a3:Int):(Int×Int)→Option ((Int×Int) ⊕ ((Bool×Int) ⊕ Bool))
 | (a6,a2)=>bif decide (a2 < (a1.Order.length:Int)) then must (0≤a2∧a2 < (a1.Order.length:Int)) (must (0≤a3∧a3 < (a4.1.length:Int)) (fe a0 a1 a4 a5 a3 a6 a2 (idx a1.Order a2 != (idx a4.1 a3).Txn))) else (fe a0 a1 a4 a5 a3 a6 a2 false)
def iE (a0:History) (a1:Exec) (a5:List Ask×Int):(Bool×Int)→Option ((Bool×Int) ⊕ Bool)
 | (a2,a6)=>bif decide (a6 < (a5.1.length:Int)) then iter (iD a0 a1 a5 a2 a6) ((-1),0) else ((jO a0 a1 7).bind fun a4=>(jO a0 a1 8).bind fun a3=>bif (a4.2 == 0) then bif (a3.2 == 0) then bif (a4.1 == a2) then bif a2 then (dO a0 a1.Order).bind fun a7=>out (some (a3.1 == a7)) else (out (some (a3.1 == false))) else (out (some false)) else (out (some false)) else (out (some false)))
def cO (a0:History) (a1:Exec) (a2:Int×Int) (a3:List Ask×Int) (a4:Bool):Option Bool :=
 bif a4 then bif (a2.2 != 0) then some true else (some (a2.1 != 0)) else (iter (iE a0 a1 a3) (true,0))
def au (a0:History) (a1:Exec):Option Bool :=
 (jF).bind fun a4=>bif !a4 then some false else ((dY a0 a1).bind fun a2=>(dX a0).bind fun a3=>bif (a2.2 != 0) then cO a0 a1 a2 a3 true else (bif (a2.1 != 0) then cO a0 a1 a2 a3 true else (bif (a3.2 != 0) then cO a0 a1 a2 a3 true else (cO a0 a1 a2 a3 ((a3.1.length:Int) != (a1.Picks.length:Int))))))
end
end Go.Proofs.YtmfgddafcgflaaaT
