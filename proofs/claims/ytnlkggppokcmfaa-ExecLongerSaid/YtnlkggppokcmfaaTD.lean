import Derived.Test.YtnlkggppokcmfaaY
namespace Go.Proofs.YtnlkggppokcmfaaT
open Go Go.Proofs Go.Proofs.YtnlkggppokcmfaaE
set_option linter.unusedVariables false
set_option linter.unusedSimpArgs false
set_option maxHeartbeats 0
set_option maxRecDepth 4096
structure bE where
 key:ByteArray
 arg:Int
 deriving Inhabited,DecidableEq
def bE.enc (x:bE):List Value:=[.string x.key,.int .i64 x.arg]
abbrev AC:Ty bE:=Ty.flat 2 bE.enc (fun _=>rfl) (fun _=>Bf rfl)
instance : Flat AC bE.enc:=⟨Iff.rfl,Iff.rfl⟩
structure aO where
 keys:List ByteArray
 at_:List (ByteArray×Int)
 types:List Int
 facts:List (bE×Unit)
 incs:List (ByteArray×(List Int))
 deriving Inhabited
structure Call where
 Kind:Int
 Key:ByteArray
 Arg:Int
 Got:Bool
 Vals:List Int
 deriving Inhabited
abbrev uP:Ty Call:=Ty.iso (bv (aB .i64) (bv ko (bv (aB .i64) (bv oG (bn 2 (aB .i64)))))) (fun g:Call=>(g.Kind,g.Key,g.Arg,g.Got,g.Vals))
abbrev qy (N:BM):Ty Call:=Ty.iso (bv (aB .i64) (bv ko (bv (aB .i64) (bv oG (Eb N (aB .i64)))))) (fun g:Call=>(g.Kind,g.Key,g.Arg,g.Got,g.Vals))
theorem Cc (N:BM):sU N (qy N) uP:=CE (qK qJ (qK qJ (qK qJ (qK qJ Bg))))
structure Event where
 Proc:Int
 Kind:Int
 Calls:List Call
 deriving Inhabited
abbrev AJ:Ty Event:=Ty.iso (bv (aB .i64) (bv (aB .i64) (bn 89 uP))) (fun g:Event=>(g.Proc,g.Kind,g.Calls))
structure Op where
 Kind:Int
 Key:Int
 Arg:Int
 Got:Bool
 Vals:List Int
 deriving Inhabited
abbrev kOp:Ty Op:=Ty.iso (bv (aB .i64) (bv (aB .i64) (bv (aB .i64) (bv oG (bn 2 (aB .i64)))))) (fun g:Op=>(g.Kind,g.Key,g.Arg,g.Got,g.Vals))
structure Txn where
 Proc:Int
 Status:Int
 From:Int
 To:Int
 Ops:List Op
 deriving Inhabited
abbrev nu:Ty Txn:=Ty.iso (bv (aB .i64) (bv (aB .i64) (bv (aB .i64) (bv (aB .i64) (bn 64 kOp))))) (fun g:Txn=>(g.Proc,g.Status,g.From,g.To,g.Ops))
structure History where
 Keys:List ByteArray
 Txns:List Txn
 deriving Inhabited
structure Ask where
 Txn:Int
 Place:Int
 Key:Int
 Base:List Int
 deriving Inhabited
abbrev CO:Ty Ask:=Ty.iso (bv (aB .i64) (bv (aB .i64) (bv (aB .i64) (bn 2 (aB .i64))))) (fun g:Ask=>(g.Txn,g.Place,g.Key,g.Base))
structure eU where
 Txn:Int
 Place:Int
 deriving Inhabited,DecidableEq
def eU.enc (x:eU):List Value:=[.int .i64 x.Txn,.int .i64 x.Place]
abbrev zK:Ty eU:=Ty.flat 2 eU.enc (fun _=>rfl) (fun _=>Bf rfl)
instance : Flat zK eU.enc:=⟨Iff.rfl,Iff.rfl⟩
structure dw where
 asks:List Ask
 bad:List eU
 deriving Inhabited
structure bq where
 h:History
 order:List Int
 at_:List (Int×Int)
 deriving Inhabited
structure Exec where
 Order:List Int
 Picks:List Int
 deriving Inhabited
structure ak where
 keys:List ByteArray
 types:List Int
 wrote:List (List Int)
 incs:List Int
 last_:List Int
 deriving Inhabited
structure jm where
 Key:Int
 Txn:Int
 deriving Inhabited,DecidableEq
def jm.enc (x:jm):List Value:=[.int .i64 x.Key,.int .i64 x.Txn]
abbrev wh:Ty jm:=Ty.flat 2 jm.enc (fun _=>rfl) (fun _=>Bf rfl)
instance : Flat wh jm.enc:=⟨Iff.rfl,Iff.rfl⟩
structure aX where
 txn:Int
 args:List Int
 deriving Inhabited
abbrev Rw2 (A:Option Addr) (c:Nat) (l:List Int):bB := .row (aB .i64) 2 A l.length c l
abbrev Rn2 (A:Option Addr) (n c:Nat) (l:List Int):bB := .row (aB .i64) 2 A n c l
abbrev Rw3 (A:Option Addr) (c:Nat) (l:List Int):bB := .row (aB .i64) 3 A l.length c l
abbrev Rn3 (A:Option Addr) (n c:Nat) (l:List Int):bB := .row (aB .i64) 3 A n c l
abbrev Rw9 (A:Option Addr) (c:Nat) (l:List ByteArray):bB := .row ko 9 A l.length c l
abbrev Rn9 (A:Option Addr) (n c:Nat) (l:List ByteArray):bB := .row ko 9 A n c l
abbrev Eh (A:Option Addr) (c:Nat) (l:List Ask):bB := .row CO 37 A l.length c l
abbrev Ei (A:Option Addr) (c:Nat) (l:List Txn):bB := .row nu 41 A l.length c l
abbrev Gj (A:Option Addr) (n c:Nat) (l:List Txn):bB := .row nu 41 A n c l
abbrev Ej (A:Option Addr) (n c:Nat) (l:List Op):bB := .row kOp 64 A n c l
abbrev zL (A:Option Addr) (c:Nat) (l:List eU):bB := .row zK 160 A l.length c l
abbrev Or2 (A:Option Addr) (c:Nat) (l:List Int):bB:=orA noM (aB .i64) 2 A l.length c l
abbrev yF (b:Nat) (m:List (Int×Int)):bB:=Aq (fun x:Int => .int .i64 x) (fun x:Int => .int .i64 x) b m
abbrev uQ (b:Nat) (m:List (ByteArray×Int)):bB:=Aq (fun x:ByteArray => .string x) (fun x:Int => .int .i64 x) b m
abbrev uR (b:Nat) (m:List (bE×Unit)):bB:=Aq (fun x:bE => .agg #[.string x.key,.int .i64 x.arg]) (fun _:Unit => .agg #[]) b m
abbrev yO (b:Nat) (m:List (ByteArray×(List Int))):bB:=oP (fun x:ByteArray => .string x) (bn 3 (aB .i64)) b m
abbrev CP (b:Nat) (m:List (Int×Int)):bB:=Aq (fun x:Int => .int .i64 x) (fun x:Int => .int .i64 x) b m
abbrev yP (b:Nat) (m:List (Int×(List Int))):bB:=oP (fun x:Int => .int .i64 x) (bn 2 (aB .i64)) b m
abbrev uS (x:History) (A0:Option Addr) (c0:Nat) (A1:Option Addr) (c1:Nat):List Value:=[vS A0 x.Keys.length c0,vS A1 x.Txns.length c1]
abbrev xc (x:History) (A0:Option Addr) (c0:Nat) (A1:Option Addr) (c1:Nat):Value := .agg (uS x A0 c0 A1 c1).toArray
abbrev gy (b:Nat) (x:History) (A0:Option Addr) (c0:Nat) (A1:Option Addr) (c1:Nat):bB := .blk b 25 (uS x A0 c0 A1 c1)
abbrev CQ (x:Ask) (A3:Option Addr) (c3:Nat):List Value:=[vI x.Txn,vI x.Place,vI x.Key,vS A3 x.Base.length c3]
abbrev GK (x:Ask) (A3:Option Addr) (c3:Nat):Value := .agg (CQ x A3 c3).toArray
abbrev Gl (b:Nat) (x:Ask) (A3:Option Addr) (c3:Nat):bB := .blk b 37 (CQ x A3 c3)
abbrev xI (x:Txn) (A4:Option Addr) (c4:Nat):List Value:=[vI x.Proc,vI x.Status,vI x.From,vI x.To,vS A4 x.Ops.length c4]
abbrev Ce (x:Txn) (A4:Option Addr) (c4:Nat):Value := .agg (xI x A4 c4).toArray
abbrev CR (b:Nat) (x:Txn) (A4:Option Addr) (c4:Nat):bB := .blk b 41 (xI x A4 c4)
abbrev El (x:Exec) (A0:Option Addr) (c0:Nat) (A1:Option Addr) (c1:Nat):List Value:=[vS A0 x.Order.length c0,vS A1 x.Picks.length c1]
abbrev Gm (x:Exec) (A0:Option Addr) (c0:Nat) (A1:Option Addr) (c1:Nat):Value := .agg (El x A0 c0 A1 c1).toArray
abbrev kX (b:Nat) (x:Exec) (A0:Option Addr) (c0:Nat) (A1:Option Addr) (c1:Nat):bB := .blk b 59 (El x A0 c0 A1 c1)
abbrev AL (x:Op) (A4:Option Addr) (c4:Nat):List Value:=[vI x.Kind,vI x.Key,vI x.Arg,vB x.Got,vS A4 x.Vals.length c4]
abbrev tZ (b:Nat) (x:Op) (A4:Option Addr) (c4:Nat):bB := .blk b 64 (AL x A4 c4)
abbrev CS (x:Event) (A2:Option Addr) (c2:Nat):List Value:=[vI x.Proc,vI x.Kind,vS A2 x.Calls.length c2]
abbrev GL (x:Event) (A2:Option Addr) (c2:Nat):Value := .agg (CS x A2 c2).toArray
abbrev Gn (b:Nat) (x:Event) (A2:Option Addr) (c2:Nat):bB := .blk b 84 (CS x A2 c2)
abbrev AO (x:Call) (A4:Option Addr) (c4:Nat):List Value:=[vI x.Kind,.string x.Key,vI x.Arg,vB x.Got,vS A4 x.Vals.length c4]
abbrev CU (x:Call) (A4:Option Addr) (c4:Nat):Value := .agg (AO x A4 c4).toArray
abbrev qY (b:Nat) (x:Call) (A4:Option Addr) (c4:Nat):bB := .blk b 89 (AO x A4 c4)
abbrev xJ (x:bq) (A0:Option Addr) (c0:Nat) (A1:Option Addr) (c1:Nat) (A2:Option Addr) (c2:Nat) (b3:Nat):List Value:=[vS A0 x.h.Keys.length c0,vS A1 x.h.Txns.length c1,vS A2 x.order.length c2,.map (some b3)]
abbrev Bv (x:bq) (A0:Option Addr) (c0:Nat) (A1:Option Addr) (c1:Nat) (A2:Option Addr) (c2:Nat) (b3:Nat):Value := .agg (xJ x A0 c0 A1 c1 A2 c2 b3).toArray
abbrev nH (b:Nat) (x:bq) (A0:Option Addr) (c0:Nat) (A1:Option Addr) (c1:Nat) (A2:Option Addr) (c2:Nat) (b3:Nat):bB := .blk b 101 (xJ x A0 c0 A1 c1 A2 c2 b3)
abbrev CV (x:dw) (A0:Option Addr) (c0:Nat) (A1:Option Addr) (c1:Nat):List Value:=[vS A0 x.asks.length c0,vS A1 x.bad.length c1]
abbrev Gp (x:dw) (A0:Option Addr) (c0:Nat) (A1:Option Addr) (c1:Nat):Value := .agg (CV x A0 c0 A1 c1).toArray
abbrev rT (b:Nat) (A0:Option Addr) (c0:Nat) (x0:List Ask) (A1:Option Addr) (c1:Nat) (x1:List eU):List bB:=[.blk b 110 [vS A0 x0.length c0,vS A1 x1.length c1],Eh A0 c0 x0,zL A1 c1 x1]
abbrev FK (b:Nat) (x:dw) (A0:Option Addr) (c0:Nat) (A1:Option Addr) (c1:Nat):List bB:=rT b A0 c0 x.asks A1 c1 x.bad
abbrev rU (b:Nat) (A0:Option Addr) (c0:Nat) (x0:List ByteArray) (b1:Nat) (x1:List (ByteArray×Int)) (A2:Option Addr) (c2:Nat) (x2:List Int) (b3:Nat) (x3:List (bE×Unit)) (b4:Nat) (x4:List (ByteArray×(List Int))):List bB:=[.blk b 136 [vS A0 x0.length c0,.map (some b1),vS A2 x2.length c2,.map (some b3),.map (some b4)],Rw9 A0 c0 x0,uQ b1 x1,Rw3 A2 c2 x2,uR b3 x3,yO b4 x4]
abbrev CW (b:Nat) (x:aO) (A0:Option Addr) (c0:Nat) (b1:Nat) (A2:Option Addr) (c2:Nat) (b3:Nat) (b4:Nat):List bB:=rU b A0 c0 x.keys b1 x.at_ A2 c2 x.types b3 x.facts b4 x.incs
theorem Gq {H:BM} {x:Ask} {cs:List Value} (h:CO.rd H x cs):∃ A3 c3,cs=CQ x A3 c3∧x.Base.length≤c3∧rdS (aB .i64) H A3 x.Base:=by
 obtain ⟨_,_,rfl,rfl,⟨_,_,rfl,rfl,⟨_,_,rfl,rfl,⟨A0,c0,rfl,l0,r0⟩⟩⟩⟩:=h;exact ⟨A0,c0,rfl,l0,r0⟩
theorem nQ {H:BM} {x:Txn} {cs:List Value} (h:nu.rd H x cs):∃ A4 c4,cs=xI x A4 c4∧x.Ops.length≤c4∧rdS kOp H A4 x.Ops:=by
 obtain ⟨_,_,rfl,rfl,⟨_,_,rfl,rfl,⟨_,_,rfl,rfl,⟨_,_,rfl,rfl,⟨A0,c0,rfl,l0,r0⟩⟩⟩⟩⟩:=h;exact ⟨A0,c0,rfl,l0,r0⟩
theorem CX {H:BM} {x:Op} {cs:List Value} (h:kOp.rd H x cs):∃ A4 c4,cs=AL x A4 c4∧x.Vals.length≤c4∧rdS (aB .i64) H A4 x.Vals:=by
 obtain ⟨_,_,rfl,rfl,⟨_,_,rfl,rfl,⟨_,_,rfl,rfl,⟨_,_,rfl,rfl,⟨A0,c0,rfl,l0,r0⟩⟩⟩⟩⟩:=h;exact ⟨A0,c0,rfl,l0,r0⟩
theorem Em {H:BM} {x:Event} {cs:List Value} (h:AJ.rd H x cs):∃ A2 c2,cs=CS x A2 c2∧x.Calls.length≤c2∧rdS uP H A2 x.Calls:=by
 obtain ⟨_,_,rfl,rfl,⟨_,_,rfl,rfl,⟨A0,c0,rfl,l0,r0⟩⟩⟩:=h;exact ⟨A0,c0,rfl,l0,r0⟩
theorem FQ {H:BM} {x:Call} {cs:List Value} (h:uP.rd H x cs):∃ A4 c4,cs=AO x A4 c4∧x.Vals.length≤c4∧rdS (aB .i64) H A4 x.Vals:=by
 obtain ⟨_,_,rfl,rfl,⟨_,_,rfl,rfl,⟨_,_,rfl,rfl,⟨_,_,rfl,rfl,⟨A0,c0,rfl,l0,r0⟩⟩⟩⟩⟩:=h;exact ⟨A0,c0,rfl,l0,r0⟩
theorem FL (x:Ask) {R3:List bB} {c3:List Value} (h3:Mk (bn 2 (aB .i64)) R3 x.Base c3):Mk CO ([]++([]++([]++R3))) x ([vI x.Txn]++([vI x.Place]++([vI x.Key]++c3))):=yo (g:=fun g:Ask=>(g.Txn,g.Place,g.Key,g.Base)) (x:=x) (gG (kP _ _ rfl) (gG (kP _ _ rfl) (gG (kP _ _ rfl) h3)))
theorem FM (x:Txn) {R4:List bB} {c4:List Value} (h4:Mk (bn 64 kOp) R4 x.Ops c4):Mk nu ([]++([]++([]++([]++R4)))) x ([vI x.Proc]++([vI x.Status]++([vI x.From]++([vI x.To]++c4)))):=yo (g:=fun g:Txn=>(g.Proc,g.Status,g.From,g.To,g.Ops)) (x:=x) (gG (kP _ _ rfl) (gG (kP _ _ rfl) (gG (kP _ _ rfl) (gG (kP _ _ rfl) h4))))
theorem Gr (x:Op) {R4:List bB} {c4:List Value} (h4:Mk (bn 2 (aB .i64)) R4 x.Vals c4):Mk kOp ([]++([]++([]++([]++R4)))) x ([vI x.Kind]++([vI x.Key]++([vI x.Arg]++([vB x.Got]++c4)))):=yo (g:=fun g:Op=>(g.Kind,g.Key,g.Arg,g.Got,g.Vals)) (x:=x) (gG (kP _ _ rfl) (gG (kP _ _ rfl) (gG (kP _ _ rfl) (gG (kP _ _ rfl) h4))))
noncomputable def jd (a0:List ByteArray) (a1:ByteArray):Int→Option (Int ⊕ Int)
 | a2=>bif decide (a2 < (a0.length:Int)) then must (0≤a2∧a2 < (a0.length:Int)) (bif sEq a1 (idx a0 a2) then out (some a2) else (some (.inl (w64 (a2 + 1))))) else (out (some (-1)))
noncomputable def slices_Index_string (a0:List ByteArray) (a1:ByteArray):Option Int :=
 iter (jd a0 a1) 0
noncomputable def slices_Contains_string (a0:List ByteArray) (a1:ByteArray):Option Bool :=
 (slices_Index_string a0 a1).bind fun y3=>some (decide (y3 ≥ 0))
noncomputable def kI:Option aO :=
 some (⟨([]:List ByteArray),([]:List (ByteArray×Int)),([]:List Int),([]:List (bE×Unit)),([]:List (ByteArray×(List Int)))⟩:aO)
noncomputable def qz (a0:Int):Option (Int×Int) :=
 bif (a0 == 5) then some (0,1) else (bif (a0 == 8) then some (1,1) else (some (0,64)))
noncomputable def mG (a0:Call) (a1:Int) (a2:Bool):Option (Int ⊕ Bool) :=
 bif a2 then must (0≤w64 (a1 - 1)∧w64 (a1 - 1) < (a0.Vals.length:Int)) (must (0≤a1∧a1 < (a0.Vals.length:Int)) (bif decide (idx a0.Vals (w64 (a1 - 1)) ≥ idx a0.Vals a1) then out (some false) else (some (.inl (w64 (a1 + 1)))))) else (out (some true))
noncomputable def mH (a0:Call):Int→Option (Int ⊕ Bool)
 | a1=>bif (a0.Kind == 7) then mG a0 a1 (decide (a1 < (a0.Vals.length:Int))) else (mG a0 a1 false)
noncomputable def mI (a0:Call) (a1:Bool):Option Bool :=
 bif a1 then some false else (iter (mH a0) 1)
noncomputable def mJ (a0:Call) (a2:Bool):Option Bool :=
 bif a2 then some false else (bif !a0.Got then some ((a0.Vals.length:Int) == 0) else ((qz a0.Kind).bind fun a1=>bif decide ((a0.Vals.length:Int) < a1.1) then mI a0 true else (mI a0 (decide ((a0.Vals.length:Int) > a1.2)))))
noncomputable def jy (a0:Call) (a1:Int) (a2:Bool):Option Bool :=
 bif a2 then some false else (bif decide (a0.Kind≤4) then bif !a0.Got then bif ((a0.Vals.length:Int) == 0) then bif (a0.Kind != 4) then some true else (bif decide ((-1048576)≤a0.Arg) then some (decide (a0.Arg≤1048576)) else (some false)) else (some false) else (some false) else (bif (a0.Arg != 0) then mJ a0 true else (mJ a0 (a0.Got != (a1 == 1)))))
noncomputable def bf (a0:Call) (a1:Int):Option Bool :=
 bif decide (a0.Kind < 1) then jy a0 a1 true else (bif decide (a0.Kind > 8) then jy a0 a1 true else (bif sEq a0.Key (⟨#[]⟩:ByteArray) then jy a0 a1 true else (jy a0 a1 (decide ((a0.Key.size:Int) > 32)))))
noncomputable def nL (a0:Call) (a1:Event):Option Bool :=
 (bf a0 a1.Kind).bind fun y5=>some (!y5)
noncomputable def dR (a0:List Call) (a1c0:Event):Int→Option (Int ⊕ Int)
 | a1=>bif decide (a1 < (a0.length:Int)) then must (0≤a1∧a1 < (a0.length:Int)) ((nL (idx a0 a1) a1c0).bind fun a2=>bif a2 then out (some a1) else (some (.inl (w64 (a1 + 1))))) else (out (some (-1)))
noncomputable def aU (a0:List Call) (a1c0:Event):Option Int :=
 iter (dR a0 a1c0) 0
noncomputable def bM (a0:List Call) (a1c0:Event):Option Bool :=
 (aU a0 a1c0).bind fun y3=>some (decide (y3 ≥ 0))
noncomputable def kE (a0:List Event) (a1:Int) (a3:Bool):Option (Int ⊕ Int) :=
 bif a3 then out (some 1) else ((bM ((idx a0 a1).Calls) (idx a0 a1)).bind fun a2=>bif a2 then out (some 1) else (some (.inl (w64 (a1 + 1)))))
noncomputable def pR (a0:List Event):Int→Option (Int ⊕ Int)
 | a1=>bif decide (a1 < (a0.length:Int)) then must (0≤a1∧a1 < (a0.length:Int)) (bif decide ((idx a0 a1).Kind < 0) then kE a0 a1 true else (bif decide ((idx a0 a1).Kind > 3) then kE a0 a1 true else (kE a0 a1 (decide ((((idx a0 a1).Calls).length:Int) > 16))))) else (out (some 0))
noncomputable def ed (a0:List Event):Option Int :=
 bif decide ((a0.length:Int) > 256) then some 1 else (iter (pR a0) 0)
noncomputable def nR (a0:History) (a1:Txn) (a3:List Call) (a2:Int):Option ((List Call×Int) ⊕ (Event×Bool)) :=
 some (.inl (a3++([(⟨(idx a1.Ops a2).Kind,idx a0.Keys ((idx a1.Ops a2).Key),(idx a1.Ops a2).Arg,(idx a1.Ops a2).Got,(idx a1.Ops a2).Vals⟩:Call)]:List Call),w64 (a2 + 1)))
noncomputable def kZ (a0:History) (a1:Txn) (a2:List Call) (a3:Int) (a4:Bool):Option ((List Call×Int) ⊕ (Event×Bool)) :=
 bif a4 then out (some ((⟨0,a1.Status,a2⟩:Event),false)) else (must (0≤(idx a1.Ops a3).Key∧(idx a1.Ops a3).Key < (a0.Keys.length:Int)) (must (((a2.length + 1) + (a2.length + 1) / 4 + 192) * 64≤281474976710656∧a2.length + 1≤9223372036854775807) (nR a0 a1 a2 a3)))
noncomputable def nS (a0:History) (a1:Txn):(List Call×Int)→Option ((List Call×Int) ⊕ (Event×Bool))
 | (a3,a2)=>bif decide (a2 < (a1.Ops.length:Int)) then must (0≤a2∧a2 < (a1.Ops.length:Int)) (bif decide ((idx a1.Ops a2).Key < 0) then kZ a0 a1 a3 a2 true else (kZ a0 a1 a3 a2 (decide ((idx a1.Ops a2).Key ≥ (a0.Keys.length:Int))))) else ((ed ([(⟨0,a1.Status,a3⟩:Event)]:List Event)).bind fun a4=>out (some ((⟨0,a1.Status,a3⟩:Event),(a4 == 0))))
noncomputable def dm (a0:History) (a1:Txn):Option (Event×Bool) :=
 iter (nS a0 a1) ([],0)
noncomputable def lc (a0:Txn) (a1:Txn):Option Bool :=
 bif (a0.Proc == a1.Proc) then bif (a0.To == (-1)) then some true else (some (decide (a0.To ≥ a1.From))) else (some false)
noncomputable def dM (a0:List Txn) (a1c0:Txn):Int→Option (Int ⊕ Int)
 | a1=>bif decide (a1 < (a0.length:Int)) then must (0≤a1∧a1 < (a0.length:Int)) ((lc (idx a0 a1) a1c0).bind fun a2=>bif a2 then out (some a1) else (some (.inl (w64 (a1 + 1))))) else (out (some (-1)))
noncomputable def aR (a0:List Txn) (a1c0:Txn):Option Int :=
 iter (dM a0 a1c0) 0
noncomputable def bK (a0:List Txn) (a1c0:Txn):Option Bool :=
 (aR a0 a1c0).bind fun y3=>some (decide (y3 ≥ 0))
noncomputable def jo (a0:List Txn) (a1:Txn) (a2:Bool):Option Bool :=
 bif a2 then some false else ((bK a0 a1).bind fun a3=>some (!a3))
noncomputable def kJ (a0:List Txn) (a1:Txn):Option Bool :=
 bif decide (a1.From < 0) then jo a0 a1 true else (bif decide ((a0.length:Int) > 0) then must (0≤w64 ((a0.length:Int) - 1)∧w64 ((a0.length:Int) - 1) < (a0.length:Int)) (jo a0 a1 (decide ((idx a0 (w64 ((a0.length:Int) - 1))).From ≥ a1.From))) else (jo a0 a1 false))
noncomputable def kK (a0:List Txn) (a1:Txn) (a2:Bool):Option Bool :=
 bif a2 then some false else (kJ a0 a1)
noncomputable def kM (a0:List Txn) (a1:Txn) (a2:Bool):Option Bool :=
 bif a2 then bif decide (a1.To≤a1.From) then some false else (kJ a0 a1) else (bif (a1.Status == 3) then bif (a1.To != (-1)) then kK a0 a1 (decide (a1.To≤a1.From)) else (kK a0 a1 false) else (some false))
noncomputable def aZ (a0:List Txn) (a1:Txn):Option Bool :=
 bif (a1.Status == 1) then kM a0 a1 (a1.Status == 1) else (kM a0 a1 (a1.Status == 2))
noncomputable def kr (a0:Int):Option Int :=
 some (w64 ((yM .i64 (w64 (a0 - 1)) 3) + 1))
noncomputable def fe (a4:List ByteArray) (a3:List (ByteArray×Int)) (a1:List Int) (a0:List (bE×Unit)) (a2:List (ByteArray×(List Int))):Option (Int×aO) :=
 some (0,(⟨a4,a3,a1,a0,a2⟩:aO))
noncomputable def jA (a0:aO) (a1:Call) (a3:List ByteArray) (a2:List (ByteArray×Int)) (a4:List Int):Option (Int×aO) :=
 bif ja a0.facts (⟨a1.Key,a1.Arg⟩:bE) then some (3,(⟨a3,a2,a4,a0.facts,a0.incs⟩:aO)) else (fe a3 a2 a4 (fD a0.facts (⟨a1.Key,a1.Arg⟩:bE) ()) a0.incs)
noncomputable def gN (a0:aO) (a1:Call) (a4:List ByteArray) (a3:List (ByteArray×Int)) (a5:List Int) (a2:List (ByteArray×(List Int))):Option (Int×aO) :=
 bif decide (((mat a2 a1.Key).length:Int) > 8) then some (51,(⟨a4,a3,a5,a0.facts,a2⟩:aO)) else (fe a4 a3 a5 a0.facts a2)
noncomputable def gP (a0:aO) (a1:Call) (a2:Int) (a4:List ByteArray) (a3:List (ByteArray×Int)) (a5:List Int) (a6:Bool):Option (Int×aO) :=
 bif a6 then must (((((mat a0.incs a1.Key).length) + 1) + (((mat a0.incs a1.Key).length) + 1) / 4 + 192) * 8≤281474976710656∧((mat a0.incs a1.Key).length) + 1≤9223372036854775807) (gN a0 a1 a4 a3 a5 (fD a0.incs a1.Key ((mat a0.incs a1.Key)++([a2]:List Int)))) else (gN a0 a1 a4 a3 a5 a0.incs)
noncomputable def gQ (a0:aO) (a1:Call) (a2:Int) (a4:List ByteArray) (a3:List (ByteArray×Int)) (a5:List Int) (a6:Bool):Option (Int×aO) :=
 bif a6 then jA a0 a1 a4 a3 a5 else (bif (a1.Kind == 4) then bif (((mat a0.incs a1.Key).length:Int) == 0) then gP a0 a1 a2 a4 a3 a5 true else (must (0≤w64 (((mat a0.incs a1.Key).length:Int) - 1)∧w64 (((mat a0.incs a1.Key).length:Int) - 1) < ((mat a0.incs a1.Key).length:Int)) (gP a0 a1 a2 a4 a3 a5 (idx (mat a0.incs a1.Key) (w64 (((mat a0.incs a1.Key).length:Int) - 1)) != a2))) else (fe a4 a3 a5 a0.facts a0.incs))
noncomputable def fq (a0:aO) (a1:Call) (a2:Int) (a5:List ByteArray) (a4:List (ByteArray×Int)) (a3:List Int) (a6:Int):Option (Int×aO) :=
 must (0≤a6∧a6 < (a3.length:Int)) ((kr a1.Kind).bind fun a7=>bif (idx a3 a6 != a7) then some (50,(⟨a5,a4,a3,a0.facts,a0.incs⟩:aO)) else (bif (a1.Kind == 2) then gQ a0 a1 a2 a5 a4 a3 (a1.Kind == 2) else (gQ a0 a1 a2 a5 a4 a3 (a1.Kind == 3))))
noncomputable def jB (a0:aO) (a1:Call) (a2:Int):Option (Int×aO) :=
 (kr a1.Kind).bind fun a3=>must (((a0.types.length + 1) + (a0.types.length + 1) / 4 + 192) * 8≤281474976710656∧a0.types.length + 1≤9223372036854775807) (fq a0 a1 a2 (a0.keys++([a1.Key]:List ByteArray)) (fD a0.at_ a1.Key (a0.keys.length:Int)) (a0.types++([a3]:List Int)) (a0.keys.length:Int))
noncomputable def ah (a0:aO) (a1:Call) (a2:Int):Option (Int×aO) :=
 bif !(ja a0.at_ a1.Key) then bif ((a0.keys.length:Int) == 32) then some (2,a0) else (must (((a0.keys.length + 1) + (a0.keys.length + 1) / 4 + 192) * 16≤281474976710656∧a0.keys.length + 1≤9223372036854775807) (jB a0 a1 a2)) else (fq a0 a1 a2 a0.keys a0.at_ a0.types (mat a0.at_ a1.Key))
noncomputable def jN (a0:Int) (a1:Bool):Option (Int ⊕ Int) :=
 bif a1 then out (some 1) else (some (.inl (w64 (a0 + 1))))
noncomputable def lg (a6:Int) (a2:Event×Bool):(List ByteArray×(List (ByteArray×Int))×List Int×(List (bE×Unit))×(List (ByteArray×(List Int)))×Int)→Option ((List ByteArray×(List (ByteArray×Int))×List Int×(List (bE×Unit))×(List (ByteArray×(List Int)))×Int) ⊕ ((List ByteArray×(List (ByteArray×Int))×List Int×(List (bE×Unit))×(List (ByteArray×(List Int)))×Int) ⊕ (Int ⊕ Int)))
 | (a4,a8,a3,a7,a5,a1)=>bif decide (a1 < (a2.1.Calls.length:Int)) then must (0≤a1∧a1 < (a2.1.Calls.length:Int)) ((ah (⟨a4,a8,a3,a7,a5⟩:aO) (idx a2.1.Calls a1) a6).bind fun a0=>bif (a0.1 != 0) then out (out (out (some 1))) else (some (.inl (a0.2.keys,a0.2.at_,a0.2.types,a0.2.facts,a0.2.incs,w64 (a1 + 1))))) else (out (some (.inl (a4,a8,a3,a7,a5,w64 (a6 + 1)))))
noncomputable def lh (a3:List ByteArray) (a2:List (ByteArray×Int)) (a5:List Int) (a6:List (bE×Unit)) (a1:List (ByteArray×(List Int))) (a7:Int) (a0:Event×Bool) (a4:Bool):Option ((List ByteArray×(List (ByteArray×Int))×List Int×(List (bE×Unit))×(List (ByteArray×(List Int)))×Int) ⊕ (Int ⊕ Int)) :=
 bif a4 then out (out (some 1)) else (iter (lg a7 a0) (a3,a2,a5,a6,a1,0))
noncomputable def jO (a0:History):(List ByteArray×(List (ByteArray×Int))×List Int×(List (bE×Unit))×(List (ByteArray×(List Int)))×Int)→Option ((List ByteArray×(List (ByteArray×Int))×List Int×(List (bE×Unit))×(List (ByteArray×(List Int)))×Int) ⊕ (Int ⊕ Int))
 | (a5,a4,a6,a7,a3,a1)=>bif decide (a1 < (a0.Txns.length:Int)) then must (0≤a1∧a1 < (a0.Txns.length:Int)) ((dm a0 (idx a0.Txns a1)).bind fun a2=>bif !a2.2 then lh a5 a4 a6 a7 a3 a1 a2 true else (must (0≤(0:Int)∧(0:Int)≤a1∧a1≤(a0.Txns.length:Int)) ((aZ (df a0.Txns (0:Int) a1) (idx a0.Txns a1)).bind fun a8=>lh a5 a4 a6 a7 a3 a1 a2 (!a8)))) else (out (out (some 0)))
noncomputable def nT (a0:History):Int→Option (Int ⊕ Int)
 | a1=>bif decide (a1 < (a0.Keys.length:Int)) then must (0≤a1∧a1 < (a0.Keys.length:Int)) (bif sEq (idx a0.Keys a1) (⟨#[]⟩:ByteArray) then jN a1 true else (bif decide (((idx a0.Keys a1).size:Int) > 32) then jN a1 true else (must (0≤(0:Int)∧(0:Int)≤a1∧a1≤(a0.Keys.length:Int)) ((slices_Contains_string (df a0.Keys (0:Int) a1) (idx a0.Keys a1)).bind fun a3=>jN a1 a3)))) else ((kI).bind fun a2=>iter (jO a0) (a2.keys,a2.at_,a2.types,a2.facts,a2.incs,0))
noncomputable def lm (a0:History) (b7:Bool):Option Int :=
 bif b7 then some 1 else (iter (nT a0) 0)
noncomputable def ay (a0:History):Option Int :=
 bif decide ((a0.Keys.length:Int) > 32) then lm a0 true else (lm a0 (decide ((a0.Txns.length:Int) > 32)))
noncomputable def dN (a0:List Int):Option (List Int) :=
 must (a0.length * 8≤140737488355328) (some a0)
noncomputable def iA (a0:Int):Option Int :=
 bif (a0 == 1) then some 171 else (bif (a0 == 2) then some 172 else (bif (a0 == 3) then some 173 else (bif (a0 == 4) then some 174 else (some (-1)))))
noncomputable def iB (a0:Unit) (a1:List Int):Option Bool :=
 some (decide ((a1.length:Int)≤1))
noncomputable def ku (a0:Unit) (a1:List Int):Option Bool :=
 some (decide ((a1.length:Int)≤64))
noncomputable def kQ (a1:List Int):Int→Option (Int ⊕ Bool)
 | a0=>bif decide (a0 < (a1.length:Int)) then must (0≤w64 (a0 - 1)∧w64 (a0 - 1) < (a1.length:Int)) (must (0≤a0∧a0 < (a1.length:Int)) (bif decide (idx a1 (w64 (a0 - 1)) ≥ idx a1 a0) then out (some false) else (some (.inl (w64 (a0 + 1)))))) else (out (some (decide ((a1.length:Int)≤64))))
noncomputable def dY (a0:Unit) (a1:List Int):Option Bool :=
 iter (kQ a1) 1
noncomputable def iO (a0:Unit) (a1:List Int):Option Bool :=
 some ((a1.length:Int) == 1)
noncomputable def iC (a0:Int) (a1:List Int):Option Int :=
 (iA a0).bind fun y8=>bif (y8 == (171:Int)) then (iB () a1).bind fun a4=>bif !a4 then some 80 else (some 0) else (bif (y8 == (172:Int)) then (ku () a1).bind fun a5=>bif !a5 then some 80 else (some 0) else (bif (y8 == (173:Int)) then (dY () a1).bind fun a3=>bif !a3 then some 80 else (some 0) else (bif (y8 == (174:Int)) then (iO () a1).bind fun a2=>bif !a2 then some 80 else (some 0) else (bif (y8 == ((-1):Int)) then some 1 else none))))
noncomputable def eO (a0:Unit) (a1:List Int) (a2:List Int):Option (List Int×Bool) :=
 bif ((a1.length:Int) == 1) then must (0≤(0:Int)∧(0:Int) < (a1.length:Int)) (must (0≤w64 ((a2.length:Int) - 1)∧w64 ((a2.length:Int) - 1) < (a2.length:Int)) (some (([]:List Int),(idx a1 (0:Int) == idx a2 (w64 ((a2.length:Int) - 1)))))) else (some (([]:List Int),false))
noncomputable def lQ (a0:List Int) (a1:List Int):Int→Option (Int ⊕ Bool)
 | a2=>bif decide (a2 < (a0.length:Int)) then must (0≤a2∧a2 < (a0.length:Int)) (must (0≤a2∧a2 < (a1.length:Int)) (bif (idx a0 a2 != idx a1 a2) then out (some false) else (some (.inl (w64 (a2 + 1)))))) else (out (some true))
noncomputable def bU (a0:List Int) (a1:List Int):Option Bool :=
 bif ((a0.length:Int) != (a1.length:Int)) then some false else (iter (lQ a0 a1) 0)
noncomputable def fu (a1:List Int) (a2:List Int) (a0:Bool):Option (List Int×Bool) :=
 bif a0 then some (([]:List Int),false) else (must (0≤(0:Int)∧(0:Int)≤(w64 ((a1.length:Int) - (a2.length:Int)))∧(w64 ((a1.length:Int) - (a2.length:Int)))≤(a1.length:Int)) ((dN (df a1 (0:Int) (w64 ((a1.length:Int) - (a2.length:Int))))).bind fun a3=>some (a3,true)))
noncomputable def bV (a0:Unit) (a1:List Int) (a2:List Int):Option (List Int×Bool) :=
 bif decide (w64 ((a1.length:Int) - (a2.length:Int)) < 0) then fu a1 a2 true else (must (0≤(w64 ((a1.length:Int) - (a2.length:Int)))∧(w64 ((a1.length:Int) - (a2.length:Int)))≤(a1.length:Int)∧(a1.length:Int)≤(a1.length:Int)) ((bU (df a1 (w64 ((a1.length:Int) - (a2.length:Int))) (a1.length:Int)) a2).bind fun a3=>fu a1 a2 (!a3)))
noncomputable def jq (a0:Int):Option Bool :=
 some (a0 != a0)
noncomputable def jP (a0:Int) (a1:Int):Option Bool :=
 (jq a0).bind fun y7=>bif y7 then (jq a1).bind fun a2=>bif !a2 then some true else (some (decide (a0 < a1))) else (some (decide (a0 < a1)))
noncomputable def gI (a0:Int):Option Bool :=
 some (a0 != a0)
noncomputable def fV (a0:Int) (a1:Int):Option ((Int×Int) ⊕ (Int×Bool)) :=
 some (.inl (a0,a1))
noncomputable def fZ (a0:List Int) (a1:Int):(Int×Int)→Option ((Int×Int) ⊕ (Int×Bool))
 | (a2,a3)=>bif decide (a2 < a3) then must (0≤(1:Int)∧(1:Int) < (far:Int)) (must (0≤w64 (uo .u64 (IntKind.wrap .u64 (w64 (a2 + a3))) (1:Int))∧w64 (uo .u64 (IntKind.wrap .u64 (w64 (a2 + a3))) (1:Int)) < (a0.length:Int)) ((jP (idx a0 (w64 (uo .u64 (IntKind.wrap .u64 (w64 (a2 + a3))) (1:Int)))) a1).bind fun a4=>bif a4 then fV (w64 ((w64 (uo .u64 (IntKind.wrap .u64 (w64 (a2 + a3))) (1:Int))) + 1)) a3 else (fV a2 (w64 (uo .u64 (IntKind.wrap .u64 (w64 (a2 + a3))) (1:Int)))))) else (bif decide (a2 < (a0.length:Int)) then must (0≤a2∧a2 < (a0.length:Int)) (bif (idx a0 a2 == a1) then out (some (a2,true)) else ((gI (idx a0 a2)).bind fun a5=>bif a5 then (gI a1).bind fun a6=>out (some (a2,a6)) else (out (some (a2,false))))) else (out (some (a2,false))))
noncomputable def aT (a0:List Int) (a1:Int):Option (Int×Bool) :=
 iter (fZ a0 a1) (0,(a0.length:Int))
noncomputable def gm (a0:List Int) (a1 a2:Int):Option (List Int) :=
 must (0≤a1∧a1≤a2∧a2≤(a0.length:Int)) (some (a0.take a1.toNat++a0.drop a2.toNat))
noncomputable def iD (a2:List Int):(List Int×Int)→Option ((List Int×Int) ⊕ (List Int×Bool))
 | (a1,a0)=>bif decide (a0 < (a2.length:Int)) then must (0≤a0∧a0 < (a2.length:Int)) ((aT a1 (idx a2 a0)).bind fun a3=>bif !a3.2 then out (some (([]:List Int),false)) else ((gm a1 a3.1 (w64 (a3.1 + 1))).bind fun a4=>some (.inl (a4,w64 (a0 + 1))))) else (out (some (a1,true)))
noncomputable def dA (a0:Unit) (a1:List Int) (a2:List Int):Option (List Int×Bool) :=
 (dN a1).bind fun y7=>iter (iD a2) (y7,0)
noncomputable def fF (a2:List Int):(Int×Int)→Option ((Int×Int) ⊕ (List Int×Bool))
 | (a1,a0)=>bif decide (a0 < (a2.length:Int)) then must (0≤a0∧a0 < (a2.length:Int)) (some (.inl (w64 (a1 - (idx a2 a0)),w64 (a0 + 1)))) else (out (some (([a1]:List Int),true)))
noncomputable def bX (a0:Unit) (a1:List Int) (a2:List Int):Option (List Int×Bool) :=
 must (0≤(0:Int)∧(0:Int) < (a1.length:Int)) (iter (fF a2) (idx a1 (0:Int),0))
noncomputable def iy (a0:Int) (a1:List Int) (a2:List Int) (b9:Bool):Option (List Int×Bool) :=
 bif b9 then some (([]:List Int),false) else ((iA a0).bind fun a3=>bif (a3 == (171:Int)) then (eO () a1 a2).bind fun a6=>some (a6.1,a6.2) else (bif (a3 == (172:Int)) then (bV () a1 a2).bind fun a7=>some (a7.1,a7.2) else (bif (a3 == (173:Int)) then (dA () a1 a2).bind fun a4=>some (a4.1,a4.2) else (bif (a3 == (174:Int)) then (bX () a1 a2).bind fun a5=>some (a5.1,a5.2) else (bif (a3 == ((-1):Int)) then none else none)))))
noncomputable def dZ (a0:Int) (a1:List Int) (a2:List Int):Option (List Int×Bool) :=
 (iC a0 a1).bind fun a3=>bif (a3 != 0) then iy a0 a1 a2 true else (iy a0 a1 a2 ((a2.length:Int) == 0))
noncomputable def eT (a3:Int) (a2:List Ask) (a1:List eU) (a0:List (Int×(List Int))):Option ((List Ask×List eU×(List (Int×(List Int)))×Int) ⊕ dw) :=
 some (.inl (a2,a1,a0,w64 (a3 + 1)))
noncomputable def iP (a1:History) (a2:Int) (a3:List Ask) (a4:List eU) (a5:List (Int×(List Int))) (a0:Int) (a6:List Int) (a7:Bool):Option ((List Ask×List eU×(List (Int×(List Int)))×Int) ⊕ dw) :=
 bif !a7 then must (((a4.length + 1) + (a4.length + 1) / 4 + 192) * 16≤281474976710656∧a4.length + 1≤9223372036854775807) (eT a0 a3 (a4++([(⟨a2,a0⟩:eU)]:List eU)) a5) else (must (((a3.length + 1) + (a3.length + 1) / 4 + 192) * 48≤281474976710656∧a3.length + 1≤9223372036854775807) (eT a0 (a3++([(⟨a2,a0,(idx ((idx a1.Txns a2).Ops) a0).Key,a6⟩:Ask)]:List Ask)) a4 a5))
noncomputable def iQ (a1:History) (a2:Int) (a5:List Ask) (a6:List eU) (a4:List (Int×(List Int))) (a3:Int) (a0:List Int×Bool) (a7:Bool):Option ((List Ask×List eU×(List (Int×(List Int)))×Int) ⊕ dw) :=
 bif a7 then eT a3 a5 a6 a4 else (iP a1 a2 a5 a6 a4 a3 a0.1 a0.2)
noncomputable def kz (a1:History) (a2:Int):(List Ask×List eU×(List (Int×(List Int)))×Int)→Option ((List Ask×List eU×(List (Int×(List Int)))×Int) ⊕ dw)
 | (a4,a5,a3,a0)=>bif decide (a0 < (((idx a1.Txns a2).Ops).length:Int)) then must (0≤a0∧a0 < (((idx a1.Txns a2).Ops).length:Int)) (bif decide ((idx ((idx a1.Txns a2).Ops) a0).Kind≤4) then must (((((mat a3 ((idx ((idx a1.Txns a2).Ops) a0).Key)).length) + 1) + (((mat a3 ((idx ((idx a1.Txns a2).Ops) a0).Key)).length) + 1) / 4 + 192) * 8≤281474976710656∧((mat a3 ((idx ((idx a1.Txns a2).Ops) a0).Key)).length) + 1≤9223372036854775807) (eT a0 a4 a5 (fD a3 ((idx ((idx a1.Txns a2).Ops) a0).Key) ((mat a3 ((idx ((idx a1.Txns a2).Ops) a0).Key))++([(idx ((idx a1.Txns a2).Ops) a0).Arg]:List Int)))) else ((dN ((idx ((idx a1.Txns a2).Ops) a0).Vals)).bind fun a7=>bif decide (((mat a3 ((idx ((idx a1.Txns a2).Ops) a0).Key)).length:Int) > 0) then (dZ (w64 (((idx ((idx a1.Txns a2).Ops) a0).Kind) - 4)) ((idx ((idx a1.Txns a2).Ops) a0).Vals) (mat a3 ((idx ((idx a1.Txns a2).Ops) a0).Key))).bind fun a6=>bif a6.2 then iQ a1 a2 a4 a5 a3 a0 a6 ((idx ((idx a1.Txns a2).Ops) a0).Kind == 5) else (iQ a1 a2 a4 a5 a3 a0 a6 false) else (iP a1 a2 a4 a5 a3 a0 a7 true))) else (out (some (⟨a4,a5⟩:dw)))
noncomputable def aI (a0:dw) (a1:History) (a2:Int):Option dw :=
 must (0≤a2∧a2 < (a1.Txns.length:Int)) (bif ((idx a1.Txns a2).Status != 1) then some a0 else (iter (kz a1 a2) (a0.asks,a0.bad,[],0)))
noncomputable def qA (a0:History):(List Ask×List eU×Int)→Option ((List Ask×List eU×Int) ⊕ (dw×Int))
 | (a4,a2,a1)=>bif decide (a1 < (a0.Txns.length:Int)) then (aI (⟨a4,a2⟩:dw) a0 a1).bind fun a3=>some (.inl (a3.asks,a3.bad,w64 (a1 + 1))) else (out (some ((⟨a4,a2⟩:dw),0)))
noncomputable def iU (a0:History):Option (dw×Int) :=
 (ay a0).bind fun a1=>bif (a1 != 0) then some ((⟨([]:List Ask),([]:List eU)⟩:dw),a1) else (iter (qA a0) ([],[],0))
noncomputable def jQ (a0:History):Option (List Ask×Int) :=
 (iU a0).bind fun a1=>some (a1.1.asks,a1.2)
noncomputable def qc (a0:History):Option (List eU×Int) :=
 (iU a0).bind fun a1=>some (a1.1.bad,a1.2)
noncomputable def mP (a0:History) (a1:List Int) (a3:List (Int×Int)) (a2:Int) (a4:Bool):Option (((List (Int×Int))×Int) ⊕ (bq×Bool)) :=
 bif a4 then out (some ((⟨a0,a1,a3⟩:bq),false)) else (some (.inl (fD a3 (idx a1 a2) a2,w64 (a2 + 1))))
noncomputable def oQ (a0:History) (a1:List Int) (a2:List (Int×Int)) (a4:Int) (a3:Bool):Option (Int ⊕ (((List (Int×Int))×Int) ⊕ (bq×Bool))) :=
 bif a3 then out (out (some ((⟨a0,a1,a2⟩:bq),false))) else (some (.inl (w64 (a4 + 1))))
noncomputable def oU (a0:History) (a1:List Int) (a3:List (Int×Int)):Int→Option (Int ⊕ (((List (Int×Int))×Int) ⊕ (bq×Bool)))
 | a2=>bif decide (a2 < (a0.Txns.length:Int)) then must (0≤a2∧a2 < (a0.Txns.length:Int)) (bif !(ja a3 a2) then oQ a0 a1 a3 a2 ((idx a0.Txns a2).Status == 1) else (oQ a0 a1 a3 a2 false)) else (out (out (some ((⟨a0,a1,a3⟩:bq),true))))
noncomputable def rV (a0:History) (a1:List Int):((List (Int×Int))×Int)→Option (((List (Int×Int))×Int) ⊕ (bq×Bool))
 | (a3,a2)=>bif decide (a2 < (a1.length:Int)) then must (0≤a2∧a2 < (a1.length:Int)) (bif decide (idx a1 a2 < 0) then mP a0 a1 a3 a2 true else (bif decide (idx a1 a2 ≥ (a0.Txns.length:Int)) then mP a0 a1 a3 a2 true else (must (0≤idx a1 a2∧idx a1 a2 < (a0.Txns.length:Int)) (mP a0 a1 a3 a2 ((idx a0.Txns (idx a1 a2)).Status == 2))))) else (bif ((a3.length:Int) != (a1.length:Int)) then out (some ((⟨a0,a1,a3⟩:bq),false)) else (iter (oU a0 a1 a3) 0))
noncomputable def dz (a0:History) (a1:List Int):Option (bq×Bool) :=
 iter (rV a0 a1) ([],0)
noncomputable def gz (a0:Int) (a1:List (Int×Int)):Option (((List (Int×Int))×Int) ⊕ Bool) :=
 some (.inl (a1,w64 (a0 + 1)))
noncomputable def gF (a0:bq) (a2:List (Int×Int)) (a1:Int) (a3:Bool):Option (((List (Int×Int))×Int) ⊕ Bool) :=
 bif a3 then out (some false) else (gz a1 (fD a2 ((idx a0.h.Txns a1).Proc) (xn (mat a0.at_ a1) (mat a2 ((idx a0.h.Txns a1).Proc)))))
noncomputable def je (a0:bq):((List (Int×Int))×Int)→Option (((List (Int×Int))×Int) ⊕ Bool)
 | (a2,a1)=>bif decide (a1 < (a0.h.Txns.length:Int)) then must (0≤a1∧a1 < (a0.h.Txns.length:Int)) (bif !(ja a0.at_ a1) then gz a1 a2 else (bif ja a2 ((idx a0.h.Txns a1).Proc) then gF a0 a2 a1 (decide (mat a2 ((idx a0.h.Txns a1).Proc) > mat a0.at_ a1)) else (gF a0 a2 a1 false))) else (out (some true))
noncomputable def aQ (a0:bq):Option Bool :=
 iter (je a0) ([],0)
noncomputable def lq (a0:Int) (a1:List Int):Option ((List Int×Int) ⊕ (List Int)) :=
 some (.inl (a1,w64 (a0 + 1)))
noncomputable def lu (a0:Txn) (a1:List Int) (a2:Int) (a3:Bool):Option ((List Int×Int) ⊕ (List Int)) :=
 bif a3 then must (((a1.length + 1) + (a1.length + 1) / 4 + 192) * 8≤281474976710656∧a1.length + 1≤9223372036854775807) (lq a2 (a1++([(idx a0.Ops a2).Arg]:List Int))) else (lq a2 a1)
noncomputable def nU (a0:Txn) (a1:Int):(List Int×Int)→Option ((List Int×Int) ⊕ (List Int))
 | (a3,a2)=>bif decide (a2 < (a0.Ops.length:Int)) then must (0≤a2∧a2 < (a0.Ops.length:Int)) (bif ((idx a0.Ops a2).Key == a1) then lu a0 a3 a2 (decide ((idx a0.Ops a2).Kind≤4)) else (lu a0 a3 a2 false)) else (out (some a3))
noncomputable def cu (a0:Txn) (a1:Int):Option (List Int) :=
 iter (nU a0 a1) ([],0)
noncomputable def jR (a0:History) (a1:Int) (a2:Int) (a4:Bool):Option (List Int×Bool) :=
 bif a4 then some (([]:List Int),false) else (must (0≤a1∧a1 < (a0.Txns.length:Int)) ((cu (idx a0.Txns a1) a2).bind fun a3=>some (a3,decide ((a3.length:Int) > 0))))
noncomputable def eX (a0:History) (a1:Int) (a2:Int):Option (List Int×Bool) :=
 bif decide (a1 < 0) then jR a0 a1 a2 true else (bif decide (a1 ≥ (a0.Txns.length:Int)) then jR a0 a1 a2 true else ((ay a0).bind fun a3=>jR a0 a1 a2 (a3 != 0)))
noncomputable def iR (a0:bq) (a1:Ask) (a2:Int) (b9:Bool):Option Bool :=
 bif b9 then some false else ((eX a0.h a2 a1.Key).bind fun a3=>some a3.2)
noncomputable def dF (a0:bq) (a1:Ask) (a2:Int):Option Bool :=
 bif !(ja a0.at_ a2) then iR a0 a1 a2 true else (iR a0 a1 a2 (decide (mat a0.at_ a2 ≥ mat a0.at_ a1.Txn)))
noncomputable def pU (a0:History) (a1:Int) (a3:Int):Int→Option (Int ⊕ (Int ⊕ Int))
 | a2=>bif decide (a2 < (((idx a0.Txns a3).Ops).length:Int)) then must (0≤a2∧a2 < (((idx a0.Txns a3).Ops).length:Int)) (bif ((idx ((idx a0.Txns a3).Ops) a2).Key == a1) then (kr ((idx ((idx a0.Txns a3).Ops) a2).Kind)).bind fun a4=>out (out (some a4)) else (some (.inl (w64 (a2 + 1))))) else (out (some (.inl (w64 (a3 + 1)))))
noncomputable def pV (a0:History) (a1:Int):Int→Option (Int ⊕ Int)
 | a2=>bif decide (a2 < (a0.Txns.length:Int)) then must (0≤a2∧a2 < (a0.Txns.length:Int)) (iter (pU a0 a1 a2) 0) else (out (some 0))
noncomputable def dH (a0:History) (a1:Int):Option Int :=
 (ay a0).bind fun y8=>bif (y8 != 0) then some 0 else (iter (pV a0 a1) 0)
noncomputable def lv (a0:List Int):Option (List Int):=must (a0.length < 4611686018427387904) (some (a0.mergeSort fun x y=>decide (x≤y)))
noncomputable def gT (a0:List Int):Option (List Int) :=
 some a0
noncomputable def jC (a1:List Int):(Int×Int)→Option ((Int×Int) ⊕ (List Int))
 | (a2,a0)=>bif decide (a0 < (a1.length:Int)) then must (0≤a0∧a0 < (a1.length:Int)) (some (.inl (w64 (a2 + (idx a1 a0)),w64 (a0 + 1)))) else (out (some ([a2]:List Int)))
noncomputable def fw (a0:bq) (a1:Int) (a2:List Int):Option (List Int) :=
 (dH a0.h a1).bind fun a3=>bif (a3 == 1) then must (0≤(xn 0 (w64 ((a2.length:Int) - 1)))∧(xn 0 (w64 ((a2.length:Int) - 1)))≤(a2.length:Int)∧(a2.length:Int)≤(a2.length:Int)) (some (df a2 (xn 0 (w64 ((a2.length:Int) - 1))) (a2.length:Int))) else (bif (a3 == 3) then (lv a2).bind fun a4=>gT a4 else (bif (a3 == 4) then iter (jC a2) (0,0) else (gT a2)))
noncomputable def gU (a1:Int) (a0:List Int):Option ((List Int×Int) ⊕ ((List Int×Int) ⊕ (List Int))) :=
 some (.inl (a0,w64 (a1 + 1)))
noncomputable def gV (a0:bq) (a2:Int) (a5:Int) (a1:List Int) (a3:Int) (a4:Bool):Option ((List Int×Int) ⊕ ((List Int×Int) ⊕ (List Int))) :=
 bif a4 then must (((a1.length + 1) + (a1.length + 1) / 4 + 192) * 8≤281474976710656∧a1.length + 1≤9223372036854775807) (gU a3 (a1++([(idx ((idx a0.h.Txns (idx (df a0.order (0:Int) (w64 ((mat a0.at_ a2) + 1))) a5)).Ops) a3).Arg]:List Int))) else (gU a3 a1)
noncomputable def jD (a0:bq) (a1:Int) (a2:Int) (a4:Int):(List Int×Int)→Option ((List Int×Int) ⊕ ((List Int×Int) ⊕ (List Int)))
 | (a5,a3)=>bif decide (a3 < (((idx a0.h.Txns (idx (df a0.order (0:Int) (w64 ((mat a0.at_ a2) + 1))) a4)).Ops).length:Int)) then must (0≤a3∧a3 < (((idx a0.h.Txns (idx (df a0.order (0:Int) (w64 ((mat a0.at_ a2) + 1))) a4)).Ops).length:Int)) (bif ((idx ((idx a0.h.Txns (idx (df a0.order (0:Int) (w64 ((mat a0.at_ a2) + 1))) a4)).Ops) a3).Key == a1) then gV a0 a2 a4 a5 a3 (decide ((idx ((idx a0.h.Txns (idx (df a0.order (0:Int) (w64 ((mat a0.at_ a2) + 1))) a4)).Ops) a3).Kind≤4)) else (gV a0 a2 a4 a5 a3 false)) else (out (some (.inl (a5,w64 (a4 + 1)))))
noncomputable def jE (a0:bq) (a1:Int) (a2:Int):(List Int×Int)→Option ((List Int×Int) ⊕ (List Int))
 | (a4,a3)=>bif decide (a3 < ((df a0.order (0:Int) (w64 ((mat a0.at_ a2) + 1))).length:Int)) then must (0≤a3∧a3 < ((df a0.order (0:Int) (w64 ((mat a0.at_ a2) + 1))).length:Int)) (must (0≤idx (df a0.order (0:Int) (w64 ((mat a0.at_ a2) + 1))) a3∧idx (df a0.order (0:Int) (w64 ((mat a0.at_ a2) + 1))) a3 < (a0.h.Txns.length:Int)) (iter (jD a0 a1 a2 a3) (a4,0))) else (out (fw a0 a1 a4))
noncomputable def ai (a0:bq) (a1:Int) (a2:Int):Option (List Int) :=
 bif decide (a2 ≥ 0) then must (0≤(0:Int)∧(0:Int)≤(w64 ((mat a0.at_ a2) + 1))∧(w64 ((mat a0.at_ a2) + 1))≤(a0.order.length:Int)) (iter (jE a0 a1 a2) ([],0)) else (fw a0 a1 [])
noncomputable def oV (a1:Exec) (a2:List Ask×Int) (a4:bq×Bool) (a0:Int) (a6:Bool):Option (Int ⊕ (Int×Int)) :=
 bif a6 then out (some (5,0)) else (must (0≤a0∧a0 < (a1.Picks.length:Int)) ((ai a4.1 ((idx a2.1 a0).Key) (idx a1.Picks a0)).bind fun a5=>(bU a5 ((idx a2.1 a0).Base)).bind fun a3=>bif !a3 then out (some (6,0)) else (some (.inl (w64 (a0 + 1))))))
noncomputable def oW (a1:Exec) (a2:List Ask×Int) (a3:bq×Bool):Int→Option (Int ⊕ (Int×Int))
 | a0=>bif decide (a0 < (a2.1.length:Int)) then must (0≤a0∧a0 < (a2.1.length:Int)) (must (0≤a0∧a0 < (a1.Picks.length:Int)) (bif (idx a1.Picks a0 != (-1)) then (dF a3.1 (idx a2.1 a0) (idx a1.Picks a0)).bind fun a4=>oV a1 a2 a3 a0 (!a4) else (oV a1 a2 a3 a0 false))) else (out (some (0,0)))
noncomputable def dD (a0:History) (a1:Exec):Option (Int×Int) :=
 (jQ a0).bind fun a2=>bif (a2.2 != 0) then some (0,a2.2) else ((qc a0).bind fun a4=>bif decide ((a4.1.length:Int) > 0) then some (1,0) else ((dz a0 a1.Order).bind fun a3=>bif !a3.2 then some (2,0) else (bif ((a1.Picks.length:Int) != (a2.1.length:Int)) then some (3,0) else ((aQ a3.1).bind fun a5=>bif !a5 then some (4,0) else (iter (oW a1 a2 a3) 0)))))
noncomputable def qB (a0:Int) (a1:Bool):Option (Int ⊕ (Int ⊕ Bool)) :=
 bif a1 then out (out (some false)) else (some (.inl (w64 (a0 + 1))))
noncomputable def uT (a0:History) (a1:List Int) (a2:Int):Int→Option (Int ⊕ (Int ⊕ Bool))
 | a3=>bif decide (a3 < ((df a1 (w64 (a2 + 1)) (a1.length:Int)).length:Int)) then must (0≤a3∧a3 < ((df a1 (w64 (a2 + 1)) (a1.length:Int)).length:Int)) (must (0≤idx (df a1 (w64 (a2 + 1)) (a1.length:Int)) a3∧idx (df a1 (w64 (a2 + 1)) (a1.length:Int)) a3 < (a0.Txns.length:Int)) (bif ((idx a0.Txns (idx (df a1 (w64 (a2 + 1)) (a1.length:Int)) a3)).Status == 1) then must (0≤idx a1 a2∧idx a1 a2 < (a0.Txns.length:Int)) (qB a3 (decide ((idx a0.Txns (idx (df a1 (w64 (a2 + 1)) (a1.length:Int)) a3)).To < (idx a0.Txns (idx a1 a2)).From))) else (qB a3 false))) else (out (some (.inl (w64 (a2 + 1)))))
noncomputable def uU (a0:History) (a1:List Int) (a3:bq×Bool):Int→Option (Int ⊕ Bool)
 | a2=>bif decide (a2 < (a1.length:Int)) then must (0≤a2∧a2 < (a1.length:Int)) (must (0≤(w64 (a2 + 1))∧(w64 (a2 + 1))≤(a1.length:Int)∧(a1.length:Int)≤(a1.length:Int)) (iter (uT a0 a1 a2) 0)) else (out (some ((a3.1.order.length:Int) == (a1.length:Int))))
noncomputable def fP (a0:History) (a1:List Int):Option Bool :=
 (ay a0).bind fun y8=>bif (y8 != 0) then some false else ((dz a0 a1).bind fun a2=>bif !a2.2 then some false else (iter (uU a0 a1 a2) 0))
noncomputable def fQ:Option Bool :=
 (dD (⟨([(⟨#[120]⟩:ByteArray)]:List ByteArray),([(⟨0,1,0,1,([(⟨1,0,5,false,([]:List Int)⟩:Op)]:List Op)⟩:Txn),(⟨1,1,2,3,([(⟨5,0,0,true,([5]:List Int)⟩:Op)]:List Op)⟩:Txn)]:List Txn)⟩:History) (⟨([0,1]:List Int),([0]:List Int)⟩:Exec)).bind fun a0=>(dD (⟨([(⟨#[120]⟩:ByteArray)]:List ByteArray),([(⟨0,1,0,1,([(⟨1,0,5,false,([]:List Int)⟩:Op)]:List Op)⟩:Txn),(⟨1,1,2,3,([(⟨5,0,0,true,([5]:List Int)⟩:Op)]:List Op)⟩:Txn)]:List Txn)⟩:History) (⟨([1,0]:List Int),([0]:List Int)⟩:Exec)).bind fun a1=>bif (a0.1 == 0) then bif (a0.2 == 0) then bif (a1.1 == 5) then bif (a1.2 == 0) then (fP (⟨([(⟨#[120]⟩:ByteArray)]:List ByteArray),([(⟨0,1,0,1,([(⟨1,0,5,false,([]:List Int)⟩:Op)]:List Op)⟩:Txn),(⟨1,1,2,3,([(⟨5,0,0,true,([5]:List Int)⟩:Op)]:List Op)⟩:Txn)]:List Txn)⟩:History) ([0,1]:List Int)).bind fun a3=>bif a3 then (fP (⟨([(⟨#[120]⟩:ByteArray)]:List ByteArray),([(⟨0,1,0,1,([(⟨1,0,5,false,([]:List Int)⟩:Op)]:List Op)⟩:Txn),(⟨1,1,2,3,([(⟨5,0,0,true,([5]:List Int)⟩:Op)]:List Op)⟩:Txn)]:List Txn)⟩:History) ([1,0]:List Int)).bind fun a2=>some (!a2) else (some false) else (some false) else (some false) else (some false) else (some false)
noncomputable def lw (a0:List Int) (a1:Int):Int→Option (Int ⊕ Bool)
 | a2=>bif decide (a2 < (a0.length:Int)) then must (0≤a2∧a2 < (a0.length:Int)) (bif (idx a0 a2 == a1) then out (some true) else (some (.inl (w64 (a2 + 1))))) else (out (some false))
noncomputable def cK (a0:List Int) (a1:Int):Option Bool :=
 iter (lw a0 a1) 0
noncomputable def gJ (a1:Int) (a0:Bool):Option (Int ⊕ Bool) :=
 bif a0 then out (some true) else (some (.inl (w64 (a1 + 1))))
noncomputable def jS (a1:Int) (a0:List Int):Option ((List Int×Int) ⊕ (Int ⊕ Bool)) :=
 some (.inl (a0,w64 (a1 + 1)))
noncomputable def nV (a0:History) (a1:Exec) (a2:Int):(List Int×Int)→Option ((List Int×Int) ⊕ (Int ⊕ Bool))
 | (a4,a3)=>bif decide (a3 < (a1.Order.length:Int)) then must (0≤a3∧a3 < (a1.Order.length:Int)) (bif (idx a1.Order a3 != w64 ((IntKind.wrap .u64 (a2)).tmod (IntKind.wrap .u64 ((a0.Txns.length:Int))))) then must (((a4.length + 1) + (a4.length + 1) / 4 + 192) * 8≤281474976710656∧a4.length + 1≤9223372036854775807) (jS a3 (a4++([idx a1.Order a3]:List Int))) else (jS a3 a4)) else ((dD a0 (⟨a4,a1.Picks⟩:Exec)).bind fun a5=>bif (a5.1 == 0) then out (out (some (a5.2 == 0))) else (out (out (some false))))
noncomputable def nW (a0:History) (a1:Exec) (a2:Int):Int→Option (Int ⊕ Bool)
 | a3=>must (0≤w64 ((IntKind.wrap .u64 (a2)).tmod (IntKind.wrap .u64 ((a0.Txns.length:Int))))∧w64 ((IntKind.wrap .u64 (a2)).tmod (IntKind.wrap .u64 ((a0.Txns.length:Int)))) < (a0.Txns.length:Int)) (bif decide (a3 < (((idx a0.Txns (w64 ((IntKind.wrap .u64 (a2)).tmod (IntKind.wrap .u64 ((a0.Txns.length:Int)))))).Ops).length:Int)) then must (0≤a3∧a3 < (((idx a0.Txns (w64 ((IntKind.wrap .u64 (a2)).tmod (IntKind.wrap .u64 ((a0.Txns.length:Int)))))).Ops).length:Int)) (bif ((idx ((idx a0.Txns (w64 ((IntKind.wrap .u64 (a2)).tmod (IntKind.wrap .u64 ((a0.Txns.length:Int)))))).Ops) a3).Kind == 2) then gJ a3 true else (bif ((idx ((idx a0.Txns (w64 ((IntKind.wrap .u64 (a2)).tmod (IntKind.wrap .u64 ((a0.Txns.length:Int)))))).Ops) a3).Kind == 3) then gJ a3 true else (gJ a3 ((idx ((idx a0.Txns (w64 ((IntKind.wrap .u64 (a2)).tmod (IntKind.wrap .u64 ((a0.Txns.length:Int)))))).Ops) a3).Kind == 4)))) else (iter (nV a0 a1 a2) ([],0)))
noncomputable def jT (a0:History) (a1:Exec) (a2:Int) (a3:Bool):Option Bool :=
 bif a3 then some true else (iter (nW a0 a1 a2) 0)
noncomputable def gK (a0:History) (a1:Exec) (a2:Int) (a4:Bool):Option Bool :=
 bif a4 then some true else (must ((IntKind.wrap .u64 ((a0.Txns.length:Int)))≠0) (must (0≤w64 ((IntKind.wrap .u64 (a2)).tmod (IntKind.wrap .u64 ((a0.Txns.length:Int))))∧w64 ((IntKind.wrap .u64 (a2)).tmod (IntKind.wrap .u64 ((a0.Txns.length:Int)))) < (a0.Txns.length:Int)) (bif ((idx a0.Txns (w64 ((IntKind.wrap .u64 (a2)).tmod (IntKind.wrap .u64 ((a0.Txns.length:Int)))))).Status != 3) then jT a0 a1 a2 true else ((cK a1.Picks (w64 ((IntKind.wrap .u64 (a2)).tmod (IntKind.wrap .u64 ((a0.Txns.length:Int)))))).bind fun a3=>jT a0 a1 a2 a3))))
noncomputable def aF (a0:History) (a1:Exec) (a2:Int):Option Bool :=
 (fQ).bind fun a4=>bif !a4 then some false else ((dD a0 a1).bind fun a3=>bif (a3.2 != 0) then gK a0 a1 a2 true else (bif (a3.1 != 0) then gK a0 a1 a2 true else (gK a0 a1 a2 ((a0.Txns.length:Int) == 0))))
noncomputable def ib (a0:History) (a1:Exec) (a2:Int):Option Bool :=
 (dD a0 (⟨(([]:List Int)++a1.Order)++([a2]:List Int),a1.Picks⟩:Exec)).bind fun a3=>must (0≤a2∧a2 < (a0.Txns.length:Int)) (bif ((idx a0.Txns a2).Status == 2) then bif (a3.2 == 0) then some (a3.1 == 2) else (some false) else (bif (a3.2 == 0) then bif (a3.1 == 0) then some true else (some (a3.1 == 4)) else (some false)))
noncomputable def bF (a0:History) (a1:Exec) (a2:Int) (a3:Bool):Option Bool :=
 bif a3 then some true else (must (((0 + a1.Order.length) + (0 + a1.Order.length) / 4 + 192) * 8≤281474976710656∧0 + a1.Order.length≤9223372036854775807) (must (((((([]:List Int)++a1.Order).length) + 1) + (((([]:List Int)++a1.Order).length) + 1) / 4 + 192) * 8≤281474976710656∧((([]:List Int)++a1.Order).length) + 1≤9223372036854775807) (ib a0 a1 a2)))
noncomputable def aH (a0:History) (a1:Exec) (a2:Int):Option Bool :=
 (fQ).bind fun a5=>bif !a5 then some false else ((dD a0 a1).bind fun a3=>bif (a3.2 != 0) then bF a0 a1 a2 true else (bif (a3.1 != 0) then bF a0 a1 a2 true else (bif decide (a2 < 0) then bF a0 a1 a2 true else (bif decide (a2 ≥ (a0.Txns.length:Int)) then bF a0 a1 a2 true else ((cK a1.Order a2).bind fun a4=>bF a0 a1 a2 a4)))))
noncomputable def kT (a0:List Int) (a1:List Int):Int→Option (Int ⊕ Bool)
 | a2=>bif decide (a2 < (a0.length:Int)) then must (0≤a2∧a2 < (a0.length:Int)) (must (0≤a2∧a2 < (a1.length:Int)) (bif (idx a0 a2 != idx a1 a2) then out (some false) else (some (.inl (w64 (a2 + 1)))))) else (out (some true))
noncomputable def dO (a0:List Int) (a1:List Int):Option Bool :=
 bif ((a0.length:Int) != (a1.length:Int)) then some false else (iter (kT a0 a1) 0)
noncomputable def ny (a2:Int) (a3:Int) (a0:bq×Bool) (a1:Bool):Option (List Int×Bool) :=
 bif a1 then some (([]:List Int),false) else ((ai a0.1 a2 a3).bind fun a4=>some (a4,true))
noncomputable def kN (a0:History) (a1:List Int) (a2:Int) (a3:Int) (a5:Bool):Option (List Int×Bool) :=
 bif a5 then some (([]:List Int),false) else ((dz a0 a1).bind fun a4=>bif !a4.2 then ny a2 a3 a4 true else (bif decide (a3 ≥ 0) then ny a2 a3 a4 (!(ja a4.1.at_ a3)) else (ny a2 a3 a4 false)))
noncomputable def fG (a0:History) (a1:List Int) (a2:Int) (a3:Int):Option (List Int×Bool) :=
 (ay a0).bind fun a4=>bif (a4 != 0) then kN a0 a1 a2 a3 true else (bif decide (a2 < 0) then kN a0 a1 a2 a3 true else (bif decide (a2 ≥ (a0.Keys.length:Int)) then kN a0 a1 a2 a3 true else (kN a0 a1 a2 a3 (decide (a3 < (-1))))))
noncomputable def nI (a0:List ByteArray) (a1:ByteArray):Int→Option (Int ⊕ Int)
 | a2=>bif decide (a2 < (a0.length:Int)) then must (0≤a2∧a2 < (a0.length:Int)) (bif sEq (idx a0 a2) a1 then out (some a2) else (some (.inl (w64 (a2 + 1))))) else (out (some (-1)))
noncomputable def eB (a0:List ByteArray) (a1:ByteArray):Option Int :=
 iter (nI a0 a1) 0
noncomputable def iE (a0:Int) (a1:Bool):Option (Int ⊕ Bool) :=
 bif a1 then out (some false) else (some (.inl (w64 (a0 + 1))))
noncomputable def mQ (a0:List ByteArray):Int→Option (Int ⊕ Bool)
 | a1=>bif decide (a1 < (a0.length:Int)) then must (0≤a1∧a1 < (a0.length:Int)) (bif decide (((idx a0 a1).size:Int) < 1) then iE a1 true else (bif decide (((idx a0 a1).size:Int) > 32) then iE a1 true else (must (0≤(0:Int)∧(0:Int)≤a1∧a1≤(a0.length:Int)) ((eB (df a0 (0:Int) a1) (idx a0 a1)).bind fun a2=>iE a1 (decide (a2 ≥ 0)))))) else (out (some (decide ((a0.length:Int)≤32))))
noncomputable def cO (a0:List ByteArray):Option Bool :=
 iter (mQ a0) 0
noncomputable def gW (a0:Int) (a1:Bool):Option (Int ⊕ Bool) :=
 bif a1 then out (some false) else (some (.inl (w64 (a0 + 1))))
noncomputable def jF (a0:List Txn) (a1:Int):Int→Option (Int ⊕ Bool)
 | a2=>bif decide (a2 < a1) then must (0≤a2∧a2 < (a0.length:Int)) (bif ((idx a0 a2).Proc == (idx a0 a1).Proc) then bif ((idx a0 a2).To == (-1)) then gW a2 true else (gW a2 (decide ((idx a0 a2).To ≥ (idx a0 a1).From))) else (gW a2 false)) else (out (some true))
noncomputable def jG (a0:List Txn) (a1:Int) (a2:Bool):Option Bool :=
 bif a2 then some false else (iter (jF a0 a1) 0)
noncomputable def bY (a0:List Txn) (a1:Int) (a2:Bool):Option Bool :=
 bif a2 then some false else (bif decide (a1 > 0) then must (0≤w64 (a1 - 1)∧w64 (a1 - 1) < (a0.length:Int)) (jG a0 a1 (decide ((idx a0 a1).From≤(idx a0 (w64 (a1 - 1))).From))) else (jG a0 a1 false))
noncomputable def az (a0:List Txn) (a1:Int):Option Bool :=
 must (0≤a1∧a1 < (a0.length:Int)) (bif decide ((idx a0 a1).Status < 1) then bY a0 a1 true else (bif decide ((idx a0 a1).Status > 3) then bY a0 a1 true else (bif decide ((idx a0 a1).From < 0) then bY a0 a1 true else (bif ((idx a0 a1).To != (-1)) then bif decide ((idx a0 a1).To≤(idx a0 a1).From) then bY a0 a1 true else (bif ((idx a0 a1).To == (-1)) then bY a0 a1 ((idx a0 a1).Status != 3) else (bY a0 a1 false)) else (bif ((idx a0 a1).To == (-1)) then bY a0 a1 ((idx a0 a1).Status != 3) else (bY a0 a1 false))))))
noncomputable def iT (a0:Call):Option Bool :=
 some (decide ((a0.Vals.length:Int)≤64))
noncomputable def kC (a0:Call):Int→Option (Int ⊕ Bool)
 | a1=>bif decide (a1 < (a0.Vals.length:Int)) then must (0≤a1∧a1 < (a0.Vals.length:Int)) (must (0≤w64 (a1 - 1)∧w64 (a1 - 1) < (a0.Vals.length:Int)) (bif decide (idx a0.Vals a1≤idx a0.Vals (w64 (a1 - 1))) then out (some false) else (some (.inl (w64 (a1 + 1)))))) else (out (iT a0))
noncomputable def gp (a0:Call) (a1:Bool):Option Bool :=
 bif a1 then some false else (bif (a0.Kind == 5) then some (decide ((a0.Vals.length:Int)≤1)) else (bif (a0.Kind == 8) then bif !a0.Got then some true else (some ((a0.Vals.length:Int) == 1)) else (bif (a0.Kind == 7) then iter (kC a0) 1 else (iT a0))))
noncomputable def gq (a0:Call) (a1:Int) (a2:Bool):Option Bool :=
 bif a2 then some false else (bif decide (a0.Kind≤4) then bif !a0.Got then bif ((a0.Vals.length:Int) == 0) then bif (a0.Kind != 4) then some true else (bif decide (a0.Arg ≥ (-1048576)) then some (decide (a0.Arg≤1048576)) else (some false)) else (some false) else (some false) else (bif (a0.Arg != 0) then gp a0 true else (bif (a0.Got != (a1 == 1)) then gp a0 true else (bif !a0.Got then gp a0 (decide ((a0.Vals.length:Int) > 0)) else (gp a0 false)))))
noncomputable def aP (a0:Call) (a1:Int):Option Bool :=
 bif decide (a0.Kind < 1) then gq a0 a1 true else (bif decide (a0.Kind > 8) then gq a0 a1 true else (bif decide ((a0.Key.size:Int) < 1) then gq a0 a1 true else (gq a0 a1 (decide ((a0.Key.size:Int) > 32)))))
noncomputable def jU (a0:Event):Int→Option (Int ⊕ Bool)
 | a1=>bif decide (a1 < (a0.Calls.length:Int)) then must (0≤a1∧a1 < (a0.Calls.length:Int)) ((aP (idx a0.Calls a1) a0.Kind).bind fun a2=>bif !a2 then out (some false) else (some (.inl (w64 (a1 + 1))))) else (out (some true))
noncomputable def iF (a0:Event) (b9:Bool):Option Bool :=
 bif b9 then some false else (iter (jU a0) 0)
noncomputable def bN (a0:Event):Option Bool :=
 bif decide (a0.Kind < 0) then iF a0 true else (bif decide (a0.Kind > 3) then iF a0 true else (iF a0 (decide ((a0.Calls.length:Int) > 16))))
noncomputable def mR (a0:List Event):Int→Option (Int ⊕ Int)
 | a1=>bif decide (a1 < (a0.length:Int)) then must (0≤a1∧a1 < (a0.length:Int)) ((bN (idx a0 a1)).bind fun a2=>bif !a2 then out (some 1) else (some (.inl (w64 (a1 + 1))))) else (out (some 0))
noncomputable def fT (a0:List Event):Option Int :=
 bif decide ((a0.length:Int) > 256) then some 1 else (iter (mR a0) 0)
noncomputable def iV (a0:Int):Option Int :=
 some (w64 (((w64 (a0 - 1)).tmod (4:Int)) + 1))
noncomputable def eY (a1:List ByteArray) (a2:List Int) (a3:List (List Int)) (a0:List Int) (a4:List Int):Option (Int×ak) :=
 some (0,(⟨a1,a2,a3,a0,a4⟩:ak))
noncomputable def eZ (a2:Int) (a4:List ByteArray) (a5:List Int) (a1:List Int) (a3:List Int) (a0:Int) (a6:List (List Int)) (a7:Bool):Option (Int×ak) :=
 bif a7 then must (0≤a0∧a0 < (a3.length:Int)) (must (0≤a0∧a0 < (a1.length:Int)) (bif decide (idx (a1.set a0.toNat (w64 ((idx a1 a0) + 1))) a0 > 8) then some (51,(⟨a4,a5,a6,a1.set a0.toNat (w64 ((idx a1 a0) + 1)),a3.set a0.toNat a2⟩:ak)) else (eY a4 a5 a6 (a1.set a0.toNat (w64 ((idx a1 a0) + 1))) (a3.set a0.toNat a2)))) else (eY a4 a5 a6 a1 a3)
noncomputable def dU (a1:Call) (a2:Int) (a4:List ByteArray) (a6:List Int) (a5:List Int) (a3:List Int) (a0:Int) (a7:List (List Int)):Option (Int×ak) :=
 bif (a1.Kind == 4) then must (0≤a0∧a0 < (a3.length:Int)) (eZ a2 a4 a6 a5 a3 a0 a7 (idx a3 a0 != a2)) else (eZ a2 a4 a6 a5 a3 a0 a7 false)
noncomputable def ig (a1:Call) (a2:Int) (a5:List ByteArray) (a7:List Int) (a3:List (List Int)) (a6:List Int) (a8:List Int) (a0:Int):Int→Option (Int ⊕ (Int×ak))
 | a4=>must (0≤a0∧a0 < (a3.length:Int)) (bif decide (a4 < ((idx a3 a0).length:Int)) then must (0≤a4∧a4 < ((idx a3 a0).length:Int)) (bif (idx (idx a3 a0) a4 == a1.Arg) then out (some (3,(⟨a5,a7,a3,a6,a8⟩:ak))) else (some (.inl (w64 (a4 + 1))))) else (must (((((idx a3 a0).length) + 1) + (((idx a3 a0).length) + 1) / 4 + 192) * 8≤281474976710656∧((idx a3 a0).length) + 1≤9223372036854775807) (out (dU a1 a2 a5 a7 a6 a8 a0 (a3.set a0.toNat ((idx a3 a0)++([a1.Arg]:List Int)))))))
noncomputable def ik (a1:Call) (a2:Int) (a4:List ByteArray) (a6:List Int) (a3:List (List Int)) (a5:List Int) (a7:List Int) (a0:Int) (a8:Bool):Option (Int×ak) :=
 bif a8 then iter (ig a1 a2 a4 a6 a3 a5 a7 a0) 0 else (dU a1 a2 a4 a6 a5 a7 a0 a3)
noncomputable def dC (a1:Call) (a2:Int) (a5:List ByteArray) (a3:List Int) (a4:List (List Int)) (a6:List Int) (a7:List Int) (a0:Int):Option (Int×ak) :=
 must (0≤a0∧a0 < (a3.length:Int)) ((iV a1.Kind).bind fun a8=>bif (idx a3 a0 != a8) then some (50,(⟨a5,a3,a4,a6,a7⟩:ak)) else (bif (a1.Kind == 2) then ik a1 a2 a5 a3 a4 a6 a7 a0 true else (ik a1 a2 a5 a3 a4 a6 a7 a0 (a1.Kind == 3))))
noncomputable def iq (a0:ak) (a1:Call) (a2:Int) (a3:List Int):Option (Int×ak) :=
 must (((a0.wrote.length + 1) + (a0.wrote.length + 1) / 4 + 192) * 24≤281474976710656∧a0.wrote.length + 1≤9223372036854775807) (must (((a0.incs.length + 1) + (a0.incs.length + 1) / 4 + 192) * 8≤281474976710656∧a0.incs.length + 1≤9223372036854775807) (must (((a0.last_.length + 1) + (a0.last_.length + 1) / 4 + 192) * 8≤281474976710656∧a0.last_.length + 1≤9223372036854775807) (dC a1 a2 (a0.keys++([a1.Key]:List ByteArray)) a3 (a0.wrote++([([]:List Int)]:List (List Int))) (a0.incs++([0]:List Int)) (a0.last_++([(-1)]:List Int)) (a0.keys.length:Int))))
noncomputable def iw (a0:ak) (a1:Call) (a2:Int):Option (Int×ak) :=
 (iV a1.Kind).bind fun a3=>must (((a0.types.length + 1) + (a0.types.length + 1) / 4 + 192) * 8≤281474976710656∧a0.types.length + 1≤9223372036854775807) (iq a0 a1 a2 (a0.types++([a3]:List Int)))
noncomputable def af (a0:ak) (a1:Call) (a2:Int):Option (Int×ak) :=
 (eB a0.keys a1.Key).bind fun y5=>bif decide (y5 < 0) then bif decide ((a0.keys.length:Int) ≥ 32) then some (2,a0) else (must (((a0.keys.length + 1) + (a0.keys.length + 1) / 4 + 192) * 16≤281474976710656∧a0.keys.length + 1≤9223372036854775807) (iw a0 a1 a2)) else (dC a1 a2 a0.keys a0.types a0.wrote a0.incs a0.last_ y5)
noncomputable def mU (a0:History) (a2:Int) (a3:List Call) (a1:Int):Option ((List Call×Int) ⊕ ((List ByteArray×List Int×(List (List Int))×List Int×List Int×Int) ⊕ Int)) :=
 some (.inl (a3++([(⟨(idx ((idx a0.Txns a2).Ops) a1).Kind,idx a0.Keys ((idx ((idx a0.Txns a2).Ops) a1).Key),(idx ((idx a0.Txns a2).Ops) a1).Arg,(idx ((idx a0.Txns a2).Ops) a1).Got,(idx ((idx a0.Txns a2).Ops) a1).Vals⟩:Call)]:List Call),w64 (a1 + 1)))
noncomputable def jV (a0:History) (a3:Int) (a1:List Call) (a2:Int) (a4:Bool):Option ((List Call×Int) ⊕ ((List ByteArray×List Int×(List (List Int))×List Int×List Int×Int) ⊕ Int)) :=
 bif a4 then out (out (some 1)) else (must (0≤(idx ((idx a0.Txns a3).Ops) a2).Key∧(idx ((idx a0.Txns a3).Ops) a2).Key < (a0.Keys.length:Int)) (must (((a1.length + 1) + (a1.length + 1) / 4 + 192) * 64≤281474976710656∧a1.length + 1≤9223372036854775807) (mU a0 a3 a1 a2)))
noncomputable def eD (a6:Int) (a2:List Call):(List ByteArray×List Int×(List (List Int))×List Int×List Int×Int)→Option ((List ByteArray×List Int×(List (List Int))×List Int×List Int×Int) ⊕ ((List Call×Int) ⊕ ((List ByteArray×List Int×(List (List Int))×List Int×List Int×Int) ⊕ Int)))
 | (a3,a7,a4,a5,a8,a1)=>bif decide (a1 < (a2.length:Int)) then must (0≤a1∧a1 < (a2.length:Int)) ((af (⟨a3,a7,a4,a5,a8⟩:ak) (idx a2 a1) a6).bind fun a0=>bif (a0.1 != 0) then out (out (out (some 1))) else (some (.inl (a0.2.keys,a0.2.types,a0.2.wrote,a0.2.incs,a0.2.last_,w64 (a1 + 1))))) else (out (out (some (.inl (a3,a7,a4,a5,a8,w64 (a6 + 1))))))
noncomputable def eF (a0:History) (a5:List ByteArray) (a6:List Int) (a4:List (List Int)) (a9:List Int) (a7:List Int) (a1:Int):(List Call×Int)→Option ((List Call×Int) ⊕ ((List ByteArray×List Int×(List (List Int))×List Int×List Int×Int) ⊕ Int))
 | (a3,a2)=>bif decide (a2 < (((idx a0.Txns a1).Ops).length:Int)) then must (0≤a2∧a2 < (((idx a0.Txns a1).Ops).length:Int)) (bif decide ((idx ((idx a0.Txns a1).Ops) a2).Key < 0) then jV a0 a1 a3 a2 true else (jV a0 a1 a3 a2 (decide ((idx ((idx a0.Txns a1).Ops) a2).Key ≥ (a0.Keys.length:Int))))) else ((fT ([(⟨0,(idx a0.Txns a1).Status,a3⟩:Event)]:List Event)).bind fun a8=>bif (a8 != 0) then out (out (some 1)) else (iter (eD a1 a3) (a5,a6,a4,a9,a7,0)))
noncomputable def iG (a0:History) (a3:List ByteArray) (a4:List Int) (a2:List (List Int)) (a7:List Int) (a6:List Int) (a5:Int) (a1:Bool):Option ((List ByteArray×List Int×(List (List Int))×List Int×List Int×Int) ⊕ Int) :=
 bif a1 then out (some 1) else (iter (eF a0 a3 a4 a2 a7 a6 a5) ([],0))
noncomputable def iH (a0:History):(List ByteArray×List Int×(List (List Int))×List Int×List Int×Int)→Option ((List ByteArray×List Int×(List (List Int))×List Int×List Int×Int) ⊕ Int)
 | (a3,a4,a2,a6,a5,a1)=>bif decide (a1 < (a0.Txns.length:Int)) then must (0≤a1∧a1 < (a0.Txns.length:Int)) ((az a0.Txns a1).bind fun a7=>bif !a7 then iG a0 a3 a4 a2 a6 a5 a1 true else (iG a0 a3 a4 a2 a6 a5 a1 (decide ((((idx a0.Txns a1).Ops).length:Int) > 16)))) else (out (some 0))
noncomputable def fM (a0:History) (a1:Bool):Option Int :=
 bif a1 then some 1 else (iter (iH a0) ([],[],[],[],[],0))
noncomputable def ag (a0:History):Option Int :=
 (cO a0.Keys).bind fun a1=>bif !a1 then fM a0 true else (fM a0 (decide ((a0.Txns.length:Int) > 32)))
noncomputable def gX (a1:List Int) (a2:List Int) (a0:Int) (a3:Bool):Option ((List Int×Int) ⊕ (List Int×Bool)) :=
 bif a3 then out (some (([]:List Int),false)) else (must (0≤idx a1 a0∧idx a1 a0 < (a2.length:Int)) (some (.inl (a2.set (idx a1 a0).toNat (w64 (a0 + 1)),w64 (a0 + 1)))))
noncomputable def lS (a1:Int) (a0:Bool):Option (Int ⊕ ((List Int×Int) ⊕ (List Int×Bool))) :=
 bif a0 then out (out (some (([]:List Int),false))) else (some (.inl (w64 (a1 + 1))))
noncomputable def qZ (a0:History) (a2:List Int):Int→Option (Int ⊕ ((List Int×Int) ⊕ (List Int×Bool)))
 | a1=>bif decide (a1 < (a0.Txns.length:Int)) then must (0≤a1∧a1 < (a0.Txns.length:Int)) (bif ((idx a0.Txns a1).Status == 1) then must (0≤a1∧a1 < (a2.length:Int)) (lS a1 (idx a2 a1 == 0)) else (lS a1 false)) else (out (out (some (a2,true))))
noncomputable def rf (a0:History) (a1:List Int):(List Int×Int)→Option ((List Int×Int) ⊕ (List Int×Bool))
 | (a3,a2)=>bif decide (a2 < (a1.length:Int)) then must (0≤a2∧a2 < (a1.length:Int)) (bif decide (idx a1 a2 < 0) then gX a1 a3 a2 true else (bif decide (idx a1 a2 ≥ (a0.Txns.length:Int)) then gX a1 a3 a2 true else (must (0≤idx a1 a2∧idx a1 a2 < (a3.length:Int)) (bif (idx a3 (idx a1 a2) != 0) then gX a1 a3 a2 true else (must (0≤idx a1 a2∧idx a1 a2 < (a0.Txns.length:Int)) (gX a1 a3 a2 ((idx a0.Txns (idx a1 a2)).Status == 2))))))) else (iter (qZ a0 a3) 0)
noncomputable def bI (a0:History) (a1:List Int):Option (List Int×Bool) :=
 must (0≤(a0.Txns.length:Int)∧(a0.Txns.length:Int)≤9223372036854775807∧(8:Int) * (a0.Txns.length:Int)≤281474976710656) (iter (rf a0 a1) (List.replicate (a0.Txns.length:Int).toNat (default:Int),0))
noncomputable def kR (a0:Int):Option Bool :=
 some (decide (a0≤4))
noncomputable def mV (a0:Int) (a1:List Int):Option ((List Int×Int) ⊕ (List Int)) :=
 some (.inl (a1,w64 (a0 + 1)))
noncomputable def mW (a0:History) (a1:Int) (a2:List Int) (a3:Int) (a4:Bool):Option ((List Int×Int) ⊕ (List Int)) :=
 bif a4 then must (((a2.length + 1) + (a2.length + 1) / 4 + 192) * 8≤281474976710656∧a2.length + 1≤9223372036854775807) (mV a3 (a2++([(idx ((idx a0.Txns a1).Ops) a3).Arg]:List Int))) else (mV a3 a2)
noncomputable def rW (a0:History) (a1:Int) (a2:Int):(List Int×Int)→Option ((List Int×Int) ⊕ (List Int))
 | (a4,a3)=>must (0≤a1∧a1 < (a0.Txns.length:Int)) (bif decide (a3 < (((idx a0.Txns a1).Ops).length:Int)) then must (0≤a3∧a3 < (((idx a0.Txns a1).Ops).length:Int)) (bif ((idx ((idx a0.Txns a1).Ops) a3).Key == a2) then (kR ((idx ((idx a0.Txns a1).Ops) a3).Kind)).bind fun a5=>mW a0 a1 a4 a3 a5 else (mW a0 a1 a4 a3 false)) else (out (some a4)))
noncomputable def bz (a0:History) (a1:Int) (a2:Int):Option (List Int) :=
 iter (rW a0 a1 a2) ([],0)
noncomputable def rq (a1:List Int) (a0:Int):Option ((List Int×Int) ⊕ ((List Int×Int) ⊕ (List Int))) :=
 some (.inl ((a1.set a0.toNat (idx a1 (w64 (a0 - 1)))).set (w64 (a0 - 1)).toNat (idx a1 a0),w64 (a0 - 1)))
noncomputable def lT (a2:Int) (a1:List Int) (a0:Int) (a3:Bool):Option ((List Int×Int) ⊕ ((List Int×Int) ⊕ (List Int))) :=
 bif a3 then must (0≤w64 (a0 - 1)∧w64 (a0 - 1) < (a1.length:Int)) (must (0≤a0∧a0 < (a1.length:Int)) (rq a1 a0)) else (out (some (.inl (a1,w64 (a2 + 1)))))
noncomputable def ru (a2:Int):(List Int×Int)→Option ((List Int×Int) ⊕ ((List Int×Int) ⊕ (List Int)))
 | (a1,a0)=>bif decide (a0 > 0) then must (0≤a0∧a0 < (a1.length:Int)) (must (0≤w64 (a0 - 1)∧w64 (a0 - 1) < (a1.length:Int)) (lT a2 a1 a0 (decide (idx a1 a0 < idx a1 (w64 (a0 - 1)))))) else (lT a2 a1 a0 false)
noncomputable def ry (a0:List Int):(List Int×Int)→Option ((List Int×Int) ⊕ (List Int))
 | (a1,a2)=>bif decide (a2 < (a0.length:Int)) then must (0≤a2∧a2 < (a0.length:Int)) (must (((a1.length + 1) + (a1.length + 1) / 4 + 192) * 8≤281474976710656∧a1.length + 1≤9223372036854775807) (iter (ru a2) (a1++([idx a0 a2]:List Int),w64 (((a1++([idx a0 a2]:List Int)).length:Int) - 1)))) else (out (some a1))
noncomputable def dh (a0:List Int):Option (List Int) :=
 iter (ry a0) ([],0)
noncomputable def fA (a0:List Int):Option (List Int) :=
 some a0
noncomputable def rz (a1:List Int):(Int×Int)→Option ((Int×Int) ⊕ (List Int))
 | (a2,a0)=>bif decide (a0 < (a1.length:Int)) then must (0≤a0∧a0 < (a1.length:Int)) (some (.inl (w64 (a2 + (idx a1 a0)),w64 (a0 + 1)))) else (out (fA ([a2]:List Int)))
noncomputable def lU (a2:Int) (a0:List Int):Option (List Int) :=
 bif (a2 == 1) then bif decide ((a0.length:Int) > 0) then must (0≤(w64 ((a0.length:Int) - 1))∧(w64 ((a0.length:Int) - 1))≤(a0.length:Int)∧(a0.length:Int)≤(a0.length:Int)) (fA (df a0 (w64 ((a0.length:Int) - 1)) (a0.length:Int))) else (fA a0) else (bif (a2 == 3) then (dh a0).bind fun a1=>fA a1 else (bif (a2 == 4) then iter (rz a0) (0,0) else (fA a0)))
noncomputable def lV (a0:History) (a1:List Int) (a2:Int) (a3:Int) (a4:Int) (a5:List Int) (a7:Int) (a8:Bool):Option ((List Int×Int) ⊕ (List Int)) :=
 bif a8 then must (0≤a7∧a7 < (a1.length:Int)) ((bz a0 (idx a1 a7) a3).bind fun a6=>must (((a5.length + a6.length) + (a5.length + a6.length) / 4 + 192) * 8≤281474976710656∧a5.length + a6.length≤9223372036854775807) (bif (idx a1 a7 == a4) then out (lU a2 (a5++a6)) else (some (.inl (a5++a6,w64 (a7 + 1)))))) else (out (lU a2 a5))
noncomputable def rA (a0:History) (a1:List Int) (a2:Int) (a3:Int) (a4:Int):(List Int×Int)→Option ((List Int×Int) ⊕ (List Int))
 | (a6,a5)=>bif decide (a5 < (a1.length:Int)) then lV a0 a1 a2 a3 a4 a6 a5 (decide (a4 ≥ 0)) else (lV a0 a1 a2 a3 a4 a6 a5 false)
noncomputable def aY (a0:History) (a1:List Int) (a2:Int) (a3:Int) (a4:Int):Option (List Int) :=
 iter (rA a0 a1 a2 a3 a4) ([],0)
noncomputable def uf (a0:History) (a1:Int) (a2:Int):Int→Option (Int ⊕ (Int ⊕ Int))
 | a3=>must (0≤a2∧a2 < (a0.Txns.length:Int)) (bif decide (a3 < (((idx a0.Txns a2).Ops).length:Int)) then must (0≤a3∧a3 < (((idx a0.Txns a2).Ops).length:Int)) (bif ((idx ((idx a0.Txns a2).Ops) a3).Key == a1) then (iV ((idx ((idx a0.Txns a2).Ops) a3).Kind)).bind fun a4=>out (out (some a4)) else (some (.inl (w64 (a3 + 1))))) else (out (some (.inl (w64 (a2 + 1))))))
noncomputable def ug (a0:History) (a1:Int):Int→Option (Int ⊕ Int)
 | a2=>bif decide (a2 < (a0.Txns.length:Int)) then iter (uf a0 a1 a2) 0 else (out (some 0))
noncomputable def iW (a0:History) (a1:Int):Option Int :=
 (ag a0).bind fun y8=>bif (y8 != 0) then some 0 else (iter (ug a0 a1) 0)
noncomputable def eP (a0:History) (a1:List Int) (a2:Int) (a3:Int) (a4:Bool):Option (List Int×Bool) :=
 bif a4 then some (([]:List Int),false) else ((iW a0 a2).bind fun a5=>(aY a0 a1 a5 a2 a3).bind fun a6=>some (a6,true))
noncomputable def jf (a0:History) (a1:List Int) (a2:Int) (a3:Int) (a5:Bool):Option (List Int×Bool) :=
 bif a5 then some (([]:List Int),false) else ((bI a0 a1).bind fun a4=>bif !a4.2 then eP a0 a1 a2 a3 true else (bif decide (a3 < (-1)) then eP a0 a1 a2 a3 true else (bif decide (a3 ≥ (a4.1.length:Int)) then eP a0 a1 a2 a3 true else (bif decide (a3 ≥ 0) then must (0≤a3∧a3 < (a4.1.length:Int)) (eP a0 a1 a2 a3 (idx a4.1 a3 == 0)) else (eP a0 a1 a2 a3 false)))))
noncomputable def cz (a0:History) (a1:List Int) (a2:Int) (a3:Int):Option (List Int×Bool) :=
 (ag a0).bind fun a4=>bif (a4 != 0) then jf a0 a1 a2 a3 true else (bif decide (a2 < 0) then jf a0 a1 a2 a3 true else (jf a0 a1 a2 a3 (decide (a2 ≥ (a0.Keys.length:Int)))))
noncomputable def fO (a0:Int) (a1:Bool):Option (Int ⊕ (Int ⊕ Bool)) :=
 bif a1 then out (out (some false)) else (some (.inl (w64 (a0 + 1))))
noncomputable def rX (a0:History) (a1:List Int) (a3:Int):Int→Option (Int ⊕ (Int ⊕ Bool))
 | a2=>bif decide (a2 < (a1.length:Int)) then must (0≤a3∧a3 < (a1.length:Int)) (bif (idx a1 a3 != 0) then must (0≤a2∧a2 < (a1.length:Int)) (bif (idx a1 a2 != 0) then must (0≤a3∧a3 < (a0.Txns.length:Int)) (bif ((idx a0.Txns a3).Status == 1) then must (0≤a2∧a2 < (a0.Txns.length:Int)) (bif decide ((idx a0.Txns a3).To < (idx a0.Txns a2).From) then fO a2 (decide (idx a1 a3 ≥ idx a1 a2)) else (fO a2 false)) else (fO a2 false)) else (fO a2 false)) else (fO a2 false)) else (out (some (.inl (w64 (a3 + 1)))))
noncomputable def rY (a0:History) (a1:List Int):Int→Option (Int ⊕ Bool)
 | a2=>bif decide (a2 < (a1.length:Int)) then iter (rX a0 a1 a2) 0 else (out (some true))
noncomputable def dB (a0:History) (a1:List Int):Option Bool :=
 iter (rY a0 a1) 0
noncomputable def qd (a0:Int) (a1:List Int):Option ((List Int×Int) ⊕ (List Int)) :=
 some (.inl (a1,w64 (a0 + 1)))
noncomputable def qf (a0:List Int) (a1:Int) (a2:Bool):Option ((List Int×Int) ⊕ (List Int)) :=
 bif a2 then must (((a0.length + 1) + (a0.length + 1) / 4 + 192) * 8≤281474976710656∧a0.length + 1≤9223372036854775807) (qd a1 (a0++([a1]:List Int))) else (qd a1 a0)
noncomputable def wm (a0:History) (a1:Int):(List Int×Int)→Option ((List Int×Int) ⊕ (List Int))
 | (a3,a2)=>bif decide (a2 < (a0.Txns.length:Int)) then must (0≤a2∧a2 < (a0.Txns.length:Int)) (bif ((idx a0.Txns a2).Status != 2) then (cu (idx a0.Txns a2) a1).bind fun a4=>qf a3 a2 (decide ((a4.length:Int) > 0)) else (qf a3 a2 false)) else (out (some a3))
noncomputable def fH (a0:History) (a1:Int):Option (List Int) :=
 (ay a0).bind fun y8=>bif (y8 != 0) then some ([]:List Int) else (iter (wm a0 a1) ([],0))
noncomputable def qg (a0:Int) (a1:List aX):Option ((List aX×Int) ⊕ (List aX)) :=
 some (.inl (a1,w64 (a0 + 1)))
noncomputable def qh (a3:List Int) (a0:List aX) (a1:Int) (a4:List Int×Bool) (a2:Bool):Option ((List aX×Int) ⊕ (List aX)) :=
 bif a2 then must (((a0.length + 1) + (a0.length + 1) / 4 + 192) * 32≤281474976710656∧a0.length + 1≤9223372036854775807) (qg a1 (a0++([(⟨idx a3 a1,a4.1⟩:aX)]:List aX))) else (qg a1 a0)
noncomputable def wo (a0:History) (a1:Ask) (a3:List Int):(List aX×Int)→Option ((List aX×Int) ⊕ (List aX))
 | (a5,a2)=>bif decide (a2 < (a3.length:Int)) then must (0≤a2∧a2 < (a3.length:Int)) ((eX a0 (idx a3 a2) a1.Key).bind fun a4=>bif a4.2 then qh a3 a5 a2 a4 (idx a3 a2 != a1.Txn) else (qh a3 a5 a2 a4 false)) else (out (some a5))
noncomputable def dQ (a0:History) (a1:Ask):Option (List aX) :=
 (fH a0 a1.Key).bind fun a2=>iter (wo a0 a1 a2) ([],0)
noncomputable def yG (a0:aX) (a1:List Int):Option Bool :=
 must (0≤(0:Int)∧(0:Int) < (a0.args.length:Int)) (must (0≤(0:Int)∧(0:Int) < (a1.length:Int)) (some (idx a0.args (0:Int) == idx a1 (0:Int))))
noncomputable def uh (a0:List Int) (a1:Int):Int→Option (Int ⊕ Int)
 | a2=>bif decide (a2 < (a0.length:Int)) then must (0≤a2∧a2 < (a0.length:Int)) (bif (a1 == idx a0 a2) then out (some a2) else (some (.inl (w64 (a2 + 1))))) else (out (some (-1)))
noncomputable def slices_Index_int (a0:List Int) (a1:Int):Option Int :=
 iter (uh a0 a1) 0
noncomputable def slices_Contains_int (a0:List Int) (a1:Int):Option Bool :=
 (slices_Index_int a0 a1).bind fun y3=>some (decide (y3 ≥ 0))
noncomputable def jM (a0:List aX) (a1c0:List Int):Int→Option (Int ⊕ Int)
 | a1=>bif decide (a1 < (a0.length:Int)) then must (0≤a1∧a1 < (a0.length:Int)) ((yG (idx a0 a1) a1c0).bind fun a2=>bif a2 then out (some a1) else (some (.inl (w64 (a1 + 1))))) else (out (some (-1)))
noncomputable def dV (a0:List aX) (a1c0:List Int):Option Int :=
 iter (jM a0 a1c0) 0
noncomputable def lC (a1:List aX) (a2:List Int) (a3:List Int) (a0:Int) (a4:Bool):Option ((List Int×List Int) ⊕ (List Int×Bool)) :=
 bif a4 then out (some (([]:List Int),false)) else (must (0≤a0∧a0 < (a1.length:Int)) (must (((a3.length + 1) + (a3.length + 1) / 4 + 192) * 8≤281474976710656∧a3.length + 1≤9223372036854775807) (must (0≤(((idx a1 a0).args).length:Int)∧(((idx a1 a0).args).length:Int)≤(a2.length:Int)∧(a2.length:Int)≤(a2.length:Int)) (some (.inl (df a2 (((idx a1 a0).args).length:Int) (a2.length:Int),a3++([(idx a1 a0).txn]:List Int)))))))
noncomputable def xK (a1:List aX):(List Int×List Int)→Option ((List Int×List Int) ⊕ (List Int×Bool))
 | (a2,a3)=>bif decide ((a2.length:Int) > 0) then (dV a1 a2).bind fun a0=>bif decide (a0 < 0) then lC a1 a2 a3 a0 true else (must (0≤a0∧a0 < (a1.length:Int)) (bif decide ((((idx a1 a0).args).length:Int) > (a2.length:Int)) then lC a1 a2 a3 a0 true else (must (0≤(0:Int)∧(0:Int)≤(((idx a1 a0).args).length:Int)∧(((idx a1 a0).args).length:Int)≤(a2.length:Int)) ((bU ((idx a1 a0).args) (df a2 (0:Int) (((idx a1 a0).args).length:Int))).bind fun a4=>bif !a4 then lC a1 a2 a3 a0 true else ((slices_Contains_int a3 ((idx a1 a0).txn)).bind fun a5=>lC a1 a2 a3 a0 a5))))) else (out (some (a3,true)))
noncomputable def jb (a0:List Int) (a1:List aX):Option (List Int×Bool) :=
 iter (xK a1) (a0,[])
noncomputable def uq (a0:Int) (a2:List Int) (a1:List (Int×Unit)):Option ((List Int×(List (Int×Unit))×Int) ⊕ (((List (Int×Unit))×Int) ⊕ (List Int×Bool))) :=
 some (.inl (a2,a1,w64 (a0 + 1)))
noncomputable def ut (a1:Int) (a0:List (Int×Unit)) (a2:Int):Option (((List (Int×Unit))×Int×Int) ⊕ ((List Int×(List (Int×Unit))×Int) ⊕ (((List (Int×Unit))×Int) ⊕ (List Int×Bool)))) :=
 some (.inl (a0,a2,w64 (a1 + 1)))
noncomputable def uu (a1:List aX) (a0:List Int) (a2:Int) (a3:List (Int×Unit)) (a5:Int) (a4:Bool):Option (((List (Int×Unit))×Int×Int) ⊕ ((List Int×(List (Int×Unit))×Int) ⊕ (((List (Int×Unit))×Int) ⊕ (List Int×Bool)))) :=
 bif a4 then out (out (out (some (([]:List Int),false)))) else (bif decide (a5 > 0) then must (((a0.length + 1) + (a0.length + 1) / 4 + 192) * 8≤281474976710656∧a0.length + 1≤9223372036854775807) (out (uq a2 (a0++([(idx a1 a2).txn]:List Int)) a3)) else (out (uq a2 a0 a3)))
noncomputable def yH (a1:List aX) (a5:List Int) (a2:Int):((List (Int×Unit))×Int×Int)→Option (((List (Int×Unit))×Int×Int) ⊕ ((List Int×(List (Int×Unit))×Int) ⊕ (((List (Int×Unit))×Int) ⊕ (List Int×Bool))))
 | (a4,a3,a0)=>bif decide (a0 < (((idx a1 a2).args).length:Int)) then must (0≤a0∧a0 < (((idx a1 a2).args).length:Int)) (bif ja a4 (idx ((idx a1 a2).args) a0) then ut a0 (GH a4 (idx ((idx a1 a2).args) a0)) (w64 (a3 + 1)) else (ut a0 a4 a3)) else (bif decide (a3 > 0) then uu a1 a5 a2 a4 a3 (decide (a3 < (((idx a1 a2).args).length:Int))) else (uu a1 a5 a2 a4 a3 false))
noncomputable def yI (a1:List aX):(List Int×(List (Int×Unit))×Int)→Option ((List Int×(List (Int×Unit))×Int) ⊕ (((List (Int×Unit))×Int) ⊕ (List Int×Bool)))
 | (a2,a3,a0)=>bif decide (a0 < (a1.length:Int)) then must (0≤a0∧a0 < (a1.length:Int)) (iter (yH a1 a2 a0) (a3,0,0)) else (bif decide ((a3.length:Int) > 0) then out (out (some (([]:List Int),false))) else (out (out (some (a2,true)))))
noncomputable def yJ (a0:List Int) (a1:List aX):((List (Int×Unit))×Int)→Option (((List (Int×Unit))×Int) ⊕ (List Int×Bool))
 | (a3,a2)=>bif decide (a2 < (a0.length:Int)) then must (0≤a2∧a2 < (a0.length:Int)) (some (.inl (fD a3 (idx a0 a2) (),w64 (a2 + 1)))) else (iter (yI a1) ([],a3,0))
noncomputable def dW (a0:List Int) (a1:List aX):Option (List Int×Bool) :=
 iter (yJ a0 a1) ([],0)
noncomputable def uV (a0:History) (a1:Ask):Option (List Int×Bool) :=
 (dH a0 a1.Key).bind fun a2=>bif (a2 == 2) then (dQ a0 a1).bind fun a6=>(jb a1.Base a6).bind fun a4=>some (a4.1,a4.2) else (bif (a2 == 3) then (dQ a0 a1).bind fun a5=>(dW a1.Base a5).bind fun a3=>some (a3.1,a3.2) else (some (([]:List Int),false)))
noncomputable def ui (a0:Int) (a2:Int) (a3:List aX) (a4:Int) (rec:Int→Int→Int→(List aX)→Int→Int→Option Int) (a6:Int):(Int×Int)→Option ((Int×Int) ⊕ Int)
 | (a5,a1)=>bif decide (a1 < (((idx a3 a0).args).length:Int)) then must (0≤a1∧a1 < (((idx a3 a0).args).length:Int)) (some (.inl (w64 (a5 + (idx ((idx a3 a0).args) a1)),w64 (a1 + 1)))) else (must (0≤a0∧a0 < (far:Int)) ((rec (w64 (a0 + 1)) a5 (bOr .u64 a2 (GA .u64 1 a0)) a3 a4 a6).bind fun a7=>out (some a7)))
noncomputable def rC (rec:Int→Int→Int→(List aX)→Int→Int→Option Int) (a0:Int) (a1:Int) (a2:Int) (a3:List aX) (a4:Int) (a5:Int):Option Int :=
 bif (a0 == (a3.length:Int)) then bif (a1 == a4) then some (bOr .u64 a5 a2) else (some a5) else ((rec (w64 (a0 + 1)) a1 a2 a3 a4 a5).bind fun a6=>must (0≤a0∧a0 < (a3.length:Int)) (iter (ui a0 a2 a3 a4 rec a6) (a1,0)))
noncomputable def lW:Nat→Int→Int→Int→(List aX)→Int→Int→Option Int
 | 0=>fun _ _ _ _ _ _=>none
 | k + 1=>rC (lW k)
noncomputable def eG (a0:Int) (a1:Int) (a2:Int) (a3:List aX) (a4:Int) (a5:Int):Option Int:=lW 64 a0 a1 a2 a3 a4 a5
noncomputable def oZ (a0:Int) (a1:List Int):Option ((List Int×Int) ⊕ (List Int)) :=
 some (.inl (a1,w64 (a0 + 1)))
noncomputable def uW (a1:List aX) (a3:Int):(List Int×Int)→Option ((List Int×Int) ⊕ (List Int))
 | (a2,a0)=>bif decide (a0 < (a1.length:Int)) then must (0≤a0∧a0 < (a1.length:Int)) (must (0≤a0∧a0 < (far:Int)) (bif (yM .u64 (uo .u64 a3 a0) 1 == 1) then must (((a2.length + 1) + (a2.length + 1) / 4 + 192) * 8≤281474976710656∧a2.length + 1≤9223372036854775807) (oZ a0 (a2++([(idx a1 a0).txn]:List Int))) else (oZ a0 a2))) else (out (some a2))
noncomputable def iX (a0:Int) (a1:List aX):Option (List Int) :=
 (eG 0 0 0 a1 a0 0).bind fun a2=>iter (uW a1 a2) ([],0)
noncomputable def fU (a0:List Int):Option (List Int) :=
 some a0
noncomputable def pg (a0:History) (a1:Ask) (a3:List Int):Option (List Int) :=
 must (0≤(0:Int)∧(0:Int) < (a1.Base.length:Int)) ((dQ a0 a1).bind fun a4=>(iX (idx a1.Base (0:Int)) a4).bind fun a2=>must (((a3.length + a2.length) + (a3.length + a2.length) / 4 + 192) * 8≤281474976710656∧a3.length + a2.length≤9223372036854775807) (fU (a3++a2)))
noncomputable def pq (a1:Int) (a0:List Int):Option ((List Int×Int) ⊕ (List Int)) :=
 some (.inl (a0,w64 (a1 + 1)))
noncomputable def uX (a1:Ask) (a2:List aX):(List Int×Int)→Option ((List Int×Int) ⊕ (List Int))
 | (a3,a0)=>bif decide (a0 < (a2.length:Int)) then must (0≤a0∧a0 < (a2.length:Int)) (must (0≤w64 ((((idx a2 a0).args).length:Int) - 1)∧w64 ((((idx a2 a0).args).length:Int) - 1) < (((idx a2 a0).args).length:Int)) (must (0≤(0:Int)∧(0:Int) < (a1.Base.length:Int)) (bif (idx ((idx a2 a0).args) (w64 ((((idx a2 a0).args).length:Int) - 1)) == idx a1.Base (0:Int)) then must (((a3.length + 1) + (a3.length + 1) / 4 + 192) * 8≤281474976710656∧a3.length + 1≤9223372036854775807) (pq a0 (a3++([(idx a2 a0).txn]:List Int))) else (pq a0 a3)))) else (out (fU a3))
noncomputable def bP (a0:History) (a1:Ask):Option (List Int) :=
 (dH a0 a1.Key).bind fun a3=>bif (a3 == 4) then must (0≤(0:Int)∧(0:Int) < (a1.Base.length:Int)) (bif (idx a1.Base (0:Int) == 0) then must (((0 + 1) + (0 + 1) / 4 + 192) * 8≤281474976710656∧0 + 1≤9223372036854775807) (pg a0 a1 (([]:List Int)++([(-1)]:List Int))) else (pg a0 a1 [])) else (bif ((a1.Base.length:Int) == 0) then fU ([(-1)]:List Int) else (bif (a3 == 1) then (dQ a0 a1).bind fun a4=>iter (uX a1 a4) ([],0) else (bif (a3 == 2) then (uV a0 a1).bind fun a2=>bif a2.2 then must (0≤(w64 ((a2.1.length:Int) - 1))∧(w64 ((a2.1.length:Int) - 1))≤(a2.1.length:Int)∧(a2.1.length:Int)≤(a2.1.length:Int)) (fU (df a2.1 (w64 ((a2.1.length:Int) - 1)) (a2.1.length:Int))) else (fU []) else ((uV a0 a1).bind fun a5=>fU a5.1))))
noncomputable def xL (a0:Ask) (a1:Ask):Option Bool :=
 bif (a1.Txn == a0.Txn) then bif (a1.Place == a0.Place) then bif (a1.Key == a0.Key) then (bU a1.Base a0.Base).bind fun a2=>some a2 else (some false) else (some false) else (some false)
noncomputable def jW (a0:List Ask) (a1c0:Ask):Int→Option (Int ⊕ Int)
 | a1=>bif decide (a1 < (a0.length:Int)) then must (0≤a1∧a1 < (a0.length:Int)) ((xL (idx a0 a1) a1c0).bind fun a2=>bif a2 then out (some a1) else (some (.inl (w64 (a1 + 1))))) else (out (some (-1)))
noncomputable def dX (a0:List Ask) (a1c0:Ask):Option Int :=
 iter (jW a0 a1c0) 0
noncomputable def jX (a0:List Ask) (a1c0:Ask):Option Bool :=
 (dX a0 a1c0).bind fun y3=>some (decide (y3 ≥ 0))
noncomputable def zf (a0:History) (a1:Ask):Option Int :=
 (jQ a0).bind fun y9=>bif (y9.2 != 0) then some y9.2 else ((jX y9.1 a1).bind fun a2=>bif a2 then some 0 else (some 1))
noncomputable def xM (a0:History) (a1:Ask):Option (List Int×Int) :=
 (zf a0 a1).bind fun a2=>bif (a2 != 0) then some (([]:List Int),a2) else ((bP a0 a1).bind fun a3=>some (a3,0))
noncomputable def eQ (a1:Int) (a0:Bool):Option (Int ⊕ Bool) :=
 bif a0 then out (some false) else (some (.inl (w64 (a1 + 1))))
noncomputable def dP (a0:Int) (a1:Bool):Option (Int ⊕ (Int ⊕ Bool)) :=
 bif a1 then out (out (some false)) else (some (.inl (w64 (a0 + 1))))
noncomputable def nX (a0:History) (a1:Exec):Int→Option (Int ⊕ (Int ⊕ Bool))
 | a2=>bif decide (a2 < (a0.Txns.length:Int)) then must (0≤a2∧a2 < (a0.Txns.length:Int)) (bif ((idx a0.Txns a2).Status == 1) then (cK a1.Order a2).bind fun a3=>bif !a3 then dP a2 true else (bif ((idx a0.Txns a2).Status == 2) then (cK a1.Order a2).bind fun a5=>dP a2 a5 else (dP a2 false)) else (bif ((idx a0.Txns a2).Status == 2) then (cK a1.Order a2).bind fun a4=>dP a2 a4 else (dP a2 false))) else (out (out (some true)))
noncomputable def nY (a0:History) (a1:Exec) (a3:List Ask×Int):Int→Option (Int ⊕ Bool)
 | a2=>bif decide (a2 < (a3.1.length:Int)) then must (0≤a2∧a2 < (a3.1.length:Int)) ((xM a0 (idx a3.1 a2)).bind fun a5=>must (0≤a2∧a2 < (a1.Picks.length:Int)) ((fG a0 a1.Order ((idx a3.1 a2).Key) (idx a1.Picks a2)).bind fun a4=>bif (a5.2 != 0) then eQ a2 true else ((cK a5.1 (idx a1.Picks a2)).bind fun a7=>bif !a7 then eQ a2 true else (bif !a4.2 then eQ a2 true else ((dO a4.1 ((idx a3.1 a2).Base)).bind fun a6=>eQ a2 (!a6)))))) else (iter (nX a0 a1) 0)
noncomputable def jY (a0:History) (a1:Exec) (a2:List Ask×Int) (a3:Bool):Option Bool :=
 bif a3 then some false else (iter (nY a0 a1 a2) 0)
noncomputable def jZ (a0:History) (a1:Exec) (a3:Int×Int) (a4:Bool):Option Bool :=
 bif a4 then bif decide (a3.1 ≥ 0) then some (decide (a3.1≤6)) else (some false) else ((jQ a0).bind fun a2=>bif (a2.2 != 0) then jY a0 a1 a2 true else (jY a0 a1 a2 ((a2.1.length:Int) != (a1.Picks.length:Int))))
noncomputable def aA (a0:History) (a1:Exec):Option Bool :=
 (fQ).bind fun a3=>bif !a3 then some false else ((dD a0 a1).bind fun a2=>bif (a2.2 != 0) then jZ a0 a1 a2 true else (jZ a0 a1 a2 (a2.1 != 0)))
noncomputable def iI (a0:Bool):Option Int :=
 bif !a0 then some 80 else (some 0)
noncomputable def mX (a0:Int) (a1:Bool):Option ((Bool×Int) ⊕ Int) :=
 some (.inl (a1,w64 (a0 + 1)))
noncomputable def rZ (a1:List Int):(Bool×Int)→Option ((Bool×Int) ⊕ Int)
 | (a2,a0)=>bif decide (a0 < (a1.length:Int)) then bif a2 then must (0≤w64 (a0 - 1)∧w64 (a0 - 1) < (a1.length:Int)) (must (0≤a0∧a0 < (a1.length:Int)) (mX a0 (decide (idx a1 (w64 (a0 - 1)) < idx a1 a0)))) else (mX a0 false) else (out (iI a2))
noncomputable def mY (a0:Int) (a1:List Int) (b5:Bool):Option Int :=
 bif b5 then some 1 else (bif (a0 == 1) then iI (decide ((a1.length:Int)≤1)) else (bif (a0 == 4) then iI ((a1.length:Int) == 1) else (bif (a0 == 3) then iter (rZ a1) (decide ((a1.length:Int)≤64),1) else (iI (decide ((a1.length:Int)≤64))))))
noncomputable def bH (a0:Int) (a1:List Int):Option Int :=
 bif decide (a0 < 1) then mY a0 a1 true else (mY a0 a1 (decide (a0 > 4)))
noncomputable def uY (a0:List Int) (a1:Int):Int→Option (Int ⊕ Bool)
 | a2=>bif decide (a2 < (a0.length:Int)) then must (0≤a2∧a2 < (a0.length:Int)) (bif (idx a0 a2 == a1) then out (some true) else (some (.inl (w64 (a2 + 1))))) else (out (some false))
noncomputable def kg (a0:List Int) (a1:Int):Option Bool :=
 iter (uY a0 a1) 0
noncomputable def rD (a2:List Int):(Int×Int)→Option ((Int×Int) ⊕ (List Int×Bool))
 | (a1,a0)=>bif decide (a0 < (a2.length:Int)) then must (0≤a0∧a0 < (a2.length:Int)) (some (.inl (w64 (a1 - (idx a2 a0)),w64 (a0 + 1)))) else (out (some (([a1]:List Int),true)))
noncomputable def rE (a1:List Int) (a2:List Int):Int→Option (Int ⊕ (List Int×Bool))
 | a0=>bif decide (a0 < (a2.length:Int)) then must (0≤w64 ((w64 ((a1.length:Int) - (a2.length:Int))) + a0)∧w64 ((w64 ((a1.length:Int) - (a2.length:Int))) + a0) < (a1.length:Int)) (must (0≤a0∧a0 < (a2.length:Int)) (bif (idx a1 (w64 ((w64 ((a1.length:Int) - (a2.length:Int))) + a0)) != idx a2 a0) then out (some (([]:List Int),false)) else (some (.inl (w64 (a0 + 1)))))) else (must (0≤(0:Int)∧(0:Int)≤(w64 ((a1.length:Int) - (a2.length:Int)))∧(w64 ((a1.length:Int) - (a2.length:Int)))≤(a1.length:Int)) (must (((0 + ((df a1 (0:Int) (w64 ((a1.length:Int) - (a2.length:Int)))).length)) + (0 + ((df a1 (0:Int) (w64 ((a1.length:Int) - (a2.length:Int)))).length)) / 4 + 192) * 8≤281474976710656∧0 + ((df a1 (0:Int) (w64 ((a1.length:Int) - (a2.length:Int)))).length)≤9223372036854775807) (out (some (([]:List Int)++(df a1 (0:Int) (w64 ((a1.length:Int) - (a2.length:Int)))),true)))))
noncomputable def lX (a0:Int) (a1:Bool):Option (Int ⊕ (List Int×Bool)) :=
 bif a1 then out (some (([]:List Int),false)) else (some (.inl (w64 (a0 + 1))))
noncomputable def lY (a1:Int) (a0:List Int):Option ((List Int×Int) ⊕ (Int ⊕ (List Int×Bool))) :=
 some (.inl (a0,w64 (a1 + 1)))
noncomputable def rF (a1:List Int) (a2:List Int):(List Int×Int)→Option ((List Int×Int) ⊕ (Int ⊕ (List Int×Bool)))
 | (a3,a0)=>bif decide (a0 < (a1.length:Int)) then must (0≤a0∧a0 < (a1.length:Int)) ((kg a2 (idx a1 a0)).bind fun a4=>bif !a4 then must (((a3.length + 1) + (a3.length + 1) / 4 + 192) * 8≤281474976710656∧a3.length + 1≤9223372036854775807) (lY a0 (a3++([idx a1 a0]:List Int))) else (lY a0 a3)) else (out (out (some (a3,true))))
noncomputable def rG (a1:List Int) (a2:List Int):Int→Option (Int ⊕ (List Int×Bool))
 | a0=>bif decide (a0 < (a2.length:Int)) then must (0≤a0∧a0 < (a2.length:Int)) ((kg a1 (idx a2 a0)).bind fun a3=>bif !a3 then lX a0 true else (must (0≤(0:Int)∧(0:Int)≤a0∧a0≤(a2.length:Int)) ((kg (df a2 (0:Int) a0) (idx a2 a0)).bind fun a4=>lX a0 a4))) else (iter (rF a1 a2) ([],0))
noncomputable def lZ (a0:Int) (a1:List Int) (a2:List Int) (b9:Bool):Option (List Int×Bool) :=
 bif b9 then some (([]:List Int),false) else (bif (a0 == 1) then bif ((a1.length:Int) == 1) then must (0≤(0:Int)∧(0:Int) < (a1.length:Int)) (must (0≤w64 ((a2.length:Int) - 1)∧w64 ((a2.length:Int) - 1) < (a2.length:Int)) (some (([]:List Int),(idx a1 (0:Int) == idx a2 (w64 ((a2.length:Int) - 1)))))) else (some (([]:List Int),false)) else (bif (a0 == 4) then must (0≤(0:Int)∧(0:Int) < (a1.length:Int)) (iter (rD a2) (idx a1 (0:Int),0)) else (bif (a0 == 2) then bif decide ((a2.length:Int) > (a1.length:Int)) then some (([]:List Int),false) else (iter (rE a1 a2) 0) else (iter (rG a1 a2) 0))))
noncomputable def aW (a0:Int) (a1:List Int) (a2:List Int):Option (List Int×Bool) :=
 (bH a0 a1).bind fun a3=>bif (a3 != 0) then lZ a0 a1 a2 true else (lZ a0 a1 a2 ((a2.length:Int) == 0))
noncomputable def jJ (a1:Int) (a2:List Ask) (a0:List eU):Option ((List Ask×List eU×Int) ⊕ (List Ask×List eU)) :=
 some (.inl (a2,a0,w64 (a1 + 1)))
noncomputable def pu (a0:Int) (a1:List Int):Option ((List Int×Int) ⊕ ((List Ask×List eU×Int) ⊕ (List Ask×List eU))) :=
 some (.inl (a1,w64 (a0 + 1)))
noncomputable def pz (a0:History) (a1:Int) (a3:List Int) (a2:Int) (a4:Bool):Option ((List Int×Int) ⊕ ((List Ask×List eU×Int) ⊕ (List Ask×List eU))) :=
 bif a4 then must (0≤a2∧a2 < (((idx a0.Txns a1).Ops).length:Int)) (must (((a3.length + 1) + (a3.length + 1) / 4 + 192) * 8≤281474976710656∧a3.length + 1≤9223372036854775807) (pu a2 (a3++([(idx ((idx a0.Txns a1).Ops) a2).Arg]:List Int)))) else (pu a2 a3)
noncomputable def pE (a0:History) (a1:Int) (a2:List Ask) (a5:List eU) (a3:Int) (a4:List Int):Option ((List Int×Int) ⊕ ((List Ask×List eU×Int) ⊕ (List Ask×List eU))) :=
 must (((a2.length + 1) + (a2.length + 1) / 4 + 192) * 48≤281474976710656∧a2.length + 1≤9223372036854775807) (out (jJ a3 (a2++([(⟨a1,a3,(idx ((idx a0.Txns a1).Ops) a3).Key,a4⟩:Ask)]:List Ask)) a5))
noncomputable def uZ (a0:History) (a1:Int) (a6:List Ask) (a4:List eU) (a2:Int):(List Int×Int)→Option ((List Int×Int) ⊕ ((List Ask×List eU×Int) ⊕ (List Ask×List eU)))
 | (a5,a3)=>bif decide (a3 < a2) then must (0≤a3∧a3 < (((idx a0.Txns a1).Ops).length:Int)) (bif ((idx ((idx a0.Txns a1).Ops) a3).Key == (idx ((idx a0.Txns a1).Ops) a2).Key) then (kR ((idx ((idx a0.Txns a1).Ops) a3).Kind)).bind fun a8=>pz a0 a1 a5 a3 a8 else (pz a0 a1 a5 a3 false)) else (must (((0 + (((idx ((idx a0.Txns a1).Ops) a2).Vals).length)) + (0 + (((idx ((idx a0.Txns a1).Ops) a2).Vals).length)) / 4 + 192) * 8≤281474976710656∧0 + (((idx ((idx a0.Txns a1).Ops) a2).Vals).length)≤9223372036854775807) (bif decide ((a5.length:Int) > 0) then (iV ((idx ((idx a0.Txns a1).Ops) a2).Kind)).bind fun a9=>(aW a9 ((idx ((idx a0.Txns a1).Ops) a2).Vals) a5).bind fun a7=>bif !a7.2 then must (((a4.length + 1) + (a4.length + 1) / 4 + 192) * 16≤281474976710656∧a4.length + 1≤9223372036854775807) (out (jJ a2 a6 (a4++([(⟨a1,a2⟩:eU)]:List eU)))) else (bif ((idx ((idx a0.Txns a1).Ops) a2).Kind == 5) then out (jJ a2 a6 a4) else (pE a0 a1 a6 a4 a2 a7.1)) else (pE a0 a1 a6 a4 a2 (([]:List Int)++((idx ((idx a0.Txns a1).Ops) a2).Vals)))))
noncomputable def ve (a0:History) (a1:Int):(List Ask×List eU×Int)→Option ((List Ask×List eU×Int) ⊕ (List Ask×List eU))
 | (a3,a4,a2)=>bif decide (a2 < (((idx a0.Txns a1).Ops).length:Int)) then must (0≤a2∧a2 < (((idx a0.Txns a1).Ops).length:Int)) ((kR ((idx ((idx a0.Txns a1).Ops) a2).Kind)).bind fun a5=>bif a5 then jJ a2 a3 a4 else (iter (uZ a0 a1 a3 a4 a2) ([],0))) else (out (some (a3,a4)))
noncomputable def bA (a0:History) (a1:Int):Option (List Ask×List eU) :=
 must (0≤a1∧a1 < (a0.Txns.length:Int)) (bif ((idx a0.Txns a1).Status != 1) then some (([]:List Ask),([]:List eU)) else (iter (ve a0 a1) ([],[],0)))
noncomputable def uA (a0:History):(List Ask×List eU×Int)→Option ((List Ask×List eU×Int) ⊕ (List Ask×List eU))
 | (a3,a2,a4)=>bif decide (a4 < (a0.Txns.length:Int)) then (bA a0 a4).bind fun a1=>must (((a3.length + a1.1.length) + (a3.length + a1.1.length) / 4 + 192) * 48≤281474976710656∧a3.length + a1.1.length≤9223372036854775807) (must (((a2.length + a1.2.length) + (a2.length + a1.2.length) / 4 + 192) * 16≤281474976710656∧a2.length + a1.2.length≤9223372036854775807) (some (.inl (a3++a1.1,a2++a1.2,w64 (a4 + 1))))) else (out (some (a3,a2)))
noncomputable def nz (a0:History):Option (List Ask×List eU) :=
 iter (uA a0) ([],[],0)
noncomputable def wu (a0:History) (a1:Ask):Option Int :=
 must (0≤a1.Txn∧a1.Txn < (a0.Txns.length:Int)) (must (0≤a1.Place∧a1.Place < (((idx a0.Txns a1.Txn).Ops).length:Int)) ((iV ((idx ((idx a0.Txns a1.Txn).Ops) a1.Place).Kind)).bind fun a2=>some a2))
noncomputable def ma (a0:Int) (a1:List Int):Option ((List Int×Int) ⊕ (List Int)) :=
 some (.inl (a1,w64 (a0 + 1)))
noncomputable def jH (a0:List Int) (a1:Int) (a2:Bool):Option ((List Int×Int) ⊕ (List Int)) :=
 bif a2 then must (((a0.length + 1) + (a0.length + 1) / 4 + 192) * 8≤281474976710656∧a0.length + 1≤9223372036854775807) (ma a1 (a0++([a1]:List Int))) else (ma a1 a0)
noncomputable def rH (a0:History) (a1:Ask):(List Int×Int)→Option ((List Int×Int) ⊕ (List Int))
 | (a3,a2)=>bif decide (a2 < (a0.Txns.length:Int)) then bif (a2 != a1.Txn) then must (0≤a2∧a2 < (a0.Txns.length:Int)) (bif ((idx a0.Txns a2).Status != 2) then (bz a0 a2 a1.Key).bind fun a4=>jH a3 a2 (decide ((a4.length:Int) > 0)) else (jH a3 a2 false)) else (jH a3 a2 false) else (out (some a3))
noncomputable def bJ (a0:History) (a1:Ask):Option (List Int) :=
 iter (rH a0 a1) ([],0)
noncomputable def uB (y7:List Int):(Int×Int)→Option ((Int×Int) ⊕ Int)
 | (a1,a0)=>bif decide (a0 < (y7.length:Int)) then must (0≤a0∧a0 < (y7.length:Int)) (some (.inl (w64 (a1 + (idx y7 a0)),w64 (a0 + 1)))) else (out (some a1))
noncomputable def nA (a0:History) (a1:Int) (a2:Int):Option Int :=
 (bz a0 a1 a2).bind fun y7=>iter (uB y7) (0,0)
noncomputable def mf (a1:Int) (a0:Int):Option ((Int×Int) ⊕ ((List Bool×Int) ⊕ (List Int))) :=
 some (.inl (a0,w64 (a1 + 1)))
noncomputable def mg (a0:Int) (a1:List Bool):Option ((List Bool×Int) ⊕ ((Int×Int) ⊕ ((List Bool×Int) ⊕ (List Int)))) :=
 some (.inl (a1,w64 (a0 + 1)))
noncomputable def mh (a2:Int) (a1:List Bool) (a0:Int) (a3:Bool):Option ((List Bool×Int) ⊕ ((Int×Int) ⊕ ((List Bool×Int) ⊕ (List Int)))) :=
 bif a3 then must (0≤a0∧a0 < (a1.length:Int)) (bif idx a1 a0 then mg a0 (a1.set a0.toNat true) else (must (0≤a0∧a0 < (far:Int)) (mg a0 (a1.set a0.toNat (yM .i64 (uo .i64 a2 a0) 1 == 1))))) else (out (out (some (.inl (a1,w64 (a2 + 1))))))
noncomputable def rJ (a1:Ask) (y9:List Int) (a2:Int) (a4:Int):(List Bool×Int)→Option ((List Bool×Int) ⊕ ((Int×Int) ⊕ ((List Bool×Int) ⊕ (List Int))))
 | (a3,a0)=>bif decide (a0 < (y9.length:Int)) then must (0≤(0:Int)∧(0:Int) < (a1.Base.length:Int)) (mh a2 a3 a0 (a4 == idx a1.Base (0:Int))) else (mh a2 a3 a0 false)
noncomputable def rM (a0:History) (a1:Ask) (y9:List Int) (a5:List Bool) (a4:Int):(Int×Int)→Option ((Int×Int) ⊕ ((List Bool×Int) ⊕ (List Int)))
 | (a3,a2)=>bif decide (a2 < (y9.length:Int)) then must (0≤a2∧a2 < (far:Int)) (bif (yM .i64 (uo .i64 a4 a2) 1 == 1) then must (0≤a2∧a2 < (y9.length:Int)) ((nA a0 (idx y9 a2) a1.Key).bind fun a6=>mf a2 (w64 (a3 + a6))) else (mf a2 a3)) else (iter (rJ a1 y9 a4 a3) (a5,0))
noncomputable def mi (a0:Int) (a1:List Int):Option ((List Int×Int) ⊕ ((List Bool×Int) ⊕ (List Int))) :=
 some (.inl (a1,w64 (a0 + 1)))
noncomputable def rO (y9:List Int) (a2:List Bool):(List Int×Int)→Option ((List Int×Int) ⊕ ((List Bool×Int) ⊕ (List Int)))
 | (a1,a0)=>bif decide (a0 < (y9.length:Int)) then must (0≤a0∧a0 < (a2.length:Int)) (bif idx a2 a0 then must (0≤a0∧a0 < (y9.length:Int)) (must (((a1.length + 1) + (a1.length + 1) / 4 + 192) * 8≤281474976710656∧a1.length + 1≤9223372036854775807) (mi a0 (a1++([idx y9 a0]:List Int)))) else (mi a0 a1)) else (out (out (some a1)))
noncomputable def rP (a0:History) (a1:Ask) (y9:List Int):(List Bool×Int)→Option ((List Bool×Int) ⊕ (List Int))
 | (a2,a3)=>must (0≤(y9.length:Int)∧(y9.length:Int) < (far:Int)) (bif decide (a3 < GA .i64 1 (y9.length:Int)) then iter (rM a0 a1 y9 a2 a3) (0,0) else (iter (rO y9 a2) ([],0)))
noncomputable def aN (a0:History) (a1:Ask):Option (List Int) :=
 (bJ a0 a1).bind fun y9=>must (0≤(y9.length:Int)∧(y9.length:Int)≤9223372036854775807∧(1:Int) * (y9.length:Int)≤281474976710656) (iter (rP a0 a1 y9) (List.replicate (y9.length:Int).toNat (default:Bool),1))
noncomputable def uC (a0:List Int) (a1:List Int):Option Bool :=
 bif decide ((a1.length:Int) > (a0.length:Int)) then some false else (must (0≤(0:Int)∧(0:Int)≤(a1.length:Int)∧(a1.length:Int)≤(a0.length:Int)) ((dO (df a0 (0:Int) (a1.length:Int)) a1).bind fun a2=>some a2))
noncomputable def nJ (a0:Int) (a1:Int):Option ((Int×Int) ⊕ ((List Int×List Int) ⊕ (List Int×Bool))) :=
 some (.inl (a1,w64 (a0 + 1)))
noncomputable def uj (a0:History) (a1:Ask) (a2:List Int) (a3:List Int) (a6:Int):Int→Option (Int ⊕ ((Int×Int) ⊕ ((List Int×List Int) ⊕ (List Int×Bool))))
 | a4=>bif decide (a4 < (a2.length:Int)) then must (0≤a4∧a4 < (a2.length:Int)) (bif (idx a2 a4 == a6) then out (out (out (some (([]:List Int),false)))) else (some (.inl (w64 (a4 + 1))))) else (must (((a2.length + 1) + (a2.length + 1) / 4 + 192) * 8≤281474976710656∧a2.length + 1≤9223372036854775807) ((bz a0 a6 a1.Key).bind fun a5=>must (0≤(a5.length:Int)∧(a5.length:Int)≤(a3.length:Int)∧(a3.length:Int)≤(a3.length:Int)) (out (out (some (.inl (a2++([a6]:List Int),df a3 (a5.length:Int) (a3.length:Int))))))))
noncomputable def uk (a0:History) (a1:Ask) (y9:List Int) (a6:List Int) (a4:List Int):(Int×Int)→Option ((Int×Int) ⊕ ((List Int×List Int) ⊕ (List Int×Bool)))
 | (a3,a2)=>bif decide (a2 < (y9.length:Int)) then must (0≤a2∧a2 < (y9.length:Int)) ((bz a0 (idx y9 a2) a1.Key).bind fun a7=>(uC a4 a7).bind fun a5=>bif a5 then nJ a2 (idx y9 a2) else (nJ a2 a3)) else (bif decide (a3 < 0) then out (out (some (([]:List Int),false))) else (iter (uj a0 a1 a6 a4 a3) 0))
noncomputable def ul (a0:History) (a1:Ask) (y9:List Int):(List Int×List Int)→Option ((List Int×List Int) ⊕ (List Int×Bool))
 | (a3,a2)=>bif decide ((a2.length:Int) > 0) then iter (uk a0 a1 y9 a3 a2) ((-1),0) else (out (some (a3,true)))
noncomputable def dG (a0:History) (a1:Ask):Option (List Int×Bool) :=
 (bJ a0 a1).bind fun y9=>iter (ul a0 a1 y9) ([],a1.Base)
noncomputable def si (a0:List Int) (a1:Int):Int→Option (Int ⊕ Bool)
 | a2=>bif decide (a2 < (a0.length:Int)) then must (0≤a2∧a2 < (a0.length:Int)) (bif (idx a0 a2 == a1) then out (some true) else (some (.inl (w64 (a2 + 1))))) else (out (some false))
noncomputable def lD (a0:List Int) (a1:Int):Option Bool :=
 iter (si a0 a1) 0
noncomputable def nZ (a0:Int) (a2:List Int) (a1:Int):Option ((List Int×Int×Int) ⊕ (List Int×Bool)) :=
 some (.inl (a2,a1,w64 (a0 + 1)))
noncomputable def og (a0:Int) (a1:Int):Option ((Int×Int) ⊕ ((List Int×Int×Int) ⊕ (List Int×Bool))) :=
 some (.inl (a1,w64 (a0 + 1)))
noncomputable def oh (y9:List Int) (a0:List Int) (a3:Int) (a1:Int) (a2:Int) (a4:Bool):Option ((Int×Int) ⊕ ((List Int×Int×Int) ⊕ (List Int×Bool))) :=
 bif a4 then out (out (some (([]:List Int),false))) else (bif decide (a2 > 0) then must (((a0.length + 1) + (a0.length + 1) / 4 + 192) * 8≤281474976710656∧a0.length + 1≤9223372036854775807) (out (nZ a1 (a0++([idx y9 a1]:List Int)) (w64 (a3 + a2)))) else (out (nZ a1 a0 a3)))
noncomputable def uD (a1:Ask) (y9:List Int) (a4:List Int) (a5:Int) (a6:Int) (a3:List Int):(Int×Int)→Option ((Int×Int) ⊕ ((List Int×Int×Int) ⊕ (List Int×Bool)))
 | (a0,a2)=>bif decide (a2 < (a3.length:Int)) then must (0≤a2∧a2 < (a3.length:Int)) ((lD a1.Base (idx a3 a2)).bind fun a7=>bif a7 then og a2 (w64 (a0 + 1)) else (og a2 a0)) else (bif decide (a0 > 0) then oh y9 a4 a5 a6 a0 (decide (a0 < (a3.length:Int))) else (oh y9 a4 a5 a6 a0 false))
noncomputable def uE (a0:History) (a1:Ask) (y9:List Int):(List Int×Int×Int)→Option ((List Int×Int×Int) ⊕ (List Int×Bool))
 | (a3,a4,a2)=>bif decide (a2 < (y9.length:Int)) then must (0≤a2∧a2 < (y9.length:Int)) ((bz a0 (idx y9 a2) a1.Key).bind fun a5=>iter (uD a1 y9 a3 a4 a2 a5) (0,0)) else (bif (a4 != (a1.Base.length:Int)) then out (some (([]:List Int),false)) else (out (some (a3,true))))
noncomputable def bT (a0:History) (a1:Ask):Option (List Int×Bool) :=
 (bJ a0 a1).bind fun y9=>iter (uE a0 a1 y9) ([],0,0)
noncomputable def pF (a0:List Int):Option (List Int) :=
 some a0
noncomputable def iJ (a0:List Int):Option (List Int) :=
 some a0
noncomputable def pG (a1:Int) (a0:List Int):Option ((List Int×Int) ⊕ (List Int)) :=
 some (.inl (a0,w64 (a1 + 1)))
noncomputable def vg (a0:History) (a1:Ask) (a5:List Int):(List Int×Int)→Option ((List Int×Int) ⊕ (List Int))
 | (a3,a2)=>bif decide (a2 < (a5.length:Int)) then must (0≤a2∧a2 < (a5.length:Int)) ((bz a0 (idx a5 a2) a1.Key).bind fun a4=>must (0≤w64 ((a4.length:Int) - 1)∧w64 ((a4.length:Int) - 1) < (a4.length:Int)) (must (0≤(0:Int)∧(0:Int) < (a1.Base.length:Int)) (bif (idx a4 (w64 ((a4.length:Int) - 1)) == idx a1.Base (0:Int)) then must (((a3.length + 1) + (a3.length + 1) / 4 + 192) * 8≤281474976710656∧a3.length + 1≤9223372036854775807) (pG a2 (a3++([idx a5 a2]:List Int))) else (pG a2 a3)))) else (out (iJ a3))
noncomputable def bW (a0:History) (a1:Ask):Option (List Int) :=
 (wu a0 a1).bind fun y7=>bif (y7 == 4) then (aN a0 a1).bind fun a3=>must (0≤(0:Int)∧(0:Int) < (a1.Base.length:Int)) (bif (idx a1.Base (0:Int) == 0) then must (((1 + a3.length) + (1 + a3.length) / 4 + 192) * 8≤281474976710656∧1 + a3.length≤9223372036854775807) (pF (([(-1)]:List Int)++a3)) else (pF a3)) else (bif ((a1.Base.length:Int) == 0) then some ([(-1)]:List Int) else (bif (y7 == 1) then (bJ a0 a1).bind fun a5=>iter (vg a0 a1 a5) ([],0) else (bif (y7 == 2) then (dG a0 a1).bind fun a2=>bif a2.2 then must (0≤w64 ((a2.1.length:Int) - 1)∧w64 ((a2.1.length:Int) - 1) < (a2.1.length:Int)) (must (((0 + 1) + (0 + 1) / 4 + 192) * 8≤281474976710656∧0 + 1≤9223372036854775807) (iJ (([]:List Int)++([idx a2.1 (w64 ((a2.1.length:Int) - 1))]:List Int)))) else (iJ []) else ((bT a0 a1).bind fun a4=>bif a4.2 then iJ a4.1 else (iJ [])))))
noncomputable def mZ (a1:Int) (a0:List Ask):Option ((List Ask×Int) ⊕ (List Ask×Int)) :=
 some (.inl (a0,w64 (a1 + 1)))
noncomputable def sj (a0:History) (a3:List Ask×List eU):(List Ask×Int)→Option ((List Ask×Int) ⊕ (List Ask×Int))
 | (a2,a1)=>bif decide (a1 < (a3.1.length:Int)) then must (0≤a1∧a1 < (a3.1.length:Int)) ((bW a0 (idx a3.1 a1)).bind fun a4=>bif ((a4.length:Int) == 0) then must (((a2.length + 1) + (a2.length + 1) / 4 + 192) * 48≤281474976710656∧a2.length + 1≤9223372036854775807) (mZ a1 (a2++([(idx a3.1 a1)]:List Ask))) else (mZ a1 a2)) else (out (some (a2,0)))
noncomputable def iK (a0:History):Option (List Ask×Int) :=
 (ag a0).bind fun y8=>bif (y8 != 0) then some (([]:List Ask),1) else ((nz a0).bind fun a1=>iter (sj a0 a1) ([],0))
end Go.Proofs.YtnlkggppokcmfaaT
