import Derived.Test.YtnlkggppokcmfaaY
namespace Go.Proofs.YtnlkggppokcmfaaT
open Go Go.Proofs Go.Proofs.YtnlkggppokcmfaaE
set_option linter.unusedVariables false
set_option linter.unusedSimpArgs false
set_option maxHeartbeats 0
set_option maxRecDepth 4096
structure bD where
 key:ByteArray
 arg:Int
 deriving Inhabited,DecidableEq
def bD.enc (x:bD):List Value:=[.string x.key,.int .i64 x.arg]
abbrev AP:Ty bD:=Ty.flat 2 bD.enc (fun _=>rfl) (fun _=>Bj rfl)
instance : Flat AP bD.enc:=⟨Iff.rfl,Iff.rfl⟩
structure aN where
 keys:List ByteArray
 at_:List (ByteArray×Int)
 types:List Int
 facts:List (bD×Unit)
 incs:List (ByteArray×(List Int))
 deriving Inhabited
structure Call where
 Kind:Int
 Key:ByteArray
 Arg:Int
 Got:Bool
 Vals:List Int
 deriving Inhabited
abbrev uN:Ty Call:=Ty.iso (bu (aD .i64) (bu jZ (bu (aD .i64) (bu oD (bf 2 (aD .i64)))))) (fun g:Call=>(g.Kind,g.Key,g.Arg,g.Got,g.Vals))
abbrev qx (N:BM):Ty Call:=Ty.iso (bu (aD .i64) (bu jZ (bu (aD .i64) (bu oD (Ed N (aD .i64)))))) (fun g:Call=>(g.Kind,g.Key,g.Arg,g.Got,g.Vals))
theorem Ch (N:BM):sU N (qx N) uN:=CO (qK qJ (qK qJ (qK qJ (qK qJ Bn))))
structure Event where
 Proc:Int
 Kind:Int
 Calls:List Call
 deriving Inhabited
abbrev AQ:Ty Event:=Ty.iso (bu (aD .i64) (bu (aD .i64) (bf 89 uN))) (fun g:Event=>(g.Proc,g.Kind,g.Calls))
structure Op where
 Kind:Int
 Key:Int
 Arg:Int
 Got:Bool
 Vals:List Int
 deriving Inhabited
abbrev kOp:Ty Op:=Ty.iso (bu (aD .i64) (bu (aD .i64) (bu (aD .i64) (bu oD (bf 2 (aD .i64)))))) (fun g:Op=>(g.Kind,g.Key,g.Arg,g.Got,g.Vals))
structure Txn where
 Proc:Int
 Status:Int
 From:Int
 To:Int
 Ops:List Op
 deriving Inhabited
abbrev nz:Ty Txn:=Ty.iso (bu (aD .i64) (bu (aD .i64) (bu (aD .i64) (bu (aD .i64) (bf 64 kOp))))) (fun g:Txn=>(g.Proc,g.Status,g.From,g.To,g.Ops))
structure History where
 Keys:List ByteArray
 Txns:List Txn
 deriving Inhabited
structure Ask where
 Txn:Int
 Place:Int
 Key:Int
 Base:List Int
 deriving Inhabited
abbrev CU:Ty Ask:=Ty.iso (bu (aD .i64) (bu (aD .i64) (bu (aD .i64) (bf 2 (aD .i64))))) (fun g:Ask=>(g.Txn,g.Place,g.Key,g.Base))
structure fq where
 Txn:Int
 Place:Int
 deriving Inhabited,DecidableEq
def fq.enc (x:fq):List Value:=[.int .i64 x.Txn,.int .i64 x.Place]
abbrev zK:Ty fq:=Ty.flat 2 fq.enc (fun _=>rfl) (fun _=>Bj rfl)
instance : Flat zK fq.enc:=⟨Iff.rfl,Iff.rfl⟩
structure dw where
 asks:List Ask
 bad:List fq
 deriving Inhabited
structure bn where
 h:History
 order:List Int
 at_:List (Int×Int)
 deriving Inhabited
structure Exec where
 Order:List Int
 Picks:List Int
 deriving Inhabited
structure av where
 keys:List ByteArray
 types:List Int
 wrote:List (List Int)
 incs:List Int
 last_:List Int
 deriving Inhabited
structure jl where
 Key:Int
 Txn:Int
 deriving Inhabited,DecidableEq
def jl.enc (x:jl):List Value:=[.int .i64 x.Key,.int .i64 x.Txn]
abbrev vX:Ty jl:=Ty.flat 2 jl.enc (fun _=>rfl) (fun _=>Bj rfl)
instance : Flat vX jl.enc:=⟨Iff.rfl,Iff.rfl⟩
structure aW where
 txn:Int
 args:List Int
 deriving Inhabited
abbrev Rw2 (A:Option Addr) (c:Nat) (l:List Int):bA := .row (aD .i64) 2 A l.length c l
abbrev Rn2 (A:Option Addr) (n c:Nat) (l:List Int):bA := .row (aD .i64) 2 A n c l
abbrev Rw3 (A:Option Addr) (c:Nat) (l:List Int):bA := .row (aD .i64) 3 A l.length c l
abbrev Rn3 (A:Option Addr) (n c:Nat) (l:List Int):bA := .row (aD .i64) 3 A n c l
abbrev Rw9 (A:Option Addr) (c:Nat) (l:List ByteArray):bA := .row jZ 9 A l.length c l
abbrev Rn9 (A:Option Addr) (n c:Nat) (l:List ByteArray):bA := .row jZ 9 A n c l
abbrev Em (A:Option Addr) (c:Nat) (l:List Ask):bA := .row CU 37 A l.length c l
abbrev En (A:Option Addr) (c:Nat) (l:List Txn):bA := .row nz 41 A l.length c l
abbrev Gp (A:Option Addr) (n c:Nat) (l:List Txn):bA := .row nz 41 A n c l
abbrev Eo (A:Option Addr) (n c:Nat) (l:List Op):bA := .row kOp 64 A n c l
abbrev zL (A:Option Addr) (c:Nat) (l:List fq):bA := .row zK 160 A l.length c l
abbrev Or2 (A:Option Addr) (c:Nat) (l:List Int):bA:=orA noM (aD .i64) 2 A l.length c l
abbrev yB (b:Nat) (m:List (Int×Int)):bA:=AJ (fun x:Int => .int .i64 x) (fun x:Int => .int .i64 x) b m
abbrev uO (b:Nat) (m:List (ByteArray×Int)):bA:=AJ (fun x:ByteArray => .string x) (fun x:Int => .int .i64 x) b m
abbrev uP (b:Nat) (m:List (bD×Unit)):bA:=AJ (fun x:bD => .agg #[.string x.key,.int .i64 x.arg]) (fun _:Unit => .agg #[]) b m
abbrev yM (b:Nat) (m:List (ByteArray×(List Int))):bA:=oO (fun x:ByteArray => .string x) (bf 3 (aD .i64)) b m
abbrev CV (b:Nat) (m:List (Int×Int)):bA:=AJ (fun x:Int => .int .i64 x) (fun x:Int => .int .i64 x) b m
abbrev yN (b:Nat) (m:List (Int×(List Int))):bA:=oO (fun x:Int => .int .i64 x) (bf 2 (aD .i64)) b m
abbrev uQ (x:History) (A0:Option Addr) (c0:Nat) (A1:Option Addr) (c1:Nat):List Value:=[vS A0 x.Keys.length c0,vS A1 x.Txns.length c1]
abbrev wW (x:History) (A0:Option Addr) (c0:Nat) (A1:Option Addr) (c1:Nat):Value := .agg (uQ x A0 c0 A1 c1).toArray
abbrev lM (b:Nat) (x:History) (A0:Option Addr) (c0:Nat) (A1:Option Addr) (c1:Nat):bA := .blk b 25 (uQ x A0 c0 A1 c1)
abbrev CW (x:Ask) (A3:Option Addr) (c3:Nat):List Value:=[vI x.Txn,vI x.Place,vI x.Key,vS A3 x.Base.length c3]
abbrev GN (x:Ask) (A3:Option Addr) (c3:Nat):Value := .agg (CW x A3 c3).toArray
abbrev Gq (b:Nat) (x:Ask) (A3:Option Addr) (c3:Nat):bA := .blk b 37 (CW x A3 c3)
abbrev xG (x:Txn) (A4:Option Addr) (c4:Nat):List Value:=[vI x.Proc,vI x.Status,vI x.From,vI x.To,vS A4 x.Ops.length c4]
abbrev Ci (x:Txn) (A4:Option Addr) (c4:Nat):Value := .agg (xG x A4 c4).toArray
abbrev CX (b:Nat) (x:Txn) (A4:Option Addr) (c4:Nat):bA := .blk b 41 (xG x A4 c4)
abbrev Ep (x:Exec) (A0:Option Addr) (c0:Nat) (A1:Option Addr) (c1:Nat):List Value:=[vS A0 x.Order.length c0,vS A1 x.Picks.length c1]
abbrev Gr (x:Exec) (A0:Option Addr) (c0:Nat) (A1:Option Addr) (c1:Nat):Value := .agg (Ep x A0 c0 A1 c1).toArray
abbrev yC (b:Nat) (x:Exec) (A0:Option Addr) (c0:Nat) (A1:Option Addr) (c1:Nat):bA := .blk b 59 (Ep x A0 c0 A1 c1)
abbrev AR (x:Op) (A4:Option Addr) (c4:Nat):List Value:=[vI x.Kind,vI x.Key,vI x.Arg,vB x.Got,vS A4 x.Vals.length c4]
abbrev tV (b:Nat) (x:Op) (A4:Option Addr) (c4:Nat):bA := .blk b 64 (AR x A4 c4)
abbrev CY (x:Event) (A2:Option Addr) (c2:Nat):List Value:=[vI x.Proc,vI x.Kind,vS A2 x.Calls.length c2]
abbrev GQ (x:Event) (A2:Option Addr) (c2:Nat):Value := .agg (CY x A2 c2).toArray
abbrev Gs (b:Nat) (x:Event) (A2:Option Addr) (c2:Nat):bA := .blk b 84 (CY x A2 c2)
abbrev AU (x:Call) (A4:Option Addr) (c4:Nat):List Value:=[vI x.Kind,.string x.Key,vI x.Arg,vB x.Got,vS A4 x.Vals.length c4]
abbrev CZ (x:Call) (A4:Option Addr) (c4:Nat):Value := .agg (AU x A4 c4).toArray
abbrev qY (b:Nat) (x:Call) (A4:Option Addr) (c4:Nat):bA := .blk b 89 (AU x A4 c4)
abbrev xH (x:bn) (A0:Option Addr) (c0:Nat) (A1:Option Addr) (c1:Nat) (A2:Option Addr) (c2:Nat) (b3:Nat):List Value:=[vS A0 x.h.Keys.length c0,vS A1 x.h.Txns.length c1,vS A2 x.order.length c2,.map (some b3)]
abbrev BB (x:bn) (A0:Option Addr) (c0:Nat) (A1:Option Addr) (c1:Nat) (A2:Option Addr) (c2:Nat) (b3:Nat):Value := .agg (xH x A0 c0 A1 c1 A2 c2 b3).toArray
abbrev nI (b:Nat) (x:bn) (A0:Option Addr) (c0:Nat) (A1:Option Addr) (c1:Nat) (A2:Option Addr) (c2:Nat) (b3:Nat):bA := .blk b 101 (xH x A0 c0 A1 c1 A2 c2 b3)
abbrev Da (x:dw) (A0:Option Addr) (c0:Nat) (A1:Option Addr) (c1:Nat):List Value:=[vS A0 x.asks.length c0,vS A1 x.bad.length c1]
abbrev Gt (x:dw) (A0:Option Addr) (c0:Nat) (A1:Option Addr) (c1:Nat):Value := .agg (Da x A0 c0 A1 c1).toArray
abbrev rT (b:Nat) (A0:Option Addr) (c0:Nat) (x0:List Ask) (A1:Option Addr) (c1:Nat) (x1:List fq):List bA:=[.blk b 110 [vS A0 x0.length c0,vS A1 x1.length c1],Em A0 c0 x0,zL A1 c1 x1]
abbrev FN (b:Nat) (x:dw) (A0:Option Addr) (c0:Nat) (A1:Option Addr) (c1:Nat):List bA:=rT b A0 c0 x.asks A1 c1 x.bad
abbrev rU (b:Nat) (A0:Option Addr) (c0:Nat) (x0:List ByteArray) (b1:Nat) (x1:List (ByteArray×Int)) (A2:Option Addr) (c2:Nat) (x2:List Int) (b3:Nat) (x3:List (bD×Unit)) (b4:Nat) (x4:List (ByteArray×(List Int))):List bA:=[.blk b 136 [vS A0 x0.length c0,.map (some b1),vS A2 x2.length c2,.map (some b3),.map (some b4)],Rw9 A0 c0 x0,uO b1 x1,Rw3 A2 c2 x2,uP b3 x3,yM b4 x4]
abbrev Db (b:Nat) (x:aN) (A0:Option Addr) (c0:Nat) (b1:Nat) (A2:Option Addr) (c2:Nat) (b3:Nat) (b4:Nat):List bA:=rU b A0 c0 x.keys b1 x.at_ A2 c2 x.types b3 x.facts b4 x.incs
theorem Gu {H:BM} {x:Ask} {cs:List Value} (h:CU.rd H x cs):∃ A3 c3,cs=CW x A3 c3∧x.Base.length≤c3∧rdS (aD .i64) H A3 x.Base:=by
 obtain ⟨_,_,rfl,rfl,⟨_,_,rfl,rfl,⟨_,_,rfl,rfl,⟨A0,c0,rfl,l0,r0⟩⟩⟩⟩:=h;exact ⟨A0,c0,rfl,l0,r0⟩
theorem mP {H:BM} {x:Txn} {cs:List Value} (h:nz.rd H x cs):∃ A4 c4,cs=xG x A4 c4∧x.Ops.length≤c4∧rdS kOp H A4 x.Ops:=by
 obtain ⟨_,_,rfl,rfl,⟨_,_,rfl,rfl,⟨_,_,rfl,rfl,⟨_,_,rfl,rfl,⟨A0,c0,rfl,l0,r0⟩⟩⟩⟩⟩:=h;exact ⟨A0,c0,rfl,l0,r0⟩
theorem Cj {H:BM} {x:Op} {cs:List Value} (h:kOp.rd H x cs):∃ A4 c4,cs=AR x A4 c4∧x.Vals.length≤c4∧rdS (aD .i64) H A4 x.Vals:=by
 obtain ⟨_,_,rfl,rfl,⟨_,_,rfl,rfl,⟨_,_,rfl,rfl,⟨_,_,rfl,rfl,⟨A0,c0,rfl,l0,r0⟩⟩⟩⟩⟩:=h;exact ⟨A0,c0,rfl,l0,r0⟩
theorem Er {H:BM} {x:Event} {cs:List Value} (h:AQ.rd H x cs):∃ A2 c2,cs=CY x A2 c2∧x.Calls.length≤c2∧rdS uN H A2 x.Calls:=by
 obtain ⟨_,_,rfl,rfl,⟨_,_,rfl,rfl,⟨A0,c0,rfl,l0,r0⟩⟩⟩:=h;exact ⟨A0,c0,rfl,l0,r0⟩
theorem FV {H:BM} {x:Call} {cs:List Value} (h:uN.rd H x cs):∃ A4 c4,cs=AU x A4 c4∧x.Vals.length≤c4∧rdS (aD .i64) H A4 x.Vals:=by
 obtain ⟨_,_,rfl,rfl,⟨_,_,rfl,rfl,⟨_,_,rfl,rfl,⟨_,_,rfl,rfl,⟨A0,c0,rfl,l0,r0⟩⟩⟩⟩⟩:=h;exact ⟨A0,c0,rfl,l0,r0⟩
theorem FO (x:Ask) {R3:List bA} {c3:List Value} (h3:Mk (bf 2 (aD .i64)) R3 x.Base c3):Mk CU ([]++([]++([]++R3))) x ([vI x.Txn]++([vI x.Place]++([vI x.Key]++c3))):=yh (g:=fun g:Ask=>(g.Txn,g.Place,g.Key,g.Base)) (x:=x) (gI (kN _ _ rfl) (gI (kN _ _ rfl) (gI (kN _ _ rfl) h3)))
theorem FP (x:Txn) {R4:List bA} {c4:List Value} (h4:Mk (bf 64 kOp) R4 x.Ops c4):Mk nz ([]++([]++([]++([]++R4)))) x ([vI x.Proc]++([vI x.Status]++([vI x.From]++([vI x.To]++c4)))):=yh (g:=fun g:Txn=>(g.Proc,g.Status,g.From,g.To,g.Ops)) (x:=x) (gI (kN _ _ rfl) (gI (kN _ _ rfl) (gI (kN _ _ rfl) (gI (kN _ _ rfl) h4))))
theorem Gv (x:Op) {R4:List bA} {c4:List Value} (h4:Mk (bf 2 (aD .i64)) R4 x.Vals c4):Mk kOp ([]++([]++([]++([]++R4)))) x ([vI x.Kind]++([vI x.Key]++([vI x.Arg]++([vB x.Got]++c4)))):=yh (g:=fun g:Op=>(g.Kind,g.Key,g.Arg,g.Got,g.Vals)) (x:=x) (gI (kN _ _ rfl) (gI (kN _ _ rfl) (gI (kN _ _ rfl) (gI (kN _ _ rfl) h4))))
noncomputable def jd (a0:List ByteArray) (a1:ByteArray):Int→Option (Int ⊕ Int)
 | a2=>bif decide (a2 < (a0.length:Int)) then must (0≤a2∧a2 < (a0.length:Int)) (bif sEq a1 (idx a0 a2) then out (some a2) else (some (.inl (w64 (a2 + 1))))) else (out (some (-1)))
noncomputable def slices_Index_string (a0:List ByteArray) (a1:ByteArray):Option Int :=
 iter (jd a0 a1) 0
noncomputable def slices_Contains_string (a0:List ByteArray) (a1:ByteArray):Option Bool :=
 (slices_Index_string a0 a1).bind fun y3=>some (decide (y3 ≥ 0))
noncomputable def kH:Option aN :=
 some (⟨([]:List ByteArray),([]:List (ByteArray×Int)),([]:List Int),([]:List (bD×Unit)),([]:List (ByteArray×(List Int)))⟩:aN)
noncomputable def qy (a0:Int):Option (Int×Int) :=
 bif (a0 == 5) then some (0,1) else (bif (a0 == 8) then some (1,1) else (some (0,64)))
noncomputable def mG (a0:Call) (a1:Int) (a2:Bool):Option (Int ⊕ Bool) :=
 bif a2 then must (0≤w64 (a1 - 1)∧w64 (a1 - 1) < (a0.Vals.length:Int)) (must (0≤a1∧a1 < (a0.Vals.length:Int)) (bif decide (idx a0.Vals (w64 (a1 - 1)) ≥ idx a0.Vals a1) then out (some false) else (some (.inl (w64 (a1 + 1)))))) else (out (some true))
noncomputable def mH (a0:Call):Int→Option (Int ⊕ Bool)
 | a1=>bif (a0.Kind == 7) then mG a0 a1 (decide (a1 < (a0.Vals.length:Int))) else (mG a0 a1 false)
noncomputable def mI (a0:Call) (a1:Bool):Option Bool :=
 bif a1 then some false else (iter (mH a0) 1)
noncomputable def mJ (a0:Call) (a2:Bool):Option Bool :=
 bif a2 then some false else (bif !a0.Got then some ((a0.Vals.length:Int) == 0) else ((qy a0.Kind).bind fun a1=>bif decide ((a0.Vals.length:Int) < a1.1) then mI a0 true else (mI a0 (decide ((a0.Vals.length:Int) > a1.2)))))
noncomputable def jv (a0:Call) (a1:Int) (a2:Bool):Option Bool :=
 bif a2 then some false else (bif decide (a0.Kind≤4) then bif !a0.Got then bif ((a0.Vals.length:Int) == 0) then bif (a0.Kind != 4) then some true else (bif decide ((-1048576)≤a0.Arg) then some (decide (a0.Arg≤1048576)) else (some false)) else (some false) else (some false) else (bif (a0.Arg != 0) then mJ a0 true else (mJ a0 (a0.Got != (a1 == 1)))))
noncomputable def aZ (a0:Call) (a1:Int):Option Bool :=
 bif decide (a0.Kind < 1) then jv a0 a1 true else (bif decide (a0.Kind > 8) then jv a0 a1 true else (bif sEq a0.Key (⟨#[]⟩:ByteArray) then jv a0 a1 true else (jv a0 a1 (decide ((a0.Key.size:Int) > 32)))))
noncomputable def nM (a0:Call) (a1:Event):Option Bool :=
 (aZ a0 a1.Kind).bind fun y5=>some (!y5)
noncomputable def dU (a0:List Call) (a1c0:Event):Int→Option (Int ⊕ Int)
 | a1=>bif decide (a1 < (a0.length:Int)) then must (0≤a1∧a1 < (a0.length:Int)) ((nM (idx a0 a1) a1c0).bind fun a2=>bif a2 then out (some a1) else (some (.inl (w64 (a1 + 1))))) else (out (some (-1)))
noncomputable def aU (a0:List Call) (a1c0:Event):Option Int :=
 iter (dU a0 a1c0) 0
noncomputable def bK (a0:List Call) (a1c0:Event):Option Bool :=
 (aU a0 a1c0).bind fun y3=>some (decide (y3 ≥ 0))
noncomputable def kD (a0:List Event) (a1:Int) (a3:Bool):Option (Int ⊕ Int) :=
 bif a3 then out (some 1) else ((bK ((idx a0 a1).Calls) (idx a0 a1)).bind fun a2=>bif a2 then out (some 1) else (some (.inl (w64 (a1 + 1)))))
noncomputable def pO (a0:List Event):Int→Option (Int ⊕ Int)
 | a1=>bif decide (a1 < (a0.length:Int)) then must (0≤a1∧a1 < (a0.length:Int)) (bif decide ((idx a0 a1).Kind < 0) then kD a0 a1 true else (bif decide ((idx a0 a1).Kind > 3) then kD a0 a1 true else (kD a0 a1 (decide ((((idx a0 a1).Calls).length:Int) > 16))))) else (out (some 0))
noncomputable def eD (a0:List Event):Option Int :=
 bif decide ((a0.length:Int) > 256) then some 1 else (iter (pO a0) 0)
noncomputable def nR (a0:History) (a1:Txn) (a3:List Call) (a2:Int):Option ((List Call×Int) ⊕ (Event×Bool)) :=
 some (.inl (a3++([(⟨(idx a1.Ops a2).Kind,idx a0.Keys ((idx a1.Ops a2).Key),(idx a1.Ops a2).Arg,(idx a1.Ops a2).Got,(idx a1.Ops a2).Vals⟩:Call)]:List Call),w64 (a2 + 1)))
noncomputable def kX (a0:History) (a1:Txn) (a2:List Call) (a3:Int) (a4:Bool):Option ((List Call×Int) ⊕ (Event×Bool)) :=
 bif a4 then out (some ((⟨0,a1.Status,a2⟩:Event),false)) else (must (0≤(idx a1.Ops a3).Key∧(idx a1.Ops a3).Key < (a0.Keys.length:Int)) (must (((a2.length + 1) + (a2.length + 1) / 4 + 192) * 64≤281474976710656∧a2.length + 1≤9223372036854775807) (nR a0 a1 a2 a3)))
noncomputable def nS (a0:History) (a1:Txn):(List Call×Int)→Option ((List Call×Int) ⊕ (Event×Bool))
 | (a3,a2)=>bif decide (a2 < (a1.Ops.length:Int)) then must (0≤a2∧a2 < (a1.Ops.length:Int)) (bif decide ((idx a1.Ops a2).Key < 0) then kX a0 a1 a3 a2 true else (kX a0 a1 a3 a2 (decide ((idx a1.Ops a2).Key ≥ (a0.Keys.length:Int))))) else ((eD ([(⟨0,a1.Status,a3⟩:Event)]:List Event)).bind fun a4=>out (some ((⟨0,a1.Status,a3⟩:Event),(a4 == 0))))
noncomputable def dm (a0:History) (a1:Txn):Option (Event×Bool) :=
 iter (nS a0 a1) ([],0)
noncomputable def kY (a0:Txn) (a1:Txn):Option Bool :=
 bif (a0.Proc == a1.Proc) then bif (a0.To == (-1)) then some true else (some (decide (a0.To ≥ a1.From))) else (some false)
noncomputable def dN (a0:List Txn) (a1c0:Txn):Int→Option (Int ⊕ Int)
 | a1=>bif decide (a1 < (a0.length:Int)) then must (0≤a1∧a1 < (a0.length:Int)) ((kY (idx a0 a1) a1c0).bind fun a2=>bif a2 then out (some a1) else (some (.inl (w64 (a1 + 1))))) else (out (some (-1)))
noncomputable def aQ (a0:List Txn) (a1c0:Txn):Option Int :=
 iter (dN a0 a1c0) 0
noncomputable def bI (a0:List Txn) (a1c0:Txn):Option Bool :=
 (aQ a0 a1c0).bind fun y3=>some (decide (y3 ≥ 0))
noncomputable def jm (a0:List Txn) (a1:Txn) (a3:Bool):Option Bool :=
 bif a3 then some false else ((bI a0 a1).bind fun a2=>some (!a2))
noncomputable def kI (a0:List Txn) (a1:Txn):Option Bool :=
 bif decide (a1.From < 0) then jm a0 a1 true else (bif decide ((a0.length:Int) > 0) then must (0≤w64 ((a0.length:Int) - 1)∧w64 ((a0.length:Int) - 1) < (a0.length:Int)) (jm a0 a1 (decide ((idx a0 (w64 ((a0.length:Int) - 1))).From ≥ a1.From))) else (jm a0 a1 false))
noncomputable def kJ (a0:List Txn) (a1:Txn) (a2:Bool):Option Bool :=
 bif a2 then some false else (kI a0 a1)
noncomputable def kK (a0:List Txn) (a1:Txn) (a2:Bool):Option Bool :=
 bif a2 then bif decide (a1.To≤a1.From) then some false else (kI a0 a1) else (bif (a1.Status == 3) then bif (a1.To != (-1)) then kJ a0 a1 (decide (a1.To≤a1.From)) else (kJ a0 a1 false) else (some false))
noncomputable def aY (a0:List Txn) (a1:Txn):Option Bool :=
 bif (a1.Status == 1) then kK a0 a1 (a1.Status == 1) else (kK a0 a1 (a1.Status == 2))
noncomputable def kg (a0:Int):Option Int :=
 some (w64 ((yK .i64 (w64 (a0 - 1)) 3) + 1))
noncomputable def fB (a1:List ByteArray) (a0:List (ByteArray×Int)) (a4:List Int) (a3:List (bD×Unit)) (a2:List (ByteArray×(List Int))):Option (Int×aN) :=
 some (0,(⟨a1,a0,a4,a3,a2⟩:aN))
noncomputable def jy (a0:aN) (a1:Call) (a2:List ByteArray) (a4:List (ByteArray×Int)) (a3:List Int):Option (Int×aN) :=
 bif ja a0.facts (⟨a1.Key,a1.Arg⟩:bD) then some (3,(⟨a2,a4,a3,a0.facts,a0.incs⟩:aN)) else (fB a2 a4 a3 (fH a0.facts (⟨a1.Key,a1.Arg⟩:bD) ()) a0.incs)
noncomputable def gP (a0:aN) (a1:Call) (a3:List ByteArray) (a5:List (ByteArray×Int)) (a4:List Int) (a2:List (ByteArray×(List Int))):Option (Int×aN) :=
 bif decide (((mat a2 a1.Key).length:Int) > 8) then some (51,(⟨a3,a5,a4,a0.facts,a2⟩:aN)) else (fB a3 a5 a4 a0.facts a2)
noncomputable def gQ (a0:aN) (a1:Call) (a2:Int) (a3:List ByteArray) (a5:List (ByteArray×Int)) (a4:List Int) (a6:Bool):Option (Int×aN) :=
 bif a6 then must (((((mat a0.incs a1.Key).length) + 1) + (((mat a0.incs a1.Key).length) + 1) / 4 + 192) * 8≤281474976710656∧((mat a0.incs a1.Key).length) + 1≤9223372036854775807) (gP a0 a1 a3 a5 a4 (fH a0.incs a1.Key ((mat a0.incs a1.Key)++([a2]:List Int)))) else (gP a0 a1 a3 a5 a4 a0.incs)
noncomputable def gT (a0:aN) (a1:Call) (a2:Int) (a3:List ByteArray) (a5:List (ByteArray×Int)) (a4:List Int) (a6:Bool):Option (Int×aN) :=
 bif a6 then jy a0 a1 a3 a5 a4 else (bif (a1.Kind == 4) then bif (((mat a0.incs a1.Key).length:Int) == 0) then gQ a0 a1 a2 a3 a5 a4 true else (must (0≤w64 (((mat a0.incs a1.Key).length:Int) - 1)∧w64 (((mat a0.incs a1.Key).length:Int) - 1) < ((mat a0.incs a1.Key).length:Int)) (gQ a0 a1 a2 a3 a5 a4 (idx (mat a0.incs a1.Key) (w64 (((mat a0.incs a1.Key).length:Int) - 1)) != a2))) else (fB a3 a5 a4 a0.facts a0.incs))
noncomputable def fC (a0:aN) (a1:Call) (a2:Int) (a5:List ByteArray) (a4:List (ByteArray×Int)) (a3:List Int) (a6:Int):Option (Int×aN) :=
 must (0≤a6∧a6 < (a3.length:Int)) ((kg a1.Kind).bind fun a7=>bif (idx a3 a6 != a7) then some (50,(⟨a5,a4,a3,a0.facts,a0.incs⟩:aN)) else (bif (a1.Kind == 2) then gT a0 a1 a2 a5 a4 a3 (a1.Kind == 2) else (gT a0 a1 a2 a5 a4 a3 (a1.Kind == 3))))
noncomputable def jA (a0:aN) (a1:Call) (a2:Int):Option (Int×aN) :=
 (kg a1.Kind).bind fun a3=>must (((a0.types.length + 1) + (a0.types.length + 1) / 4 + 192) * 8≤281474976710656∧a0.types.length + 1≤9223372036854775807) (fC a0 a1 a2 (a0.keys++([a1.Key]:List ByteArray)) (fH a0.at_ a1.Key (a0.keys.length:Int)) (a0.types++([a3]:List Int)) (a0.keys.length:Int))
noncomputable def aj (a0:aN) (a1:Call) (a2:Int):Option (Int×aN) :=
 bif !(ja a0.at_ a1.Key) then bif ((a0.keys.length:Int) == 32) then some (2,a0) else (must (((a0.keys.length + 1) + (a0.keys.length + 1) / 4 + 192) * 16≤281474976710656∧a0.keys.length + 1≤9223372036854775807) (jA a0 a1 a2)) else (fC a0 a1 a2 a0.keys a0.at_ a0.types (mat a0.at_ a1.Key))
noncomputable def jN (a1:Int) (a0:Bool):Option (Int ⊕ Int) :=
 bif a0 then out (some 1) else (some (.inl (w64 (a1 + 1))))
noncomputable def kZ (a6:Int) (a2:Event×Bool):(List ByteArray×(List (ByteArray×Int))×List Int×(List (bD×Unit))×(List (ByteArray×(List Int)))×Int)→Option ((List ByteArray×(List (ByteArray×Int))×List Int×(List (bD×Unit))×(List (ByteArray×(List Int)))×Int) ⊕ ((List ByteArray×(List (ByteArray×Int))×List Int×(List (bD×Unit))×(List (ByteArray×(List Int)))×Int) ⊕ (Int ⊕ Int)))
 | (a8,a4,a5,a3,a7,a1)=>bif decide (a1 < (a2.1.Calls.length:Int)) then must (0≤a1∧a1 < (a2.1.Calls.length:Int)) ((aj (⟨a8,a4,a5,a3,a7⟩:aN) (idx a2.1.Calls a1) a6).bind fun a0=>bif (a0.1 != 0) then out (out (out (some 1))) else (some (.inl (a0.2.keys,a0.2.at_,a0.2.types,a0.2.facts,a0.2.incs,w64 (a1 + 1))))) else (out (some (.inl (a8,a4,a5,a3,a7,w64 (a6 + 1)))))
noncomputable def lc (a6:List ByteArray) (a1:List (ByteArray×Int)) (a7:List Int) (a4:List (bD×Unit)) (a5:List (ByteArray×(List Int))) (a2:Int) (a0:Event×Bool) (a3:Bool):Option ((List ByteArray×(List (ByteArray×Int))×List Int×(List (bD×Unit))×(List (ByteArray×(List Int)))×Int) ⊕ (Int ⊕ Int)) :=
 bif a3 then out (out (some 1)) else (iter (kZ a2 a0) (a6,a1,a7,a4,a5,0))
noncomputable def jO (a0:History):(List ByteArray×(List (ByteArray×Int))×List Int×(List (bD×Unit))×(List (ByteArray×(List Int)))×Int)→Option ((List ByteArray×(List (ByteArray×Int))×List Int×(List (bD×Unit))×(List (ByteArray×(List Int)))×Int) ⊕ (Int ⊕ Int))
 | (a6,a3,a7,a4,a5,a1)=>bif decide (a1 < (a0.Txns.length:Int)) then must (0≤a1∧a1 < (a0.Txns.length:Int)) ((dm a0 (idx a0.Txns a1)).bind fun a2=>bif !a2.2 then lc a6 a3 a7 a4 a5 a1 a2 true else (must (0≤(0:Int)∧(0:Int)≤a1∧a1≤(a0.Txns.length:Int)) ((aY (dh a0.Txns (0:Int) a1) (idx a0.Txns a1)).bind fun a8=>lc a6 a3 a7 a4 a5 a1 a2 (!a8)))) else (out (out (some 0)))
noncomputable def nT (a0:History):Int→Option (Int ⊕ Int)
 | a1=>bif decide (a1 < (a0.Keys.length:Int)) then must (0≤a1∧a1 < (a0.Keys.length:Int)) (bif sEq (idx a0.Keys a1) (⟨#[]⟩:ByteArray) then jN a1 true else (bif decide (((idx a0.Keys a1).size:Int) > 32) then jN a1 true else (must (0≤(0:Int)∧(0:Int)≤a1∧a1≤(a0.Keys.length:Int)) ((slices_Contains_string (dh a0.Keys (0:Int) a1) (idx a0.Keys a1)).bind fun a3=>jN a1 a3)))) else ((kH).bind fun a2=>iter (jO a0) (a2.keys,a2.at_,a2.types,a2.facts,a2.incs,0))
noncomputable def lg (a0:History) (b7:Bool):Option Int :=
 bif b7 then some 1 else (iter (nT a0) 0)
noncomputable def az (a0:History):Option Int :=
 bif decide ((a0.Keys.length:Int) > 32) then lg a0 true else (lg a0 (decide ((a0.Txns.length:Int) > 32)))
noncomputable def dO (a0:List Int):Option (List Int) :=
 must (a0.length * 8≤140737488355328) (some a0)
noncomputable def iy (a0:Int):Option Int :=
 bif (a0 == 1) then some 171 else (bif (a0 == 2) then some 172 else (bif (a0 == 3) then some 173 else (bif (a0 == 4) then some 174 else (some (-1)))))
noncomputable def iA (a0:Unit) (a1:List Int):Option Bool :=
 some (decide ((a1.length:Int)≤1))
noncomputable def ko (a0:Unit) (a1:List Int):Option Bool :=
 some (decide ((a1.length:Int)≤64))
noncomputable def kP (a1:List Int):Int→Option (Int ⊕ Bool)
 | a0=>bif decide (a0 < (a1.length:Int)) then must (0≤w64 (a0 - 1)∧w64 (a0 - 1) < (a1.length:Int)) (must (0≤a0∧a0 < (a1.length:Int)) (bif decide (idx a1 (w64 (a0 - 1)) ≥ idx a1 a0) then out (some false) else (some (.inl (w64 (a0 + 1)))))) else (out (some (decide ((a1.length:Int)≤64))))
noncomputable def ed (a0:Unit) (a1:List Int):Option Bool :=
 iter (kP a1) 1
noncomputable def iN (a0:Unit) (a1:List Int):Option Bool :=
 some ((a1.length:Int) == 1)
noncomputable def iB (a0:Int) (a1:List Int):Option Int :=
 (iy a0).bind fun y8=>bif (y8 == (171:Int)) then (iA () a1).bind fun a4=>bif !a4 then some 80 else (some 0) else (bif (y8 == (172:Int)) then (ko () a1).bind fun a5=>bif !a5 then some 80 else (some 0) else (bif (y8 == (173:Int)) then (ed () a1).bind fun a2=>bif !a2 then some 80 else (some 0) else (bif (y8 == (174:Int)) then (iN () a1).bind fun a3=>bif !a3 then some 80 else (some 0) else (bif (y8 == ((-1):Int)) then some 1 else none))))
noncomputable def eT (a0:Unit) (a1:List Int) (a2:List Int):Option (List Int×Bool) :=
 bif ((a1.length:Int) == 1) then must (0≤(0:Int)∧(0:Int) < (a1.length:Int)) (must (0≤w64 ((a2.length:Int) - 1)∧w64 ((a2.length:Int) - 1) < (a2.length:Int)) (some (([]:List Int),(idx a1 (0:Int) == idx a2 (w64 ((a2.length:Int) - 1)))))) else (some (([]:List Int),false))
noncomputable def lQ (a0:List Int) (a1:List Int):Int→Option (Int ⊕ Bool)
 | a2=>bif decide (a2 < (a0.length:Int)) then must (0≤a2∧a2 < (a0.length:Int)) (must (0≤a2∧a2 < (a1.length:Int)) (bif (idx a0 a2 != idx a1 a2) then out (some false) else (some (.inl (w64 (a2 + 1)))))) else (out (some true))
noncomputable def bS (a0:List Int) (a1:List Int):Option Bool :=
 bif ((a0.length:Int) != (a1.length:Int)) then some false else (iter (lQ a0 a1) 0)
noncomputable def fD (a1:List Int) (a2:List Int) (a0:Bool):Option (List Int×Bool) :=
 bif a0 then some (([]:List Int),false) else (must (0≤(0:Int)∧(0:Int)≤(w64 ((a1.length:Int) - (a2.length:Int)))∧(w64 ((a1.length:Int) - (a2.length:Int)))≤(a1.length:Int)) ((dO (dh a1 (0:Int) (w64 ((a1.length:Int) - (a2.length:Int))))).bind fun a3=>some (a3,true)))
noncomputable def bT (a0:Unit) (a1:List Int) (a2:List Int):Option (List Int×Bool) :=
 bif decide (w64 ((a1.length:Int) - (a2.length:Int)) < 0) then fD a1 a2 true else (must (0≤(w64 ((a1.length:Int) - (a2.length:Int)))∧(w64 ((a1.length:Int) - (a2.length:Int)))≤(a1.length:Int)∧(a1.length:Int)≤(a1.length:Int)) ((bS (dh a1 (w64 ((a1.length:Int) - (a2.length:Int))) (a1.length:Int)) a2).bind fun a3=>fD a1 a2 (!a3)))
noncomputable def jo (a0:Int):Option Bool :=
 some (a0 != a0)
noncomputable def jP (a0:Int) (a1:Int):Option Bool :=
 (jo a0).bind fun y7=>bif y7 then (jo a1).bind fun a2=>bif !a2 then some true else (some (decide (a0 < a1))) else (some (decide (a0 < a1)))
noncomputable def gK (a0:Int):Option Bool :=
 some (a0 != a0)
noncomputable def gp (a1:Int) (a0:Int):Option ((Int×Int) ⊕ (Int×Bool)) :=
 some (.inl (a1,a0))
noncomputable def gq (a0:List Int) (a1:Int):(Int×Int)→Option ((Int×Int) ⊕ (Int×Bool))
 | (a2,a3)=>bif decide (a2 < a3) then must (0≤(1:Int)∧(1:Int) < (far:Int)) (must (0≤w64 (ul .u64 (IntKind.wrap .u64 (w64 (a2 + a3))) (1:Int))∧w64 (ul .u64 (IntKind.wrap .u64 (w64 (a2 + a3))) (1:Int)) < (a0.length:Int)) ((jP (idx a0 (w64 (ul .u64 (IntKind.wrap .u64 (w64 (a2 + a3))) (1:Int)))) a1).bind fun a4=>bif a4 then gp (w64 ((w64 (ul .u64 (IntKind.wrap .u64 (w64 (a2 + a3))) (1:Int))) + 1)) a3 else (gp a2 (w64 (ul .u64 (IntKind.wrap .u64 (w64 (a2 + a3))) (1:Int)))))) else (bif decide (a2 < (a0.length:Int)) then must (0≤a2∧a2 < (a0.length:Int)) (bif (idx a0 a2 == a1) then out (some (a2,true)) else ((gK (idx a0 a2)).bind fun a6=>bif a6 then (gK a1).bind fun a5=>out (some (a2,a5)) else (out (some (a2,false))))) else (out (some (a2,false))))
noncomputable def aT (a0:List Int) (a1:Int):Option (Int×Bool) :=
 iter (gq a0 a1) (0,(a0.length:Int))
noncomputable def gu (a0:List Int) (a1 a2:Int):Option (List Int) :=
 must (0≤a1∧a1≤a2∧a2≤(a0.length:Int)) (some (a0.take a1.toNat++a0.drop a2.toNat))
noncomputable def iC (a2:List Int):(List Int×Int)→Option ((List Int×Int) ⊕ (List Int×Bool))
 | (a3,a0)=>bif decide (a0 < (a2.length:Int)) then must (0≤a0∧a0 < (a2.length:Int)) ((aT a3 (idx a2 a0)).bind fun a1=>bif !a1.2 then out (some (([]:List Int),false)) else ((gu a3 a1.1 (w64 (a1.1 + 1))).bind fun a4=>some (.inl (a4,w64 (a0 + 1))))) else (out (some (a3,true)))
noncomputable def dB (a0:Unit) (a1:List Int) (a2:List Int):Option (List Int×Bool) :=
 (dO a1).bind fun y7=>iter (iC a2) (y7,0)
noncomputable def fI (a2:List Int):(Int×Int)→Option ((Int×Int) ⊕ (List Int×Bool))
 | (a1,a0)=>bif decide (a0 < (a2.length:Int)) then must (0≤a0∧a0 < (a2.length:Int)) (some (.inl (w64 (a1 - (idx a2 a0)),w64 (a0 + 1)))) else (out (some (([a1]:List Int),true)))
noncomputable def bX (a0:Unit) (a1:List Int) (a2:List Int):Option (List Int×Bool) :=
 must (0≤(0:Int)∧(0:Int) < (a1.length:Int)) (iter (fI a2) (idx a1 (0:Int),0))
noncomputable def iw (a0:Int) (a1:List Int) (a2:List Int) (b9:Bool):Option (List Int×Bool) :=
 bif b9 then some (([]:List Int),false) else ((iy a0).bind fun a3=>bif (a3 == (171:Int)) then (eT () a1 a2).bind fun a7=>some (a7.1,a7.2) else (bif (a3 == (172:Int)) then (bT () a1 a2).bind fun a6=>some (a6.1,a6.2) else (bif (a3 == (173:Int)) then (dB () a1 a2).bind fun a4=>some (a4.1,a4.2) else (bif (a3 == (174:Int)) then (bX () a1 a2).bind fun a5=>some (a5.1,a5.2) else (bif (a3 == ((-1):Int)) then none else none)))))
noncomputable def eB (a0:Int) (a1:List Int) (a2:List Int):Option (List Int×Bool) :=
 (iB a0 a1).bind fun a3=>bif (a3 != 0) then iw a0 a1 a2 true else (iw a0 a1 a2 ((a2.length:Int) == 0))
noncomputable def fe (a1:Int) (a3:List Ask) (a0:List fq) (a2:List (Int×(List Int))):Option ((List Ask×List fq×(List (Int×(List Int)))×Int) ⊕ dw) :=
 some (.inl (a3,a0,a2,w64 (a1 + 1)))
noncomputable def iO (a1:History) (a2:Int) (a3:List Ask) (a4:List fq) (a5:List (Int×(List Int))) (a0:Int) (a6:List Int) (a7:Bool):Option ((List Ask×List fq×(List (Int×(List Int)))×Int) ⊕ dw) :=
 bif !a7 then must (((a4.length + 1) + (a4.length + 1) / 4 + 192) * 16≤281474976710656∧a4.length + 1≤9223372036854775807) (fe a0 a3 (a4++([(⟨a2,a0⟩:fq)]:List fq)) a5) else (must (((a3.length + 1) + (a3.length + 1) / 4 + 192) * 48≤281474976710656∧a3.length + 1≤9223372036854775807) (fe a0 (a3++([(⟨a2,a0,(idx ((idx a1.Txns a2).Ops) a0).Key,a6⟩:Ask)]:List Ask)) a4 a5))
noncomputable def iP (a1:History) (a2:Int) (a3:List Ask) (a6:List fq) (a5:List (Int×(List Int))) (a0:Int) (a4:List Int×Bool) (a7:Bool):Option ((List Ask×List fq×(List (Int×(List Int)))×Int) ⊕ dw) :=
 bif a7 then fe a0 a3 a6 a5 else (iO a1 a2 a3 a6 a5 a0 a4.1 a4.2)
noncomputable def ky (a1:History) (a2:Int):(List Ask×List fq×(List (Int×(List Int)))×Int)→Option ((List Ask×List fq×(List (Int×(List Int)))×Int) ⊕ dw)
 | (a4,a5,a3,a0)=>bif decide (a0 < (((idx a1.Txns a2).Ops).length:Int)) then must (0≤a0∧a0 < (((idx a1.Txns a2).Ops).length:Int)) (bif decide ((idx ((idx a1.Txns a2).Ops) a0).Kind≤4) then must (((((mat a3 ((idx ((idx a1.Txns a2).Ops) a0).Key)).length) + 1) + (((mat a3 ((idx ((idx a1.Txns a2).Ops) a0).Key)).length) + 1) / 4 + 192) * 8≤281474976710656∧((mat a3 ((idx ((idx a1.Txns a2).Ops) a0).Key)).length) + 1≤9223372036854775807) (fe a0 a4 a5 (fH a3 ((idx ((idx a1.Txns a2).Ops) a0).Key) ((mat a3 ((idx ((idx a1.Txns a2).Ops) a0).Key))++([(idx ((idx a1.Txns a2).Ops) a0).Arg]:List Int)))) else ((dO ((idx ((idx a1.Txns a2).Ops) a0).Vals)).bind fun a7=>bif decide (((mat a3 ((idx ((idx a1.Txns a2).Ops) a0).Key)).length:Int) > 0) then (eB (w64 (((idx ((idx a1.Txns a2).Ops) a0).Kind) - 4)) ((idx ((idx a1.Txns a2).Ops) a0).Vals) (mat a3 ((idx ((idx a1.Txns a2).Ops) a0).Key))).bind fun a6=>bif a6.2 then iP a1 a2 a4 a5 a3 a0 a6 ((idx ((idx a1.Txns a2).Ops) a0).Kind == 5) else (iP a1 a2 a4 a5 a3 a0 a6 false) else (iO a1 a2 a4 a5 a3 a0 a7 true))) else (out (some (⟨a4,a5⟩:dw)))
noncomputable def aJ (a0:dw) (a1:History) (a2:Int):Option dw :=
 must (0≤a2∧a2 < (a1.Txns.length:Int)) (bif ((idx a1.Txns a2).Status != 1) then some a0 else (iter (ky a1 a2) (a0.asks,a0.bad,[],0)))
noncomputable def qz (a0:History):(List Ask×List fq×Int)→Option ((List Ask×List fq×Int) ⊕ (dw×Int))
 | (a3,a2,a1)=>bif decide (a1 < (a0.Txns.length:Int)) then (aJ (⟨a3,a2⟩:dw) a0 a1).bind fun a4=>some (.inl (a4.asks,a4.bad,w64 (a1 + 1))) else (out (some ((⟨a3,a2⟩:dw),0)))
noncomputable def iT (a0:History):Option (dw×Int) :=
 (az a0).bind fun a1=>bif (a1 != 0) then some ((⟨([]:List Ask),([]:List fq)⟩:dw),a1) else (iter (qz a0) ([],[],0))
noncomputable def jQ (a0:History):Option (List Ask×Int) :=
 (iT a0).bind fun a1=>some (a1.1.asks,a1.2)
noncomputable def qa (a0:History):Option (List fq×Int) :=
 (iT a0).bind fun a1=>some (a1.1.bad,a1.2)
noncomputable def mQ (a0:History) (a1:List Int) (a3:List (Int×Int)) (a2:Int) (a4:Bool):Option (((List (Int×Int))×Int) ⊕ (bn×Bool)) :=
 bif a4 then out (some ((⟨a0,a1,a3⟩:bn),false)) else (some (.inl (fH a3 (idx a1 a2) a2,w64 (a2 + 1))))
noncomputable def oP (a0:History) (a1:List Int) (a2:List (Int×Int)) (a3:Int) (a4:Bool):Option (Int ⊕ (((List (Int×Int))×Int) ⊕ (bn×Bool))) :=
 bif a4 then out (out (some ((⟨a0,a1,a2⟩:bn),false))) else (some (.inl (w64 (a3 + 1))))
noncomputable def oQ (a0:History) (a1:List Int) (a3:List (Int×Int)):Int→Option (Int ⊕ (((List (Int×Int))×Int) ⊕ (bn×Bool)))
 | a2=>bif decide (a2 < (a0.Txns.length:Int)) then must (0≤a2∧a2 < (a0.Txns.length:Int)) (bif !(ja a3 a2) then oP a0 a1 a3 a2 ((idx a0.Txns a2).Status == 1) else (oP a0 a1 a3 a2 false)) else (out (out (some ((⟨a0,a1,a3⟩:bn),true))))
noncomputable def rV (a0:History) (a1:List Int):((List (Int×Int))×Int)→Option (((List (Int×Int))×Int) ⊕ (bn×Bool))
 | (a3,a2)=>bif decide (a2 < (a1.length:Int)) then must (0≤a2∧a2 < (a1.length:Int)) (bif decide (idx a1 a2 < 0) then mQ a0 a1 a3 a2 true else (bif decide (idx a1 a2 ≥ (a0.Txns.length:Int)) then mQ a0 a1 a3 a2 true else (must (0≤idx a1 a2∧idx a1 a2 < (a0.Txns.length:Int)) (mQ a0 a1 a3 a2 ((idx a0.Txns (idx a1 a2)).Status == 2))))) else (bif ((a3.length:Int) != (a1.length:Int)) then out (some ((⟨a0,a1,a3⟩:bn),false)) else (iter (oQ a0 a1 a3) 0))
noncomputable def dz (a0:History) (a1:List Int):Option (bn×Bool) :=
 iter (rV a0 a1) ([],0)
noncomputable def gG (a1:Int) (a0:List (Int×Int)):Option (((List (Int×Int))×Int) ⊕ Bool) :=
 some (.inl (a0,w64 (a1 + 1)))
noncomputable def gH (a0:bn) (a2:List (Int×Int)) (a1:Int) (a3:Bool):Option (((List (Int×Int))×Int) ⊕ Bool) :=
 bif a3 then out (some false) else (gG a1 (fH a2 ((idx a0.h.Txns a1).Proc) (xh (mat a0.at_ a1) (mat a2 ((idx a0.h.Txns a1).Proc)))))
noncomputable def je (a0:bn):((List (Int×Int))×Int)→Option (((List (Int×Int))×Int) ⊕ Bool)
 | (a2,a1)=>bif decide (a1 < (a0.h.Txns.length:Int)) then must (0≤a1∧a1 < (a0.h.Txns.length:Int)) (bif !(ja a0.at_ a1) then gG a1 a2 else (bif ja a2 ((idx a0.h.Txns a1).Proc) then gH a0 a2 a1 (decide (mat a2 ((idx a0.h.Txns a1).Proc) > mat a0.at_ a1)) else (gH a0 a2 a1 false))) else (out (some true))
noncomputable def aP (a0:bn):Option Bool :=
 iter (je a0) ([],0)
noncomputable def lh (a1:Int) (a0:List Int):Option ((List Int×Int) ⊕ (List Int)) :=
 some (.inl (a0,w64 (a1 + 1)))
noncomputable def lm (a0:Txn) (a1:List Int) (a2:Int) (a3:Bool):Option ((List Int×Int) ⊕ (List Int)) :=
 bif a3 then must (((a1.length + 1) + (a1.length + 1) / 4 + 192) * 8≤281474976710656∧a1.length + 1≤9223372036854775807) (lh a2 (a1++([(idx a0.Ops a2).Arg]:List Int))) else (lh a2 a1)
noncomputable def nU (a0:Txn) (a1:Int):(List Int×Int)→Option ((List Int×Int) ⊕ (List Int))
 | (a3,a2)=>bif decide (a2 < (a0.Ops.length:Int)) then must (0≤a2∧a2 < (a0.Ops.length:Int)) (bif ((idx a0.Ops a2).Key == a1) then lm a0 a3 a2 (decide ((idx a0.Ops a2).Kind≤4)) else (lm a0 a3 a2 false)) else (out (some a3))
noncomputable def cz (a0:Txn) (a1:Int):Option (List Int) :=
 iter (nU a0 a1) ([],0)
noncomputable def jR (a0:History) (a1:Int) (a2:Int) (a4:Bool):Option (List Int×Bool) :=
 bif a4 then some (([]:List Int),false) else (must (0≤a1∧a1 < (a0.Txns.length:Int)) ((cz (idx a0.Txns a1) a2).bind fun a3=>some (a3,decide ((a3.length:Int) > 0))))
noncomputable def fu (a0:History) (a1:Int) (a2:Int):Option (List Int×Bool) :=
 bif decide (a1 < 0) then jR a0 a1 a2 true else (bif decide (a1 ≥ (a0.Txns.length:Int)) then jR a0 a1 a2 true else ((az a0).bind fun a3=>jR a0 a1 a2 (a3 != 0)))
noncomputable def iQ (a0:bn) (a1:Ask) (a2:Int) (b9:Bool):Option Bool :=
 bif b9 then some false else ((fu a0.h a2 a1.Key).bind fun a3=>some a3.2)
noncomputable def dI (a0:bn) (a1:Ask) (a2:Int):Option Bool :=
 bif !(ja a0.at_ a2) then iQ a0 a1 a2 true else (iQ a0 a1 a2 (decide (mat a0.at_ a2 ≥ mat a0.at_ a1.Txn)))
noncomputable def pQ (a0:History) (a1:Int) (a3:Int):Int→Option (Int ⊕ (Int ⊕ Int))
 | a2=>bif decide (a2 < (((idx a0.Txns a3).Ops).length:Int)) then must (0≤a2∧a2 < (((idx a0.Txns a3).Ops).length:Int)) (bif ((idx ((idx a0.Txns a3).Ops) a2).Key == a1) then (kg ((idx ((idx a0.Txns a3).Ops) a2).Kind)).bind fun a4=>out (out (some a4)) else (some (.inl (w64 (a2 + 1))))) else (out (some (.inl (w64 (a3 + 1)))))
noncomputable def pR (a0:History) (a1:Int):Int→Option (Int ⊕ Int)
 | a2=>bif decide (a2 < (a0.Txns.length:Int)) then must (0≤a2∧a2 < (a0.Txns.length:Int)) (iter (pQ a0 a1 a2) 0) else (out (some 0))
noncomputable def dK (a0:History) (a1:Int):Option Int :=
 (az a0).bind fun y8=>bif (y8 != 0) then some 0 else (iter (pR a0 a1) 0)
noncomputable def lq (a0:List Int):Option (List Int):=must (a0.length < 4611686018427387904) (some (a0.mergeSort fun x y=>decide (x≤y)))
noncomputable def gU (a0:List Int):Option (List Int) :=
 some a0
noncomputable def jB (a1:List Int):(Int×Int)→Option ((Int×Int) ⊕ (List Int))
 | (a2,a0)=>bif decide (a0 < (a1.length:Int)) then must (0≤a0∧a0 < (a1.length:Int)) (some (.inl (w64 (a2 + (idx a1 a0)),w64 (a0 + 1)))) else (out (some ([a2]:List Int)))
noncomputable def fE (a0:bn) (a1:Int) (a2:List Int):Option (List Int) :=
 (dK a0.h a1).bind fun a3=>bif (a3 == 1) then must (0≤(xh 0 (w64 ((a2.length:Int) - 1)))∧(xh 0 (w64 ((a2.length:Int) - 1)))≤(a2.length:Int)∧(a2.length:Int)≤(a2.length:Int)) (some (dh a2 (xh 0 (w64 ((a2.length:Int) - 1))) (a2.length:Int))) else (bif (a3 == 3) then (lq a2).bind fun a4=>gU a4 else (bif (a3 == 4) then iter (jB a2) (0,0) else (gU a2)))
noncomputable def gV (a1:Int) (a0:List Int):Option ((List Int×Int) ⊕ ((List Int×Int) ⊕ (List Int))) :=
 some (.inl (a0,w64 (a1 + 1)))
noncomputable def gW (a0:bn) (a2:Int) (a4:Int) (a1:List Int) (a3:Int) (a5:Bool):Option ((List Int×Int) ⊕ ((List Int×Int) ⊕ (List Int))) :=
 bif a5 then must (((a1.length + 1) + (a1.length + 1) / 4 + 192) * 8≤281474976710656∧a1.length + 1≤9223372036854775807) (gV a3 (a1++([(idx ((idx a0.h.Txns (idx (dh a0.order (0:Int) (w64 ((mat a0.at_ a2) + 1))) a4)).Ops) a3).Arg]:List Int))) else (gV a3 a1)
noncomputable def jC (a0:bn) (a1:Int) (a2:Int) (a4:Int):(List Int×Int)→Option ((List Int×Int) ⊕ ((List Int×Int) ⊕ (List Int)))
 | (a5,a3)=>bif decide (a3 < (((idx a0.h.Txns (idx (dh a0.order (0:Int) (w64 ((mat a0.at_ a2) + 1))) a4)).Ops).length:Int)) then must (0≤a3∧a3 < (((idx a0.h.Txns (idx (dh a0.order (0:Int) (w64 ((mat a0.at_ a2) + 1))) a4)).Ops).length:Int)) (bif ((idx ((idx a0.h.Txns (idx (dh a0.order (0:Int) (w64 ((mat a0.at_ a2) + 1))) a4)).Ops) a3).Key == a1) then gW a0 a2 a4 a5 a3 (decide ((idx ((idx a0.h.Txns (idx (dh a0.order (0:Int) (w64 ((mat a0.at_ a2) + 1))) a4)).Ops) a3).Kind≤4)) else (gW a0 a2 a4 a5 a3 false)) else (out (some (.inl (a5,w64 (a4 + 1)))))
noncomputable def jD (a0:bn) (a1:Int) (a2:Int):(List Int×Int)→Option ((List Int×Int) ⊕ (List Int))
 | (a4,a3)=>bif decide (a3 < ((dh a0.order (0:Int) (w64 ((mat a0.at_ a2) + 1))).length:Int)) then must (0≤a3∧a3 < ((dh a0.order (0:Int) (w64 ((mat a0.at_ a2) + 1))).length:Int)) (must (0≤idx (dh a0.order (0:Int) (w64 ((mat a0.at_ a2) + 1))) a3∧idx (dh a0.order (0:Int) (w64 ((mat a0.at_ a2) + 1))) a3 < (a0.h.Txns.length:Int)) (iter (jC a0 a1 a2 a3) (a4,0))) else (out (fE a0 a1 a4))
noncomputable def ak (a0:bn) (a1:Int) (a2:Int):Option (List Int) :=
 bif decide (a2 ≥ 0) then must (0≤(0:Int)∧(0:Int)≤(w64 ((mat a0.at_ a2) + 1))∧(w64 ((mat a0.at_ a2) + 1))≤(a0.order.length:Int)) (iter (jD a0 a1 a2) ([],0)) else (fE a0 a1 [])
noncomputable def oU (a1:Exec) (a2:List Ask×Int) (a3:bn×Bool) (a0:Int) (a6:Bool):Option (Int ⊕ (Int×Int)) :=
 bif a6 then out (some (5,0)) else (must (0≤a0∧a0 < (a1.Picks.length:Int)) ((ak a3.1 ((idx a2.1 a0).Key) (idx a1.Picks a0)).bind fun a5=>(bS a5 ((idx a2.1 a0).Base)).bind fun a4=>bif !a4 then out (some (6,0)) else (some (.inl (w64 (a0 + 1))))))
noncomputable def oV (a1:Exec) (a2:List Ask×Int) (a3:bn×Bool):Int→Option (Int ⊕ (Int×Int))
 | a0=>bif decide (a0 < (a2.1.length:Int)) then must (0≤a0∧a0 < (a2.1.length:Int)) (must (0≤a0∧a0 < (a1.Picks.length:Int)) (bif (idx a1.Picks a0 != (-1)) then (dI a3.1 (idx a2.1 a0) (idx a1.Picks a0)).bind fun a4=>oU a1 a2 a3 a0 (!a4) else (oU a1 a2 a3 a0 false))) else (out (some (0,0)))
noncomputable def dL (a0:History) (a1:Exec):Option (Int×Int) :=
 (jQ a0).bind fun a2=>bif (a2.2 != 0) then some (0,a2.2) else ((qa a0).bind fun a5=>bif decide ((a5.1.length:Int) > 0) then some (1,0) else ((dz a0 a1.Order).bind fun a3=>bif !a3.2 then some (2,0) else (bif ((a1.Picks.length:Int) != (a2.1.length:Int)) then some (3,0) else ((aP a3.1).bind fun a4=>bif !a4 then some (4,0) else (iter (oV a1 a2 a3) 0)))))
noncomputable def qA (a1:Int) (a0:Bool):Option (Int ⊕ (Int ⊕ Bool)) :=
 bif a0 then out (out (some false)) else (some (.inl (w64 (a1 + 1))))
noncomputable def uR (a0:History) (a1:List Int) (a2:Int):Int→Option (Int ⊕ (Int ⊕ Bool))
 | a3=>bif decide (a3 < ((dh a1 (w64 (a2 + 1)) (a1.length:Int)).length:Int)) then must (0≤a3∧a3 < ((dh a1 (w64 (a2 + 1)) (a1.length:Int)).length:Int)) (must (0≤idx (dh a1 (w64 (a2 + 1)) (a1.length:Int)) a3∧idx (dh a1 (w64 (a2 + 1)) (a1.length:Int)) a3 < (a0.Txns.length:Int)) (bif ((idx a0.Txns (idx (dh a1 (w64 (a2 + 1)) (a1.length:Int)) a3)).Status == 1) then must (0≤idx a1 a2∧idx a1 a2 < (a0.Txns.length:Int)) (qA a3 (decide ((idx a0.Txns (idx (dh a1 (w64 (a2 + 1)) (a1.length:Int)) a3)).To < (idx a0.Txns (idx a1 a2)).From))) else (qA a3 false))) else (out (some (.inl (w64 (a2 + 1)))))
noncomputable def uS (a0:History) (a1:List Int) (a3:bn×Bool):Int→Option (Int ⊕ Bool)
 | a2=>bif decide (a2 < (a1.length:Int)) then must (0≤a2∧a2 < (a1.length:Int)) (must (0≤(w64 (a2 + 1))∧(w64 (a2 + 1))≤(a1.length:Int)∧(a1.length:Int)≤(a1.length:Int)) (iter (uR a0 a1 a2) 0)) else (out (some ((a3.1.order.length:Int) == (a1.length:Int))))
noncomputable def fT (a0:History) (a1:List Int):Option Bool :=
 (az a0).bind fun y8=>bif (y8 != 0) then some false else ((dz a0 a1).bind fun a2=>bif !a2.2 then some false else (iter (uS a0 a1 a2) 0))
noncomputable def fU:Option Bool :=
 (dL (⟨([(⟨#[120]⟩:ByteArray)]:List ByteArray),([(⟨0,1,0,1,([(⟨1,0,5,false,([]:List Int)⟩:Op)]:List Op)⟩:Txn),(⟨1,1,2,3,([(⟨5,0,0,true,([5]:List Int)⟩:Op)]:List Op)⟩:Txn)]:List Txn)⟩:History) (⟨([0,1]:List Int),([0]:List Int)⟩:Exec)).bind fun a1=>(dL (⟨([(⟨#[120]⟩:ByteArray)]:List ByteArray),([(⟨0,1,0,1,([(⟨1,0,5,false,([]:List Int)⟩:Op)]:List Op)⟩:Txn),(⟨1,1,2,3,([(⟨5,0,0,true,([5]:List Int)⟩:Op)]:List Op)⟩:Txn)]:List Txn)⟩:History) (⟨([1,0]:List Int),([0]:List Int)⟩:Exec)).bind fun a0=>bif (a1.1 == 0) then bif (a1.2 == 0) then bif (a0.1 == 5) then bif (a0.2 == 0) then (fT (⟨([(⟨#[120]⟩:ByteArray)]:List ByteArray),([(⟨0,1,0,1,([(⟨1,0,5,false,([]:List Int)⟩:Op)]:List Op)⟩:Txn),(⟨1,1,2,3,([(⟨5,0,0,true,([5]:List Int)⟩:Op)]:List Op)⟩:Txn)]:List Txn)⟩:History) ([0,1]:List Int)).bind fun a3=>bif a3 then (fT (⟨([(⟨#[120]⟩:ByteArray)]:List ByteArray),([(⟨0,1,0,1,([(⟨1,0,5,false,([]:List Int)⟩:Op)]:List Op)⟩:Txn),(⟨1,1,2,3,([(⟨5,0,0,true,([5]:List Int)⟩:Op)]:List Op)⟩:Txn)]:List Txn)⟩:History) ([1,0]:List Int)).bind fun a2=>some (!a2) else (some false) else (some false) else (some false) else (some false) else (some false)
noncomputable def lu (a0:List Int) (a1:Int):Int→Option (Int ⊕ Bool)
 | a2=>bif decide (a2 < (a0.length:Int)) then must (0≤a2∧a2 < (a0.length:Int)) (bif (idx a0 a2 == a1) then out (some true) else (some (.inl (w64 (a2 + 1))))) else (out (some false))
noncomputable def cO (a0:List Int) (a1:Int):Option Bool :=
 iter (lu a0 a1) 0
noncomputable def dP (a1:Int) (a0:Bool):Option (Int ⊕ Bool) :=
 bif a0 then out (some true) else (some (.inl (w64 (a1 + 1))))
noncomputable def eU (a1:Int) (a0:List Int):Option ((List Int×Int) ⊕ (Int ⊕ Bool)) :=
 some (.inl (a0,w64 (a1 + 1)))
noncomputable def eX (a0:History) (a1:Exec) (a2:Int):(List Int×Int)→Option ((List Int×Int) ⊕ (Int ⊕ Bool))
 | (a4,a3)=>bif decide (a3 < (a1.Order.length:Int)) then must (0≤a3∧a3 < (a1.Order.length:Int)) (bif (idx a1.Order a3 != w64 ((IntKind.wrap .u64 (a2)).tmod (IntKind.wrap .u64 ((a0.Txns.length:Int))))) then must (((a4.length + 1) + (a4.length + 1) / 4 + 192) * 8≤281474976710656∧a4.length + 1≤9223372036854775807) (eU a3 (a4++([idx a1.Order a3]:List Int))) else (eU a3 a4)) else ((dL a0 (⟨a4,a1.Picks⟩:Exec)).bind fun a5=>bif (a5.1 == 0) then out (out (some (a5.2 == 0))) else (out (out (some false))))
noncomputable def gL (a0:History) (a1:Exec) (a2:Int):Int→Option (Int ⊕ Bool)
 | a3=>must (0≤w64 ((IntKind.wrap .u64 (a2)).tmod (IntKind.wrap .u64 ((a0.Txns.length:Int))))∧w64 ((IntKind.wrap .u64 (a2)).tmod (IntKind.wrap .u64 ((a0.Txns.length:Int)))) < (a0.Txns.length:Int)) (bif decide (a3 < (((idx a0.Txns (w64 ((IntKind.wrap .u64 (a2)).tmod (IntKind.wrap .u64 ((a0.Txns.length:Int)))))).Ops).length:Int)) then must (0≤a3∧a3 < (((idx a0.Txns (w64 ((IntKind.wrap .u64 (a2)).tmod (IntKind.wrap .u64 ((a0.Txns.length:Int)))))).Ops).length:Int)) (bif ((idx ((idx a0.Txns (w64 ((IntKind.wrap .u64 (a2)).tmod (IntKind.wrap .u64 ((a0.Txns.length:Int)))))).Ops) a3).Kind == 2) then dP a3 true else (bif ((idx ((idx a0.Txns (w64 ((IntKind.wrap .u64 (a2)).tmod (IntKind.wrap .u64 ((a0.Txns.length:Int)))))).Ops) a3).Kind == 3) then dP a3 true else (dP a3 ((idx ((idx a0.Txns (w64 ((IntKind.wrap .u64 (a2)).tmod (IntKind.wrap .u64 ((a0.Txns.length:Int)))))).Ops) a3).Kind == 4)))) else (iter (eX a0 a1 a2) ([],0)))
noncomputable def dA (a0:History) (a1:Exec) (a2:Int) (a3:Bool):Option Bool :=
 bif a3 then some true else (iter (gL a0 a1 a2) 0)
noncomputable def bU (a0:History) (a1:Exec) (a2:Int) (a3:Bool):Option Bool :=
 bif a3 then some true else (must ((IntKind.wrap .u64 ((a0.Txns.length:Int)))≠0) (must (0≤w64 ((IntKind.wrap .u64 (a2)).tmod (IntKind.wrap .u64 ((a0.Txns.length:Int))))∧w64 ((IntKind.wrap .u64 (a2)).tmod (IntKind.wrap .u64 ((a0.Txns.length:Int)))) < (a0.Txns.length:Int)) (bif ((idx a0.Txns (w64 ((IntKind.wrap .u64 (a2)).tmod (IntKind.wrap .u64 ((a0.Txns.length:Int)))))).Status != 3) then dA a0 a1 a2 true else ((cO a1.Picks (w64 ((IntKind.wrap .u64 (a2)).tmod (IntKind.wrap .u64 ((a0.Txns.length:Int)))))).bind fun a4=>dA a0 a1 a2 a4))))
noncomputable def ag (a0:History) (a1:Exec) (a2:Int):Option Bool :=
 (fU).bind fun a4=>bif !a4 then some false else ((dL a0 a1).bind fun a3=>bif (a3.2 != 0) then bU a0 a1 a2 true else (bif (a3.1 != 0) then bU a0 a1 a2 true else (bU a0 a1 a2 ((a0.Txns.length:Int) == 0))))
noncomputable def oI (a0:History) (a1:Exec) (a2:Int):Option Bool :=
 (dL a0 (⟨(([]:List Int)++a1.Order)++([a2]:List Int),a1.Picks⟩:Exec)).bind fun a3=>must (0≤a2∧a2 < (a0.Txns.length:Int)) (bif ((idx a0.Txns a2).Status == 2) then bif (a3.2 == 0) then some (a3.1 == 2) else (some false) else (bif (a3.2 == 0) then bif (a3.1 == 0) then some true else (some (a3.1 == 4)) else (some false)))
noncomputable def dV (a0:History) (a1:Exec) (a2:Int) (a3:Bool):Option Bool :=
 bif a3 then some true else (must (((0 + a1.Order.length) + (0 + a1.Order.length) / 4 + 192) * 8≤281474976710656∧0 + a1.Order.length≤9223372036854775807) (must (((((([]:List Int)++a1.Order).length) + 1) + (((([]:List Int)++a1.Order).length) + 1) / 4 + 192) * 8≤281474976710656∧((([]:List Int)++a1.Order).length) + 1≤9223372036854775807) (oI a0 a1 a2)))
noncomputable def cZ (a0:History) (a1:Exec) (a2:Int):Option Bool :=
 (fU).bind fun a4=>bif !a4 then some false else ((dL a0 a1).bind fun a3=>bif (a3.2 != 0) then dV a0 a1 a2 true else (bif (a3.1 != 0) then dV a0 a1 a2 true else (bif decide (a2 < 0) then dV a0 a1 a2 true else (bif decide (a2 ≥ (a0.Txns.length:Int)) then dV a0 a1 a2 true else ((cO a1.Order a2).bind fun a5=>dV a0 a1 a2 a5)))))
noncomputable def kS (a0:List Int) (a1:List Int):Int→Option (Int ⊕ Bool)
 | a2=>bif decide (a2 < (a0.length:Int)) then must (0≤a2∧a2 < (a0.length:Int)) (must (0≤a2∧a2 < (a1.length:Int)) (bif (idx a0 a2 != idx a1 a2) then out (some false) else (some (.inl (w64 (a2 + 1)))))) else (out (some true))
noncomputable def dQ (a0:List Int) (a1:List Int):Option Bool :=
 bif ((a0.length:Int) != (a1.length:Int)) then some false else (iter (kS a0 a1) 0)
noncomputable def nA (a2:Int) (a3:Int) (a0:bn×Bool) (a1:Bool):Option (List Int×Bool) :=
 bif a1 then some (([]:List Int),false) else ((ak a0.1 a2 a3).bind fun a4=>some (a4,true))
noncomputable def kM (a0:History) (a1:List Int) (a2:Int) (a3:Int) (a5:Bool):Option (List Int×Bool) :=
 bif a5 then some (([]:List Int),false) else ((dz a0 a1).bind fun a4=>bif !a4.2 then nA a2 a3 a4 true else (bif decide (a3 ≥ 0) then nA a2 a3 a4 (!(ja a4.1.at_ a3)) else (nA a2 a3 a4 false)))
noncomputable def fJ (a0:History) (a1:List Int) (a2:Int) (a3:Int):Option (List Int×Bool) :=
 (az a0).bind fun a4=>bif (a4 != 0) then kM a0 a1 a2 a3 true else (bif decide (a2 < 0) then kM a0 a1 a2 a3 true else (bif decide (a2 ≥ (a0.Keys.length:Int)) then kM a0 a1 a2 a3 true else (kM a0 a1 a2 a3 (decide (a3 < (-1))))))
noncomputable def nJ (a0:List ByteArray) (a1:ByteArray):Int→Option (Int ⊕ Int)
 | a2=>bif decide (a2 < (a0.length:Int)) then must (0≤a2∧a2 < (a0.length:Int)) (bif sEq (idx a0 a2) a1 then out (some a2) else (some (.inl (w64 (a2 + 1))))) else (out (some (-1)))
noncomputable def eF (a0:List ByteArray) (a1:ByteArray):Option Int :=
 iter (nJ a0 a1) 0
noncomputable def iD (a0:Int) (a1:Bool):Option (Int ⊕ Bool) :=
 bif a1 then out (some false) else (some (.inl (w64 (a0 + 1))))
noncomputable def mR (a0:List ByteArray):Int→Option (Int ⊕ Bool)
 | a1=>bif decide (a1 < (a0.length:Int)) then must (0≤a1∧a1 < (a0.length:Int)) (bif decide (((idx a0 a1).size:Int) < 1) then iD a1 true else (bif decide (((idx a0 a1).size:Int) > 32) then iD a1 true else (must (0≤(0:Int)∧(0:Int)≤a1∧a1≤(a0.length:Int)) ((eF (dh a0 (0:Int) a1) (idx a0 a1)).bind fun a2=>iD a1 (decide (a2 ≥ 0)))))) else (out (some (decide ((a0.length:Int)≤32))))
noncomputable def df (a0:List ByteArray):Option Bool :=
 iter (mR a0) 0
noncomputable def gX (a0:Int) (a1:Bool):Option (Int ⊕ Bool) :=
 bif a1 then out (some false) else (some (.inl (w64 (a0 + 1))))
noncomputable def jE (a0:List Txn) (a1:Int):Int→Option (Int ⊕ Bool)
 | a2=>bif decide (a2 < a1) then must (0≤a2∧a2 < (a0.length:Int)) (bif ((idx a0 a2).Proc == (idx a0 a1).Proc) then bif ((idx a0 a2).To == (-1)) then gX a2 true else (gX a2 (decide ((idx a0 a2).To ≥ (idx a0 a1).From))) else (gX a2 false)) else (out (some true))
noncomputable def jF (a0:List Txn) (a1:Int) (a2:Bool):Option Bool :=
 bif a2 then some false else (iter (jE a0 a1) 0)
noncomputable def bY (a0:List Txn) (a1:Int) (a2:Bool):Option Bool :=
 bif a2 then some false else (bif decide (a1 > 0) then must (0≤w64 (a1 - 1)∧w64 (a1 - 1) < (a0.length:Int)) (jF a0 a1 (decide ((idx a0 a1).From≤(idx a0 (w64 (a1 - 1))).From))) else (jF a0 a1 false))
noncomputable def aA (a0:List Txn) (a1:Int):Option Bool :=
 must (0≤a1∧a1 < (a0.length:Int)) (bif decide ((idx a0 a1).Status < 1) then bY a0 a1 true else (bif decide ((idx a0 a1).Status > 3) then bY a0 a1 true else (bif decide ((idx a0 a1).From < 0) then bY a0 a1 true else (bif ((idx a0 a1).To != (-1)) then bif decide ((idx a0 a1).To≤(idx a0 a1).From) then bY a0 a1 true else (bif ((idx a0 a1).To == (-1)) then bY a0 a1 ((idx a0 a1).Status != 3) else (bY a0 a1 false)) else (bif ((idx a0 a1).To == (-1)) then bY a0 a1 ((idx a0 a1).Status != 3) else (bY a0 a1 false))))))
noncomputable def iR (a0:Call):Option Bool :=
 some (decide ((a0.Vals.length:Int)≤64))
noncomputable def kz (a0:Call):Int→Option (Int ⊕ Bool)
 | a1=>bif decide (a1 < (a0.Vals.length:Int)) then must (0≤a1∧a1 < (a0.Vals.length:Int)) (must (0≤w64 (a1 - 1)∧w64 (a1 - 1) < (a0.Vals.length:Int)) (bif decide (idx a0.Vals a1≤idx a0.Vals (w64 (a1 - 1))) then out (some false) else (some (.inl (w64 (a1 + 1)))))) else (out (iR a0))
noncomputable def gy (a0:Call) (a1:Bool):Option Bool :=
 bif a1 then some false else (bif (a0.Kind == 5) then some (decide ((a0.Vals.length:Int)≤1)) else (bif (a0.Kind == 8) then bif !a0.Got then some true else (some ((a0.Vals.length:Int) == 1)) else (bif (a0.Kind == 7) then iter (kz a0) 1 else (iR a0))))
noncomputable def gz (a0:Call) (a1:Int) (a2:Bool):Option Bool :=
 bif a2 then some false else (bif decide (a0.Kind≤4) then bif !a0.Got then bif ((a0.Vals.length:Int) == 0) then bif (a0.Kind != 4) then some true else (bif decide (a0.Arg ≥ (-1048576)) then some (decide (a0.Arg≤1048576)) else (some false)) else (some false) else (some false) else (bif (a0.Arg != 0) then gy a0 true else (bif (a0.Got != (a1 == 1)) then gy a0 true else (bif !a0.Got then gy a0 (decide ((a0.Vals.length:Int) > 0)) else (gy a0 false)))))
noncomputable def aO (a0:Call) (a1:Int):Option Bool :=
 bif decide (a0.Kind < 1) then gz a0 a1 true else (bif decide (a0.Kind > 8) then gz a0 a1 true else (bif decide ((a0.Key.size:Int) < 1) then gz a0 a1 true else (gz a0 a1 (decide ((a0.Key.size:Int) > 32)))))
noncomputable def jS (a0:Event):Int→Option (Int ⊕ Bool)
 | a1=>bif decide (a1 < (a0.Calls.length:Int)) then must (0≤a1∧a1 < (a0.Calls.length:Int)) ((aO (idx a0.Calls a1) a0.Kind).bind fun a2=>bif !a2 then out (some false) else (some (.inl (w64 (a1 + 1))))) else (out (some true))
noncomputable def iE (a0:Event) (b9:Bool):Option Bool :=
 bif b9 then some false else (iter (jS a0) 0)
noncomputable def bL (a0:Event):Option Bool :=
 bif decide (a0.Kind < 0) then iE a0 true else (bif decide (a0.Kind > 3) then iE a0 true else (iE a0 (decide ((a0.Calls.length:Int) > 16))))
noncomputable def mU (a0:List Event):Int→Option (Int ⊕ Int)
 | a1=>bif decide (a1 < (a0.length:Int)) then must (0≤a1∧a1 < (a0.length:Int)) ((bL (idx a0 a1)).bind fun a2=>bif !a2 then out (some 1) else (some (.inl (w64 (a1 + 1))))) else (out (some 0))
noncomputable def fV (a0:List Event):Option Int :=
 bif decide ((a0.length:Int) > 256) then some 1 else (iter (mU a0) 0)
noncomputable def iU (a0:Int):Option Int :=
 some (w64 (((w64 (a0 - 1)).tmod (4:Int)) + 1))
noncomputable def fw (a4:List ByteArray) (a2:List Int) (a3:List (List Int)) (a0:List Int) (a1:List Int):Option (Int×av) :=
 some (0,(⟨a4,a2,a3,a0,a1⟩:av))
noncomputable def fA (a2:Int) (a6:List ByteArray) (a4:List Int) (a1:List Int) (a3:List Int) (a0:Int) (a5:List (List Int)) (a7:Bool):Option (Int×av) :=
 bif a7 then must (0≤a0∧a0 < (a3.length:Int)) (must (0≤a0∧a0 < (a1.length:Int)) (bif decide (idx (a1.set a0.toNat (w64 ((idx a1 a0) + 1))) a0 > 8) then some (51,(⟨a6,a4,a5,a1.set a0.toNat (w64 ((idx a1 a0) + 1)),a3.set a0.toNat a2⟩:av)) else (fw a6 a4 a5 (a1.set a0.toNat (w64 ((idx a1 a0) + 1))) (a3.set a0.toNat a2)))) else (fw a6 a4 a5 a1 a3)
noncomputable def dW (a1:Call) (a2:Int) (a7:List ByteArray) (a5:List Int) (a4:List Int) (a3:List Int) (a0:Int) (a6:List (List Int)):Option (Int×av) :=
 bif (a1.Kind == 4) then must (0≤a0∧a0 < (a3.length:Int)) (fA a2 a7 a5 a4 a3 a0 a6 (idx a3 a0 != a2)) else (fA a2 a7 a5 a4 a3 a0 a6 false)
noncomputable def ib (a1:Call) (a2:Int) (a8:List ByteArray) (a6:List Int) (a3:List (List Int)) (a5:List Int) (a7:List Int) (a0:Int):Int→Option (Int ⊕ (Int×av))
 | a4=>must (0≤a0∧a0 < (a3.length:Int)) (bif decide (a4 < ((idx a3 a0).length:Int)) then must (0≤a4∧a4 < ((idx a3 a0).length:Int)) (bif (idx (idx a3 a0) a4 == a1.Arg) then out (some (3,(⟨a8,a6,a3,a5,a7⟩:av))) else (some (.inl (w64 (a4 + 1))))) else (must (((((idx a3 a0).length) + 1) + (((idx a3 a0).length) + 1) / 4 + 192) * 8≤281474976710656∧((idx a3 a0).length) + 1≤9223372036854775807) (out (dW a1 a2 a8 a6 a5 a7 a0 (a3.set a0.toNat ((idx a3 a0)++([a1.Arg]:List Int)))))))
noncomputable def ig (a1:Call) (a2:Int) (a7:List ByteArray) (a3:List Int) (a6:List (List Int)) (a0:List Int) (a5:List Int) (a4:Int) (a8:Bool):Option (Int×av) :=
 bif a8 then iter (ib a1 a2 a7 a3 a6 a0 a5 a4) 0 else (dW a1 a2 a7 a3 a0 a5 a4 a6)
noncomputable def dE (a1:Call) (a2:Int) (a7:List ByteArray) (a0:List Int) (a6:List (List Int)) (a4:List Int) (a5:List Int) (a3:Int):Option (Int×av) :=
 must (0≤a3∧a3 < (a0.length:Int)) ((iU a1.Kind).bind fun a8=>bif (idx a0 a3 != a8) then some (50,(⟨a7,a0,a6,a4,a5⟩:av)) else (bif (a1.Kind == 2) then ig a1 a2 a7 a0 a6 a4 a5 a3 true else (ig a1 a2 a7 a0 a6 a4 a5 a3 (a1.Kind == 3))))
noncomputable def ik (a0:av) (a1:Call) (a2:Int) (a3:List Int):Option (Int×av) :=
 must (((a0.wrote.length + 1) + (a0.wrote.length + 1) / 4 + 192) * 24≤281474976710656∧a0.wrote.length + 1≤9223372036854775807) (must (((a0.incs.length + 1) + (a0.incs.length + 1) / 4 + 192) * 8≤281474976710656∧a0.incs.length + 1≤9223372036854775807) (must (((a0.last_.length + 1) + (a0.last_.length + 1) / 4 + 192) * 8≤281474976710656∧a0.last_.length + 1≤9223372036854775807) (dE a1 a2 (a0.keys++([a1.Key]:List ByteArray)) a3 (a0.wrote++([([]:List Int)]:List (List Int))) (a0.incs++([0]:List Int)) (a0.last_++([(-1)]:List Int)) (a0.keys.length:Int))))
noncomputable def iq (a0:av) (a1:Call) (a2:Int):Option (Int×av) :=
 (iU a1.Kind).bind fun a3=>must (((a0.types.length + 1) + (a0.types.length + 1) / 4 + 192) * 8≤281474976710656∧a0.types.length + 1≤9223372036854775807) (ik a0 a1 a2 (a0.types++([a3]:List Int)))
noncomputable def af (a0:av) (a1:Call) (a2:Int):Option (Int×av) :=
 (eF a0.keys a1.Key).bind fun y5=>bif decide (y5 < 0) then bif decide ((a0.keys.length:Int) ≥ 32) then some (2,a0) else (must (((a0.keys.length + 1) + (a0.keys.length + 1) / 4 + 192) * 16≤281474976710656∧a0.keys.length + 1≤9223372036854775807) (iq a0 a1 a2)) else (dE a1 a2 a0.keys a0.types a0.wrote a0.incs a0.last_ y5)
noncomputable def mV (a0:History) (a2:Int) (a3:List Call) (a1:Int):Option ((List Call×Int) ⊕ ((List ByteArray×List Int×(List (List Int))×List Int×List Int×Int) ⊕ Int)) :=
 some (.inl (a3++([(⟨(idx ((idx a0.Txns a2).Ops) a1).Kind,idx a0.Keys ((idx ((idx a0.Txns a2).Ops) a1).Key),(idx ((idx a0.Txns a2).Ops) a1).Arg,(idx ((idx a0.Txns a2).Ops) a1).Got,(idx ((idx a0.Txns a2).Ops) a1).Vals⟩:Call)]:List Call),w64 (a1 + 1)))
noncomputable def jT (a0:History) (a2:Int) (a1:List Call) (a3:Int) (a4:Bool):Option ((List Call×Int) ⊕ ((List ByteArray×List Int×(List (List Int))×List Int×List Int×Int) ⊕ Int)) :=
 bif a4 then out (out (some 1)) else (must (0≤(idx ((idx a0.Txns a2).Ops) a3).Key∧(idx ((idx a0.Txns a2).Ops) a3).Key < (a0.Keys.length:Int)) (must (((a1.length + 1) + (a1.length + 1) / 4 + 192) * 64≤281474976710656∧a1.length + 1≤9223372036854775807) (mV a0 a2 a1 a3)))
noncomputable def eG (a7:Int) (a2:List Call):(List ByteArray×List Int×(List (List Int))×List Int×List Int×Int)→Option ((List ByteArray×List Int×(List (List Int))×List Int×List Int×Int) ⊕ ((List Call×Int) ⊕ ((List ByteArray×List Int×(List (List Int))×List Int×List Int×Int) ⊕ Int)))
 | (a3,a8,a4,a5,a6,a1)=>bif decide (a1 < (a2.length:Int)) then must (0≤a1∧a1 < (a2.length:Int)) ((af (⟨a3,a8,a4,a5,a6⟩:av) (idx a2 a1) a7).bind fun a0=>bif (a0.1 != 0) then out (out (out (some 1))) else (some (.inl (a0.2.keys,a0.2.types,a0.2.wrote,a0.2.incs,a0.2.last_,w64 (a1 + 1))))) else (out (out (some (.inl (a3,a8,a4,a5,a6,w64 (a7 + 1))))))
noncomputable def eH (a0:History) (a9:List ByteArray) (a7:List Int) (a6:List (List Int)) (a8:List Int) (a5:List Int) (a1:Int):(List Call×Int)→Option ((List Call×Int) ⊕ ((List ByteArray×List Int×(List (List Int))×List Int×List Int×Int) ⊕ Int))
 | (a3,a2)=>bif decide (a2 < (((idx a0.Txns a1).Ops).length:Int)) then must (0≤a2∧a2 < (((idx a0.Txns a1).Ops).length:Int)) (bif decide ((idx ((idx a0.Txns a1).Ops) a2).Key < 0) then jT a0 a1 a3 a2 true else (jT a0 a1 a3 a2 (decide ((idx ((idx a0.Txns a1).Ops) a2).Key ≥ (a0.Keys.length:Int))))) else ((fV ([(⟨0,(idx a0.Txns a1).Status,a3⟩:Event)]:List Event)).bind fun a4=>bif (a4 != 0) then out (out (some 1)) else (iter (eG a1 a3) (a9,a7,a6,a8,a5,0)))
noncomputable def iF (a0:History) (a7:List ByteArray) (a4:List Int) (a3:List (List Int)) (a6:List Int) (a1:List Int) (a5:Int) (a2:Bool):Option ((List ByteArray×List Int×(List (List Int))×List Int×List Int×Int) ⊕ Int) :=
 bif a2 then out (some 1) else (iter (eH a0 a7 a4 a3 a6 a1 a5) ([],0))
noncomputable def iG (a0:History):(List ByteArray×List Int×(List (List Int))×List Int×List Int×Int)→Option ((List ByteArray×List Int×(List (List Int))×List Int×List Int×Int) ⊕ Int)
 | (a6,a4,a3,a5,a2,a1)=>bif decide (a1 < (a0.Txns.length:Int)) then must (0≤a1∧a1 < (a0.Txns.length:Int)) ((aA a0.Txns a1).bind fun a7=>bif !a7 then iF a0 a6 a4 a3 a5 a2 a1 true else (iF a0 a6 a4 a3 a5 a2 a1 (decide ((((idx a0.Txns a1).Ops).length:Int) > 16)))) else (out (some 0))
noncomputable def fP (a0:History) (a1:Bool):Option Int :=
 bif a1 then some 1 else (iter (iG a0) ([],[],[],[],[],0))
noncomputable def ah (a0:History):Option Int :=
 (df a0.Keys).bind fun a1=>bif !a1 then fP a0 true else (fP a0 (decide ((a0.Txns.length:Int) > 32)))
noncomputable def gY (a1:List Int) (a2:List Int) (a0:Int) (a3:Bool):Option ((List Int×Int) ⊕ (List Int×Bool)) :=
 bif a3 then out (some (([]:List Int),false)) else (must (0≤idx a1 a0∧idx a1 a0 < (a2.length:Int)) (some (.inl (a2.set (idx a1 a0).toNat (w64 (a0 + 1)),w64 (a0 + 1)))))
noncomputable def lS (a0:Int) (a1:Bool):Option (Int ⊕ ((List Int×Int) ⊕ (List Int×Bool))) :=
 bif a1 then out (out (some (([]:List Int),false))) else (some (.inl (w64 (a0 + 1))))
noncomputable def qZ (a0:History) (a2:List Int):Int→Option (Int ⊕ ((List Int×Int) ⊕ (List Int×Bool)))
 | a1=>bif decide (a1 < (a0.Txns.length:Int)) then must (0≤a1∧a1 < (a0.Txns.length:Int)) (bif ((idx a0.Txns a1).Status == 1) then must (0≤a1∧a1 < (a2.length:Int)) (lS a1 (idx a2 a1 == 0)) else (lS a1 false)) else (out (out (some (a2,true))))
noncomputable def rf (a0:History) (a1:List Int):(List Int×Int)→Option ((List Int×Int) ⊕ (List Int×Bool))
 | (a3,a2)=>bif decide (a2 < (a1.length:Int)) then must (0≤a2∧a2 < (a1.length:Int)) (bif decide (idx a1 a2 < 0) then gY a1 a3 a2 true else (bif decide (idx a1 a2 ≥ (a0.Txns.length:Int)) then gY a1 a3 a2 true else (must (0≤idx a1 a2∧idx a1 a2 < (a3.length:Int)) (bif (idx a3 (idx a1 a2) != 0) then gY a1 a3 a2 true else (must (0≤idx a1 a2∧idx a1 a2 < (a0.Txns.length:Int)) (gY a1 a3 a2 ((idx a0.Txns (idx a1 a2)).Status == 2))))))) else (iter (qZ a0 a3) 0)
noncomputable def bG (a0:History) (a1:List Int):Option (List Int×Bool) :=
 must (0≤(a0.Txns.length:Int)∧(a0.Txns.length:Int)≤9223372036854775807∧(8:Int) * (a0.Txns.length:Int)≤281474976710656) (iter (rf a0 a1) (List.replicate (a0.Txns.length:Int).toNat (default:Int),0))
noncomputable def kQ (a0:Int):Option Bool :=
 some (decide (a0≤4))
noncomputable def mW (a1:Int) (a0:List Int):Option ((List Int×Int) ⊕ (List Int)) :=
 some (.inl (a0,w64 (a1 + 1)))
noncomputable def mX (a0:History) (a1:Int) (a2:List Int) (a3:Int) (a4:Bool):Option ((List Int×Int) ⊕ (List Int)) :=
 bif a4 then must (((a2.length + 1) + (a2.length + 1) / 4 + 192) * 8≤281474976710656∧a2.length + 1≤9223372036854775807) (mW a3 (a2++([(idx ((idx a0.Txns a1).Ops) a3).Arg]:List Int))) else (mW a3 a2)
noncomputable def rW (a0:History) (a1:Int) (a2:Int):(List Int×Int)→Option ((List Int×Int) ⊕ (List Int))
 | (a4,a3)=>must (0≤a1∧a1 < (a0.Txns.length:Int)) (bif decide (a3 < (((idx a0.Txns a1).Ops).length:Int)) then must (0≤a3∧a3 < (((idx a0.Txns a1).Ops).length:Int)) (bif ((idx ((idx a0.Txns a1).Ops) a3).Key == a2) then (kQ ((idx ((idx a0.Txns a1).Ops) a3).Kind)).bind fun a5=>mX a0 a1 a4 a3 a5 else (mX a0 a1 a4 a3 false)) else (out (some a4)))
noncomputable def bv (a0:History) (a1:Int) (a2:Int):Option (List Int) :=
 iter (rW a0 a1 a2) ([],0)
noncomputable def rq (a1:List Int) (a0:Int):Option ((List Int×Int) ⊕ ((List Int×Int) ⊕ (List Int))) :=
 some (.inl ((a1.set a0.toNat (idx a1 (w64 (a0 - 1)))).set (w64 (a0 - 1)).toNat (idx a1 a0),w64 (a0 - 1)))
noncomputable def lT (a2:Int) (a1:List Int) (a0:Int) (a3:Bool):Option ((List Int×Int) ⊕ ((List Int×Int) ⊕ (List Int))) :=
 bif a3 then must (0≤w64 (a0 - 1)∧w64 (a0 - 1) < (a1.length:Int)) (must (0≤a0∧a0 < (a1.length:Int)) (rq a1 a0)) else (out (some (.inl (a1,w64 (a2 + 1)))))
noncomputable def ru (a2:Int):(List Int×Int)→Option ((List Int×Int) ⊕ ((List Int×Int) ⊕ (List Int)))
 | (a1,a0)=>bif decide (a0 > 0) then must (0≤a0∧a0 < (a1.length:Int)) (must (0≤w64 (a0 - 1)∧w64 (a0 - 1) < (a1.length:Int)) (lT a2 a1 a0 (decide (idx a1 a0 < idx a1 (w64 (a0 - 1)))))) else (lT a2 a1 a0 false)
noncomputable def ry (a0:List Int):(List Int×Int)→Option ((List Int×Int) ⊕ (List Int))
 | (a1,a2)=>bif decide (a2 < (a0.length:Int)) then must (0≤a2∧a2 < (a0.length:Int)) (must (((a1.length + 1) + (a1.length + 1) / 4 + 192) * 8≤281474976710656∧a1.length + 1≤9223372036854775807) (iter (ru a2) (a1++([idx a0 a2]:List Int),w64 (((a1++([idx a0 a2]:List Int)).length:Int) - 1)))) else (out (some a1))
noncomputable def di (a0:List Int):Option (List Int) :=
 iter (ry a0) ([],0)
noncomputable def fF (a0:List Int):Option (List Int) :=
 some a0
noncomputable def rz (a1:List Int):(Int×Int)→Option ((Int×Int) ⊕ (List Int))
 | (a2,a0)=>bif decide (a0 < (a1.length:Int)) then must (0≤a0∧a0 < (a1.length:Int)) (some (.inl (w64 (a2 + (idx a1 a0)),w64 (a0 + 1)))) else (out (fF ([a2]:List Int)))
noncomputable def lU (a2:Int) (a0:List Int):Option (List Int) :=
 bif (a2 == 1) then bif decide ((a0.length:Int) > 0) then must (0≤(w64 ((a0.length:Int) - 1))∧(w64 ((a0.length:Int) - 1))≤(a0.length:Int)∧(a0.length:Int)≤(a0.length:Int)) (fF (dh a0 (w64 ((a0.length:Int) - 1)) (a0.length:Int))) else (fF a0) else (bif (a2 == 3) then (di a0).bind fun a1=>fF a1 else (bif (a2 == 4) then iter (rz a0) (0,0) else (fF a0)))
noncomputable def lV (a0:History) (a1:List Int) (a2:Int) (a3:Int) (a4:Int) (a5:List Int) (a6:Int) (a8:Bool):Option ((List Int×Int) ⊕ (List Int)) :=
 bif a8 then must (0≤a6∧a6 < (a1.length:Int)) ((bv a0 (idx a1 a6) a3).bind fun a7=>must (((a5.length + a7.length) + (a5.length + a7.length) / 4 + 192) * 8≤281474976710656∧a5.length + a7.length≤9223372036854775807) (bif (idx a1 a6 == a4) then out (lU a2 (a5++a7)) else (some (.inl (a5++a7,w64 (a6 + 1)))))) else (out (lU a2 a5))
noncomputable def rA (a0:History) (a1:List Int) (a2:Int) (a3:Int) (a4:Int):(List Int×Int)→Option ((List Int×Int) ⊕ (List Int))
 | (a6,a5)=>bif decide (a5 < (a1.length:Int)) then lV a0 a1 a2 a3 a4 a6 a5 (decide (a4 ≥ 0)) else (lV a0 a1 a2 a3 a4 a6 a5 false)
noncomputable def aX (a0:History) (a1:List Int) (a2:Int) (a3:Int) (a4:Int):Option (List Int) :=
 iter (rA a0 a1 a2 a3 a4) ([],0)
noncomputable def tX (a0:History) (a1:Int) (a2:Int):Int→Option (Int ⊕ (Int ⊕ Int))
 | a3=>must (0≤a2∧a2 < (a0.Txns.length:Int)) (bif decide (a3 < (((idx a0.Txns a2).Ops).length:Int)) then must (0≤a3∧a3 < (((idx a0.Txns a2).Ops).length:Int)) (bif ((idx ((idx a0.Txns a2).Ops) a3).Key == a1) then (iU ((idx ((idx a0.Txns a2).Ops) a3).Kind)).bind fun a4=>out (out (some a4)) else (some (.inl (w64 (a3 + 1))))) else (out (some (.inl (w64 (a2 + 1))))))
noncomputable def tY (a0:History) (a1:Int):Int→Option (Int ⊕ Int)
 | a2=>bif decide (a2 < (a0.Txns.length:Int)) then iter (tX a0 a1 a2) 0 else (out (some 0))
noncomputable def iV (a0:History) (a1:Int):Option Int :=
 (ah a0).bind fun y8=>bif (y8 != 0) then some 0 else (iter (tY a0 a1) 0)
noncomputable def eY (a0:History) (a1:List Int) (a2:Int) (a3:Int) (a4:Bool):Option (List Int×Bool) :=
 bif a4 then some (([]:List Int),false) else ((iV a0 a2).bind fun a6=>(aX a0 a1 a6 a2 a3).bind fun a5=>some (a5,true))
noncomputable def jf (a0:History) (a1:List Int) (a2:Int) (a3:Int) (a5:Bool):Option (List Int×Bool) :=
 bif a5 then some (([]:List Int),false) else ((bG a0 a1).bind fun a4=>bif !a4.2 then eY a0 a1 a2 a3 true else (bif decide (a3 < (-1)) then eY a0 a1 a2 a3 true else (bif decide (a3 ≥ (a4.1.length:Int)) then eY a0 a1 a2 a3 true else (bif decide (a3 ≥ 0) then must (0≤a3∧a3 < (a4.1.length:Int)) (eY a0 a1 a2 a3 (idx a4.1 a3 == 0)) else (eY a0 a1 a2 a3 false)))))
noncomputable def cB (a0:History) (a1:List Int) (a2:Int) (a3:Int):Option (List Int×Bool) :=
 (ah a0).bind fun a4=>bif (a4 != 0) then jf a0 a1 a2 a3 true else (bif decide (a2 < 0) then jf a0 a1 a2 a3 true else (jf a0 a1 a2 a3 (decide (a2 ≥ (a0.Keys.length:Int)))))
noncomputable def fQ (a0:Int) (a1:Bool):Option (Int ⊕ (Int ⊕ Bool)) :=
 bif a1 then out (out (some false)) else (some (.inl (w64 (a0 + 1))))
noncomputable def rX (a0:History) (a1:List Int) (a3:Int):Int→Option (Int ⊕ (Int ⊕ Bool))
 | a2=>bif decide (a2 < (a1.length:Int)) then must (0≤a3∧a3 < (a1.length:Int)) (bif (idx a1 a3 != 0) then must (0≤a2∧a2 < (a1.length:Int)) (bif (idx a1 a2 != 0) then must (0≤a3∧a3 < (a0.Txns.length:Int)) (bif ((idx a0.Txns a3).Status == 1) then must (0≤a2∧a2 < (a0.Txns.length:Int)) (bif decide ((idx a0.Txns a3).To < (idx a0.Txns a2).From) then fQ a2 (decide (idx a1 a3 ≥ idx a1 a2)) else (fQ a2 false)) else (fQ a2 false)) else (fQ a2 false)) else (fQ a2 false)) else (out (some (.inl (w64 (a3 + 1)))))
noncomputable def rY (a0:History) (a1:List Int):Int→Option (Int ⊕ Bool)
 | a2=>bif decide (a2 < (a1.length:Int)) then iter (rX a0 a1 a2) 0 else (out (some true))
noncomputable def dC (a0:History) (a1:List Int):Option Bool :=
 iter (rY a0 a1) 0
noncomputable def qb (a0:Int) (a1:List Int):Option ((List Int×Int) ⊕ (List Int)) :=
 some (.inl (a1,w64 (a0 + 1)))
noncomputable def qc (a0:List Int) (a1:Int) (a2:Bool):Option ((List Int×Int) ⊕ (List Int)) :=
 bif a2 then must (((a0.length + 1) + (a0.length + 1) / 4 + 192) * 8≤281474976710656∧a0.length + 1≤9223372036854775807) (qb a1 (a0++([a1]:List Int))) else (qb a1 a0)
noncomputable def vY (a0:History) (a1:Int):(List Int×Int)→Option ((List Int×Int) ⊕ (List Int))
 | (a3,a2)=>bif decide (a2 < (a0.Txns.length:Int)) then must (0≤a2∧a2 < (a0.Txns.length:Int)) (bif ((idx a0.Txns a2).Status != 2) then (cz (idx a0.Txns a2) a1).bind fun a4=>qc a3 a2 (decide ((a4.length:Int) > 0)) else (qc a3 a2 false)) else (out (some a3))
noncomputable def fK (a0:History) (a1:Int):Option (List Int) :=
 (az a0).bind fun y8=>bif (y8 != 0) then some ([]:List Int) else (iter (vY a0 a1) ([],0))
noncomputable def qd (a1:Int) (a0:List aW):Option ((List aW×Int) ⊕ (List aW)) :=
 some (.inl (a0,w64 (a1 + 1)))
noncomputable def qf (a4:List Int) (a0:List aW) (a1:Int) (a2:List Int×Bool) (a3:Bool):Option ((List aW×Int) ⊕ (List aW)) :=
 bif a3 then must (((a0.length + 1) + (a0.length + 1) / 4 + 192) * 32≤281474976710656∧a0.length + 1≤9223372036854775807) (qd a1 (a0++([(⟨idx a4 a1,a2.1⟩:aW)]:List aW))) else (qd a1 a0)
noncomputable def vZ (a0:History) (a1:Ask) (a3:List Int):(List aW×Int)→Option ((List aW×Int) ⊕ (List aW))
 | (a4,a2)=>bif decide (a2 < (a3.length:Int)) then must (0≤a2∧a2 < (a3.length:Int)) ((fu a0 (idx a3 a2) a1.Key).bind fun a5=>bif a5.2 then qf a3 a4 a2 a5 (idx a3 a2 != a1.Txn) else (qf a3 a4 a2 a5 false)) else (out (some a4))
noncomputable def dS (a0:History) (a1:Ask):Option (List aW) :=
 (fK a0 a1.Key).bind fun a2=>iter (vZ a0 a1 a2) ([],0)
noncomputable def yD (a0:aW) (a1:List Int):Option Bool :=
 must (0≤(0:Int)∧(0:Int) < (a0.args.length:Int)) (must (0≤(0:Int)∧(0:Int) < (a1.length:Int)) (some (idx a0.args (0:Int) == idx a1 (0:Int))))
noncomputable def tZ (a0:List Int) (a1:Int):Int→Option (Int ⊕ Int)
 | a2=>bif decide (a2 < (a0.length:Int)) then must (0≤a2∧a2 < (a0.length:Int)) (bif (a1 == idx a0 a2) then out (some a2) else (some (.inl (w64 (a2 + 1))))) else (out (some (-1)))
noncomputable def slices_Index_int (a0:List Int) (a1:Int):Option Int :=
 iter (tZ a0 a1) 0
noncomputable def slices_Contains_int (a0:List Int) (a1:Int):Option Bool :=
 (slices_Index_int a0 a1).bind fun y3=>some (decide (y3 ≥ 0))
noncomputable def jM (a0:List aW) (a1c0:List Int):Int→Option (Int ⊕ Int)
 | a1=>bif decide (a1 < (a0.length:Int)) then must (0≤a1∧a1 < (a0.length:Int)) ((yD (idx a0 a1) a1c0).bind fun a2=>bif a2 then out (some a1) else (some (.inl (w64 (a1 + 1))))) else (out (some (-1)))
noncomputable def dX (a0:List aW) (a1c0:List Int):Option Int :=
 iter (jM a0 a1c0) 0
noncomputable def lv (a1:List aW) (a2:List Int) (a3:List Int) (a0:Int) (a4:Bool):Option ((List Int×List Int) ⊕ (List Int×Bool)) :=
 bif a4 then out (some (([]:List Int),false)) else (must (0≤a0∧a0 < (a1.length:Int)) (must (((a3.length + 1) + (a3.length + 1) / 4 + 192) * 8≤281474976710656∧a3.length + 1≤9223372036854775807) (must (0≤(((idx a1 a0).args).length:Int)∧(((idx a1 a0).args).length:Int)≤(a2.length:Int)∧(a2.length:Int)≤(a2.length:Int)) (some (.inl (dh a2 (((idx a1 a0).args).length:Int) (a2.length:Int),a3++([(idx a1 a0).txn]:List Int)))))))
noncomputable def xI (a1:List aW):(List Int×List Int)→Option ((List Int×List Int) ⊕ (List Int×Bool))
 | (a2,a3)=>bif decide ((a2.length:Int) > 0) then (dX a1 a2).bind fun a0=>bif decide (a0 < 0) then lv a1 a2 a3 a0 true else (must (0≤a0∧a0 < (a1.length:Int)) (bif decide ((((idx a1 a0).args).length:Int) > (a2.length:Int)) then lv a1 a2 a3 a0 true else (must (0≤(0:Int)∧(0:Int)≤(((idx a1 a0).args).length:Int)∧(((idx a1 a0).args).length:Int)≤(a2.length:Int)) ((bS ((idx a1 a0).args) (dh a2 (0:Int) (((idx a1 a0).args).length:Int))).bind fun a4=>bif !a4 then lv a1 a2 a3 a0 true else ((slices_Contains_int a3 ((idx a1 a0).txn)).bind fun a5=>lv a1 a2 a3 a0 a5))))) else (out (some (a3,true)))
noncomputable def jb (a0:List Int) (a1:List aW):Option (List Int×Bool) :=
 iter (xI a1) (a0,[])
noncomputable def um (a2:Int) (a1:List Int) (a0:List (Int×Unit)):Option ((List Int×(List (Int×Unit))×Int) ⊕ (((List (Int×Unit))×Int) ⊕ (List Int×Bool))) :=
 some (.inl (a1,a0,w64 (a2 + 1)))
noncomputable def uo (a0:Int) (a2:List (Int×Unit)) (a1:Int):Option (((List (Int×Unit))×Int×Int) ⊕ ((List Int×(List (Int×Unit))×Int) ⊕ (((List (Int×Unit))×Int) ⊕ (List Int×Bool)))) :=
 some (.inl (a2,a1,w64 (a0 + 1)))
noncomputable def uq (a1:List aW) (a0:List Int) (a2:Int) (a3:List (Int×Unit)) (a4:Int) (a5:Bool):Option (((List (Int×Unit))×Int×Int) ⊕ ((List Int×(List (Int×Unit))×Int) ⊕ (((List (Int×Unit))×Int) ⊕ (List Int×Bool)))) :=
 bif a5 then out (out (out (some (([]:List Int),false)))) else (bif decide (a4 > 0) then must (((a0.length + 1) + (a0.length + 1) / 4 + 192) * 8≤281474976710656∧a0.length + 1≤9223372036854775807) (out (um a2 (a0++([(idx a1 a2).txn]:List Int)) a3)) else (out (um a2 a0 a3)))
noncomputable def yE (a1:List aW) (a5:List Int) (a2:Int):((List (Int×Unit))×Int×Int)→Option (((List (Int×Unit))×Int×Int) ⊕ ((List Int×(List (Int×Unit))×Int) ⊕ (((List (Int×Unit))×Int) ⊕ (List Int×Bool))))
 | (a4,a3,a0)=>bif decide (a0 < (((idx a1 a2).args).length:Int)) then must (0≤a0∧a0 < (((idx a1 a2).args).length:Int)) (bif ja a4 (idx ((idx a1 a2).args) a0) then uo a0 (GL a4 (idx ((idx a1 a2).args) a0)) (w64 (a3 + 1)) else (uo a0 a4 a3)) else (bif decide (a3 > 0) then uq a1 a5 a2 a4 a3 (decide (a3 < (((idx a1 a2).args).length:Int))) else (uq a1 a5 a2 a4 a3 false))
noncomputable def yF (a1:List aW):(List Int×(List (Int×Unit))×Int)→Option ((List Int×(List (Int×Unit))×Int) ⊕ (((List (Int×Unit))×Int) ⊕ (List Int×Bool)))
 | (a3,a2,a0)=>bif decide (a0 < (a1.length:Int)) then must (0≤a0∧a0 < (a1.length:Int)) (iter (yE a1 a3 a0) (a2,0,0)) else (bif decide ((a2.length:Int) > 0) then out (out (some (([]:List Int),false))) else (out (out (some (a3,true)))))
noncomputable def yG (a0:List Int) (a1:List aW):((List (Int×Unit))×Int)→Option (((List (Int×Unit))×Int) ⊕ (List Int×Bool))
 | (a3,a2)=>bif decide (a2 < (a0.length:Int)) then must (0≤a2∧a2 < (a0.length:Int)) (some (.inl (fH a3 (idx a0 a2) (),w64 (a2 + 1)))) else (iter (yF a1) ([],a3,0))
noncomputable def dY (a0:List Int) (a1:List aW):Option (List Int×Bool) :=
 iter (yG a0 a1) ([],0)
noncomputable def uT (a0:History) (a1:Ask):Option (List Int×Bool) :=
 (dK a0 a1.Key).bind fun a3=>bif (a3 == 2) then (dS a0 a1).bind fun a5=>(jb a1.Base a5).bind fun a4=>some (a4.1,a4.2) else (bif (a3 == 3) then (dS a0 a1).bind fun a6=>(dY a1.Base a6).bind fun a2=>some (a2.1,a2.2) else (some (([]:List Int),false)))
noncomputable def uf (a0:Int) (a2:Int) (a3:List aW) (a4:Int) (rec:Int→Int→Int→(List aW)→Int→Int→Option Int) (a7:Int):(Int×Int)→Option ((Int×Int) ⊕ Int)
 | (a5,a1)=>bif decide (a1 < (((idx a3 a0).args).length:Int)) then must (0≤a1∧a1 < (((idx a3 a0).args).length:Int)) (some (.inl (w64 (a5 + (idx ((idx a3 a0).args) a1)),w64 (a1 + 1)))) else (must (0≤a0∧a0 < (far:Int)) ((rec (w64 (a0 + 1)) a5 (bOr .u64 a2 (GH .u64 1 a0)) a3 a4 a7).bind fun a6=>out (some a6)))
noncomputable def rC (rec:Int→Int→Int→(List aW)→Int→Int→Option Int) (a0:Int) (a1:Int) (a2:Int) (a3:List aW) (a4:Int) (a5:Int):Option Int :=
 bif (a0 == (a3.length:Int)) then bif (a1 == a4) then some (bOr .u64 a5 a2) else (some a5) else ((rec (w64 (a0 + 1)) a1 a2 a3 a4 a5).bind fun a6=>must (0≤a0∧a0 < (a3.length:Int)) (iter (uf a0 a2 a3 a4 rec a6) (a1,0)))
noncomputable def lW:Nat→Int→Int→Int→(List aW)→Int→Int→Option Int
 | 0=>fun _ _ _ _ _ _=>none
 | k + 1=>rC (lW k)
noncomputable def eO (a0:Int) (a1:Int) (a2:Int) (a3:List aW) (a4:Int) (a5:Int):Option Int:=lW 64 a0 a1 a2 a3 a4 a5
noncomputable def oW (a0:Int) (a1:List Int):Option ((List Int×Int) ⊕ (List Int)) :=
 some (.inl (a1,w64 (a0 + 1)))
noncomputable def uU (a1:List aW) (a3:Int):(List Int×Int)→Option ((List Int×Int) ⊕ (List Int))
 | (a2,a0)=>bif decide (a0 < (a1.length:Int)) then must (0≤a0∧a0 < (a1.length:Int)) (must (0≤a0∧a0 < (far:Int)) (bif (yK .u64 (ul .u64 a3 a0) 1 == 1) then must (((a2.length + 1) + (a2.length + 1) / 4 + 192) * 8≤281474976710656∧a2.length + 1≤9223372036854775807) (oW a0 (a2++([(idx a1 a0).txn]:List Int))) else (oW a0 a2))) else (out (some a2))
noncomputable def iW (a0:Int) (a1:List aW):Option (List Int) :=
 (eO 0 0 0 a1 a0 0).bind fun a2=>iter (uU a1 a2) ([],0)
noncomputable def fZ (a0:List Int):Option (List Int) :=
 some a0
noncomputable def oZ (a0:History) (a1:Ask) (a2:List Int):Option (List Int) :=
 must (0≤(0:Int)∧(0:Int) < (a1.Base.length:Int)) ((dS a0 a1).bind fun a4=>(iW (idx a1.Base (0:Int)) a4).bind fun a3=>must (((a2.length + a3.length) + (a2.length + a3.length) / 4 + 192) * 8≤281474976710656∧a2.length + a3.length≤9223372036854775807) (fZ (a2++a3)))
noncomputable def pg (a1:Int) (a0:List Int):Option ((List Int×Int) ⊕ (List Int)) :=
 some (.inl (a0,w64 (a1 + 1)))
noncomputable def uV (a1:Ask) (a2:List aW):(List Int×Int)→Option ((List Int×Int) ⊕ (List Int))
 | (a3,a0)=>bif decide (a0 < (a2.length:Int)) then must (0≤a0∧a0 < (a2.length:Int)) (must (0≤w64 ((((idx a2 a0).args).length:Int) - 1)∧w64 ((((idx a2 a0).args).length:Int) - 1) < (((idx a2 a0).args).length:Int)) (must (0≤(0:Int)∧(0:Int) < (a1.Base.length:Int)) (bif (idx ((idx a2 a0).args) (w64 ((((idx a2 a0).args).length:Int) - 1)) == idx a1.Base (0:Int)) then must (((a3.length + 1) + (a3.length + 1) / 4 + 192) * 8≤281474976710656∧a3.length + 1≤9223372036854775807) (pg a0 (a3++([(idx a2 a0).txn]:List Int))) else (pg a0 a3)))) else (out (fZ a3))
noncomputable def bN (a0:History) (a1:Ask):Option (List Int) :=
 (dK a0 a1.Key).bind fun a3=>bif (a3 == 4) then must (0≤(0:Int)∧(0:Int) < (a1.Base.length:Int)) (bif (idx a1.Base (0:Int) == 0) then must (((0 + 1) + (0 + 1) / 4 + 192) * 8≤281474976710656∧0 + 1≤9223372036854775807) (oZ a0 a1 (([]:List Int)++([(-1)]:List Int))) else (oZ a0 a1 [])) else (bif ((a1.Base.length:Int) == 0) then fZ ([(-1)]:List Int) else (bif (a3 == 1) then (dS a0 a1).bind fun a4=>iter (uV a1 a4) ([],0) else (bif (a3 == 2) then (uT a0 a1).bind fun a2=>bif a2.2 then must (0≤(w64 ((a2.1.length:Int) - 1))∧(w64 ((a2.1.length:Int) - 1))≤(a2.1.length:Int)∧(a2.1.length:Int)≤(a2.1.length:Int)) (fZ (dh a2.1 (w64 ((a2.1.length:Int) - 1)) (a2.1.length:Int))) else (fZ []) else ((uT a0 a1).bind fun a5=>fZ a5.1))))
noncomputable def xJ (a0:Ask) (a1:Ask):Option Bool :=
 bif (a1.Txn == a0.Txn) then bif (a1.Place == a0.Place) then bif (a1.Key == a0.Key) then (bS a1.Base a0.Base).bind fun a2=>some a2 else (some false) else (some false) else (some false)
noncomputable def jU (a0:List Ask) (a1c0:Ask):Int→Option (Int ⊕ Int)
 | a1=>bif decide (a1 < (a0.length:Int)) then must (0≤a1∧a1 < (a0.length:Int)) ((xJ (idx a0 a1) a1c0).bind fun a2=>bif a2 then out (some a1) else (some (.inl (w64 (a1 + 1))))) else (out (some (-1)))
noncomputable def dZ (a0:List Ask) (a1c0:Ask):Option Int :=
 iter (jU a0 a1c0) 0
noncomputable def jV (a0:List Ask) (a1c0:Ask):Option Bool :=
 (dZ a0 a1c0).bind fun y3=>some (decide (y3 ≥ 0))
noncomputable def ze (a0:History) (a1:Ask):Option Int :=
 (jQ a0).bind fun y9=>bif (y9.2 != 0) then some y9.2 else ((jV y9.1 a1).bind fun a2=>bif a2 then some 0 else (some 1))
noncomputable def xK (a0:History) (a1:Ask):Option (List Int×Int) :=
 (ze a0 a1).bind fun a2=>bif (a2 != 0) then some (([]:List Int),a2) else ((bN a0 a1).bind fun a3=>some (a3,0))
noncomputable def eZ (a1:Int) (a0:Bool):Option (Int ⊕ Bool) :=
 bif a0 then out (some false) else (some (.inl (w64 (a1 + 1))))
noncomputable def dR (a0:Int) (a1:Bool):Option (Int ⊕ (Int ⊕ Bool)) :=
 bif a1 then out (out (some false)) else (some (.inl (w64 (a0 + 1))))
noncomputable def nV (a0:History) (a1:Exec):Int→Option (Int ⊕ (Int ⊕ Bool))
 | a2=>bif decide (a2 < (a0.Txns.length:Int)) then must (0≤a2∧a2 < (a0.Txns.length:Int)) (bif ((idx a0.Txns a2).Status == 1) then (cO a1.Order a2).bind fun a4=>bif !a4 then dR a2 true else (bif ((idx a0.Txns a2).Status == 2) then (cO a1.Order a2).bind fun a5=>dR a2 a5 else (dR a2 false)) else (bif ((idx a0.Txns a2).Status == 2) then (cO a1.Order a2).bind fun a3=>dR a2 a3 else (dR a2 false))) else (out (out (some true)))
noncomputable def nW (a0:History) (a1:Exec) (a3:List Ask×Int):Int→Option (Int ⊕ Bool)
 | a2=>bif decide (a2 < (a3.1.length:Int)) then must (0≤a2∧a2 < (a3.1.length:Int)) ((xK a0 (idx a3.1 a2)).bind fun a5=>must (0≤a2∧a2 < (a1.Picks.length:Int)) ((fJ a0 a1.Order ((idx a3.1 a2).Key) (idx a1.Picks a2)).bind fun a4=>bif (a5.2 != 0) then eZ a2 true else ((cO a5.1 (idx a1.Picks a2)).bind fun a7=>bif !a7 then eZ a2 true else (bif !a4.2 then eZ a2 true else ((dQ a4.1 ((idx a3.1 a2).Base)).bind fun a6=>eZ a2 (!a6)))))) else (iter (nV a0 a1) 0)
noncomputable def jW (a0:History) (a1:Exec) (a2:List Ask×Int) (a3:Bool):Option Bool :=
 bif a3 then some false else (iter (nW a0 a1 a2) 0)
noncomputable def jX (a0:History) (a1:Exec) (a3:Int×Int) (a4:Bool):Option Bool :=
 bif a4 then bif decide (a3.1 ≥ 0) then some (decide (a3.1≤6)) else (some false) else ((jQ a0).bind fun a2=>bif (a2.2 != 0) then jW a0 a1 a2 true else (jW a0 a1 a2 ((a2.1.length:Int) != (a1.Picks.length:Int))))
noncomputable def aB (a0:History) (a1:Exec):Option Bool :=
 (fU).bind fun a3=>bif !a3 then some false else ((dL a0 a1).bind fun a2=>bif (a2.2 != 0) then jX a0 a1 a2 true else (jX a0 a1 a2 (a2.1 != 0)))
noncomputable def iH (a0:Bool):Option Int :=
 bif !a0 then some 80 else (some 0)
noncomputable def mY (a1:Int) (a0:Bool):Option ((Bool×Int) ⊕ Int) :=
 some (.inl (a0,w64 (a1 + 1)))
noncomputable def rZ (a1:List Int):(Bool×Int)→Option ((Bool×Int) ⊕ Int)
 | (a2,a0)=>bif decide (a0 < (a1.length:Int)) then bif a2 then must (0≤w64 (a0 - 1)∧w64 (a0 - 1) < (a1.length:Int)) (must (0≤a0∧a0 < (a1.length:Int)) (mY a0 (decide (idx a1 (w64 (a0 - 1)) < idx a1 a0)))) else (mY a0 false) else (out (iH a2))
noncomputable def mZ (a0:Int) (a1:List Int) (b5:Bool):Option Int :=
 bif b5 then some 1 else (bif (a0 == 1) then iH (decide ((a1.length:Int)≤1)) else (bif (a0 == 4) then iH ((a1.length:Int) == 1) else (bif (a0 == 3) then iter (rZ a1) (decide ((a1.length:Int)≤64),1) else (iH (decide ((a1.length:Int)≤64))))))
noncomputable def bF (a0:Int) (a1:List Int):Option Int :=
 bif decide (a0 < 1) then mZ a0 a1 true else (mZ a0 a1 (decide (a0 > 4)))
noncomputable def uW (a0:List Int) (a1:Int):Int→Option (Int ⊕ Bool)
 | a2=>bif decide (a2 < (a0.length:Int)) then must (0≤a2∧a2 < (a0.length:Int)) (bif (idx a0 a2 == a1) then out (some true) else (some (.inl (w64 (a2 + 1))))) else (out (some false))
noncomputable def jY (a0:List Int) (a1:Int):Option Bool :=
 iter (uW a0 a1) 0
noncomputable def rD (a2:List Int):(Int×Int)→Option ((Int×Int) ⊕ (List Int×Bool))
 | (a1,a0)=>bif decide (a0 < (a2.length:Int)) then must (0≤a0∧a0 < (a2.length:Int)) (some (.inl (w64 (a1 - (idx a2 a0)),w64 (a0 + 1)))) else (out (some (([a1]:List Int),true)))
noncomputable def rE (a1:List Int) (a2:List Int):Int→Option (Int ⊕ (List Int×Bool))
 | a0=>bif decide (a0 < (a2.length:Int)) then must (0≤w64 ((w64 ((a1.length:Int) - (a2.length:Int))) + a0)∧w64 ((w64 ((a1.length:Int) - (a2.length:Int))) + a0) < (a1.length:Int)) (must (0≤a0∧a0 < (a2.length:Int)) (bif (idx a1 (w64 ((w64 ((a1.length:Int) - (a2.length:Int))) + a0)) != idx a2 a0) then out (some (([]:List Int),false)) else (some (.inl (w64 (a0 + 1)))))) else (must (0≤(0:Int)∧(0:Int)≤(w64 ((a1.length:Int) - (a2.length:Int)))∧(w64 ((a1.length:Int) - (a2.length:Int)))≤(a1.length:Int)) (must (((0 + ((dh a1 (0:Int) (w64 ((a1.length:Int) - (a2.length:Int)))).length)) + (0 + ((dh a1 (0:Int) (w64 ((a1.length:Int) - (a2.length:Int)))).length)) / 4 + 192) * 8≤281474976710656∧0 + ((dh a1 (0:Int) (w64 ((a1.length:Int) - (a2.length:Int)))).length)≤9223372036854775807) (out (some (([]:List Int)++(dh a1 (0:Int) (w64 ((a1.length:Int) - (a2.length:Int)))),true)))))
noncomputable def lX (a0:Int) (a1:Bool):Option (Int ⊕ (List Int×Bool)) :=
 bif a1 then out (some (([]:List Int),false)) else (some (.inl (w64 (a0 + 1))))
noncomputable def lY (a1:Int) (a0:List Int):Option ((List Int×Int) ⊕ (Int ⊕ (List Int×Bool))) :=
 some (.inl (a0,w64 (a1 + 1)))
noncomputable def rF (a1:List Int) (a2:List Int):(List Int×Int)→Option ((List Int×Int) ⊕ (Int ⊕ (List Int×Bool)))
 | (a3,a0)=>bif decide (a0 < (a1.length:Int)) then must (0≤a0∧a0 < (a1.length:Int)) ((jY a2 (idx a1 a0)).bind fun a4=>bif !a4 then must (((a3.length + 1) + (a3.length + 1) / 4 + 192) * 8≤281474976710656∧a3.length + 1≤9223372036854775807) (lY a0 (a3++([idx a1 a0]:List Int))) else (lY a0 a3)) else (out (out (some (a3,true))))
noncomputable def rG (a1:List Int) (a2:List Int):Int→Option (Int ⊕ (List Int×Bool))
 | a0=>bif decide (a0 < (a2.length:Int)) then must (0≤a0∧a0 < (a2.length:Int)) ((jY a1 (idx a2 a0)).bind fun a3=>bif !a3 then lX a0 true else (must (0≤(0:Int)∧(0:Int)≤a0∧a0≤(a2.length:Int)) ((jY (dh a2 (0:Int) a0) (idx a2 a0)).bind fun a4=>lX a0 a4))) else (iter (rF a1 a2) ([],0))
noncomputable def lZ (a0:Int) (a1:List Int) (a2:List Int) (b9:Bool):Option (List Int×Bool) :=
 bif b9 then some (([]:List Int),false) else (bif (a0 == 1) then bif ((a1.length:Int) == 1) then must (0≤(0:Int)∧(0:Int) < (a1.length:Int)) (must (0≤w64 ((a2.length:Int) - 1)∧w64 ((a2.length:Int) - 1) < (a2.length:Int)) (some (([]:List Int),(idx a1 (0:Int) == idx a2 (w64 ((a2.length:Int) - 1)))))) else (some (([]:List Int),false)) else (bif (a0 == 4) then must (0≤(0:Int)∧(0:Int) < (a1.length:Int)) (iter (rD a2) (idx a1 (0:Int),0)) else (bif (a0 == 2) then bif decide ((a2.length:Int) > (a1.length:Int)) then some (([]:List Int),false) else (iter (rE a1 a2) 0) else (iter (rG a1 a2) 0))))
noncomputable def aV (a0:Int) (a1:List Int) (a2:List Int):Option (List Int×Bool) :=
 (bF a0 a1).bind fun a3=>bif (a3 != 0) then lZ a0 a1 a2 true else (lZ a0 a1 a2 ((a2.length:Int) == 0))
noncomputable def jI (a0:Int) (a1:List Ask) (a2:List fq):Option ((List Ask×List fq×Int) ⊕ (List Ask×List fq)) :=
 some (.inl (a1,a2,w64 (a0 + 1)))
noncomputable def pq (a1:Int) (a0:List Int):Option ((List Int×Int) ⊕ ((List Ask×List fq×Int) ⊕ (List Ask×List fq))) :=
 some (.inl (a0,w64 (a1 + 1)))
noncomputable def pu (a0:History) (a1:Int) (a2:List Int) (a3:Int) (a4:Bool):Option ((List Int×Int) ⊕ ((List Ask×List fq×Int) ⊕ (List Ask×List fq))) :=
 bif a4 then must (0≤a3∧a3 < (((idx a0.Txns a1).Ops).length:Int)) (must (((a2.length + 1) + (a2.length + 1) / 4 + 192) * 8≤281474976710656∧a2.length + 1≤9223372036854775807) (pq a3 (a2++([(idx ((idx a0.Txns a1).Ops) a3).Arg]:List Int)))) else (pq a3 a2)
noncomputable def pz (a0:History) (a1:Int) (a2:List Ask) (a4:List fq) (a3:Int) (a5:List Int):Option ((List Int×Int) ⊕ ((List Ask×List fq×Int) ⊕ (List Ask×List fq))) :=
 must (((a2.length + 1) + (a2.length + 1) / 4 + 192) * 48≤281474976710656∧a2.length + 1≤9223372036854775807) (out (jI a3 (a2++([(⟨a1,a3,(idx ((idx a0.Txns a1).Ops) a3).Key,a5⟩:Ask)]:List Ask)) a4))
noncomputable def uX (a0:History) (a1:Int) (a6:List Ask) (a3:List fq) (a2:Int):(List Int×Int)→Option ((List Int×Int) ⊕ ((List Ask×List fq×Int) ⊕ (List Ask×List fq)))
 | (a5,a4)=>bif decide (a4 < a2) then must (0≤a4∧a4 < (((idx a0.Txns a1).Ops).length:Int)) (bif ((idx ((idx a0.Txns a1).Ops) a4).Key == (idx ((idx a0.Txns a1).Ops) a2).Key) then (kQ ((idx ((idx a0.Txns a1).Ops) a4).Kind)).bind fun a9=>pu a0 a1 a5 a4 a9 else (pu a0 a1 a5 a4 false)) else (must (((0 + (((idx ((idx a0.Txns a1).Ops) a2).Vals).length)) + (0 + (((idx ((idx a0.Txns a1).Ops) a2).Vals).length)) / 4 + 192) * 8≤281474976710656∧0 + (((idx ((idx a0.Txns a1).Ops) a2).Vals).length)≤9223372036854775807) (bif decide ((a5.length:Int) > 0) then (iU ((idx ((idx a0.Txns a1).Ops) a2).Kind)).bind fun a8=>(aV a8 ((idx ((idx a0.Txns a1).Ops) a2).Vals) a5).bind fun a7=>bif !a7.2 then must (((a3.length + 1) + (a3.length + 1) / 4 + 192) * 16≤281474976710656∧a3.length + 1≤9223372036854775807) (out (jI a2 a6 (a3++([(⟨a1,a2⟩:fq)]:List fq)))) else (bif ((idx ((idx a0.Txns a1).Ops) a2).Kind == 5) then out (jI a2 a6 a3) else (pz a0 a1 a6 a3 a2 a7.1)) else (pz a0 a1 a6 a3 a2 (([]:List Int)++((idx ((idx a0.Txns a1).Ops) a2).Vals)))))
noncomputable def uY (a0:History) (a1:Int):(List Ask×List fq×Int)→Option ((List Ask×List fq×Int) ⊕ (List Ask×List fq))
 | (a3,a4,a2)=>bif decide (a2 < (((idx a0.Txns a1).Ops).length:Int)) then must (0≤a2∧a2 < (((idx a0.Txns a1).Ops).length:Int)) ((kQ ((idx ((idx a0.Txns a1).Ops) a2).Kind)).bind fun a5=>bif a5 then jI a2 a3 a4 else (iter (uX a0 a1 a3 a4 a2) ([],0))) else (out (some (a3,a4)))
noncomputable def bz (a0:History) (a1:Int):Option (List Ask×List fq) :=
 must (0≤a1∧a1 < (a0.Txns.length:Int)) (bif ((idx a0.Txns a1).Status != 1) then some (([]:List Ask),([]:List fq)) else (iter (uY a0 a1) ([],[],0)))
noncomputable def uw (a0:History):(List Ask×List fq×Int)→Option ((List Ask×List fq×Int) ⊕ (List Ask×List fq))
 | (a3,a2,a4)=>bif decide (a4 < (a0.Txns.length:Int)) then (bz a0 a4).bind fun a1=>must (((a3.length + a1.1.length) + (a3.length + a1.1.length) / 4 + 192) * 48≤281474976710656∧a3.length + a1.1.length≤9223372036854775807) (must (((a2.length + a1.2.length) + (a2.length + a1.2.length) / 4 + 192) * 16≤281474976710656∧a2.length + a1.2.length≤9223372036854775807) (some (.inl (a3++a1.1,a2++a1.2,w64 (a4 + 1))))) else (out (some (a3,a2)))
noncomputable def nC (a0:History):Option (List Ask×List fq) :=
 iter (uw a0) ([],[],0)
noncomputable def wh (a0:History) (a1:Ask):Option Int :=
 must (0≤a1.Txn∧a1.Txn < (a0.Txns.length:Int)) (must (0≤a1.Place∧a1.Place < (((idx a0.Txns a1.Txn).Ops).length:Int)) ((iU ((idx ((idx a0.Txns a1.Txn).Ops) a1.Place).Kind)).bind fun a2=>some a2))
noncomputable def ma (a0:Int) (a1:List Int):Option ((List Int×Int) ⊕ (List Int)) :=
 some (.inl (a1,w64 (a0 + 1)))
noncomputable def jG (a0:List Int) (a1:Int) (a2:Bool):Option ((List Int×Int) ⊕ (List Int)) :=
 bif a2 then must (((a0.length + 1) + (a0.length + 1) / 4 + 192) * 8≤281474976710656∧a0.length + 1≤9223372036854775807) (ma a1 (a0++([a1]:List Int))) else (ma a1 a0)
noncomputable def rH (a0:History) (a1:Ask):(List Int×Int)→Option ((List Int×Int) ⊕ (List Int))
 | (a3,a2)=>bif decide (a2 < (a0.Txns.length:Int)) then bif (a2 != a1.Txn) then must (0≤a2∧a2 < (a0.Txns.length:Int)) (bif ((idx a0.Txns a2).Status != 2) then (bv a0 a2 a1.Key).bind fun a4=>jG a3 a2 (decide ((a4.length:Int) > 0)) else (jG a3 a2 false)) else (jG a3 a2 false) else (out (some a3))
noncomputable def bH (a0:History) (a1:Ask):Option (List Int) :=
 iter (rH a0 a1) ([],0)
noncomputable def uy (y7:List Int):(Int×Int)→Option ((Int×Int) ⊕ Int)
 | (a1,a0)=>bif decide (a0 < (y7.length:Int)) then must (0≤a0∧a0 < (y7.length:Int)) (some (.inl (w64 (a1 + (idx y7 a0)),w64 (a0 + 1)))) else (out (some a1))
noncomputable def nD (a0:History) (a1:Int) (a2:Int):Option Int :=
 (bv a0 a1 a2).bind fun y7=>iter (uy y7) (0,0)
noncomputable def mf (a0:Int) (a1:Int):Option ((Int×Int) ⊕ ((List Bool×Int) ⊕ (List Int))) :=
 some (.inl (a1,w64 (a0 + 1)))
noncomputable def mg (a1:Int) (a0:List Bool):Option ((List Bool×Int) ⊕ ((Int×Int) ⊕ ((List Bool×Int) ⊕ (List Int)))) :=
 some (.inl (a0,w64 (a1 + 1)))
noncomputable def mh (a2:Int) (a1:List Bool) (a0:Int) (a3:Bool):Option ((List Bool×Int) ⊕ ((Int×Int) ⊕ ((List Bool×Int) ⊕ (List Int)))) :=
 bif a3 then must (0≤a0∧a0 < (a1.length:Int)) (bif idx a1 a0 then mg a0 (a1.set a0.toNat true) else (must (0≤a0∧a0 < (far:Int)) (mg a0 (a1.set a0.toNat (yK .i64 (ul .i64 a2 a0) 1 == 1))))) else (out (out (some (.inl (a1,w64 (a2 + 1))))))
noncomputable def rJ (a1:Ask) (y9:List Int) (a2:Int) (a4:Int):(List Bool×Int)→Option ((List Bool×Int) ⊕ ((Int×Int) ⊕ ((List Bool×Int) ⊕ (List Int))))
 | (a3,a0)=>bif decide (a0 < (y9.length:Int)) then must (0≤(0:Int)∧(0:Int) < (a1.Base.length:Int)) (mh a2 a3 a0 (a4 == idx a1.Base (0:Int))) else (mh a2 a3 a0 false)
noncomputable def rM (a0:History) (a1:Ask) (y9:List Int) (a5:List Bool) (a4:Int):(Int×Int)→Option ((Int×Int) ⊕ ((List Bool×Int) ⊕ (List Int)))
 | (a3,a2)=>bif decide (a2 < (y9.length:Int)) then must (0≤a2∧a2 < (far:Int)) (bif (yK .i64 (ul .i64 a4 a2) 1 == 1) then must (0≤a2∧a2 < (y9.length:Int)) ((nD a0 (idx y9 a2) a1.Key).bind fun a6=>mf a2 (w64 (a3 + a6))) else (mf a2 a3)) else (iter (rJ a1 y9 a4 a3) (a5,0))
noncomputable def mi (a1:Int) (a0:List Int):Option ((List Int×Int) ⊕ ((List Bool×Int) ⊕ (List Int))) :=
 some (.inl (a0,w64 (a1 + 1)))
noncomputable def rO (y9:List Int) (a2:List Bool):(List Int×Int)→Option ((List Int×Int) ⊕ ((List Bool×Int) ⊕ (List Int)))
 | (a1,a0)=>bif decide (a0 < (y9.length:Int)) then must (0≤a0∧a0 < (a2.length:Int)) (bif idx a2 a0 then must (0≤a0∧a0 < (y9.length:Int)) (must (((a1.length + 1) + (a1.length + 1) / 4 + 192) * 8≤281474976710656∧a1.length + 1≤9223372036854775807) (mi a0 (a1++([idx y9 a0]:List Int)))) else (mi a0 a1)) else (out (out (some a1)))
noncomputable def rP (a0:History) (a1:Ask) (y9:List Int):(List Bool×Int)→Option ((List Bool×Int) ⊕ (List Int))
 | (a3,a2)=>must (0≤(y9.length:Int)∧(y9.length:Int) < (far:Int)) (bif decide (a2 < GH .i64 1 (y9.length:Int)) then iter (rM a0 a1 y9 a3 a2) (0,0) else (iter (rO y9 a3) ([],0)))
noncomputable def aM (a0:History) (a1:Ask):Option (List Int) :=
 (bH a0 a1).bind fun y9=>must (0≤(y9.length:Int)∧(y9.length:Int)≤9223372036854775807∧(1:Int) * (y9.length:Int)≤281474976710656) (iter (rP a0 a1 y9) (List.replicate (y9.length:Int).toNat (default:Bool),1))
noncomputable def uz (a0:List Int) (a1:List Int):Option Bool :=
 bif decide ((a1.length:Int) > (a0.length:Int)) then some false else (must (0≤(0:Int)∧(0:Int)≤(a1.length:Int)∧(a1.length:Int)≤(a0.length:Int)) ((dQ (dh a0 (0:Int) (a1.length:Int)) a1).bind fun a2=>some a2))
noncomputable def nK (a1:Int) (a0:Int):Option ((Int×Int) ⊕ ((List Int×List Int) ⊕ (List Int×Bool))) :=
 some (.inl (a0,w64 (a1 + 1)))
noncomputable def ug (a0:History) (a1:Ask) (a2:List Int) (a3:List Int) (a6:Int):Int→Option (Int ⊕ ((Int×Int) ⊕ ((List Int×List Int) ⊕ (List Int×Bool))))
 | a4=>bif decide (a4 < (a2.length:Int)) then must (0≤a4∧a4 < (a2.length:Int)) (bif (idx a2 a4 == a6) then out (out (out (some (([]:List Int),false)))) else (some (.inl (w64 (a4 + 1))))) else (must (((a2.length + 1) + (a2.length + 1) / 4 + 192) * 8≤281474976710656∧a2.length + 1≤9223372036854775807) ((bv a0 a6 a1.Key).bind fun a5=>must (0≤(a5.length:Int)∧(a5.length:Int)≤(a3.length:Int)∧(a3.length:Int)≤(a3.length:Int)) (out (out (some (.inl (a2++([a6]:List Int),dh a3 (a5.length:Int) (a3.length:Int))))))))
noncomputable def uh (a0:History) (a1:Ask) (y9:List Int) (a6:List Int) (a4:List Int):(Int×Int)→Option ((Int×Int) ⊕ ((List Int×List Int) ⊕ (List Int×Bool)))
 | (a3,a2)=>bif decide (a2 < (y9.length:Int)) then must (0≤a2∧a2 < (y9.length:Int)) ((bv a0 (idx y9 a2) a1.Key).bind fun a5=>(uz a4 a5).bind fun a7=>bif a7 then nK a2 (idx y9 a2) else (nK a2 a3)) else (bif decide (a3 < 0) then out (out (some (([]:List Int),false))) else (iter (ug a0 a1 a6 a4 a3) 0))
noncomputable def ui (a0:History) (a1:Ask) (y9:List Int):(List Int×List Int)→Option ((List Int×List Int) ⊕ (List Int×Bool))
 | (a2,a3)=>bif decide ((a3.length:Int) > 0) then iter (uh a0 a1 y9 a2 a3) ((-1),0) else (out (some (a2,true)))
noncomputable def dJ (a0:History) (a1:Ask):Option (List Int×Bool) :=
 (bH a0 a1).bind fun y9=>iter (ui a0 a1 y9) ([],a1.Base)
noncomputable def si (a0:List Int) (a1:Int):Int→Option (Int ⊕ Bool)
 | a2=>bif decide (a2 < (a0.length:Int)) then must (0≤a2∧a2 < (a0.length:Int)) (bif (idx a0 a2 == a1) then out (some true) else (some (.inl (w64 (a2 + 1))))) else (out (some false))
noncomputable def lw (a0:List Int) (a1:Int):Option Bool :=
 iter (si a0 a1) 0
noncomputable def nX (a1:Int) (a0:List Int) (a2:Int):Option ((List Int×Int×Int) ⊕ (List Int×Bool)) :=
 some (.inl (a0,a2,w64 (a1 + 1)))
noncomputable def nY (a0:Int) (a1:Int):Option ((Int×Int) ⊕ ((List Int×Int×Int) ⊕ (List Int×Bool))) :=
 some (.inl (a1,w64 (a0 + 1)))
noncomputable def nZ (y9:List Int) (a0:List Int) (a3:Int) (a1:Int) (a2:Int) (a4:Bool):Option ((Int×Int) ⊕ ((List Int×Int×Int) ⊕ (List Int×Bool))) :=
 bif a4 then out (out (some (([]:List Int),false))) else (bif decide (a2 > 0) then must (((a0.length + 1) + (a0.length + 1) / 4 + 192) * 8≤281474976710656∧a0.length + 1≤9223372036854775807) (out (nX a1 (a0++([idx y9 a1]:List Int)) (w64 (a3 + a2)))) else (out (nX a1 a0 a3)))
noncomputable def uA (a1:Ask) (y9:List Int) (a4:List Int) (a6:Int) (a5:Int) (a3:List Int):(Int×Int)→Option ((Int×Int) ⊕ ((List Int×Int×Int) ⊕ (List Int×Bool)))
 | (a2,a0)=>bif decide (a0 < (a3.length:Int)) then must (0≤a0∧a0 < (a3.length:Int)) ((lw a1.Base (idx a3 a0)).bind fun a7=>bif a7 then nY a0 (w64 (a2 + 1)) else (nY a0 a2)) else (bif decide (a2 > 0) then nZ y9 a4 a6 a5 a2 (decide (a2 < (a3.length:Int))) else (nZ y9 a4 a6 a5 a2 false))
noncomputable def uB (a0:History) (a1:Ask) (y9:List Int):(List Int×Int×Int)→Option ((List Int×Int×Int) ⊕ (List Int×Bool))
 | (a3,a4,a2)=>bif decide (a2 < (y9.length:Int)) then must (0≤a2∧a2 < (y9.length:Int)) ((bv a0 (idx y9 a2) a1.Key).bind fun a5=>iter (uA a1 y9 a3 a4 a2 a5) (0,0)) else (bif (a4 != (a1.Base.length:Int)) then out (some (([]:List Int),false)) else (out (some (a3,true))))
noncomputable def bR (a0:History) (a1:Ask):Option (List Int×Bool) :=
 (bH a0 a1).bind fun y9=>iter (uB a0 a1 y9) ([],0,0)
noncomputable def pE (a0:List Int):Option (List Int) :=
 some a0
noncomputable def iI (a0:List Int):Option (List Int) :=
 some a0
noncomputable def pF (a1:Int) (a0:List Int):Option ((List Int×Int) ⊕ (List Int)) :=
 some (.inl (a0,w64 (a1 + 1)))
noncomputable def uZ (a0:History) (a1:Ask) (a5:List Int):(List Int×Int)→Option ((List Int×Int) ⊕ (List Int))
 | (a3,a2)=>bif decide (a2 < (a5.length:Int)) then must (0≤a2∧a2 < (a5.length:Int)) ((bv a0 (idx a5 a2) a1.Key).bind fun a4=>must (0≤w64 ((a4.length:Int) - 1)∧w64 ((a4.length:Int) - 1) < (a4.length:Int)) (must (0≤(0:Int)∧(0:Int) < (a1.Base.length:Int)) (bif (idx a4 (w64 ((a4.length:Int) - 1)) == idx a1.Base (0:Int)) then must (((a3.length + 1) + (a3.length + 1) / 4 + 192) * 8≤281474976710656∧a3.length + 1≤9223372036854775807) (pF a2 (a3++([idx a5 a2]:List Int))) else (pF a2 a3)))) else (out (iI a3))
noncomputable def bV (a0:History) (a1:Ask):Option (List Int) :=
 (wh a0 a1).bind fun y7=>bif (y7 == 4) then (aM a0 a1).bind fun a3=>must (0≤(0:Int)∧(0:Int) < (a1.Base.length:Int)) (bif (idx a1.Base (0:Int) == 0) then must (((1 + a3.length) + (1 + a3.length) / 4 + 192) * 8≤281474976710656∧1 + a3.length≤9223372036854775807) (pE (([(-1)]:List Int)++a3)) else (pE a3)) else (bif ((a1.Base.length:Int) == 0) then some ([(-1)]:List Int) else (bif (y7 == 1) then (bH a0 a1).bind fun a5=>iter (uZ a0 a1 a5) ([],0) else (bif (y7 == 2) then (dJ a0 a1).bind fun a2=>bif a2.2 then must (0≤w64 ((a2.1.length:Int) - 1)∧w64 ((a2.1.length:Int) - 1) < (a2.1.length:Int)) (must (((0 + 1) + (0 + 1) / 4 + 192) * 8≤281474976710656∧0 + 1≤9223372036854775807) (iI (([]:List Int)++([idx a2.1 (w64 ((a2.1.length:Int) - 1))]:List Int)))) else (iI []) else ((bR a0 a1).bind fun a4=>bif a4.2 then iI a4.1 else (iI [])))))
noncomputable def ng (a0:Int) (a1:List Ask):Option ((List Ask×Int) ⊕ (List Ask×Int)) :=
 some (.inl (a1,w64 (a0 + 1)))
noncomputable def sj (a0:History) (a3:List Ask×List fq):(List Ask×Int)→Option ((List Ask×Int) ⊕ (List Ask×Int))
 | (a2,a1)=>bif decide (a1 < (a3.1.length:Int)) then must (0≤a1∧a1 < (a3.1.length:Int)) ((bV a0 (idx a3.1 a1)).bind fun a4=>bif ((a4.length:Int) == 0) then must (((a2.length + 1) + (a2.length + 1) / 4 + 192) * 48≤281474976710656∧a2.length + 1≤9223372036854775807) (ng a1 (a2++([(idx a3.1 a1)]:List Ask))) else (ng a1 a2)) else (out (some (a2,0)))
noncomputable def iJ (a0:History):Option (List Ask×Int) :=
 (ah a0).bind fun y8=>bif (y8 != 0) then some (([]:List Ask),1) else ((nC a0).bind fun a1=>iter (sj a0 a1) ([],0))
end Go.Proofs.YtnlkggppokcmfaaT
