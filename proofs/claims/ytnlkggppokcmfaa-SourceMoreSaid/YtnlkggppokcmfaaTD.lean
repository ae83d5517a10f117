import Derived.Test.YtnlkggppokcmfaaY
namespace Go.Proofs.YtnlkggppokcmfaaT
open Go Go.Proofs Go.Proofs.YtnlkggppokcmfaaE
set_option linter.unusedVariables false
set_option linter.unusedSimpArgs false
set_option maxHeartbeats 0
set_option maxRecDepth 4096
structure bR where
 key:ByteArray
 arg:Int
 deriving Inhabited,DecidableEq
def bR.enc (x:bR):List Value:=[.string x.key,.int .i64 x.arg]
abbrev Cr:Ty bR:=Ty.flat 2 bR.enc (fun _=>rfl) (fun _=>FJ rfl)
instance : Flat Cr bR.enc:=⟨Iff.rfl,Iff.rfl⟩
structure aP where
 keys:List ByteArray
 at_:List (ByteArray×Int)
 types:List Int
 facts:List (bR×Unit)
 incs:List (ByteArray×(List Int))
 deriving Inhabited
structure Call where
 Kind:Int
 Key:ByteArray
 Arg:Int
 Got:Bool
 Vals:List Int
 deriving Inhabited
abbrev vw:Ty Call:=Ty.iso (bL (aH .i64) (bL jg (bL (aH .i64) (bL pX (bK 2 (aH .i64)))))) (fun g:Call=>(g.Kind,g.Key,g.Arg,g.Got,g.Vals))
abbrev rf (N:BM):Ty Call:=Ty.iso (bL (aH .i64) (bL jg (bL (aH .i64) (bL pX (FX N (aH .i64)))))) (fun g:Call=>(g.Kind,g.Key,g.Arg,g.Got,g.Vals))
theorem DU (N:BM):qy N (rf N) vw:=Ez (rX rW (rX rW (rX rW (rX rW CS))))
structure Event where
 Proc:Int
 Kind:Int
 Calls:List Call
 deriving Inhabited
abbrev Cs:Ty Event:=Ty.iso (bL (aH .i64) (bL (aH .i64) (bK 89 vw))) (fun g:Event=>(g.Proc,g.Kind,g.Calls))
structure Op where
 Kind:Int
 Key:Int
 Arg:Int
 Got:Bool
 Vals:List Int
 deriving Inhabited
abbrev kOp:Ty Op:=Ty.iso (bL (aH .i64) (bL (aH .i64) (bL (aH .i64) (bL pX (bK 2 (aH .i64)))))) (fun g:Op=>(g.Kind,g.Key,g.Arg,g.Got,g.Vals))
structure Txn where
 Proc:Int
 Status:Int
 From:Int
 To:Int
 Ops:List Op
 deriving Inhabited
abbrev lS:Ty Txn:=Ty.iso (bL (aH .i64) (bL (aH .i64) (bL (aH .i64) (bL (aH .i64) (bK 64 kOp))))) (fun g:Txn=>(g.Proc,g.Status,g.From,g.To,g.Ops))
structure History where
 Keys:List ByteArray
 Txns:List Txn
 deriving Inhabited
structure Ask where
 Txn:Int
 Place:Int
 Key:Int
 Base:List Int
 deriving Inhabited
abbrev oV:Ty Ask:=Ty.iso (bL (aH .i64) (bL (aH .i64) (bL (aH .i64) (bK 2 (aH .i64))))) (fun g:Ask=>(g.Txn,g.Place,g.Key,g.Base))
structure fE where
 Txn:Int
 Place:Int
 deriving Inhabited,DecidableEq
def fE.enc (x:fE):List Value:=[.int .i64 x.Txn,.int .i64 x.Place]
abbrev Bi:Ty fE:=Ty.flat 2 fE.enc (fun _=>rfl) (fun _=>FJ rfl)
instance : Flat Bi fE.enc:=⟨Iff.rfl,Iff.rfl⟩
structure dH where
 asks:List Ask
 bad:List fE
 deriving Inhabited
structure aA where
 txn:Int
 args:List Int
 deriving Inhabited
abbrev eD:Ty aA:=Ty.iso (bL (aH .i64) (bK 2 (aH .i64))) (fun g:aA=>(g.txn,g.args))
structure ay where
 keys:List ByteArray
 types:List Int
 wrote:List (List Int)
 incs:List Int
 last_:List Int
 deriving Inhabited
abbrev Rw2 (A:Option Addr) (c:Nat) (l:List Int):bJ := .row (aH .i64) 2 A l.length c l
abbrev Rn2 (A:Option Addr) (n c:Nat) (l:List Int):bJ := .row (aH .i64) 2 A n c l
abbrev Rw3 (A:Option Addr) (c:Nat) (l:List Int):bJ := .row (aH .i64) 3 A l.length c l
abbrev Rw9 (A:Option Addr) (c:Nat) (l:List ByteArray):bJ := .row jg 9 A l.length c l
abbrev Rn9 (A:Option Addr) (n c:Nat) (l:List ByteArray):bJ := .row jg 9 A n c l
abbrev DV (A:Option Addr) (c:Nat) (l:List Ask):bJ := .row oV 37 A l.length c l
abbrev IQ (A:Option Addr) (c:Nat) (l:List Txn):bJ := .row lS 41 A l.length c l
abbrev Je (A:Option Addr) (n c:Nat) (l:List Txn):bJ := .row lS 41 A n c l
abbrev IR (A:Option Addr) (c:Nat) (l:List Op):bJ := .row kOp 64 A l.length c l
abbrev Gc (A:Option Addr) (n c:Nat) (l:List Op):bJ := .row kOp 64 A n c l
abbrev Bj (A:Option Addr) (c:Nat) (l:List aA):bJ := .row eD 118 A l.length c l
abbrev Df (A:Option Addr) (c:Nat) (l:List fE):bJ := .row Bi 160 A l.length c l
abbrev Or2 (A:Option Addr) (c:Nat) (l:List Int):bJ:=orA noM (aH .i64) 2 A l.length c l
abbrev Or3 (A:Option Addr) (c:Nat) (l:List Int):bJ:=orA noM (aH .i64) 3 A l.length c l
abbrev vz (b:Nat) (m:List (ByteArray×Int)):bJ:=Ba (fun x:ByteArray => .string x) (fun x:Int => .int .i64 x) b m
abbrev vC (b:Nat) (m:List (bR×Unit)):bJ:=Ba (fun x:bR => .agg #[.string x.key,.int .i64 x.arg]) (fun _:Unit => .agg #[]) b m
abbrev zL (b:Nat) (m:List (ByteArray×(List Int))):bJ:=qh (fun x:ByteArray => .string x) (bK 3 (aH .i64)) b m
abbrev yA (b:Nat) (m:List (Int×Unit)):bJ:=Ba (fun x:Int => .int .i64 x) (fun _:Unit => .agg #[]) b m
abbrev zM (b:Nat) (m:List (Int×(List Int))):bJ:=qh (fun x:Int => .int .i64 x) (bK 2 (aH .i64)) b m
abbrev qU (x:History) (A0:Option Addr) (c0:Nat) (A1:Option Addr) (c1:Nat):List Value:=[vS A0 x.Keys.length c0,vS A1 x.Txns.length c1]
abbrev sF (x:History) (A0:Option Addr) (c0:Nat) (A1:Option Addr) (c1:Nat):Value := .agg (qU x A0 c0 A1 c1).toArray
abbrev jW (b:Nat) (x:History) (A0:Option Addr) (c0:Nat) (A1:Option Addr) (c1:Nat):bJ := .blk b 25 (qU x A0 c0 A1 c1)
abbrev xQ (x:Ask) (A3:Option Addr) (c3:Nat):List Value:=[vI x.Txn,vI x.Place,vI x.Key,vS A3 x.Base.length c3]
abbrev vD (x:Ask) (A3:Option Addr) (c3:Nat):Value := .agg (xQ x A3 c3).toArray
abbrev vE (b:Nat) (x:Ask) (A3:Option Addr) (c3:Nat):bJ := .blk b 37 (xQ x A3 c3)
abbrev wK (x:Txn) (A4:Option Addr) (c4:Nat):List Value:=[vI x.Proc,vI x.Status,vI x.From,vI x.To,vS A4 x.Ops.length c4]
abbrev Ct (x:Txn) (A4:Option Addr) (c4:Nat):Value := .agg (wK x A4 c4).toArray
abbrev DW (b:Nat) (x:Txn) (A4:Option Addr) (c4:Nat):bJ := .blk b 41 (wK x A4 c4)
abbrev Cu (x:Op) (A4:Option Addr) (c4:Nat):List Value:=[vI x.Kind,vI x.Key,vI x.Arg,vB x.Got,vS A4 x.Vals.length c4]
abbrev uR (b:Nat) (x:Op) (A4:Option Addr) (c4:Nat):bJ := .blk b 64 (Cu x A4 c4)
abbrev EE (x:Event) (A2:Option Addr) (c2:Nat):List Value:=[vI x.Proc,vI x.Kind,vS A2 x.Calls.length c2]
abbrev Jf (x:Event) (A2:Option Addr) (c2:Nat):Value := .agg (EE x A2 c2).toArray
abbrev IU (b:Nat) (x:Event) (A2:Option Addr) (c2:Nat):bJ := .blk b 84 (EE x A2 c2)
abbrev Cv (x:Call) (A4:Option Addr) (c4:Nat):List Value:=[vI x.Kind,.string x.Key,vI x.Arg,vB x.Got,vS A4 x.Vals.length c4]
abbrev EF (x:Call) (A4:Option Addr) (c4:Nat):Value := .agg (Cv x A4 c4).toArray
abbrev sG (b:Nat) (x:Call) (A4:Option Addr) (c4:Nat):bJ := .blk b 89 (Cv x A4 c4)
abbrev Ii (x:dH) (A0:Option Addr) (c0:Nat) (A1:Option Addr) (c1:Nat):List Value:=[vS A0 x.asks.length c0,vS A1 x.bad.length c1]
abbrev IV (x:dH) (A0:Option Addr) (c0:Nat) (A1:Option Addr) (c1:Nat):Value := .agg (Ii x A0 c0 A1 c1).toArray
abbrev yB (x:aA) (A1:Option Addr) (c1:Nat):List Value:=[vI x.txn,vS A1 x.args.length c1]
abbrev EG (x:aA) (A1:Option Addr) (c1:Nat):Value := .agg (yB x A1 c1).toArray
abbrev zN (b:Nat) (x:aA) (A1:Option Addr) (c1:Nat):bJ := .blk b 118 (yB x A1 c1)
abbrev Gd (b:Nat) (A0:Option Addr) (c0:Nat) (x0:List ByteArray) (A1:Option Addr) (c1:Nat) (x1:List Txn):List bJ:=[.blk b 25 [vS A0 x0.length c0,vS A1 x1.length c1],Rw9 A0 c0 x0,IQ A1 c1 x1]
abbrev IW (b:Nat) (x0:Int) (x1:Int) (x2:Int) (x3:Int) (A4:Option Addr) (c4:Nat) (x4:List Op):List bJ:=[.blk b 41 [vI x0,vI x1,vI x2,vI x3,vS A4 x4.length c4],IR A4 c4 x4]
abbrev sQ (b:Nat) (A0:Option Addr) (c0:Nat) (x0:List Ask) (A1:Option Addr) (c1:Nat) (x1:List fE):List bJ:=[.blk b 110 [vS A0 x0.length c0,vS A1 x1.length c1],DV A0 c0 x0,Df A1 c1 x1]
abbrev Ij (b:Nat) (x:dH) (A0:Option Addr) (c0:Nat) (A1:Option Addr) (c1:Nat):List bJ:=sQ b A0 c0 x.asks A1 c1 x.bad
abbrev sS (b:Nat) (A0:Option Addr) (c0:Nat) (x0:List ByteArray) (b1:Nat) (x1:List (ByteArray×Int)) (A2:Option Addr) (c2:Nat) (x2:List Int) (b3:Nat) (x3:List (bR×Unit)) (b4:Nat) (x4:List (ByteArray×(List Int))):List bJ:=[.blk b 136 [vS A0 x0.length c0,.map (some b1),vS A2 x2.length c2,.map (some b3),.map (some b4)],Rw9 A0 c0 x0,vz b1 x1,Rw3 A2 c2 x2,vC b3 x3,zL b4 x4]
abbrev EH (b:Nat) (x:aP) (A0:Option Addr) (c0:Nat) (b1:Nat) (A2:Option Addr) (c2:Nat) (b3:Nat) (b4:Nat):List bJ:=sS b A0 c0 x.keys b1 x.at_ A2 c2 x.types b3 x.facts b4 x.incs
theorem EI {H:BM} {x:Ask} {cs:List Value} (h:oV.rd H x cs):∃ A3 c3,cs=xQ x A3 c3∧x.Base.length≤c3∧rdS (aH .i64) H A3 x.Base:=by
 obtain ⟨_,_,rfl,rfl,⟨_,_,rfl,rfl,⟨_,_,rfl,rfl,⟨A0,c0,rfl,l0,r0⟩⟩⟩⟩:=h;exact ⟨A0,c0,rfl,l0,r0⟩
theorem sU {H:BM} {x:Txn} {cs:List Value} (h:lS.rd H x cs):∃ A4 c4,cs=wK x A4 c4∧x.Ops.length≤c4∧rdS kOp H A4 x.Ops:=by
 obtain ⟨_,_,rfl,rfl,⟨_,_,rfl,rfl,⟨_,_,rfl,rfl,⟨_,_,rfl,rfl,⟨A0,c0,rfl,l0,r0⟩⟩⟩⟩⟩:=h;exact ⟨A0,c0,rfl,l0,r0⟩
theorem EJ {H:BM} {x:Op} {cs:List Value} (h:kOp.rd H x cs):∃ A4 c4,cs=Cu x A4 c4∧x.Vals.length≤c4∧rdS (aH .i64) H A4 x.Vals:=by
 obtain ⟨_,_,rfl,rfl,⟨_,_,rfl,rfl,⟨_,_,rfl,rfl,⟨_,_,rfl,rfl,⟨A0,c0,rfl,l0,r0⟩⟩⟩⟩⟩:=h;exact ⟨A0,c0,rfl,l0,r0⟩
theorem Gf {H:BM} {x:Event} {cs:List Value} (h:Cs.rd H x cs):∃ A2 c2,cs=EE x A2 c2∧x.Calls.length≤c2∧rdS vw H A2 x.Calls:=by
 obtain ⟨_,_,rfl,rfl,⟨_,_,rfl,rfl,⟨A0,c0,rfl,l0,r0⟩⟩⟩:=h;exact ⟨A0,c0,rfl,l0,r0⟩
theorem Io {H:BM} {x:Call} {cs:List Value} (h:vw.rd H x cs):∃ A4 c4,cs=Cv x A4 c4∧x.Vals.length≤c4∧rdS (aH .i64) H A4 x.Vals:=by
 obtain ⟨_,_,rfl,rfl,⟨_,_,rfl,rfl,⟨_,_,rfl,rfl,⟨_,_,rfl,rfl,⟨A0,c0,rfl,l0,r0⟩⟩⟩⟩⟩:=h;exact ⟨A0,c0,rfl,l0,r0⟩
theorem eB {H:BM} {x:aA} {cs:List Value} (h:eD.rd H x cs):∃ A1 c1,cs=yB x A1 c1∧x.args.length≤c1∧rdS (aH .i64) H A1 x.args:=by
 obtain ⟨_,_,rfl,rfl,⟨A0,c0,rfl,l0,r0⟩⟩:=h;exact ⟨A0,c0,rfl,l0,r0⟩
theorem Ik (x:Ask) {R3:List bJ} {c3:List Value} (h3:Mk (bK 2 (aH .i64)) R3 x.Base c3):Mk oV ([]++([]++([]++R3))) x ([vI x.Txn]++([vI x.Place]++([vI x.Key]++c3))):=xn (g:=fun g:Ask=>(g.Txn,g.Place,g.Key,g.Base)) (x:=x) (gp (kQ _ _ rfl) (gp (kQ _ _ rfl) (gp (kQ _ _ rfl) h3)))
theorem EK (x:Txn) {R4:List bJ} {c4:List Value} (h4:Mk (bK 64 kOp) R4 x.Ops c4):Mk lS ([]++([]++([]++([]++R4)))) x ([vI x.Proc]++([vI x.Status]++([vI x.From]++([vI x.To]++c4)))):=xn (g:=fun g:Txn=>(g.Proc,g.Status,g.From,g.To,g.Ops)) (x:=x) (gp (kQ _ _ rfl) (gp (kQ _ _ rfl) (gp (kQ _ _ rfl) (gp (kQ _ _ rfl) h4))))
theorem Ip (x:Op) {R4:List bJ} {c4:List Value} (h4:Mk (bK 2 (aH .i64)) R4 x.Vals c4):Mk kOp ([]++([]++([]++([]++R4)))) x ([vI x.Kind]++([vI x.Key]++([vI x.Arg]++([vB x.Got]++c4)))):=xn (g:=fun g:Op=>(g.Kind,g.Key,g.Arg,g.Got,g.Vals)) (x:=x) (gp (kQ _ _ rfl) (gp (kQ _ _ rfl) (gp (kQ _ _ rfl) (gp (kQ _ _ rfl) h4))))
theorem zB (x:aA) {R1:List bJ} {c1:List Value} (h1:Mk (bK 2 (aH .i64)) R1 x.args c1):Mk eD ([]++R1) x ([vI x.txn]++c1):=xn (g:=fun g:aA=>(g.txn,g.args)) (x:=x) (gp (kQ _ _ rfl) h1)
noncomputable def jh (a0:List ByteArray) (a1:ByteArray):Int→Option (Int ⊕ Int)
 | a2=>bif decide (a2 < (a0.length:Int)) then must (0≤a2∧a2 < (a0.length:Int)) (bif sEq a1 (idx a0 a2) then out (some a2) else (some (.inl (w64 (a2 + 1))))) else (out (some (-1)))
noncomputable def slices_Index_string (a0:List ByteArray) (a1:ByteArray):Option Int :=
 iter (jh a0 a1) 0
noncomputable def slices_Contains_string (a0:List ByteArray) (a1:ByteArray):Option Bool :=
 (slices_Index_string a0 a1).bind fun y3=>some (decide (y3 ≥ 0))
noncomputable def lq:Option aP :=
 some (⟨([]:List ByteArray),([]:List (ByteArray×Int)),([]:List Int),([]:List (bR×Unit)),([]:List (ByteArray×(List Int)))⟩:aP)
noncomputable def rq (a0:Int):Option (Int×Int) :=
 bif (a0 == 5) then some (0,1) else (bif (a0 == 8) then some (1,1) else (some (0,64)))
noncomputable def nG (a0:Call) (a1:Int) (a2:Bool):Option (Int ⊕ Bool) :=
 bif a2 then must (0≤w64 (a1 - 1)∧w64 (a1 - 1) < (a0.Vals.length:Int)) (must (0≤a1∧a1 < (a0.Vals.length:Int)) (bif decide (idx a0.Vals (w64 (a1 - 1)) ≥ idx a0.Vals a1) then out (some false) else (some (.inl (w64 (a1 + 1)))))) else (out (some true))
noncomputable def nH (a0:Call):Int→Option (Int ⊕ Bool)
 | a1=>bif (a0.Kind == 7) then nG a0 a1 (decide (a1 < (a0.Vals.length:Int))) else (nG a0 a1 false)
noncomputable def nI (a0:Call) (a1:Bool):Option Bool :=
 bif a1 then some false else (iter (nH a0) 1)
noncomputable def nJ (a0:Call) (a2:Bool):Option Bool :=
 bif a2 then some false else (bif !a0.Got then some ((a0.Vals.length:Int) == 0) else ((rq a0.Kind).bind fun a1=>bif decide ((a0.Vals.length:Int) < a1.1) then nI a0 true else (nI a0 (decide ((a0.Vals.length:Int) > a1.2)))))
noncomputable def jF (a0:Call) (a1:Int) (a2:Bool):Option Bool :=
 bif a2 then some false else (bif decide (a0.Kind≤4) then bif !a0.Got then bif ((a0.Vals.length:Int) == 0) then bif (a0.Kind != 4) then some true else (bif decide ((-1048576)≤a0.Arg) then some (decide (a0.Arg≤1048576)) else (some false)) else (some false) else (some false) else (bif (a0.Arg != 0) then nJ a0 true else (nJ a0 (a0.Got != (a1 == 1)))))
noncomputable def bH (a0:Call) (a1:Int):Option Bool :=
 bif decide (a0.Kind < 1) then jF a0 a1 true else (bif decide (a0.Kind > 8) then jF a0 a1 true else (bif sEq a0.Key (⟨#[]⟩:ByteArray) then jF a0 a1 true else (jF a0 a1 (decide ((a0.Key.size:Int) > 32)))))
noncomputable def oH (a0:Call) (a1:Event):Option Bool :=
 (bH a0 a1.Kind).bind fun y5=>some (!y5)
noncomputable def dX (a0:List Call) (a1c0:Event):Int→Option (Int ⊕ Int)
 | a1=>bif decide (a1 < (a0.length:Int)) then must (0≤a1∧a1 < (a0.length:Int)) ((oH (idx a0 a1) a1c0).bind fun a2=>bif a2 then out (some a1) else (some (.inl (w64 (a1 + 1))))) else (out (some (-1)))
noncomputable def aY (a0:List Call) (a1c0:Event):Option Int :=
 iter (dX a0 a1c0) 0
noncomputable def cu (a0:List Call) (a1c0:Event):Option Bool :=
 (aY a0 a1c0).bind fun y3=>some (decide (y3 ≥ 0))
noncomputable def kZ (a0:List Event) (a1:Int) (a3:Bool):Option (Int ⊕ Int) :=
 bif a3 then out (some 1) else ((cu ((idx a0 a1).Calls) (idx a0 a1)).bind fun a2=>bif a2 then out (some 1) else (some (.inl (w64 (a1 + 1)))))
noncomputable def qD (a0:List Event):Int→Option (Int ⊕ Int)
 | a1=>bif decide (a1 < (a0.length:Int)) then must (0≤a1∧a1 < (a0.length:Int)) (bif decide ((idx a0 a1).Kind < 0) then kZ a0 a1 true else (bif decide ((idx a0 a1).Kind > 3) then kZ a0 a1 true else (kZ a0 a1 (decide ((((idx a0 a1).Calls).length:Int) > 16))))) else (out (some 0))
noncomputable def eO (a0:List Event):Option Int :=
 bif decide ((a0.length:Int) > 256) then some 1 else (iter (qD a0) 0)
noncomputable def oW (a0:History) (a1:Txn) (a3:List Call) (a2:Int):Option ((List Call×Int) ⊕ (Event×Bool)) :=
 some (.inl (a3++([(⟨(idx a1.Ops a2).Kind,idx a0.Keys ((idx a1.Ops a2).Key),(idx a1.Ops a2).Arg,(idx a1.Ops a2).Got,(idx a1.Ops a2).Vals⟩:Call)]:List Call),w64 (a2 + 1)))
noncomputable def lT (a0:History) (a1:Txn) (a2:List Call) (a3:Int) (a4:Bool):Option ((List Call×Int) ⊕ (Event×Bool)) :=
 bif a4 then out (some ((⟨0,a1.Status,a2⟩:Event),false)) else (must (0≤(idx a1.Ops a3).Key∧(idx a1.Ops a3).Key < (a0.Keys.length:Int)) (must (((a2.length + 1) + (a2.length + 1) / 4 + 192) * 64≤281474976710656∧a2.length + 1≤9223372036854775807) (oW a0 a1 a2 a3)))
noncomputable def oZ (a0:History) (a1:Txn):(List Call×Int)→Option ((List Call×Int) ⊕ (Event×Bool))
 | (a3,a2)=>bif decide (a2 < (a1.Ops.length:Int)) then must (0≤a2∧a2 < (a1.Ops.length:Int)) (bif decide ((idx a1.Ops a2).Key < 0) then lT a0 a1 a3 a2 true else (lT a0 a1 a3 a2 (decide ((idx a1.Ops a2).Key ≥ (a0.Keys.length:Int))))) else ((eO ([(⟨0,a1.Status,a3⟩:Event)]:List Event)).bind fun a4=>out (some ((⟨0,a1.Status,a3⟩:Event),(a4 == 0))))
noncomputable def dE (a0:History) (a1:Txn):Option (Event×Bool) :=
 iter (oZ a0 a1) ([],0)
noncomputable def lU (a0:Txn) (a1:Txn):Option Bool :=
 bif (a0.Proc == a1.Proc) then bif (a0.To == (-1)) then some true else (some (decide (a0.To ≥ a1.From))) else (some false)
noncomputable def dS (a0:List Txn) (a1c0:Txn):Int→Option (Int ⊕ Int)
 | a1=>bif decide (a1 < (a0.length:Int)) then must (0≤a1∧a1 < (a0.length:Int)) ((lU (idx a0 a1) a1c0).bind fun a2=>bif a2 then out (some a1) else (some (.inl (w64 (a1 + 1))))) else (out (some (-1)))
noncomputable def aW (a0:List Txn) (a1c0:Txn):Option Int :=
 iter (dS a0 a1c0) 0
noncomputable def bW (a0:List Txn) (a1c0:Txn):Option Bool :=
 (aW a0 a1c0).bind fun y3=>some (decide (y3 ≥ 0))
noncomputable def jw (a0:List Txn) (a1:Txn) (a2:Bool):Option Bool :=
 bif a2 then some false else ((bW a0 a1).bind fun a3=>some (!a3))
noncomputable def lu (a0:List Txn) (a1:Txn):Option Bool :=
 bif decide (a1.From < 0) then jw a0 a1 true else (bif decide ((a0.length:Int) > 0) then must (0≤w64 ((a0.length:Int) - 1)∧w64 ((a0.length:Int) - 1) < (a0.length:Int)) (jw a0 a1 (decide ((idx a0 (w64 ((a0.length:Int) - 1))).From ≥ a1.From))) else (jw a0 a1 false))
noncomputable def lv (a0:List Txn) (a1:Txn) (a2:Bool):Option Bool :=
 bif a2 then some false else (lu a0 a1)
noncomputable def lw (a0:List Txn) (a1:Txn) (a2:Bool):Option Bool :=
 bif a2 then bif decide (a1.To≤a1.From) then some false else (lu a0 a1) else (bif (a1.Status == 3) then bif (a1.To != (-1)) then lv a0 a1 (decide (a1.To≤a1.From)) else (lv a0 a1 false) else (some false))
noncomputable def bF (a0:List Txn) (a1:Txn):Option Bool :=
 bif (a1.Status == 1) then lw a0 a1 (a1.Status == 1) else (lw a0 a1 (a1.Status == 2))
noncomputable def kG (a0:Int):Option Int :=
 some (w64 ((xq .i64 (w64 (a0 - 1)) 3) + 1))
noncomputable def fF (a0:List ByteArray) (a1:List (ByteArray×Int)) (a4:List Int) (a3:List (bR×Unit)) (a2:List (ByteArray×(List Int))):Option (Int×aP) :=
 some (0,(⟨a0,a1,a4,a3,a2⟩:aP))
noncomputable def jG (a0:aP) (a1:Call) (a2:List ByteArray) (a3:List (ByteArray×Int)) (a4:List Int):Option (Int×aP) :=
 bif nD a0.facts (⟨a1.Key,a1.Arg⟩:bR) then some (3,(⟨a2,a3,a4,a0.facts,a0.incs⟩:aP)) else (fF a2 a3 a4 (gL a0.facts (⟨a1.Key,a1.Arg⟩:bR) ()) a0.incs)
noncomputable def gV (a0:aP) (a1:Call) (a3:List ByteArray) (a4:List (ByteArray×Int)) (a5:List Int) (a2:List (ByteArray×(List Int))):Option (Int×aP) :=
 bif decide (((mat a2 a1.Key).length:Int) > 8) then some (51,(⟨a3,a4,a5,a0.facts,a2⟩:aP)) else (fF a3 a4 a5 a0.facts a2)
noncomputable def gW (a0:aP) (a1:Call) (a2:Int) (a3:List ByteArray) (a4:List (ByteArray×Int)) (a5:List Int) (a6:Bool):Option (Int×aP) :=
 bif a6 then must (((((mat a0.incs a1.Key).length) + 1) + (((mat a0.incs a1.Key).length) + 1) / 4 + 192) * 8≤281474976710656∧((mat a0.incs a1.Key).length) + 1≤9223372036854775807) (gV a0 a1 a3 a4 a5 (gL a0.incs a1.Key ((mat a0.incs a1.Key)++([a2]:List Int)))) else (gV a0 a1 a3 a4 a5 a0.incs)
noncomputable def gX (a0:aP) (a1:Call) (a2:Int) (a3:List ByteArray) (a4:List (ByteArray×Int)) (a5:List Int) (a6:Bool):Option (Int×aP) :=
 bif a6 then jG a0 a1 a3 a4 a5 else (bif (a1.Kind == 4) then bif (((mat a0.incs a1.Key).length:Int) == 0) then gW a0 a1 a2 a3 a4 a5 true else (must (0≤w64 (((mat a0.incs a1.Key).length:Int) - 1)∧w64 (((mat a0.incs a1.Key).length:Int) - 1) < ((mat a0.incs a1.Key).length:Int)) (gW a0 a1 a2 a3 a4 a5 (idx (mat a0.incs a1.Key) (w64 (((mat a0.incs a1.Key).length:Int) - 1)) != a2))) else (fF a3 a4 a5 a0.facts a0.incs))
noncomputable def fG (a0:aP) (a1:Call) (a2:Int) (a4:List ByteArray) (a5:List (ByteArray×Int)) (a3:List Int) (a6:Int):Option (Int×aP) :=
 must (0≤a6∧a6 < (a3.length:Int)) ((kG a1.Kind).bind fun a7=>bif (idx a3 a6 != a7) then some (50,(⟨a4,a5,a3,a0.facts,a0.incs⟩:aP)) else (bif (a1.Kind == 2) then gX a0 a1 a2 a4 a5 a3 (a1.Kind == 2) else (gX a0 a1 a2 a4 a5 a3 (a1.Kind == 3))))
noncomputable def jH (a0:aP) (a1:Call) (a2:Int):Option (Int×aP) :=
 (kG a1.Kind).bind fun a3=>must (((a0.types.length + 1) + (a0.types.length + 1) / 4 + 192) * 8≤281474976710656∧a0.types.length + 1≤9223372036854775807) (fG a0 a1 a2 (a0.keys++([a1.Key]:List ByteArray)) (gL a0.at_ a1.Key (a0.keys.length:Int)) (a0.types++([a3]:List Int)) (a0.keys.length:Int))
noncomputable def aj (a0:aP) (a1:Call) (a2:Int):Option (Int×aP) :=
 bif !(nD a0.at_ a1.Key) then bif ((a0.keys.length:Int) == 32) then some (2,a0) else (must (((a0.keys.length + 1) + (a0.keys.length + 1) / 4 + 192) * 16≤281474976710656∧a0.keys.length + 1≤9223372036854775807) (jH a0 a1 a2)) else (fG a0 a1 a2 a0.keys a0.at_ a0.types (mat a0.at_ a1.Key))
noncomputable def jX (a0:Int) (a1:Bool):Option (Int ⊕ Int) :=
 bif a1 then out (some 1) else (some (.inl (w64 (a0 + 1))))
noncomputable def lV (a7:Int) (a2:Event×Bool):(List ByteArray×(List (ByteArray×Int))×List Int×(List (bR×Unit))×(List (ByteArray×(List Int)))×Int)→Option ((List ByteArray×(List (ByteArray×Int))×List Int×(List (bR×Unit))×(List (ByteArray×(List Int)))×Int) ⊕ ((List ByteArray×(List (ByteArray×Int))×List Int×(List (bR×Unit))×(List (ByteArray×(List Int)))×Int) ⊕ (Int ⊕ Int)))
 | (a4,a3,a5,a6,a8,a1)=>bif decide (a1 < (a2.1.Calls.length:Int)) then must (0≤a1∧a1 < (a2.1.Calls.length:Int)) ((aj (⟨a4,a3,a5,a6,a8⟩:aP) (idx a2.1.Calls a1) a7).bind fun a0=>bif (a0.1 != 0) then out (out (out (some 1))) else (some (.inl (a0.2.keys,a0.2.at_,a0.2.types,a0.2.facts,a0.2.incs,w64 (a1 + 1))))) else (out (some (.inl (a4,a3,a5,a6,a8,w64 (a7 + 1)))))
noncomputable def lW (a5:List ByteArray) (a7:List (ByteArray×Int)) (a1:List Int) (a6:List (bR×Unit)) (a2:List (ByteArray×(List Int))) (a3:Int) (a0:Event×Bool) (a4:Bool):Option ((List ByteArray×(List (ByteArray×Int))×List Int×(List (bR×Unit))×(List (ByteArray×(List Int)))×Int) ⊕ (Int ⊕ Int)) :=
 bif a4 then out (out (some 1)) else (iter (lV a3 a0) (a5,a7,a1,a6,a2,0))
noncomputable def jY (a0:History):(List ByteArray×(List (ByteArray×Int))×List Int×(List (bR×Unit))×(List (ByteArray×(List Int)))×Int)→Option ((List ByteArray×(List (ByteArray×Int))×List Int×(List (bR×Unit))×(List (ByteArray×(List Int)))×Int) ⊕ (Int ⊕ Int))
 | (a5,a7,a3,a6,a4,a1)=>bif decide (a1 < (a0.Txns.length:Int)) then must (0≤a1∧a1 < (a0.Txns.length:Int)) ((dE a0 (idx a0.Txns a1)).bind fun a2=>bif !a2.2 then lW a5 a7 a3 a6 a4 a1 a2 true else (must (0≤(0:Int)∧(0:Int)≤a1∧a1≤(a0.Txns.length:Int)) ((bF (gF a0.Txns (0:Int) a1) (idx a0.Txns a1)).bind fun a8=>lW a5 a7 a3 a6 a4 a1 a2 (!a8)))) else (out (out (some 0)))
noncomputable def pg (a0:History):Int→Option (Int ⊕ Int)
 | a1=>bif decide (a1 < (a0.Keys.length:Int)) then must (0≤a1∧a1 < (a0.Keys.length:Int)) (bif sEq (idx a0.Keys a1) (⟨#[]⟩:ByteArray) then jX a1 true else (bif decide (((idx a0.Keys a1).size:Int) > 32) then jX a1 true else (must (0≤(0:Int)∧(0:Int)≤a1∧a1≤(a0.Keys.length:Int)) ((slices_Contains_string (gF a0.Keys (0:Int) a1) (idx a0.Keys a1)).bind fun a3=>jX a1 a3)))) else ((lq).bind fun a2=>iter (jY a0) (a2.keys,a2.at_,a2.types,a2.facts,a2.incs,0))
noncomputable def lX (a0:History) (b7:Bool):Option Int :=
 bif b7 then some 1 else (iter (pg a0) 0)
noncomputable def aB (a0:History):Option Int :=
 bif decide ((a0.Keys.length:Int) > 32) then lX a0 true else (lX a0 (decide ((a0.Txns.length:Int) > 32)))
noncomputable def dh (a0:List Int):Option (List Int) :=
 must (a0.length * 8≤140737488355328) (some a0)
noncomputable def gG (a0:Int):Option Int :=
 bif (a0 == 1) then some 171 else (bif (a0 == 2) then some 172 else (bif (a0 == 3) then some 173 else (bif (a0 == 4) then some 174 else (some (-1)))))
noncomputable def iE (a0:Unit) (a1:List Int):Option Bool :=
 some (decide ((a1.length:Int)≤1))
noncomputable def kH (a0:Unit) (a1:List Int):Option Bool :=
 some (decide ((a1.length:Int)≤64))
noncomputable def lD (a1:List Int):Int→Option (Int ⊕ Bool)
 | a0=>bif decide (a0 < (a1.length:Int)) then must (0≤w64 (a0 - 1)∧w64 (a0 - 1) < (a1.length:Int)) (must (0≤a0∧a0 < (a1.length:Int)) (bif decide (idx a1 (w64 (a0 - 1)) ≥ idx a1 a0) then out (some false) else (some (.inl (w64 (a0 + 1)))))) else (out (some (decide ((a1.length:Int)≤64))))
noncomputable def eF (a0:Unit) (a1:List Int):Option Bool :=
 iter (lD a1) 1
noncomputable def iT (a0:Unit) (a1:List Int):Option Bool :=
 some ((a1.length:Int) == 1)
noncomputable def gP (a0:Int) (a1:List Int):Option Int :=
 (gG a0).bind fun y8=>bif (y8 == (171:Int)) then (iE () a1).bind fun a2=>bif !a2 then some 80 else (some 0) else (bif (y8 == (172:Int)) then (kH () a1).bind fun a5=>bif !a5 then some 80 else (some 0) else (bif (y8 == (173:Int)) then (eF () a1).bind fun a4=>bif !a4 then some 80 else (some 0) else (bif (y8 == (174:Int)) then (iT () a1).bind fun a3=>bif !a3 then some 80 else (some 0) else (bif (y8 == ((-1):Int)) then some 1 else none))))
noncomputable def eZ (a0:Unit) (a1:List Int) (a2:List Int):Option (List Int×Bool) :=
 bif ((a1.length:Int) == 1) then must (0≤(0:Int)∧(0:Int) < (a1.length:Int)) (must (0≤w64 ((a2.length:Int) - 1)∧w64 ((a2.length:Int) - 1) < (a2.length:Int)) (some (([]:List Int),(idx a1 (0:Int) == idx a2 (w64 ((a2.length:Int) - 1)))))) else (some (([]:List Int),false))
noncomputable def mO (a0:List Int) (a1:List Int):Int→Option (Int ⊕ Bool)
 | a2=>bif decide (a2 < (a0.length:Int)) then must (0≤a2∧a2 < (a0.length:Int)) (must (0≤a2∧a2 < (a1.length:Int)) (bif (idx a0 a2 != idx a1 a2) then out (some false) else (some (.inl (w64 (a2 + 1)))))) else (out (some true))
noncomputable def dL (a0:List Int) (a1:List Int):Option Bool :=
 bif ((a0.length:Int) != (a1.length:Int)) then some false else (iter (mO a0 a1) 0)
noncomputable def fH (a1:List Int) (a2:List Int) (a0:Bool):Option (List Int×Bool) :=
 bif a0 then some (([]:List Int),false) else (must (0≤(0:Int)∧(0:Int)≤(w64 ((a1.length:Int) - (a2.length:Int)))∧(w64 ((a1.length:Int) - (a2.length:Int)))≤(a1.length:Int)) ((dh (gF a1 (0:Int) (w64 ((a1.length:Int) - (a2.length:Int))))).bind fun a3=>some (a3,true)))
noncomputable def di (a0:Unit) (a1:List Int) (a2:List Int):Option (List Int×Bool) :=
 bif decide (w64 ((a1.length:Int) - (a2.length:Int)) < 0) then fH a1 a2 true else (must (0≤(w64 ((a1.length:Int) - (a2.length:Int)))∧(w64 ((a1.length:Int) - (a2.length:Int)))≤(a1.length:Int)∧(a1.length:Int)≤(a1.length:Int)) ((dL (gF a1 (w64 ((a1.length:Int) - (a2.length:Int))) (a1.length:Int)) a2).bind fun a3=>fH a1 a2 (!a3)))
noncomputable def jy (a0:Int):Option Bool :=
 some (a0 != a0)
noncomputable def jZ (a0:Int) (a1:Int):Option Bool :=
 (jy a0).bind fun y7=>bif y7 then (jy a1).bind fun a2=>bif !a2 then some true else (some (decide (a0 < a1))) else (some (decide (a0 < a1)))
noncomputable def gQ (a0:Int):Option Bool :=
 some (a0 != a0)
noncomputable def gu (a0:Int) (a1:Int):Option ((Int×Int) ⊕ (Int×Bool)) :=
 some (.inl (a0,a1))
noncomputable def gy (a0:List Int) (a1:Int):(Int×Int)→Option ((Int×Int) ⊕ (Int×Bool))
 | (a2,a3)=>bif decide (a2 < a3) then must (0≤(1:Int)∧(1:Int) < (far:Int)) (must (0≤w64 (rV .u64 (IntKind.wrap .u64 (w64 (a2 + a3))) (1:Int))∧w64 (rV .u64 (IntKind.wrap .u64 (w64 (a2 + a3))) (1:Int)) < (a0.length:Int)) ((jZ (idx a0 (w64 (rV .u64 (IntKind.wrap .u64 (w64 (a2 + a3))) (1:Int)))) a1).bind fun a6=>bif a6 then gu (w64 ((w64 (rV .u64 (IntKind.wrap .u64 (w64 (a2 + a3))) (1:Int))) + 1)) a3 else (gu a2 (w64 (rV .u64 (IntKind.wrap .u64 (w64 (a2 + a3))) (1:Int)))))) else (bif decide (a2 < (a0.length:Int)) then must (0≤a2∧a2 < (a0.length:Int)) (bif (idx a0 a2 == a1) then out (some (a2,true)) else ((gQ (idx a0 a2)).bind fun a4=>bif a4 then (gQ a1).bind fun a5=>out (some (a2,a5)) else (out (some (a2,false))))) else (out (some (a2,false))))
noncomputable def aT (a0:List Int) (a1:Int):Option (Int×Bool) :=
 iter (gy a0 a1) (0,(a0.length:Int))
noncomputable def gH (a0:List Int) (a1 a2:Int):Option (List Int) :=
 must (0≤a1∧a1≤a2∧a2≤(a0.length:Int)) (some (a0.take a1.toNat++a0.drop a2.toNat))
noncomputable def iF (a2:List Int):(List Int×Int)→Option ((List Int×Int) ⊕ (List Int×Bool))
 | (a3,a0)=>bif decide (a0 < (a2.length:Int)) then must (0≤a0∧a0 < (a2.length:Int)) ((aT a3 (idx a2 a0)).bind fun a1=>bif !a1.2 then out (some (([]:List Int),false)) else ((gH a3 a1.1 (w64 (a1.1 + 1))).bind fun a4=>some (.inl (a4,w64 (a0 + 1))))) else (out (some (a3,true)))
noncomputable def dJ (a0:Unit) (a1:List Int) (a2:List Int):Option (List Int×Bool) :=
 (dh a1).bind fun y7=>iter (iF a2) (y7,0)
noncomputable def fM (a2:List Int):(Int×Int)→Option ((Int×Int) ⊕ (List Int×Bool))
 | (a1,a0)=>bif decide (a0 < (a2.length:Int)) then must (0≤a0∧a0 < (a2.length:Int)) (some (.inl (w64 (a1 - (idx a2 a0)),w64 (a0 + 1)))) else (out (some (([a1]:List Int),true)))
noncomputable def dn (a0:Unit) (a1:List Int) (a2:List Int):Option (List Int×Bool) :=
 must (0≤(0:Int)∧(0:Int) < (a1.length:Int)) (iter (fM a2) (idx a1 (0:Int),0))
noncomputable def iC (a0:Int) (a1:List Int) (a2:List Int) (b9:Bool):Option (List Int×Bool) :=
 bif b9 then some (([]:List Int),false) else ((gG a0).bind fun a3=>bif (a3 == (171:Int)) then (eZ () a1 a2).bind fun a7=>some (a7.1,a7.2) else (bif (a3 == (172:Int)) then (di () a1 a2).bind fun a5=>some (a5.1,a5.2) else (bif (a3 == (173:Int)) then (dJ () a1 a2).bind fun a6=>some (a6.1,a6.2) else (bif (a3 == (174:Int)) then (dn () a1 a2).bind fun a4=>some (a4.1,a4.2) else (bif (a3 == ((-1):Int)) then none else none)))))
noncomputable def eG (a0:Int) (a1:List Int) (a2:List Int):Option (List Int×Bool) :=
 (gP a0 a1).bind fun a3=>bif (a3 != 0) then iC a0 a1 a2 true else (iC a0 a1 a2 ((a2.length:Int) == 0))
noncomputable def fq (a3:Int) (a2:List Ask) (a1:List fE) (a0:List (Int×(List Int))):Option ((List Ask×List fE×(List (Int×(List Int)))×Int) ⊕ dH) :=
 some (.inl (a2,a1,a0,w64 (a3 + 1)))
noncomputable def iU (a1:History) (a2:Int) (a4:List Ask) (a0:List fE) (a5:List (Int×(List Int))) (a3:Int) (a6:List Int) (a7:Bool):Option ((List Ask×List fE×(List (Int×(List Int)))×Int) ⊕ dH) :=
 bif !a7 then must (((a0.length + 1) + (a0.length + 1) / 4 + 192) * 16≤281474976710656∧a0.length + 1≤9223372036854775807) (fq a3 a4 (a0++([(⟨a2,a3⟩:fE)]:List fE)) a5) else (must (((a4.length + 1) + (a4.length + 1) / 4 + 192) * 48≤281474976710656∧a4.length + 1≤9223372036854775807) (fq a3 (a4++([(⟨a2,a3,(idx ((idx a1.Txns a2).Ops) a3).Key,a6⟩:Ask)]:List Ask)) a0 a5))
noncomputable def iV (a1:History) (a2:Int) (a6:List Ask) (a0:List fE) (a5:List (Int×(List Int))) (a4:Int) (a3:List Int×Bool) (a7:Bool):Option ((List Ask×List fE×(List (Int×(List Int)))×Int) ⊕ dH) :=
 bif a7 then fq a4 a6 a0 a5 else (iU a1 a2 a6 a0 a5 a4 a3.1 a3.2)
noncomputable def kR (a1:History) (a2:Int):(List Ask×List fE×(List (Int×(List Int)))×Int)→Option ((List Ask×List fE×(List (Int×(List Int)))×Int) ⊕ dH)
 | (a5,a4,a3,a0)=>bif decide (a0 < (((idx a1.Txns a2).Ops).length:Int)) then must (0≤a0∧a0 < (((idx a1.Txns a2).Ops).length:Int)) (bif decide ((idx ((idx a1.Txns a2).Ops) a0).Kind≤4) then must (((((mat a3 ((idx ((idx a1.Txns a2).Ops) a0).Key)).length) + 1) + (((mat a3 ((idx ((idx a1.Txns a2).Ops) a0).Key)).length) + 1) / 4 + 192) * 8≤281474976710656∧((mat a3 ((idx ((idx a1.Txns a2).Ops) a0).Key)).length) + 1≤9223372036854775807) (fq a0 a5 a4 (gL a3 ((idx ((idx a1.Txns a2).Ops) a0).Key) ((mat a3 ((idx ((idx a1.Txns a2).Ops) a0).Key))++([(idx ((idx a1.Txns a2).Ops) a0).Arg]:List Int)))) else ((dh ((idx ((idx a1.Txns a2).Ops) a0).Vals)).bind fun a7=>bif decide (((mat a3 ((idx ((idx a1.Txns a2).Ops) a0).Key)).length:Int) > 0) then (eG (w64 (((idx ((idx a1.Txns a2).Ops) a0).Kind) - 4)) ((idx ((idx a1.Txns a2).Ops) a0).Vals) (mat a3 ((idx ((idx a1.Txns a2).Ops) a0).Key))).bind fun a6=>bif a6.2 then iV a1 a2 a5 a4 a3 a0 a6 ((idx ((idx a1.Txns a2).Ops) a0).Kind == 5) else (iV a1 a2 a5 a4 a3 a0 a6 false) else (iU a1 a2 a5 a4 a3 a0 a7 true))) else (out (some (⟨a5,a4⟩:dH)))
noncomputable def aO (a0:dH) (a1:History) (a2:Int):Option dH :=
 must (0≤a2∧a2 < (a1.Txns.length:Int)) (bif ((idx a1.Txns a2).Status != 1) then some a0 else (iter (kR a1 a2) (a0.asks,a0.bad,[],0)))
noncomputable def ru (a0:History):(List Ask×List fE×Int)→Option ((List Ask×List fE×Int) ⊕ (dH×Int))
 | (a4,a3,a1)=>bif decide (a1 < (a0.Txns.length:Int)) then (aO (⟨a4,a3⟩:dH) a0 a1).bind fun a2=>some (.inl (a2.asks,a2.bad,w64 (a1 + 1))) else (out (some ((⟨a4,a3⟩:dH),0)))
noncomputable def iZ (a0:History):Option (dH×Int) :=
 (aB a0).bind fun a1=>bif (a1 != 0) then some ((⟨([]:List Ask),([]:List fE)⟩:dH),a1) else (iter (ru a0) ([],[],0))
noncomputable def gz (a0:History):Option (List Ask×Int) :=
 (iZ a0).bind fun a1=>some (a1.1.asks,a1.2)
noncomputable def qE (a0:History) (a1:Int) (a3:Int):Int→Option (Int ⊕ (Int ⊕ Int))
 | a2=>bif decide (a2 < (((idx a0.Txns a3).Ops).length:Int)) then must (0≤a2∧a2 < (((idx a0.Txns a3).Ops).length:Int)) (bif ((idx ((idx a0.Txns a3).Ops) a2).Key == a1) then (kG ((idx ((idx a0.Txns a3).Ops) a2).Kind)).bind fun a4=>out (out (some a4)) else (some (.inl (w64 (a2 + 1))))) else (out (some (.inl (w64 (a3 + 1)))))
noncomputable def qF (a0:History) (a1:Int):Int→Option (Int ⊕ Int)
 | a2=>bif decide (a2 < (a0.Txns.length:Int)) then must (0≤a2∧a2 < (a0.Txns.length:Int)) (iter (qE a0 a1 a2) 0) else (out (some 0))
noncomputable def dZ (a0:History) (a1:Int):Option Int :=
 (aB a0).bind fun y8=>bif (y8 != 0) then some 0 else (iter (qF a0 a1) 0)
noncomputable def lY (a0:Int) (a1:List Int):Option ((List Int×Int) ⊕ (List Int)) :=
 some (.inl (a1,w64 (a0 + 1)))
noncomputable def lZ (a0:Txn) (a1:List Int) (a2:Int) (a3:Bool):Option ((List Int×Int) ⊕ (List Int)) :=
 bif a3 then must (((a1.length + 1) + (a1.length + 1) / 4 + 192) * 8≤281474976710656∧a1.length + 1≤9223372036854775807) (lY a2 (a1++([(idx a0.Ops a2).Arg]:List Int))) else (lY a2 a1)
noncomputable def pq (a0:Txn) (a1:Int):(List Int×Int)→Option ((List Int×Int) ⊕ (List Int))
 | (a3,a2)=>bif decide (a2 < (a0.Ops.length:Int)) then must (0≤a2∧a2 < (a0.Ops.length:Int)) (bif ((idx a0.Ops a2).Key == a1) then lZ a0 a3 a2 (decide ((idx a0.Ops a2).Kind≤4)) else (lZ a0 a3 a2 false)) else (out (some a3))
noncomputable def dB (a0:Txn) (a1:Int):Option (List Int) :=
 iter (pq a0 a1) ([],0)
noncomputable def kI (a1:Int) (a0:List Int):Option ((List Int×Int) ⊕ (List Int)) :=
 some (.inl (a0,w64 (a1 + 1)))
noncomputable def kJ (a0:List Int) (a1:Int) (a2:Bool):Option ((List Int×Int) ⊕ (List Int)) :=
 bif a2 then must (((a0.length + 1) + (a0.length + 1) / 4 + 192) * 8≤281474976710656∧a0.length + 1≤9223372036854775807) (kI a1 (a0++([a1]:List Int))) else (kI a1 a0)
noncomputable def ng (a0:History) (a1:Int):(List Int×Int)→Option ((List Int×Int) ⊕ (List Int))
 | (a3,a2)=>bif decide (a2 < (a0.Txns.length:Int)) then must (0≤a2∧a2 < (a0.Txns.length:Int)) (bif ((idx a0.Txns a2).Status != 2) then (dB (idx a0.Txns a2) a1).bind fun a4=>kJ a3 a2 (decide ((a4.length:Int) > 0)) else (kJ a3 a2 false)) else (out (some a3))
noncomputable def bS (a0:History) (a1:Int):Option (List Int) :=
 (aB a0).bind fun y8=>bif (y8 != 0) then some ([]:List Int) else (iter (ng a0 a1) ([],0))
noncomputable def kg (a0:History) (a1:Int) (a2:Int) (a4:Bool):Option (List Int×Bool) :=
 bif a4 then some (([]:List Int),false) else (must (0≤a1∧a1 < (a0.Txns.length:Int)) ((dB (idx a0.Txns a1) a2).bind fun a3=>some (a3,decide ((a3.length:Int) > 0))))
noncomputable def fw (a0:History) (a1:Int) (a2:Int):Option (List Int×Bool) :=
 bif decide (a1 < 0) then kg a0 a1 a2 true else (bif decide (a1 ≥ (a0.Txns.length:Int)) then kg a0 a1 a2 true else ((aB a0).bind fun a3=>kg a0 a1 a2 (a3 != 0)))
noncomputable def kK (a0:Int) (a1:List aA):Option ((List aA×Int) ⊕ (List aA)) :=
 some (.inl (a1,w64 (a0 + 1)))
noncomputable def kM (a2:List Int) (a0:List aA) (a1:Int) (a4:List Int×Bool) (a3:Bool):Option ((List aA×Int) ⊕ (List aA)) :=
 bif a3 then must (((a0.length + 1) + (a0.length + 1) / 4 + 192) * 32≤281474976710656∧a0.length + 1≤9223372036854775807) (kK a1 (a0++([(⟨idx a2 a1,a4.1⟩:aA)]:List aA))) else (kK a1 a0)
noncomputable def ni (a0:History) (a1:Ask) (a3:List Int):(List aA×Int)→Option ((List aA×Int) ⊕ (List aA))
 | (a4,a2)=>bif decide (a2 < (a3.length:Int)) then must (0≤a2∧a2 < (a3.length:Int)) ((fw a0 (idx a3 a2) a1.Key).bind fun a5=>bif a5.2 then kM a3 a4 a2 a5 (idx a3 a2 != a1.Txn) else (kM a3 a4 a2 a5 false)) else (out (some a4))
noncomputable def bI (a0:History) (a1:Ask):Option (List aA) :=
 (bS a0 a1.Key).bind fun a2=>iter (ni a0 a1 a2) ([],0)
noncomputable def nK (a0:aA) (a1:List Int):Option Bool :=
 must (0≤(0:Int)∧(0:Int) < (a0.args.length:Int)) (must (0≤(0:Int)∧(0:Int) < (a1.length:Int)) (some (idx a0.args (0:Int) == idx a1 (0:Int))))
noncomputable def kS (a0:List Int) (a1:Int):Int→Option (Int ⊕ Int)
 | a2=>bif decide (a2 < (a0.length:Int)) then must (0≤a2∧a2 < (a0.length:Int)) (bif (a1 == idx a0 a2) then out (some a2) else (some (.inl (w64 (a2 + 1))))) else (out (some (-1)))
noncomputable def slices_Index_int (a0:List Int) (a1:Int):Option Int :=
 iter (kS a0 a1) 0
noncomputable def slices_Contains_int (a0:List Int) (a1:Int):Option Bool :=
 (slices_Index_int a0 a1).bind fun y3=>some (decide (y3 ≥ 0))
noncomputable def dR (a0:List aA) (a1c0:List Int):Int→Option (Int ⊕ Int)
 | a1=>bif decide (a1 < (a0.length:Int)) then must (0≤a1∧a1 < (a0.length:Int)) ((nK (idx a0 a1) a1c0).bind fun a2=>bif a2 then out (some a1) else (some (.inl (w64 (a1 + 1))))) else (out (some (-1)))
noncomputable def aU (a0:List aA) (a1c0:List Int):Option Int :=
 iter (dR a0 a1c0) 0
noncomputable def ja (a1:List aA) (a2:List Int) (a3:List Int) (a0:Int) (a4:Bool):Option ((List Int×List Int) ⊕ (List Int×Bool)) :=
 bif a4 then out (some (([]:List Int),false)) else (must (0≤a0∧a0 < (a1.length:Int)) (must (((a3.length + 1) + (a3.length + 1) / 4 + 192) * 8≤281474976710656∧a3.length + 1≤9223372036854775807) (must (0≤(((idx a1 a0).args).length:Int)∧(((idx a1 a0).args).length:Int)≤(a2.length:Int)∧(a2.length:Int)≤(a2.length:Int)) (some (.inl (gF a2 (((idx a1 a0).args).length:Int) (a2.length:Int),a3++([(idx a1 a0).txn]:List Int)))))))
noncomputable def ma (a1:List aA):(List Int×List Int)→Option ((List Int×List Int) ⊕ (List Int×Bool))
 | (a2,a3)=>bif decide ((a2.length:Int) > 0) then (aU a1 a2).bind fun a0=>bif decide (a0 < 0) then ja a1 a2 a3 a0 true else (must (0≤a0∧a0 < (a1.length:Int)) (bif decide ((((idx a1 a0).args).length:Int) > (a2.length:Int)) then ja a1 a2 a3 a0 true else (must (0≤(0:Int)∧(0:Int)≤(((idx a1 a0).args).length:Int)∧(((idx a1 a0).args).length:Int)≤(a2.length:Int)) ((dL ((idx a1 a0).args) (gF a2 (0:Int) (((idx a1 a0).args).length:Int))).bind fun a4=>bif !a4 then ja a1 a2 a3 a0 true else ((slices_Contains_int a3 ((idx a1 a0).txn)).bind fun a5=>ja a1 a2 a3 a0 a5))))) else (out (some (a3,true)))
noncomputable def dF (a0:List Int) (a1:List aA):Option (List Int×Bool) :=
 iter (ma a1) (a0,[])
noncomputable def nL (a2:Int) (a0:List Int) (a1:List (Int×Unit)):Option ((List Int×(List (Int×Unit))×Int) ⊕ (((List (Int×Unit))×Int) ⊕ (List Int×Bool))) :=
 some (.inl (a0,a1,w64 (a2 + 1)))
noncomputable def nM (a2:Int) (a0:List (Int×Unit)) (a1:Int):Option (((List (Int×Unit))×Int×Int) ⊕ ((List Int×(List (Int×Unit))×Int) ⊕ (((List (Int×Unit))×Int) ⊕ (List Int×Bool)))) :=
 some (.inl (a0,a1,w64 (a2 + 1)))
noncomputable def nN (a1:List aA) (a0:List Int) (a2:Int) (a3:List (Int×Unit)) (a4:Int) (a5:Bool):Option (((List (Int×Unit))×Int×Int) ⊕ ((List Int×(List (Int×Unit))×Int) ⊕ (((List (Int×Unit))×Int) ⊕ (List Int×Bool)))) :=
 bif a5 then out (out (out (some (([]:List Int),false)))) else (bif decide (a4 > 0) then must (((a0.length + 1) + (a0.length + 1) / 4 + 192) * 8≤281474976710656∧a0.length + 1≤9223372036854775807) (out (nL a2 (a0++([(idx a1 a2).txn]:List Int)) a3)) else (out (nL a2 a0 a3)))
noncomputable def qG (a1:List aA) (a5:List Int) (a0:Int):((List (Int×Unit))×Int×Int)→Option (((List (Int×Unit))×Int×Int) ⊕ ((List Int×(List (Int×Unit))×Int) ⊕ (((List (Int×Unit))×Int) ⊕ (List Int×Bool))))
 | (a4,a3,a2)=>bif decide (a2 < (((idx a1 a0).args).length:Int)) then must (0≤a2∧a2 < (((idx a1 a0).args).length:Int)) (bif nD a4 (idx ((idx a1 a0).args) a2) then nM a2 (yg a4 (idx ((idx a1 a0).args) a2)) (w64 (a3 + 1)) else (nM a2 a4 a3)) else (bif decide (a3 > 0) then nN a1 a5 a0 a4 a3 (decide (a3 < (((idx a1 a0).args).length:Int))) else (nN a1 a5 a0 a4 a3 false))
noncomputable def qH (a1:List aA):(List Int×(List (Int×Unit))×Int)→Option ((List Int×(List (Int×Unit))×Int) ⊕ (((List (Int×Unit))×Int) ⊕ (List Int×Bool)))
 | (a2,a3,a0)=>bif decide (a0 < (a1.length:Int)) then must (0≤a0∧a0 < (a1.length:Int)) (iter (qG a1 a2 a0) (a3,0,0)) else (bif decide ((a3.length:Int) > 0) then out (out (some (([]:List Int),false))) else (out (out (some (a2,true)))))
noncomputable def qI (a0:List Int) (a1:List aA):((List (Int×Unit))×Int)→Option (((List (Int×Unit))×Int) ⊕ (List Int×Bool))
 | (a3,a2)=>bif decide (a2 < (a0.length:Int)) then must (0≤a2∧a2 < (a0.length:Int)) (some (.inl (gL a3 (idx a0 a2) (),w64 (a2 + 1)))) else (iter (qH a1) ([],a3,0))
noncomputable def bD (a0:List Int) (a1:List aA):Option (List Int×Bool) :=
 iter (qI a0 a1) ([],0)
noncomputable def kN (a0:History) (a1:Ask):Option (List Int×Bool) :=
 (dZ a0 a1.Key).bind fun a2=>bif (a2 == 2) then (bI a0 a1).bind fun a5=>(dF a1.Base a5).bind fun a4=>some (a4.1,a4.2) else (bif (a2 == 3) then (bI a0 a1).bind fun a6=>(bD a1.Base a6).bind fun a3=>some (a3.1,a3.2) else (some (([]:List Int),false)))
noncomputable def kT (a0:Int) (a2:Int) (a3:List aA) (a4:Int) (rec:Int→Int→Int→(List aA)→Int→Int→Option Int) (a6:Int):(Int×Int)→Option ((Int×Int) ⊕ Int)
 | (a5,a1)=>bif decide (a1 < (((idx a3 a0).args).length:Int)) then must (0≤a1∧a1 < (((idx a3 a0).args).length:Int)) (some (.inl (w64 (a5 + (idx ((idx a3 a0).args) a1)),w64 (a1 + 1)))) else (must (0≤a0∧a0 < (far:Int)) ((rec (w64 (a0 + 1)) a5 (bOr .u64 a2 (yf .u64 1 a0)) a3 a4 a6).bind fun a7=>out (some a7)))
noncomputable def gY (rec:Int→Int→Int→(List aA)→Int→Int→Option Int) (a0:Int) (a1:Int) (a2:Int) (a3:List aA) (a4:Int) (a5:Int):Option Int :=
 bif (a0 == (a3.length:Int)) then bif (a1 == a4) then some (bOr .u64 a5 a2) else (some a5) else ((rec (w64 (a0 + 1)) a1 a2 a3 a4 a5).bind fun a6=>must (0≤a0∧a0 < (a3.length:Int)) (iter (kT a0 a2 a3 a4 rec a6) (a1,0)))
noncomputable def eu:Nat→Int→Int→Int→(List aA)→Int→Int→Option Int
 | 0=>fun _ _ _ _ _ _=>none
 | k + 1=>gY (eu k)
noncomputable def aR (a0:Int) (a1:Int) (a2:Int) (a3:List aA) (a4:Int) (a5:Int):Option Int:=eu 64 a0 a1 a2 a3 a4 a5
noncomputable def jQ (a1:Int) (a0:List Int):Option ((List Int×Int) ⊕ (List Int)) :=
 some (.inl (a0,w64 (a1 + 1)))
noncomputable def mf (a1:List aA) (a3:Int):(List Int×Int)→Option ((List Int×Int) ⊕ (List Int))
 | (a2,a0)=>bif decide (a0 < (a1.length:Int)) then must (0≤a0∧a0 < (a1.length:Int)) (must (0≤a0∧a0 < (far:Int)) (bif (xq .u64 (rV .u64 a3 a0) 1 == 1) then must (((a2.length + 1) + (a2.length + 1) / 4 + 192) * 8≤281474976710656∧a2.length + 1≤9223372036854775807) (jQ a0 (a2++([(idx a1 a0).txn]:List Int))) else (jQ a0 a2))) else (out (some a2))
noncomputable def dC (a0:Int) (a1:List aA):Option (List Int) :=
 (aR 0 0 0 a1 a0 0).bind fun a2=>iter (mf a1 a2) ([],0)
noncomputable def dQ (a0:List Int):Option (List Int) :=
 some a0
noncomputable def jR (a0:History) (a1:Ask) (a2:List Int):Option (List Int) :=
 must (0≤(0:Int)∧(0:Int) < (a1.Base.length:Int)) ((bI a0 a1).bind fun a4=>(dC (idx a1.Base (0:Int)) a4).bind fun a3=>must (((a2.length + a3.length) + (a2.length + a3.length) / 4 + 192) * 8≤281474976710656∧a2.length + a3.length≤9223372036854775807) (dQ (a2++a3)))
noncomputable def jS (a0:Int) (a1:List Int):Option ((List Int×Int) ⊕ (List Int)) :=
 some (.inl (a1,w64 (a0 + 1)))
noncomputable def jT (a1:Ask) (a2:List aA):(List Int×Int)→Option ((List Int×Int) ⊕ (List Int))
 | (a3,a0)=>bif decide (a0 < (a2.length:Int)) then must (0≤a0∧a0 < (a2.length:Int)) (must (0≤w64 ((((idx a2 a0).args).length:Int) - 1)∧w64 ((((idx a2 a0).args).length:Int) - 1) < (((idx a2 a0).args).length:Int)) (must (0≤(0:Int)∧(0:Int) < (a1.Base.length:Int)) (bif (idx ((idx a2 a0).args) (w64 ((((idx a2 a0).args).length:Int) - 1)) == idx a1.Base (0:Int)) then must (((a3.length + 1) + (a3.length + 1) / 4 + 192) * 8≤281474976710656∧a3.length + 1≤9223372036854775807) (jS a0 (a3++([(idx a2 a0).txn]:List Int))) else (jS a0 a3)))) else (out (dQ a3))
noncomputable def aK (a0:History) (a1:Ask):Option (List Int) :=
 (dZ a0 a1.Key).bind fun a3=>bif (a3 == 4) then must (0≤(0:Int)∧(0:Int) < (a1.Base.length:Int)) (bif (idx a1.Base (0:Int) == 0) then must (((0 + 1) + (0 + 1) / 4 + 192) * 8≤281474976710656∧0 + 1≤9223372036854775807) (jR a0 a1 (([]:List Int)++([(-1)]:List Int))) else (jR a0 a1 [])) else (bif ((a1.Base.length:Int) == 0) then dQ ([(-1)]:List Int) else (bif (a3 == 1) then (bI a0 a1).bind fun a5=>iter (jT a1 a5) ([],0) else (bif (a3 == 2) then (kN a0 a1).bind fun a2=>bif a2.2 then must (0≤(w64 ((a2.1.length:Int) - 1))∧(w64 ((a2.1.length:Int) - 1))≤(a2.1.length:Int)∧(a2.1.length:Int)≤(a2.1.length:Int)) (dQ (gF a2.1 (w64 ((a2.1.length:Int) - 1)) (a2.1.length:Int))) else (dQ []) else ((kN a0 a1).bind fun a4=>dQ a4.1))))
noncomputable def mg (a0:Ask) (a1:History):Option Bool :=
 (aK a1 a0).bind fun y7=>some (decide ((y7.length:Int) > 0))
noncomputable def fQ (a0:List Ask) (a1c0:History):Int→Option (Int ⊕ Int)
 | a1=>bif decide (a1 < (a0.length:Int)) then must (0≤a1∧a1 < (a0.length:Int)) ((mg (idx a0 a1) a1c0).bind fun a2=>bif a2 then out (some a1) else (some (.inl (w64 (a1 + 1))))) else (out (some (-1)))
noncomputable def bT (a0:List Ask) (a1c0:History):Option Int :=
 iter (fQ a0 a1c0) 0
noncomputable def fK (a0:List Ask) (a1c0:History):List Ask×Int→Option ((List Ask×Int) ⊕ List Ask)
 | (l,x)=>bif decide (x < (a0.length:Int)) then must (0≤x∧x < (a0.length:Int)) ((mg (idx a0 x) a1c0).bind fun y=>bif !y then (some (.inl (l++[idx a0 x],w64 (x + 1)))) else (some (.inl (l,w64 (x + 1))))) else (out (some l))
noncomputable def bN (a0:List Ask) (a1c0:History):Option (List Ask) :=
 (bT a0 a1c0).bind fun i=>bif i == -1 then some a0 else must (0≤i∧i < (a0.length:Int)) (iter (fK a0 a1c0) (a0.take i.toNat,w64 (i + 1)))
noncomputable def ry (a0:History):Option (List Ask×Int) :=
 (gz a0).bind fun y7=>bif (y7.2 != 0) then some (([]:List Ask),y7.2) else ((bN y7.1 a0).bind fun a1=>some (a1,0))
noncomputable def ko (a0:Ask) (a1:Ask):Option Bool :=
 bif (a1.Txn == a0.Txn) then bif (a1.Place == a0.Place) then bif (a1.Key == a0.Key) then (dL a1.Base a0.Base).bind fun a2=>some a2 else (some false) else (some false) else (some false)
noncomputable def dU (a0:List Ask) (a1c0:Ask):Int→Option (Int ⊕ Int)
 | a1=>bif decide (a1 < (a0.length:Int)) then must (0≤a1∧a1 < (a0.length:Int)) ((ko (idx a0 a1) a1c0).bind fun a2=>bif a2 then out (some a1) else (some (.inl (w64 (a1 + 1))))) else (out (some (-1)))
noncomputable def aX (a0:List Ask) (a1c0:Ask):Option Int :=
 iter (dU a0 a1c0) 0
noncomputable def bX (a0:List Ask) (a1c0:Ask):Option Bool :=
 (aX a0 a1c0).bind fun y3=>some (decide (y3 ≥ 0))
noncomputable def ji (a0:History) (a1:Ask):Option Int :=
 (gz a0).bind fun y9=>bif (y9.2 != 0) then some y9.2 else ((bX y9.1 a1).bind fun a2=>bif a2 then some 0 else (some 1))
noncomputable def dV (a0:History) (a1:Ask):Option (List Int×Int) :=
 (ji a0 a1).bind fun a2=>bif (a2 != 0) then some (([]:List Int),a2) else ((aK a0 a1).bind fun a3=>some (a3,0))
noncomputable def iG:Option Bool :=
 (dV (⟨([(⟨#[120]⟩:ByteArray)]:List ByteArray),([(⟨0,1,0,1,([(⟨1,0,5,false,([]:List Int)⟩:Op)]:List Op)⟩:Txn),(⟨0,1,2,3,([(⟨5,0,0,true,([5]:List Int)⟩:Op)]:List Op)⟩:Txn)]:List Txn)⟩:History) (⟨1,0,0,([5]:List Int)⟩:Ask)).bind fun a0=>(ry (⟨([(⟨#[120]⟩:ByteArray)]:List ByteArray),([(⟨0,1,0,1,([(⟨1,0,5,false,([]:List Int)⟩:Op)]:List Op)⟩:Txn),(⟨0,1,2,3,([(⟨5,0,0,true,([5]:List Int)⟩:Op)]:List Op)⟩:Txn)]:List Txn)⟩:History)).bind fun a1=>bif (a0.2 == 0) then bif ((a0.1.length:Int) == 1) then must (0≤(0:Int)∧(0:Int) < (a0.1.length:Int)) (bif (idx a0.1 (0:Int) == 0) then bif (a1.2 == 0) then some ((a1.1.length:Int) == 0) else (some false) else (some false)) else (some false) else (some false)
noncomputable def gT (a1:Int) (a0:List Ask×Int) (a2:Bool):Option (Ask×Bool) :=
 bif a2 then some ((⟨0,0,0,([]:List Int)⟩:Ask),false) else (must ((IntKind.wrap .u64 ((a0.1.length:Int)))≠0) (must (0≤w64 ((IntKind.wrap .u64 (a1)).tmod (IntKind.wrap .u64 ((a0.1.length:Int))))∧w64 ((IntKind.wrap .u64 (a1)).tmod (IntKind.wrap .u64 ((a0.1.length:Int)))) < (a0.1.length:Int)) (some ((idx a0.1 (w64 ((IntKind.wrap .u64 (a1)).tmod (IntKind.wrap .u64 ((a0.1.length:Int)))))),true))))
noncomputable def dG (a0:History) (a1:Int):Option (Ask×Bool) :=
 (gz a0).bind fun a2=>bif (a2.2 != 0) then gT a1 a2 true else (gT a1 a2 ((a2.1.length:Int) == 0))
noncomputable def kU (a0:History) (a4:List Txn) (a1:Int):(List Op×Int)→Option ((List Op×Int) ⊕ ((List Txn×Int) ⊕ History))
 | (a3,a2)=>bif decide (a2 < (((idx a0.Txns a1).Ops).length:Int)) then must (0≤a2∧a2 < (((idx a0.Txns a1).Ops).length:Int)) (must (((0 + (((idx ((idx a0.Txns a1).Ops) a2).Vals).length)) + (0 + (((idx ((idx a0.Txns a1).Ops) a2).Vals).length)) / 4 + 192) * 8≤281474976710656∧0 + (((idx ((idx a0.Txns a1).Ops) a2).Vals).length)≤9223372036854775807) (must (((a3.length + 1) + (a3.length + 1) / 4 + 192) * 56≤281474976710656∧a3.length + 1≤9223372036854775807) (some (.inl (a3++([(⟨(idx ((idx a0.Txns a1).Ops) a2).Kind,(idx ((idx a0.Txns a1).Ops) a2).Key,(idx ((idx a0.Txns a1).Ops) a2).Arg,(idx ((idx a0.Txns a1).Ops) a2).Got,([]:List Int)++((idx ((idx a0.Txns a1).Ops) a2).Vals)⟩:Op)]:List Op),w64 (a2 + 1)))))) else (must (((a4.length + 1) + (a4.length + 1) / 4 + 192) * 56≤281474976710656∧a4.length + 1≤9223372036854775807) (out (some (.inl (a4++([(⟨(idx a0.Txns a1).Proc,(idx a0.Txns a1).Status,(idx a0.Txns a1).From,(idx a0.Txns a1).To,a3⟩:Txn)]:List Txn),w64 (a1 + 1))))))
noncomputable def kV (a0:History):(List Txn×Int)→Option ((List Txn×Int) ⊕ History)
 | (a2,a1)=>bif decide (a1 < (a0.Txns.length:Int)) then must (0≤a1∧a1 < (a0.Txns.length:Int)) (iter (kU a0 a2 a1) ([],0)) else (out (some (⟨([]:List ByteArray)++a0.Keys,a2⟩:History)))
noncomputable def cZ (a0:History):Option History :=
 must (((0 + a0.Keys.length) + (0 + a0.Keys.length) / 4 + 192) * 16≤281474976710656∧0 + a0.Keys.length≤9223372036854775807) (iter (kV a0) ([],0))
noncomputable def mh (a0:List Int) (a1:Int):Int→Option (Int ⊕ Bool)
 | a2=>bif decide (a2 < (a0.length:Int)) then must (0≤a2∧a2 < (a0.length:Int)) (bif (idx a0 a2 == a1) then out (some true) else (some (.inl (w64 (a2 + 1))))) else (out (some false))
noncomputable def dI (a0:List Int) (a1:Int):Option Bool :=
 iter (mh a0 a1) 0
noncomputable def ik (a1:List Int×Int) (a3:List Int×Int):Int→Option (Int ⊕ Bool)
 | a0=>bif decide (a0 < (a1.1.length:Int)) then must (0≤a0∧a0 < (a1.1.length:Int)) ((dI a3.1 (idx a1.1 a0)).bind fun a2=>bif !a2 then out (some false) else (some (.inl (w64 (a0 + 1))))) else (out (some true))
noncomputable def fA (a1:List Int×Int) (a0:List Int×Int) (a2:Bool):Option Bool :=
 bif a2 then some (a1.2 == 0) else (bif (a0.2 != 0) then some false else (iter (ik a1 a0) 0))
noncomputable def fB (a0:History) (a2:Txn) (a4:Ask×Bool) (a6:Bool):Option Bool :=
 bif a6 then some true else ((cZ a0).bind fun a1=>must (((a1.Txns.length + 1) + (a1.Txns.length + 1) / 4 + 192) * 56≤281474976710656∧a1.Txns.length + 1≤9223372036854775807) ((dV a0 a4.1).bind fun a3=>(dV (⟨a1.Keys,a1.Txns++([a2]:List Txn)⟩:History) a4.1).bind fun a5=>bif (a3.2 != 0) then fA a3 a5 true else ((aB (⟨a1.Keys,a1.Txns++([a2]:List Txn)⟩:History)).bind fun a7=>fA a3 a5 (a7 != 0))))
noncomputable def aN (a0:History) (a1:Int) (a2:Txn):Option Bool :=
 (iG).bind fun a4=>bif !a4 then some false else ((dG a0 a1).bind fun a3=>bif !a3.2 then fB a0 a2 a3 true else (fB a0 a2 a3 (a2.Status != 3)))
noncomputable def Aj (a0:History) (a1:Ask):Option (List Int×Bool×Int) :=
 (ji a0 a1).bind fun a3=>bif (a3 != 0) then some (([]:List Int),false,a3) else ((kN a0 a1).bind fun a2=>some (a2.1,a2.2,0))
noncomputable def sV (a0:Unit):Option (List Int) :=
 some ([]:List Int)
noncomputable def wL (a0:Unit):Option (List Int) :=
 some ([]:List Int)
noncomputable def xR (a0:Unit):Option (List Int) :=
 some ([]:List Int)
noncomputable def uF (a0:Unit):Option (List Int) :=
 some ([0]:List Int)
noncomputable def Bl (a0:Int):Option (List Int×Int) :=
 (gG a0).bind fun y8=>bif (y8 == (171:Int)) then (sV ()).bind fun a4=>some (a4,0) else (bif (y8 == (172:Int)) then (wL ()).bind fun a1=>some (a1,0) else (bif (y8 == (173:Int)) then (xR ()).bind fun a2=>some (a2,0) else (bif (y8 == (174:Int)) then (uF ()).bind fun a3=>some (a3,0) else (bif (y8 == ((-1):Int)) then some (([]:List Int),1) else none))))
noncomputable def uG (a0:Unit) (a1:List Int) (a2:Int):Option (List Int) :=
 some ([a2]:List Int)
noncomputable def xS (a0:Unit) (a1:List Int) (a2:Int):Option (List Int) :=
 (dh a1).bind fun a3=>must (((a3.length + 1) + (a3.length + 1) / 4 + 192) * 8≤281474976710656∧a3.length + 1≤9223372036854775807) (some (a3++([a2]:List Int)))
noncomputable def uH (a0:List Int) (a1:Int) (a2:List Int):Option (List Int) :=
 must (0≤a1∧a1≤(a0.length:Int)∧0 < a2.length∧(a0.length + a2.length) * 8≤140737488355328) (some (a0.take a1.toNat++a2++a0.drop a1.toNat))
noncomputable def yC (a0:Unit) (a1:List Int) (a2:Int):Option (List Int) :=
 (aT a1 a2).bind fun y5=>bif y5.2 then (dh a1).bind fun a4=>some a4 else ((dh a1).bind fun a3=>(uH a3 y5.1 ([a2]:List Int)).bind fun a5=>some a5)
noncomputable def uS (a0:Unit) (a1:List Int) (a2:Int):Option (List Int) :=
 must (0≤(0:Int)∧(0:Int) < (a1.length:Int)) (some ([w64 ((idx a1 (0:Int)) + a2)]:List Int))
noncomputable def mi (a0:List Int):Option (List Int×Int) :=
 bif decide ((a0.length:Int) > 64) then some (([]:List Int),2) else (some (a0,0))
noncomputable def lM (a0:Int) (a1:List Int) (a2:Int):Option (List Int×Int) :=
 (gP a0 a1).bind fun y6=>bif (y6 != 0) then some (([]:List Int),y6) else ((gG a0).bind fun a3=>bif (a3 == (171:Int)) then (uG () a1 a2).bind fun a7=>mi a7 else (bif (a3 == (172:Int)) then (xS () a1 a2).bind fun a5=>mi a5 else (bif (a3 == (173:Int)) then (yC () a1 a2).bind fun a4=>mi a4 else (bif (a3 == (174:Int)) then (uS () a1 a2).bind fun a6=>mi a6 else (bif (a3 == ((-1):Int)) then none else none)))))
noncomputable def uM (a0:List Int) (a1:Int):Option (List Int×Int) :=
 some (a0,a1)
noncomputable def zC (a0:Int) (a1:List Int):(List Int×Int×Int)→Option ((List Int×Int×Int) ⊕ (List Int×Int))
 | (a3,a4,a2)=>bif decide (a2 < (a1.length:Int)) then must (0≤a2∧a2 < (a1.length:Int)) (bif (a4 != 0) then out (uM a3 a4) else ((lM a0 a3 (idx a1 a2)).bind fun a5=>some (.inl (a5.1,a5.2,w64 (a2 + 1))))) else (out (uM a3 a4))
noncomputable def nk (a0:Int) (a1:List Int):Option (List Int×Int) :=
 (Bl a0).bind fun y5=>iter (zC a0 a1) (y5.1,y5.2,0)
noncomputable def jb (a0:List Int) (a1:List Int):Int→Option (Int ⊕ Bool)
 | a2=>bif decide (a2 < (a0.length:Int)) then must (0≤a2∧a2 < (a0.length:Int)) (must (0≤a2∧a2 < (a1.length:Int)) (bif (idx a0 a2 != idx a1 a2) then out (some false) else (some (.inl (w64 (a2 + 1)))))) else (out (some true))
noncomputable def bY (a0:List Int) (a1:List Int):Option Bool :=
 bif ((a0.length:Int) != (a1.length:Int)) then some false else (iter (jb a0 a1) 0)
noncomputable def dm (a1:Int) (a0:Bool):Option (Int ⊕ Bool) :=
 bif a0 then out (some false) else (some (.inl (w64 (a1 + 1))))
noncomputable def aV (a1:List Int×Int) (a2:List Int×Bool×Int) (a3:Int) (a0:Int) (a5:Bool):Option (Int ⊕ Bool) :=
 bif a5 then out (some false) else (bif (a3 == 2) then must (0≤a0∧a0 < (a1.1.length:Int)) (bif (idx a1.1 a0 != (-1)) then bif !a2.2.1 then dm a0 true else ((dI a2.1 (idx a1.1 a0)).bind fun a6=>dm a0 (!a6)) else (dm a0 false)) else (bif (a3 == 3) then must (0≤a0∧a0 < (a1.1.length:Int)) (bif (idx a1.1 a0 != (-1)) then bif !a2.2.1 then dm a0 true else ((dI a2.1 (idx a1.1 a0)).bind fun a4=>dm a0 (!a4)) else (dm a0 false)) else (dm a0 false)))
noncomputable def pu (a0:History) (a5:Ask×Bool) (a4:List Int×Bool×Int) (a8:Int):(List Int×Int)→Option ((List Int×Int) ⊕ (Int ⊕ Bool))
 | (a2,a1)=>bif decide (a1 < (a4.1.length:Int)) then must (0≤a1∧a1 < (a4.1.length:Int)) ((fw a0 (idx a4.1 a1) a5.1.Key).bind fun a3=>bif !a3.2 then out (out (some false)) else (must (((a2.length + a3.1.length) + (a2.length + a3.1.length) / 4 + 192) * 8≤281474976710656∧a2.length + a3.1.length≤9223372036854775807) (some (.inl (a2++a3.1,w64 (a1 + 1)))))) else ((nk a8 a2).bind fun a6=>bif (a6.2 == 0) then (bY a6.1 a5.1.Base).bind fun a7=>out (out (some a7)) else (out (out (some false))))
noncomputable def pz (a0:History) (a5:Ask×Bool) (a2:List Int×Int) (a6:List Int) (a4:List Int×Bool×Int) (a3:Int):Int→Option (Int ⊕ Bool)
 | a1=>bif decide (a1 < (a2.1.length:Int)) then bif decide (a1 > 0) then must (0≤a1∧a1 < (a2.1.length:Int)) (must (0≤w64 (a1 - 1)∧w64 (a1 - 1) < (a2.1.length:Int)) (bif decide (idx a2.1 a1≤idx a2.1 (w64 (a1 - 1))) then aV a2 a4 a3 a1 true else (bif (idx a2.1 a1 != (-1)) then bif (idx a2.1 a1 == a5.1.Txn) then aV a2 a4 a3 a1 true else ((dI a6 (idx a2.1 a1)).bind fun a8=>bif !a8 then aV a2 a4 a3 a1 true else (bif decide (a3 < 4) then aV a2 a4 a3 a1 ((idx a2.1 a1 == (-1)) != ((a5.1.Base.length:Int) == 0)) else (aV a2 a4 a3 a1 false))) else (bif decide (a3 < 4) then aV a2 a4 a3 a1 ((idx a2.1 a1 == (-1)) != ((a5.1.Base.length:Int) == 0)) else (aV a2 a4 a3 a1 false))))) else (must (0≤a1∧a1 < (a2.1.length:Int)) (bif (idx a2.1 a1 != (-1)) then bif (idx a2.1 a1 == a5.1.Txn) then aV a2 a4 a3 a1 true else ((dI a6 (idx a2.1 a1)).bind fun a7=>bif !a7 then aV a2 a4 a3 a1 true else (bif decide (a3 < 4) then aV a2 a4 a3 a1 ((idx a2.1 a1 == (-1)) != ((a5.1.Base.length:Int) == 0)) else (aV a2 a4 a3 a1 false))) else (bif decide (a3 < 4) then aV a2 a4 a3 a1 ((idx a2.1 a1 == (-1)) != ((a5.1.Base.length:Int) == 0)) else (aV a2 a4 a3 a1 false)))) else (bif !a4.2.1 then out (some ((a4.1.length:Int) == 0)) else (iter (pu a0 a5 a4 a3) ([],0)))
noncomputable def fe (a0:History) (a1:Ask×Bool) (a3:List Int×Int) (a2:List Int) (a5:List Int×Bool×Int) (a4:Int) (a6:Bool):Option Bool :=
 bif a6 then some false else (iter (pz a0 a1 a3 a2 a5 a4) 0)
noncomputable def ak (a0:History) (a1:Int):Option Bool :=
 (iG).bind fun y8=>bif !y8 then some false else ((dG a0 a1).bind fun a2=>bif !a2.2 then some true else ((dV a0 a2.1).bind fun a3=>(bS a0 a2.1.Key).bind fun a6=>(Aj a0 a2.1).bind fun a5=>(dZ a0 a2.1.Key).bind fun a4=>bif (a3.2 != 0) then fe a0 a2 a3 a6 a5 a4 true else (bif (a5.2.2 != 0) then fe a0 a2 a3 a6 a5 a4 true else (bif (a4 == 2) then fe a0 a2 a3 a6 a5 a4 (decide ((a3.1.length:Int) > 1)) else (fe a0 a2 a3 a6 a5 a4 false)))))
noncomputable def oC (a0:List ByteArray) (a1:ByteArray):Int→Option (Int ⊕ Int)
 | a2=>bif decide (a2 < (a0.length:Int)) then must (0≤a2∧a2 < (a0.length:Int)) (bif sEq (idx a0 a2) a1 then out (some a2) else (some (.inl (w64 (a2 + 1))))) else (out (some (-1)))
noncomputable def eQ (a0:List ByteArray) (a1:ByteArray):Option Int :=
 iter (oC a0 a1) 0
noncomputable def iH (a0:Int) (a1:Bool):Option (Int ⊕ Bool) :=
 bif a1 then out (some false) else (some (.inl (w64 (a0 + 1))))
noncomputable def nQ (a0:List ByteArray):Int→Option (Int ⊕ Bool)
 | a1=>bif decide (a1 < (a0.length:Int)) then must (0≤a1∧a1 < (a0.length:Int)) (bif decide (((idx a0 a1).size:Int) < 1) then iH a1 true else (bif decide (((idx a0 a1).size:Int) > 32) then iH a1 true else (must (0≤(0:Int)∧(0:Int)≤a1∧a1≤(a0.length:Int)) ((eQ (gF a0 (0:Int) a1) (idx a0 a1)).bind fun a2=>iH a1 (decide (a2 ≥ 0)))))) else (out (some (decide ((a0.length:Int)≤32))))
noncomputable def dD (a0:List ByteArray):Option Bool :=
 iter (nQ a0) 0
noncomputable def gZ (a0:Int) (a1:Bool):Option (Int ⊕ Bool) :=
 bif a1 then out (some false) else (some (.inl (w64 (a0 + 1))))
noncomputable def jI (a0:List Txn) (a1:Int):Int→Option (Int ⊕ Bool)
 | a2=>bif decide (a2 < a1) then must (0≤a2∧a2 < (a0.length:Int)) (bif ((idx a0 a2).Proc == (idx a0 a1).Proc) then bif ((idx a0 a2).To == (-1)) then gZ a2 true else (gZ a2 (decide ((idx a0 a2).To ≥ (idx a0 a1).From))) else (gZ a2 false)) else (out (some true))
noncomputable def jJ (a0:List Txn) (a1:Int) (a2:Bool):Option Bool :=
 bif a2 then some false else (iter (jI a0 a1) 0)
noncomputable def dw (a0:List Txn) (a1:Int) (a2:Bool):Option Bool :=
 bif a2 then some false else (bif decide (a1 > 0) then must (0≤w64 (a1 - 1)∧w64 (a1 - 1) < (a0.length:Int)) (jJ a0 a1 (decide ((idx a0 a1).From≤(idx a0 (w64 (a1 - 1))).From))) else (jJ a0 a1 false))
noncomputable def aD (a0:List Txn) (a1:Int):Option Bool :=
 must (0≤a1∧a1 < (a0.length:Int)) (bif decide ((idx a0 a1).Status < 1) then dw a0 a1 true else (bif decide ((idx a0 a1).Status > 3) then dw a0 a1 true else (bif decide ((idx a0 a1).From < 0) then dw a0 a1 true else (bif ((idx a0 a1).To != (-1)) then bif decide ((idx a0 a1).To≤(idx a0 a1).From) then dw a0 a1 true else (bif ((idx a0 a1).To == (-1)) then dw a0 a1 ((idx a0 a1).Status != 3) else (dw a0 a1 false)) else (bif ((idx a0 a1).To == (-1)) then dw a0 a1 ((idx a0 a1).Status != 3) else (dw a0 a1 false))))))
noncomputable def iW (a0:Call):Option Bool :=
 some (decide ((a0.Vals.length:Int)≤64))
noncomputable def kW (a0:Call):Int→Option (Int ⊕ Bool)
 | a1=>bif decide (a1 < (a0.Vals.length:Int)) then must (0≤a1∧a1 < (a0.Vals.length:Int)) (must (0≤w64 (a1 - 1)∧w64 (a1 - 1) < (a0.Vals.length:Int)) (bif decide (idx a0.Vals a1≤idx a0.Vals (w64 (a1 - 1))) then out (some false) else (some (.inl (w64 (a1 + 1)))))) else (out (iW a0))
noncomputable def gI (a0:Call) (a1:Bool):Option Bool :=
 bif a1 then some false else (bif (a0.Kind == 5) then some (decide ((a0.Vals.length:Int)≤1)) else (bif (a0.Kind == 8) then bif !a0.Got then some true else (some ((a0.Vals.length:Int) == 1)) else (bif (a0.Kind == 7) then iter (kW a0) 1 else (iW a0))))
noncomputable def gJ (a0:Call) (a1:Int) (a2:Bool):Option Bool :=
 bif a2 then some false else (bif decide (a0.Kind≤4) then bif !a0.Got then bif ((a0.Vals.length:Int) == 0) then bif (a0.Kind != 4) then some true else (bif decide (a0.Arg ≥ (-1048576)) then some (decide (a0.Arg≤1048576)) else (some false)) else (some false) else (some false) else (bif (a0.Arg != 0) then gI a0 true else (bif (a0.Got != (a1 == 1)) then gI a0 true else (bif !a0.Got then gI a0 (decide ((a0.Vals.length:Int) > 0)) else (gI a0 false)))))
noncomputable def aS (a0:Call) (a1:Int):Option Bool :=
 bif decide (a0.Kind < 1) then gJ a0 a1 true else (bif decide (a0.Kind > 8) then gJ a0 a1 true else (bif decide ((a0.Key.size:Int) < 1) then gJ a0 a1 true else (gJ a0 a1 (decide ((a0.Key.size:Int) > 32)))))
noncomputable def kr (a0:Event):Int→Option (Int ⊕ Bool)
 | a1=>bif decide (a1 < (a0.Calls.length:Int)) then must (0≤a1∧a1 < (a0.Calls.length:Int)) ((aS (idx a0.Calls a1) a0.Kind).bind fun a2=>bif !a2 then out (some false) else (some (.inl (w64 (a1 + 1))))) else (out (some true))
noncomputable def iI (a0:Event) (b9:Bool):Option Bool :=
 bif b9 then some false else (iter (kr a0) 0)
noncomputable def cz (a0:Event):Option Bool :=
 bif decide (a0.Kind < 0) then iI a0 true else (bif decide (a0.Kind > 3) then iI a0 true else (iI a0 (decide ((a0.Calls.length:Int) > 16))))
noncomputable def nR (a0:List Event):Int→Option (Int ⊕ Int)
 | a1=>bif decide (a1 < (a0.length:Int)) then must (0≤a1∧a1 < (a0.length:Int)) ((cz (idx a0 a1)).bind fun a2=>bif !a2 then out (some 1) else (some (.inl (w64 (a1 + 1))))) else (out (some 0))
noncomputable def fU (a0:List Event):Option Int :=
 bif decide ((a0.length:Int) > 256) then some 1 else (iter (nR a0) 0)
noncomputable def ku (a0:Int):Option Int :=
 some (w64 (((w64 (a0 - 1)).tmod (4:Int)) + 1))
noncomputable def fC (a1:List ByteArray) (a0:List Int) (a3:List (List Int)) (a2:List Int) (a4:List Int):Option (Int×ay) :=
 some (0,(⟨a1,a0,a3,a2,a4⟩:ay))
noncomputable def fD (a2:Int) (a5:List ByteArray) (a4:List Int) (a1:List Int) (a3:List Int) (a0:Int) (a6:List (List Int)) (a7:Bool):Option (Int×ay) :=
 bif a7 then must (0≤a0∧a0 < (a3.length:Int)) (must (0≤a0∧a0 < (a1.length:Int)) (bif decide (idx (a1.set a0.toNat (w64 ((idx a1 a0) + 1))) a0 > 8) then some (51,(⟨a5,a4,a6,a1.set a0.toNat (w64 ((idx a1 a0) + 1)),a3.set a0.toNat a2⟩:ay)) else (fC a5 a4 a6 (a1.set a0.toNat (w64 ((idx a1 a0) + 1))) (a3.set a0.toNat a2)))) else (fC a5 a4 a6 a1 a3)
noncomputable def dY (a1:Call) (a2:Int) (a5:List ByteArray) (a4:List Int) (a6:List Int) (a3:List Int) (a0:Int) (a7:List (List Int)):Option (Int×ay) :=
 bif (a1.Kind == 4) then must (0≤a0∧a0 < (a3.length:Int)) (fD a2 a5 a4 a6 a3 a0 a7 (idx a3 a0 != a2)) else (fD a2 a5 a4 a6 a3 a0 a7 false)
noncomputable def iq (a1:Call) (a2:Int) (a6:List ByteArray) (a5:List Int) (a3:List (List Int)) (a7:List Int) (a8:List Int) (a0:Int):Int→Option (Int ⊕ (Int×ay))
 | a4=>must (0≤a0∧a0 < (a3.length:Int)) (bif decide (a4 < ((idx a3 a0).length:Int)) then must (0≤a4∧a4 < ((idx a3 a0).length:Int)) (bif (idx (idx a3 a0) a4 == a1.Arg) then out (some (3,(⟨a6,a5,a3,a7,a8⟩:ay))) else (some (.inl (w64 (a4 + 1))))) else (must (((((idx a3 a0).length) + 1) + (((idx a3 a0).length) + 1) / 4 + 192) * 8≤281474976710656∧((idx a3 a0).length) + 1≤9223372036854775807) (out (dY a1 a2 a6 a5 a7 a8 a0 (a3.set a0.toNat ((idx a3 a0)++([a1.Arg]:List Int)))))))
noncomputable def iw (a1:Call) (a2:Int) (a4:List ByteArray) (a3:List Int) (a0:List (List Int)) (a6:List Int) (a7:List Int) (a5:Int) (a8:Bool):Option (Int×ay) :=
 bif a8 then iter (iq a1 a2 a4 a3 a0 a6 a7 a5) 0 else (dY a1 a2 a4 a3 a6 a7 a5 a0)
noncomputable def dK (a1:Call) (a2:Int) (a5:List ByteArray) (a0:List Int) (a4:List (List Int)) (a6:List Int) (a7:List Int) (a3:Int):Option (Int×ay) :=
 must (0≤a3∧a3 < (a0.length:Int)) ((ku a1.Kind).bind fun a8=>bif (idx a0 a3 != a8) then some (50,(⟨a5,a0,a4,a6,a7⟩:ay)) else (bif (a1.Kind == 2) then iw a1 a2 a5 a0 a4 a6 a7 a3 true else (iw a1 a2 a5 a0 a4 a6 a7 a3 (a1.Kind == 3))))
noncomputable def iy (a0:ay) (a1:Call) (a2:Int) (a3:List Int):Option (Int×ay) :=
 must (((a0.wrote.length + 1) + (a0.wrote.length + 1) / 4 + 192) * 24≤281474976710656∧a0.wrote.length + 1≤9223372036854775807) (must (((a0.incs.length + 1) + (a0.incs.length + 1) / 4 + 192) * 8≤281474976710656∧a0.incs.length + 1≤9223372036854775807) (must (((a0.last_.length + 1) + (a0.last_.length + 1) / 4 + 192) * 8≤281474976710656∧a0.last_.length + 1≤9223372036854775807) (dK a1 a2 (a0.keys++([a1.Key]:List ByteArray)) a3 (a0.wrote++([([]:List Int)]:List (List Int))) (a0.incs++([0]:List Int)) (a0.last_++([(-1)]:List Int)) (a0.keys.length:Int))))
noncomputable def iA (a0:ay) (a1:Call) (a2:Int):Option (Int×ay) :=
 (ku a1.Kind).bind fun a3=>must (((a0.types.length + 1) + (a0.types.length + 1) / 4 + 192) * 8≤281474976710656∧a0.types.length + 1≤9223372036854775807) (iy a0 a1 a2 (a0.types++([a3]:List Int)))
noncomputable def ag (a0:ay) (a1:Call) (a2:Int):Option (Int×ay) :=
 (eQ a0.keys a1.Key).bind fun y5=>bif decide (y5 < 0) then bif decide ((a0.keys.length:Int) ≥ 32) then some (2,a0) else (must (((a0.keys.length + 1) + (a0.keys.length + 1) / 4 + 192) * 16≤281474976710656∧a0.keys.length + 1≤9223372036854775807) (iA a0 a1 a2)) else (dK a1 a2 a0.keys a0.types a0.wrote a0.incs a0.last_ y5)
noncomputable def nS (a0:History) (a2:Int) (a3:List Call) (a1:Int):Option ((List Call×Int) ⊕ ((List ByteArray×List Int×(List (List Int))×List Int×List Int×Int) ⊕ Int)) :=
 some (.inl (a3++([(⟨(idx ((idx a0.Txns a2).Ops) a1).Kind,idx a0.Keys ((idx ((idx a0.Txns a2).Ops) a1).Key),(idx ((idx a0.Txns a2).Ops) a1).Arg,(idx ((idx a0.Txns a2).Ops) a1).Got,(idx ((idx a0.Txns a2).Ops) a1).Vals⟩:Call)]:List Call),w64 (a1 + 1)))
noncomputable def kw (a0:History) (a2:Int) (a1:List Call) (a3:Int) (a4:Bool):Option ((List Call×Int) ⊕ ((List ByteArray×List Int×(List (List Int))×List Int×List Int×Int) ⊕ Int)) :=
 bif a4 then out (out (some 1)) else (must (0≤(idx ((idx a0.Txns a2).Ops) a3).Key∧(idx ((idx a0.Txns a2).Ops) a3).Key < (a0.Keys.length:Int)) (must (((a1.length + 1) + (a1.length + 1) / 4 + 192) * 64≤281474976710656∧a1.length + 1≤9223372036854775807) (nS a0 a2 a1 a3)))
noncomputable def eT (a3:Int) (a2:List Call):(List ByteArray×List Int×(List (List Int))×List Int×List Int×Int)→Option ((List ByteArray×List Int×(List (List Int))×List Int×List Int×Int) ⊕ ((List Call×Int) ⊕ ((List ByteArray×List Int×(List (List Int))×List Int×List Int×Int) ⊕ Int)))
 | (a7,a5,a6,a8,a4,a1)=>bif decide (a1 < (a2.length:Int)) then must (0≤a1∧a1 < (a2.length:Int)) ((ag (⟨a7,a5,a6,a8,a4⟩:ay) (idx a2 a1) a3).bind fun a0=>bif (a0.1 != 0) then out (out (out (some 1))) else (some (.inl (a0.2.keys,a0.2.types,a0.2.wrote,a0.2.incs,a0.2.last_,w64 (a1 + 1))))) else (out (out (some (.inl (a7,a5,a6,a8,a4,w64 (a3 + 1))))))
noncomputable def eU (a0:History) (a9:List ByteArray) (a7:List Int) (a5:List (List Int)) (a6:List Int) (a8:List Int) (a1:Int):(List Call×Int)→Option ((List Call×Int) ⊕ ((List ByteArray×List Int×(List (List Int))×List Int×List Int×Int) ⊕ Int))
 | (a3,a2)=>bif decide (a2 < (((idx a0.Txns a1).Ops).length:Int)) then must (0≤a2∧a2 < (((idx a0.Txns a1).Ops).length:Int)) (bif decide ((idx ((idx a0.Txns a1).Ops) a2).Key < 0) then kw a0 a1 a3 a2 true else (kw a0 a1 a3 a2 (decide ((idx ((idx a0.Txns a1).Ops) a2).Key ≥ (a0.Keys.length:Int))))) else ((fU ([(⟨0,(idx a0.Txns a1).Status,a3⟩:Event)]:List Event)).bind fun a4=>bif (a4 != 0) then out (out (some 1)) else (iter (eT a1 a3) (a9,a7,a5,a6,a8,0)))
noncomputable def iJ (a0:History) (a7:List ByteArray) (a4:List Int) (a2:List (List Int)) (a3:List Int) (a6:List Int) (a1:Int) (a5:Bool):Option ((List ByteArray×List Int×(List (List Int))×List Int×List Int×Int) ⊕ Int) :=
 bif a5 then out (some 1) else (iter (eU a0 a7 a4 a2 a3 a6 a1) ([],0))
noncomputable def iK (a0:History):(List ByteArray×List Int×(List (List Int))×List Int×List Int×Int)→Option ((List ByteArray×List Int×(List (List Int))×List Int×List Int×Int) ⊕ Int)
 | (a6,a4,a2,a3,a5,a1)=>bif decide (a1 < (a0.Txns.length:Int)) then must (0≤a1∧a1 < (a0.Txns.length:Int)) ((aD a0.Txns a1).bind fun a7=>bif !a7 then iJ a0 a6 a4 a2 a3 a5 a1 true else (iJ a0 a6 a4 a2 a3 a5 a1 (decide ((((idx a0.Txns a1).Ops).length:Int) > 16)))) else (out (some 0))
noncomputable def fT (a0:History) (a1:Bool):Option Int :=
 bif a1 then some 1 else (iter (iK a0) ([],[],[],[],[],0))
noncomputable def ai (a0:History):Option Int :=
 (dD a0.Keys).bind fun a1=>bif !a1 then fT a0 true else (fT a0 (decide ((a0.Txns.length:Int) > 32)))
noncomputable def jk (a0:Int):Option Bool :=
 some (decide (a0≤4))
noncomputable def iL (a0:Bool):Option Int :=
 bif !a0 then some 80 else (some 0)
noncomputable def nT (a1:Int) (a0:Bool):Option ((Bool×Int) ⊕ Int) :=
 some (.inl (a0,w64 (a1 + 1)))
noncomputable def sW (a1:List Int):(Bool×Int)→Option ((Bool×Int) ⊕ Int)
 | (a2,a0)=>bif decide (a0 < (a1.length:Int)) then bif a2 then must (0≤w64 (a0 - 1)∧w64 (a0 - 1) < (a1.length:Int)) (must (0≤a0∧a0 < (a1.length:Int)) (nT a0 (decide (idx a1 (w64 (a0 - 1)) < idx a1 a0)))) else (nT a0 false) else (out (iL a2))
noncomputable def nU (a0:Int) (a1:List Int) (b5:Bool):Option Int :=
 bif b5 then some 1 else (bif (a0 == 1) then iL (decide ((a1.length:Int)≤1)) else (bif (a0 == 4) then iL ((a1.length:Int) == 1) else (bif (a0 == 3) then iter (sW a1) (decide ((a1.length:Int)≤64),1) else (iL (decide ((a1.length:Int)≤64))))))
noncomputable def bU (a0:Int) (a1:List Int):Option Int :=
 bif decide (a0 < 1) then nU a0 a1 true else (nU a0 a1 (decide (a0 > 4)))
noncomputable def vF (a0:List Int) (a1:Int):Int→Option (Int ⊕ Bool)
 | a2=>bif decide (a2 < (a0.length:Int)) then must (0≤a2∧a2 < (a0.length:Int)) (bif (idx a0 a2 == a1) then out (some true) else (some (.inl (w64 (a2 + 1))))) else (out (some false))
noncomputable def ky (a0:List Int) (a1:Int):Option Bool :=
 iter (vF a0 a1) 0
noncomputable def sH (a2:List Int):(Int×Int)→Option ((Int×Int) ⊕ (List Int×Bool))
 | (a1,a0)=>bif decide (a0 < (a2.length:Int)) then must (0≤a0∧a0 < (a2.length:Int)) (some (.inl (w64 (a1 - (idx a2 a0)),w64 (a0 + 1)))) else (out (some (([a1]:List Int),true)))
noncomputable def sI (a1:List Int) (a2:List Int):Int→Option (Int ⊕ (List Int×Bool))
 | a0=>bif decide (a0 < (a2.length:Int)) then must (0≤w64 ((w64 ((a1.length:Int) - (a2.length:Int))) + a0)∧w64 ((w64 ((a1.length:Int) - (a2.length:Int))) + a0) < (a1.length:Int)) (must (0≤a0∧a0 < (a2.length:Int)) (bif (idx a1 (w64 ((w64 ((a1.length:Int) - (a2.length:Int))) + a0)) != idx a2 a0) then out (some (([]:List Int),false)) else (some (.inl (w64 (a0 + 1)))))) else (must (0≤(0:Int)∧(0:Int)≤(w64 ((a1.length:Int) - (a2.length:Int)))∧(w64 ((a1.length:Int) - (a2.length:Int)))≤(a1.length:Int)) (must (((0 + ((gF a1 (0:Int) (w64 ((a1.length:Int) - (a2.length:Int)))).length)) + (0 + ((gF a1 (0:Int) (w64 ((a1.length:Int) - (a2.length:Int)))).length)) / 4 + 192) * 8≤281474976710656∧0 + ((gF a1 (0:Int) (w64 ((a1.length:Int) - (a2.length:Int)))).length)≤9223372036854775807) (out (some (([]:List Int)++(gF a1 (0:Int) (w64 ((a1.length:Int) - (a2.length:Int)))),true)))))
noncomputable def mP (a1:Int) (a0:Bool):Option (Int ⊕ (List Int×Bool)) :=
 bif a0 then out (some (([]:List Int),false)) else (some (.inl (w64 (a1 + 1))))
noncomputable def mQ (a1:Int) (a0:List Int):Option ((List Int×Int) ⊕ (Int ⊕ (List Int×Bool))) :=
 some (.inl (a0,w64 (a1 + 1)))
noncomputable def sJ (a1:List Int) (a2:List Int):(List Int×Int)→Option ((List Int×Int) ⊕ (Int ⊕ (List Int×Bool)))
 | (a3,a0)=>bif decide (a0 < (a1.length:Int)) then must (0≤a0∧a0 < (a1.length:Int)) ((ky a2 (idx a1 a0)).bind fun a4=>bif !a4 then must (((a3.length + 1) + (a3.length + 1) / 4 + 192) * 8≤281474976710656∧a3.length + 1≤9223372036854775807) (mQ a0 (a3++([idx a1 a0]:List Int))) else (mQ a0 a3)) else (out (out (some (a3,true))))
noncomputable def sK (a1:List Int) (a2:List Int):Int→Option (Int ⊕ (List Int×Bool))
 | a0=>bif decide (a0 < (a2.length:Int)) then must (0≤a0∧a0 < (a2.length:Int)) ((ky a1 (idx a2 a0)).bind fun a4=>bif !a4 then mP a0 true else (must (0≤(0:Int)∧(0:Int)≤a0∧a0≤(a2.length:Int)) ((ky (gF a2 (0:Int) a0) (idx a2 a0)).bind fun a3=>mP a0 a3))) else (iter (sJ a1 a2) ([],0))
noncomputable def mR (a0:Int) (a1:List Int) (a2:List Int) (b9:Bool):Option (List Int×Bool) :=
 bif b9 then some (([]:List Int),false) else (bif (a0 == 1) then bif ((a1.length:Int) == 1) then must (0≤(0:Int)∧(0:Int) < (a1.length:Int)) (must (0≤w64 ((a2.length:Int) - 1)∧w64 ((a2.length:Int) - 1) < (a2.length:Int)) (some (([]:List Int),(idx a1 (0:Int) == idx a2 (w64 ((a2.length:Int) - 1)))))) else (some (([]:List Int),false)) else (bif (a0 == 4) then must (0≤(0:Int)∧(0:Int) < (a1.length:Int)) (iter (sH a2) (idx a1 (0:Int),0)) else (bif (a0 == 2) then bif decide ((a2.length:Int) > (a1.length:Int)) then some (([]:List Int),false) else (iter (sI a1 a2) 0) else (iter (sK a1 a2) 0))))
noncomputable def bf (a0:Int) (a1:List Int) (a2:List Int):Option (List Int×Bool) :=
 (bU a0 a1).bind fun a3=>bif (a3 != 0) then mR a0 a1 a2 true else (mR a0 a1 a2 ((a2.length:Int) == 0))
noncomputable def jU (a1:Int) (a0:List Ask) (a2:List fE):Option ((List Ask×List fE×Int) ⊕ (List Ask×List fE)) :=
 some (.inl (a0,a2,w64 (a1 + 1)))
noncomputable def qi (a0:Int) (a1:List Int):Option ((List Int×Int) ⊕ ((List Ask×List fE×Int) ⊕ (List Ask×List fE))) :=
 some (.inl (a1,w64 (a0 + 1)))
noncomputable def qj (a0:History) (a1:Int) (a3:List Int) (a2:Int) (a4:Bool):Option ((List Int×Int) ⊕ ((List Ask×List fE×Int) ⊕ (List Ask×List fE))) :=
 bif a4 then must (0≤a2∧a2 < (((idx a0.Txns a1).Ops).length:Int)) (must (((a3.length + 1) + (a3.length + 1) / 4 + 192) * 8≤281474976710656∧a3.length + 1≤9223372036854775807) (qi a2 (a3++([(idx ((idx a0.Txns a1).Ops) a2).Arg]:List Int)))) else (qi a2 a3)
noncomputable def ql (a0:History) (a1:Int) (a2:List Ask) (a4:List fE) (a3:Int) (a5:List Int):Option ((List Int×Int) ⊕ ((List Ask×List fE×Int) ⊕ (List Ask×List fE))) :=
 must (((a2.length + 1) + (a2.length + 1) / 4 + 192) * 48≤281474976710656∧a2.length + 1≤9223372036854775807) (out (jU a3 (a2++([(⟨a1,a3,(idx ((idx a0.Txns a1).Ops) a3).Key,a5⟩:Ask)]:List Ask)) a4))
noncomputable def vG (a0:History) (a1:Int) (a5:List Ask) (a4:List fE) (a2:Int):(List Int×Int)→Option ((List Int×Int) ⊕ ((List Ask×List fE×Int) ⊕ (List Ask×List fE)))
 | (a6,a3)=>bif decide (a3 < a2) then must (0≤a3∧a3 < (((idx a0.Txns a1).Ops).length:Int)) (bif ((idx ((idx a0.Txns a1).Ops) a3).Key == (idx ((idx a0.Txns a1).Ops) a2).Key) then (jk ((idx ((idx a0.Txns a1).Ops) a3).Kind)).bind fun a9=>qj a0 a1 a6 a3 a9 else (qj a0 a1 a6 a3 false)) else (must (((0 + (((idx ((idx a0.Txns a1).Ops) a2).Vals).length)) + (0 + (((idx ((idx a0.Txns a1).Ops) a2).Vals).length)) / 4 + 192) * 8≤281474976710656∧0 + (((idx ((idx a0.Txns a1).Ops) a2).Vals).length)≤9223372036854775807) (bif decide ((a6.length:Int) > 0) then (ku ((idx ((idx a0.Txns a1).Ops) a2).Kind)).bind fun a8=>(bf a8 ((idx ((idx a0.Txns a1).Ops) a2).Vals) a6).bind fun a7=>bif !a7.2 then must (((a4.length + 1) + (a4.length + 1) / 4 + 192) * 16≤281474976710656∧a4.length + 1≤9223372036854775807) (out (jU a2 a5 (a4++([(⟨a1,a2⟩:fE)]:List fE)))) else (bif ((idx ((idx a0.Txns a1).Ops) a2).Kind == 5) then out (jU a2 a5 a4) else (ql a0 a1 a5 a4 a2 a7.1)) else (ql a0 a1 a5 a4 a2 (([]:List Int)++((idx ((idx a0.Txns a1).Ops) a2).Vals)))))
noncomputable def vH (a0:History) (a1:Int):(List Ask×List fE×Int)→Option ((List Ask×List fE×Int) ⊕ (List Ask×List fE))
 | (a4,a3,a2)=>bif decide (a2 < (((idx a0.Txns a1).Ops).length:Int)) then must (0≤a2∧a2 < (((idx a0.Txns a1).Ops).length:Int)) ((jk ((idx ((idx a0.Txns a1).Ops) a2).Kind)).bind fun a5=>bif a5 then jU a2 a4 a3 else (iter (vG a0 a1 a4 a3 a2) ([],0))) else (out (some (a4,a3)))
noncomputable def bM (a0:History) (a1:Int):Option (List Ask×List fE) :=
 must (0≤a1∧a1 < (a0.Txns.length:Int)) (bif ((idx a0.Txns a1).Status != 1) then some (([]:List Ask),([]:List fE)) else (iter (vH a0 a1) ([],[],0)))
noncomputable def uT (a0:History):(List Ask×List fE×Int)→Option ((List Ask×List fE×Int) ⊕ (List Ask×List fE))
 | (a3,a2,a4)=>bif decide (a4 < (a0.Txns.length:Int)) then (bM a0 a4).bind fun a1=>must (((a3.length + a1.1.length) + (a3.length + a1.1.length) / 4 + 192) * 48≤281474976710656∧a3.length + a1.1.length≤9223372036854775807) (must (((a2.length + a1.2.length) + (a2.length + a1.2.length) / 4 + 192) * 16≤281474976710656∧a2.length + a1.2.length≤9223372036854775807) (some (.inl (a3++a1.1,a2++a1.2,w64 (a4 + 1))))) else (out (some (a3,a2)))
noncomputable def oo (a0:History):Option (List Ask×List fE) :=
 iter (uT a0) ([],[],0)
noncomputable def nu (a0:History) (a1:Ask):Option Int :=
 must (0≤a1.Txn∧a1.Txn < (a0.Txns.length:Int)) (must (0≤a1.Place∧a1.Place < (((idx a0.Txns a1.Txn).Ops).length:Int)) ((ku ((idx ((idx a0.Txns a1.Txn).Ops) a1.Place).Kind)).bind fun a2=>some a2))
noncomputable def kz (a1:Int) (a0:List Int):Option ((List Int×Int) ⊕ (List Int)) :=
 some (.inl (a0,w64 (a1 + 1)))
noncomputable def kC (a0:History) (a1:Int) (a2:List Int) (a3:Int) (a4:Bool):Option ((List Int×Int) ⊕ (List Int)) :=
 bif a4 then must (((a2.length + 1) + (a2.length + 1) / 4 + 192) * 8≤281474976710656∧a2.length + 1≤9223372036854775807) (kz a3 (a2++([(idx ((idx a0.Txns a1).Ops) a3).Arg]:List Int))) else (kz a3 a2)
noncomputable def nV (a0:History) (a1:Int) (a2:Int):(List Int×Int)→Option ((List Int×Int) ⊕ (List Int))
 | (a4,a3)=>must (0≤a1∧a1 < (a0.Txns.length:Int)) (bif decide (a3 < (((idx a0.Txns a1).Ops).length:Int)) then must (0≤a3∧a3 < (((idx a0.Txns a1).Ops).length:Int)) (bif ((idx ((idx a0.Txns a1).Ops) a3).Key == a2) then (jk ((idx ((idx a0.Txns a1).Ops) a3).Kind)).bind fun a5=>kC a0 a1 a4 a3 a5 else (kC a0 a1 a4 a3 false)) else (out (some a4)))
noncomputable def aJ (a0:History) (a1:Int) (a2:Int):Option (List Int) :=
 iter (nV a0 a1 a2) ([],0)
noncomputable def jK (a1:Int) (a0:List Int):Option ((List Int×Int) ⊕ (List Int)) :=
 some (.inl (a0,w64 (a1 + 1)))
noncomputable def ib (a0:List Int) (a1:Int) (a2:Bool):Option ((List Int×Int) ⊕ (List Int)) :=
 bif a2 then must (((a0.length + 1) + (a0.length + 1) / 4 + 192) * 8≤281474976710656∧a0.length + 1≤9223372036854775807) (jK a1 (a0++([a1]:List Int))) else (jK a1 a0)
noncomputable def mU (a0:History) (a1:Ask):(List Int×Int)→Option ((List Int×Int) ⊕ (List Int))
 | (a3,a2)=>bif decide (a2 < (a0.Txns.length:Int)) then bif (a2 != a1.Txn) then must (0≤a2∧a2 < (a0.Txns.length:Int)) (bif ((idx a0.Txns a2).Status != 2) then (aJ a0 a2 a1.Key).bind fun a4=>ib a3 a2 (decide ((a4.length:Int) > 0)) else (ib a3 a2 false)) else (ib a3 a2 false) else (out (some a3))
noncomputable def aM (a0:History) (a1:Ask):Option (List Int) :=
 iter (mU a0 a1) ([],0)
noncomputable def pE (y7:List Int):(Int×Int)→Option ((Int×Int) ⊕ Int)
 | (a1,a0)=>bif decide (a0 < (y7.length:Int)) then must (0≤a0∧a0 < (y7.length:Int)) (some (.inl (w64 (a1 + (idx y7 a0)),w64 (a0 + 1)))) else (out (some a1))
noncomputable def iD (a0:History) (a1:Int) (a2:Int):Option Int :=
 (aJ a0 a1 a2).bind fun y7=>iter (pE y7) (0,0)
noncomputable def jL (a0:Int) (a1:Int):Option ((Int×Int) ⊕ ((List Bool×Int) ⊕ (List Int))) :=
 some (.inl (a1,w64 (a0 + 1)))
noncomputable def jM (a0:Int) (a1:List Bool):Option ((List Bool×Int) ⊕ ((Int×Int) ⊕ ((List Bool×Int) ⊕ (List Int)))) :=
 some (.inl (a1,w64 (a0 + 1)))
noncomputable def jN (a2:Int) (a1:List Bool) (a0:Int) (a3:Bool):Option ((List Bool×Int) ⊕ ((Int×Int) ⊕ ((List Bool×Int) ⊕ (List Int)))) :=
 bif a3 then must (0≤a0∧a0 < (a1.length:Int)) (bif idx a1 a0 then jM a0 (a1.set a0.toNat true) else (must (0≤a0∧a0 < (far:Int)) (jM a0 (a1.set a0.toNat (xq .i64 (rV .i64 a2 a0) 1 == 1))))) else (out (out (some (.inl (a1,w64 (a2 + 1))))))
noncomputable def mV (a1:Ask) (y9:List Int) (a2:Int) (a4:Int):(List Bool×Int)→Option ((List Bool×Int) ⊕ ((Int×Int) ⊕ ((List Bool×Int) ⊕ (List Int))))
 | (a3,a0)=>bif decide (a0 < (y9.length:Int)) then must (0≤(0:Int)∧(0:Int) < (a1.Base.length:Int)) (jN a2 a3 a0 (a4 == idx a1.Base (0:Int))) else (jN a2 a3 a0 false)
noncomputable def mW (a0:History) (a1:Ask) (y9:List Int) (a5:List Bool) (a4:Int):(Int×Int)→Option ((Int×Int) ⊕ ((List Bool×Int) ⊕ (List Int)))
 | (a3,a2)=>bif decide (a2 < (y9.length:Int)) then must (0≤a2∧a2 < (far:Int)) (bif (xq .i64 (rV .i64 a4 a2) 1 == 1) then must (0≤a2∧a2 < (y9.length:Int)) ((iD a0 (idx y9 a2) a1.Key).bind fun a6=>jL a2 (w64 (a3 + a6))) else (jL a2 a3)) else (iter (mV a1 y9 a4 a3) (a5,0))
noncomputable def jO (a1:Int) (a0:List Int):Option ((List Int×Int) ⊕ ((List Bool×Int) ⊕ (List Int))) :=
 some (.inl (a0,w64 (a1 + 1)))
noncomputable def mX (y9:List Int) (a2:List Bool):(List Int×Int)→Option ((List Int×Int) ⊕ ((List Bool×Int) ⊕ (List Int)))
 | (a1,a0)=>bif decide (a0 < (y9.length:Int)) then must (0≤a0∧a0 < (a2.length:Int)) (bif idx a2 a0 then must (0≤a0∧a0 < (y9.length:Int)) (must (((a1.length + 1) + (a1.length + 1) / 4 + 192) * 8≤281474976710656∧a1.length + 1≤9223372036854775807) (jO a0 (a1++([idx y9 a0]:List Int)))) else (jO a0 a1)) else (out (out (some a1)))
noncomputable def mY (a0:History) (a1:Ask) (y9:List Int):(List Bool×Int)→Option ((List Bool×Int) ⊕ (List Int))
 | (a3,a2)=>must (0≤(y9.length:Int)∧(y9.length:Int) < (far:Int)) (bif decide (a2 < yf .i64 1 (y9.length:Int)) then iter (mW a0 a1 y9 a3 a2) (0,0) else (iter (mX y9 a3) ([],0)))
noncomputable def aC (a0:History) (a1:Ask):Option (List Int) :=
 (aM a0 a1).bind fun y9=>must (0≤(y9.length:Int)∧(y9.length:Int)≤9223372036854775807∧(1:Int) * (y9.length:Int)≤281474976710656) (iter (mY a0 a1 y9) (List.replicate (y9.length:Int).toNat (default:Bool),1))
noncomputable def lF (a0:List Int) (a1:List Int):Option Bool :=
 bif decide ((a1.length:Int) > (a0.length:Int)) then some false else (must (0≤(0:Int)∧(0:Int)≤(a1.length:Int)∧(a1.length:Int)≤(a0.length:Int)) ((bY (gF a0 (0:Int) (a1.length:Int)) a1).bind fun a2=>some a2))
noncomputable def kX (a0:Int) (a1:Int):Option ((Int×Int) ⊕ ((List Int×List Int) ⊕ (List Int×Bool))) :=
 some (.inl (a1,w64 (a0 + 1)))
noncomputable def oD (a0:History) (a1:Ask) (a2:List Int) (a3:List Int) (a6:Int):Int→Option (Int ⊕ ((Int×Int) ⊕ ((List Int×List Int) ⊕ (List Int×Bool))))
 | a4=>bif decide (a4 < (a2.length:Int)) then must (0≤a4∧a4 < (a2.length:Int)) (bif (idx a2 a4 == a6) then out (out (out (some (([]:List Int),false)))) else (some (.inl (w64 (a4 + 1))))) else (must (((a2.length + 1) + (a2.length + 1) / 4 + 192) * 8≤281474976710656∧a2.length + 1≤9223372036854775807) ((aJ a0 a6 a1.Key).bind fun a5=>must (0≤(a5.length:Int)∧(a5.length:Int)≤(a3.length:Int)∧(a3.length:Int)≤(a3.length:Int)) (out (out (some (.inl (a2++([a6]:List Int),gF a3 (a5.length:Int) (a3.length:Int))))))))
noncomputable def oF (a0:History) (a1:Ask) (y9:List Int) (a7:List Int) (a4:List Int):(Int×Int)→Option ((Int×Int) ⊕ ((List Int×List Int) ⊕ (List Int×Bool)))
 | (a3,a2)=>bif decide (a2 < (y9.length:Int)) then must (0≤a2∧a2 < (y9.length:Int)) ((aJ a0 (idx y9 a2) a1.Key).bind fun a6=>(lF a4 a6).bind fun a5=>bif a5 then kX a2 (idx y9 a2) else (kX a2 a3)) else (bif decide (a3 < 0) then out (out (some (([]:List Int),false))) else (iter (oD a0 a1 a7 a4 a3) 0))
noncomputable def iX (a0:History) (a1:Ask) (y9:List Int):(List Int×List Int)→Option ((List Int×List Int) ⊕ (List Int×Bool))
 | (a2,a3)=>bif decide ((a3.length:Int) > 0) then iter (oF a0 a1 y9 a2 a3) ((-1),0) else (out (some (a2,true)))
noncomputable def bG (a0:History) (a1:Ask):Option (List Int×Bool) :=
 (aM a0 a1).bind fun y9=>iter (iX a0 a1 y9) ([],a1.Base)
noncomputable def nW (a0:List Int) (a1:Int):Int→Option (Int ⊕ Bool)
 | a2=>bif decide (a2 < (a0.length:Int)) then must (0≤a2∧a2 < (a0.length:Int)) (bif (idx a0 a2 == a1) then out (some true) else (some (.inl (w64 (a2 + 1))))) else (out (some false))
noncomputable def fV (a0:List Int) (a1:Int):Option Bool :=
 iter (nW a0 a1) 0
noncomputable def lG (a0:Int) (a1:List Int) (a2:Int):Option ((List Int×Int×Int) ⊕ (List Int×Bool)) :=
 some (.inl (a1,a2,w64 (a0 + 1)))
noncomputable def lH (a0:Int) (a1:Int):Option ((Int×Int) ⊕ ((List Int×Int×Int) ⊕ (List Int×Bool))) :=
 some (.inl (a1,w64 (a0 + 1)))
noncomputable def lI (y9:List Int) (a0:List Int) (a2:Int) (a1:Int) (a3:Int) (a4:Bool):Option ((Int×Int) ⊕ ((List Int×Int×Int) ⊕ (List Int×Bool))) :=
 bif a4 then out (out (some (([]:List Int),false))) else (bif decide (a3 > 0) then must (((a0.length + 1) + (a0.length + 1) / 4 + 192) * 8≤281474976710656∧a0.length + 1≤9223372036854775807) (out (lG a1 (a0++([idx y9 a1]:List Int)) (w64 (a2 + a3)))) else (out (lG a1 a0 a2)))
noncomputable def pF (a1:Ask) (y9:List Int) (a6:List Int) (a5:Int) (a4:Int) (a3:List Int):(Int×Int)→Option ((Int×Int) ⊕ ((List Int×Int×Int) ⊕ (List Int×Bool)))
 | (a0,a2)=>bif decide (a2 < (a3.length:Int)) then must (0≤a2∧a2 < (a3.length:Int)) ((fV a1.Base (idx a3 a2)).bind fun a7=>bif a7 then lH a2 (w64 (a0 + 1)) else (lH a2 a0)) else (bif decide (a0 > 0) then lI y9 a6 a5 a4 a0 (decide (a0 < (a3.length:Int))) else (lI y9 a6 a5 a4 a0 false))
noncomputable def pG (a0:History) (a1:Ask) (y9:List Int):(List Int×Int×Int)→Option ((List Int×Int×Int) ⊕ (List Int×Bool))
 | (a4,a3,a2)=>bif decide (a2 < (y9.length:Int)) then must (0≤a2∧a2 < (y9.length:Int)) ((aJ a0 (idx y9 a2) a1.Key).bind fun a5=>iter (pF a1 y9 a4 a3 a2 a5) (0,0)) else (bif (a3 != (a1.Base.length:Int)) then out (some (([]:List Int),false)) else (out (some (a4,true))))
noncomputable def bn (a0:History) (a1:Ask):Option (List Int×Bool) :=
 (aM a0 a1).bind fun y9=>iter (pG a0 a1 y9) ([],0,0)
noncomputable def mo (a0:List Int):Option (List Int) :=
 some a0
noncomputable def fZ (a0:List Int):Option (List Int) :=
 some a0
noncomputable def mq (a1:Int) (a0:List Int):Option ((List Int×Int) ⊕ (List Int)) :=
 some (.inl (a0,w64 (a1 + 1)))
noncomputable def mr (a0:History) (a1:Ask) (a5:List Int):(List Int×Int)→Option ((List Int×Int) ⊕ (List Int))
 | (a3,a2)=>bif decide (a2 < (a5.length:Int)) then must (0≤a2∧a2 < (a5.length:Int)) ((aJ a0 (idx a5 a2) a1.Key).bind fun a4=>must (0≤w64 ((a4.length:Int) - 1)∧w64 ((a4.length:Int) - 1) < (a4.length:Int)) (must (0≤(0:Int)∧(0:Int) < (a1.Base.length:Int)) (bif (idx a4 (w64 ((a4.length:Int) - 1)) == idx a1.Base (0:Int)) then must (((a3.length + 1) + (a3.length + 1) / 4 + 192) * 8≤281474976710656∧a3.length + 1≤9223372036854775807) (mq a2 (a3++([idx a5 a2]:List Int))) else (mq a2 a3)))) else (out (fZ a3))
noncomputable def bv (a0:History) (a1:Ask):Option (List Int) :=
 (nu a0 a1).bind fun y7=>bif (y7 == 4) then (aC a0 a1).bind fun a3=>must (0≤(0:Int)∧(0:Int) < (a1.Base.length:Int)) (bif (idx a1.Base (0:Int) == 0) then must (((1 + a3.length) + (1 + a3.length) / 4 + 192) * 8≤281474976710656∧1 + a3.length≤9223372036854775807) (mo (([(-1)]:List Int)++a3)) else (mo a3)) else (bif ((a1.Base.length:Int) == 0) then some ([(-1)]:List Int) else (bif (y7 == 1) then (aM a0 a1).bind fun a5=>iter (mr a0 a1 a5) ([],0) else (bif (y7 == 2) then (bG a0 a1).bind fun a2=>bif a2.2 then must (0≤w64 ((a2.1.length:Int) - 1)∧w64 ((a2.1.length:Int) - 1) < (a2.1.length:Int)) (must (((0 + 1) + (0 + 1) / 4 + 192) * 8≤281474976710656∧0 + 1≤9223372036854775807) (fZ (([]:List Int)++([idx a2.1 (w64 ((a2.1.length:Int) - 1))]:List Int)))) else (fZ []) else ((bn a0 a1).bind fun a4=>bif a4.2 then fZ a4.1 else (fZ [])))))
noncomputable def nX (a1:Int) (a0:List Ask):Option ((List Ask×Int) ⊕ (List Ask×Int)) :=
 some (.inl (a0,w64 (a1 + 1)))
noncomputable def sZ (a0:History) (a3:List Ask×List fE):(List Ask×Int)→Option ((List Ask×Int) ⊕ (List Ask×Int))
 | (a2,a1)=>bif decide (a1 < (a3.1.length:Int)) then must (0≤a1∧a1 < (a3.1.length:Int)) ((bv a0 (idx a3.1 a1)).bind fun a4=>bif ((a4.length:Int) == 0) then must (((a2.length + 1) + (a2.length + 1) / 4 + 192) * 48≤281474976710656∧a2.length + 1≤9223372036854775807) (nX a1 (a2++([(idx a3.1 a1)]:List Ask))) else (nX a1 a2)) else (out (some (a2,0)))
noncomputable def iM (a0:History):Option (List Ask×Int) :=
 (ai a0).bind fun y8=>bif (y8 != 0) then some (([]:List Ask),1) else ((oo a0).bind fun a1=>iter (sZ a0 a1) ([],0))
end Go.Proofs.YtnlkggppokcmfaaT
