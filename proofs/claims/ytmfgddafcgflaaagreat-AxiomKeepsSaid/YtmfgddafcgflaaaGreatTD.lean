import Derived.Test.YtmfgddafcgflaaaGreatY
namespace Go.Proofs.YtmfgddafcgflaaaGreatT
noncomputable section
open Go Go.Proofs Go.Proofs.YtmfgddafcgflaaaGreatE
set_option linter.unusedVariables false
set_option linter.unusedSimpArgs false
set_option maxHeartbeats 0
set_option maxRecDepth 4096
structure bV where
 key:ByteArray
 arg:Int
 deriving Inhabited,DecidableEq
def bV.enc (x:bV):List Value:=[.string x.key,.int .i64 x.arg]
abbrev CQ:Ty bV:=Ty.flat 2 bV.enc (fun _=>rfl) (fun _=>Gl rfl)
instance : Flat CQ bV.enc:=⟨Iff.rfl,Iff.rfl⟩
structure aW where
 keys:List ByteArray
 at_:List (ByteArray×Int)
 types:List Int
 facts:List (bV×Unit)
 incs:List (ByteArray×(List Int))
 deriving Inhabited
structure Call where
 Kind:Int
 Key:ByteArray
 Arg:Int
 Got:Bool
 Vals:List Int
 deriving Inhabited
abbrev vL:Ty Call:=Ty.iso (bM (aJ .i64) (bM fq (bM (aJ .i64) (bM oU (bz 2 (aJ .i64)))))) (fun g:Call=>(g.Kind,g.Key,g.Arg,g.Got,g.Vals))
abbrev mR (N:BM):Ty Call:=Ty.iso (bM (aJ .i64) (bM fq (bM (aJ .i64) (bM oU (Gz N (aJ .i64)))))) (fun g:Call=>(g.Kind,g.Key,g.Arg,g.Got,g.Vals))
theorem zZ (N:BM):ug N (mR N) vL:=EY (tN tL (tN tL (tN tL (tN tL Dk))))
structure Event where
 Proc:Int
 Kind:Int
 Calls:List Call
 deriving Inhabited
abbrev yU:Ty Event:=Ty.iso (bM (aJ .i64) (bM (aJ .i64) (bz 88 vL))) (fun g:Event=>(g.Proc,g.Kind,g.Calls))
structure Op where
 Kind:Int
 Key:Int
 Arg:Int
 Got:Bool
 Vals:List Int
 deriving Inhabited
abbrev kOp:Ty Op:=Ty.iso (bM (aJ .i64) (bM (aJ .i64) (bM (aJ .i64) (bM oU (bz 2 (aJ .i64)))))) (fun g:Op=>(g.Kind,g.Key,g.Arg,g.Got,g.Vals))
structure Txn where
 Proc:Int
 Status:Int
 From:Int
 To:Int
 Ops:List Op
 deriving Inhabited
abbrev jb:Ty Txn:=Ty.iso (bM (aJ .i64) (bM (aJ .i64) (bM (aJ .i64) (bM (aJ .i64) (bz 60 kOp))))) (fun g:Txn=>(g.Proc,g.Status,g.From,g.To,g.Ops))
structure History where
 Keys:List ByteArray
 Txns:List Txn
 deriving Inhabited
structure Ask where
 Txn:Int
 Place:Int
 Key:Int
 Base:List Int
 deriving Inhabited
abbrev sK:Ty Ask:=Ty.iso (bM (aJ .i64) (bM (aJ .i64) (bM (aJ .i64) (bz 2 (aJ .i64))))) (fun g:Ask=>(g.Txn,g.Place,g.Key,g.Base))
structure eZ where
 Txn:Int
 Place:Int
 deriving Inhabited,DecidableEq
def eZ.enc (x:eZ):List Value:=[.int .i64 x.Txn,.int .i64 x.Place]
abbrev wD:Ty eZ:=Ty.flat 2 eZ.enc (fun _=>rfl) (fun _=>Gl rfl)
instance : Flat wD eZ.enc:=⟨Iff.rfl,Iff.rfl⟩
structure dK where
 asks:List Ask
 bad:List eZ
 deriving Inhabited
structure bN where
 h:History
 order:List Int
 at_:List (Int×Int)
 deriving Inhabited
structure Exec where
 Order:List Int
 Picks:List Int
 deriving Inhabited
structure bF where
 h:History
 x:Exec
 asks:List Ask
 at_:List Int
 behind:List Int
 near:List Int
 writes:List (Int×Int)
 deriving Inhabited
structure aD where
 keys:List ByteArray
 types:List Int
 wrote:List (List Int)
 incs:List Int
 last_:List Int
 deriving Inhabited
abbrev Rw2 (A:Option Addr) (c:Nat) (l:List Int):bB := .row (aJ .i64) 2 A l.length c l
abbrev Rw3 (A:Option Addr) (c:Nat) (l:List Int):bB := .row (aJ .i64) 3 A l.length c l
abbrev Rn3 (A:Option Addr) (n c:Nat) (l:List Int):bB := .row (aJ .i64) 3 A n c l
abbrev Rw9 (A:Option Addr) (c:Nat) (l:List ByteArray):bB := .row fq 9 A l.length c l
abbrev Rn9 (A:Option Addr) (n c:Nat) (l:List ByteArray):bB := .row fq 9 A n c l
abbrev nC (A:Option Addr) (c:Nat) (l:List Txn):bB := .row jb 57 A l.length c l
abbrev JL (A:Option Addr) (n c:Nat) (l:List Txn):bB := .row jb 57 A n c l
abbrev BA (A:Option Addr) (c:Nat) (l:List (List Int)):bB := .row (bz 2 (aJ .i64)) 58 A l.length c l
abbrev CR (A:Option Addr) (c:Nat) (l:List Op):bB := .row kOp 60 A l.length c l
abbrev Kh (A:Option Addr) (n c:Nat) (l:List Op):bB := .row kOp 60 A n c l
abbrev uj (A:Option Addr) (c:Nat) (l:List Ask):bB := .row sK 75 A l.length c l
abbrev nu (A:Option Addr) (c:Nat) (l:List eZ):bB := .row wD 127 A l.length c l
abbrev Or2 (A:Option Addr) (c:Nat) (l:List Int):bB:=orA noM (aJ .i64) 2 A l.length c l
abbrev Jp (A:Option Addr) (c:Nat) (l:List Ask):bB:=orA noM sK 75 A l.length c l
abbrev xC (b:Nat) (m:List (Int×Int)):bB:=Bq (fun x:Int => .int .i64 x) (fun x:Int => .int .u32 x) b m
abbrev yV (b:Nat) (m:List (Int×Int)):bB:=Bq (fun x:Int => .int .i64 x) (fun x:Int => .int .i64 x) b m
abbrev Fh (b:Nat) (m:List (Int×Int)):bB:=Bq (fun x:Int => .int .i64 x) (fun x:Int => .int .i64 x) b m
abbrev Aa (b:Nat) (m:List (Int×(List Int))):bB:=qO (fun x:Int => .int .i64 x) (bz 2 (aJ .i64)) b m
abbrev wE (b:Nat) (m:List (ByteArray×Int)):bB:=Bq (fun x:ByteArray => .string x) (fun x:Int => .int .i64 x) b m
abbrev wF (b:Nat) (m:List (bV×Unit)):bB:=Bq (fun x:bV => .agg #[.string x.key,.int .i64 x.arg]) (fun _:Unit => .agg #[]) b m
abbrev Ab (b:Nat) (m:List (ByteArray×(List Int))):bB:=qO (fun x:ByteArray => .string x) (bz 3 (aJ .i64)) b m
abbrev oM (x:History) (A0:Option Addr) (c0:Nat) (A1:Option Addr) (c1:Nat):List Value:=[vS A0 x.Keys.length c0,vS A1 x.Txns.length c1]
abbrev pV (x:History) (A0:Option Addr) (c0:Nat) (A1:Option Addr) (c1:Nat):Value := .agg (oM x A0 c0 A1 c1).toArray
abbrev bS (b:Nat) (x:History) (A0:Option Addr) (c0:Nat) (A1:Option Addr) (c1:Nat):bB := .blk b 25 (oM x A0 c0 A1 c1)
abbrev BB (x:Exec) (A0:Option Addr) (c0:Nat) (A1:Option Addr) (c1:Nat):List Value:=[vS A0 x.Order.length c0,vS A1 x.Picks.length c1]
abbrev Ev (x:Exec) (A0:Option Addr) (c0:Nat) (A1:Option Addr) (c1:Nat):Value := .agg (BB x A0 c0 A1 c1).toArray
abbrev kz (b:Nat) (x:Exec) (A0:Option Addr) (c0:Nat) (A1:Option Addr) (c1:Nat):bB := .blk b 28 (BB x A0 c0 A1 c1)
abbrev qH (x:Txn) (A4:Option Addr) (c4:Nat):List Value:=[vI x.Proc,vI x.Status,vI x.From,vI x.To,vS A4 x.Ops.length c4]
abbrev Ew (x:Txn) (A4:Option Addr) (c4:Nat):Value := .agg (qH x A4 c4).toArray
abbrev kC (b:Nat) (x:Txn) (A4:Option Addr) (c4:Nat):bB := .blk b 57 (qH x A4 c4)
abbrev vR (x:Op) (A4:Option Addr) (c4:Nat):List Value:=[vI x.Kind,vI x.Key,vI x.Arg,vB x.Got,vS A4 x.Vals.length c4]
abbrev Ki (x:Op) (A4:Option Addr) (c4:Nat):Value := .agg (vR x A4 c4).toArray
abbrev nA (b:Nat) (x:Op) (A4:Option Addr) (c4:Nat):bB := .blk b 60 (vR x A4 c4)
abbrev Aw (x:Ask) (A3:Option Addr) (c3:Nat):List Value:=[vI x.Txn,vI x.Place,vI x.Key,vS A3 x.Base.length c3]
abbrev Kj (x:Ask) (A3:Option Addr) (c3:Nat):Value := .agg (Aw x A3 c3).toArray
abbrev JM (b:Nat) (x:Ask) (A3:Option Addr) (c3:Nat):bB := .blk b 75 (Aw x A3 c3)
abbrev Kk (x:aD) (A0:Option Addr) (c0:Nat) (A1:Option Addr) (c1:Nat) (A2:Option Addr) (c2:Nat) (A3:Option Addr) (c3:Nat) (A4:Option Addr) (c4:Nat):List Value:=[vS A0 x.keys.length c0,vS A1 x.types.length c1,vS A2 x.wrote.length c2,vS A3 x.incs.length c3,vS A4 x.last_.length c4]
abbrev JN (b:Nat) (x:aD) (A0:Option Addr) (c0:Nat) (A1:Option Addr) (c1:Nat) (A2:Option Addr) (c2:Nat) (A3:Option Addr) (c3:Nat) (A4:Option Addr) (c4:Nat):bB := .blk b 82 (Kk x A0 c0 A1 c1 A2 c2 A3 c3 A4 c4)
abbrev Ex (x:Event) (A2:Option Addr) (c2:Nat):List Value:=[vI x.Proc,vI x.Kind,vS A2 x.Calls.length c2]
abbrev JO (x:Event) (A2:Option Addr) (c2:Nat):Value := .agg (Ex x A2 c2).toArray
abbrev GG (b:Nat) (x:Event) (A2:Option Addr) (c2:Nat):bB := .blk b 86 (Ex x A2 c2)
abbrev Ay (x:Call) (A4:Option Addr) (c4:Nat):List Value:=[vI x.Kind,.string x.Key,vI x.Arg,vB x.Got,vS A4 x.Vals.length c4]
abbrev CS (x:Call) (A4:Option Addr) (c4:Nat):Value := .agg (Ay x A4 c4).toArray
abbrev jO (b:Nat) (x:Call) (A4:Option Addr) (c4:Nat):bB := .blk b 88 (Ay x A4 c4)
abbrev Ac (x:bN) (A0:Option Addr) (c0:Nat) (A1:Option Addr) (c1:Nat) (A2:Option Addr) (c2:Nat) (b3:Nat):List Value:=[vS A0 x.h.Keys.length c0,vS A1 x.h.Txns.length c1,vS A2 x.order.length c2,.map (some b3)]
abbrev Dw (x:bN) (A0:Option Addr) (c0:Nat) (A1:Option Addr) (c1:Nat) (A2:Option Addr) (c2:Nat) (b3:Nat):Value := .agg (Ac x A0 c0 A1 c1 A2 c2 b3).toArray
abbrev rP (b:Nat) (x:bN) (A0:Option Addr) (c0:Nat) (A1:Option Addr) (c1:Nat) (A2:Option Addr) (c2:Nat) (b3:Nat):bB := .blk b 107 (Ac x A0 c0 A1 c1 A2 c2 b3)
abbrev Fj (x:dK) (A0:Option Addr) (c0:Nat) (A1:Option Addr) (c1:Nat):List Value:=[vS A0 x.asks.length c0,vS A1 x.bad.length c1]
abbrev JP (x:dK) (A0:Option Addr) (c0:Nat) (A1:Option Addr) (c1:Nat):Value := .agg (Fj x A0 c0 A1 c1).toArray
abbrev Fp (b:Nat) (A0:Option Addr) (c0:Nat) (x0:List ByteArray) (A1:Option Addr) (c1:Nat) (x1:List Txn):List bB:=[.blk b 25 [vS A0 x0.length c0,vS A1 x1.length c1],Rw9 A0 c0 x0,nC A1 c1 x1]
abbrev Kl (b:Nat) (x:History) (A0:Option Addr) (c0:Nat) (A1:Option Addr) (c1:Nat):List bB:=Fp b A0 c0 x.Keys A1 c1 x.Txns
abbrev Km (b:Nat) (A0:Option Addr) (c0:Nat) (x0:List Int) (A1:Option Addr) (c1:Nat) (x1:List Int):List bB:=[.blk b 28 [vS A0 x0.length c0,vS A1 x1.length c1],Rw3 A0 c0 x0,Rw3 A1 c1 x1]
abbrev JQ (b:Nat) (x0:Int) (x1:Int) (x2:Int) (x3:Int) (A4:Option Addr) (c4:Nat) (x4:List Op):List bB:=[.blk b 57 [vI x0,vI x1,vI x2,vI x3,vS A4 x4.length c4],CR A4 c4 x4]
abbrev uk (b:Nat) (A0:Option Addr) (c0:Nat) (x0:List ByteArray) (A1:Option Addr) (c1:Nat) (x1:List Int) (A2:Option Addr) (c2:Nat) (x2:List (List Int)) (A3:Option Addr) (c3:Nat) (x3:List Int) (A4:Option Addr) (c4:Nat) (x4:List Int):List bB:=[.blk b 82 [vS A0 x0.length c0,vS A1 x1.length c1,vS A2 x2.length c2,vS A3 x3.length c3,vS A4 x4.length c4],Rw9 A0 c0 x0,Rw3 A1 c1 x1,BA A2 c2 x2,Rw3 A3 c3 x3,Rw3 A4 c4 x4]
abbrev JR (b:Nat) (x:aD) (A0:Option Addr) (c0:Nat) (A1:Option Addr) (c1:Nat) (A2:Option Addr) (c2:Nat) (A3:Option Addr) (c3:Nat) (A4:Option Addr) (c4:Nat):List bB:=uk b A0 c0 x.keys A1 c1 x.types A2 c2 x.wrote A3 c3 x.incs A4 c4 x.last_
abbrev uq (b:Nat) (A0:Option Addr) (c0:Nat) (x0:List Ask) (A1:Option Addr) (c1:Nat) (x1:List eZ):List bB:=[.blk b 113 [vS A0 x0.length c0,vS A1 x1.length c1],uj A0 c0 x0,nu A1 c1 x1]
abbrev Jk (b:Nat) (x:dK) (A0:Option Addr) (c0:Nat) (A1:Option Addr) (c1:Nat):List bB:=uq b A0 c0 x.asks A1 c1 x.bad
abbrev ut (b:Nat) (A0:Option Addr) (c0:Nat) (x0:List ByteArray) (b1:Nat) (x1:List (ByteArray×Int)) (A2:Option Addr) (c2:Nat) (x2:List Int) (b3:Nat) (x3:List (bV×Unit)) (b4:Nat) (x4:List (ByteArray×(List Int))):List bB:=[.blk b 155 [vS A0 x0.length c0,.map (some b1),vS A2 x2.length c2,.map (some b3),.map (some b4)],Rw9 A0 c0 x0,wE b1 x1,Rw3 A2 c2 x2,wF b3 x3,Ab b4 x4]
abbrev Fq (b:Nat) (x:aW) (A0:Option Addr) (c0:Nat) (b1:Nat) (A2:Option Addr) (c2:Nat) (b3:Nat) (b4:Nat):List bB:=ut b A0 c0 x.keys b1 x.at_ A2 c2 x.types b3 x.facts b4 x.incs
theorem jA {H:BM} {x:Txn} {cs:List Value} (h:jb.rd H x cs):∃ A4 c4,cs=qH x A4 c4∧x.Ops.length≤c4∧rdS kOp H A4 x.Ops:=by
 obtain ⟨_,_,rfl,rfl,⟨_,_,rfl,rfl,⟨_,_,rfl,rfl,⟨_,_,rfl,rfl,⟨A0,c0,rfl,l0,r0⟩⟩⟩⟩⟩:=h;exact ⟨A0,c0,rfl,l0,r0⟩
theorem xD {H:BM} {x:Op} {cs:List Value} (h:kOp.rd H x cs):∃ A4 c4,cs=vR x A4 c4∧x.Vals.length≤c4∧rdS (aJ .i64) H A4 x.Vals:=by
 obtain ⟨_,_,rfl,rfl,⟨_,_,rfl,rfl,⟨_,_,rfl,rfl,⟨_,_,rfl,rfl,⟨A0,c0,rfl,l0,r0⟩⟩⟩⟩⟩:=h;exact ⟨A0,c0,rfl,l0,r0⟩
theorem yX {H:BM} {x:Ask} {cs:List Value} (h:sK.rd H x cs):∃ A3 c3,cs=Aw x A3 c3∧x.Base.length≤c3∧rdS (aJ .i64) H A3 x.Base:=by
 obtain ⟨_,_,rfl,rfl,⟨_,_,rfl,rfl,⟨_,_,rfl,rfl,⟨A0,c0,rfl,l0,r0⟩⟩⟩⟩:=h;exact ⟨A0,c0,rfl,l0,r0⟩
theorem Dx {H:BM} {x:Event} {cs:List Value} (h:yU.rd H x cs):∃ A2 c2,cs=Ex x A2 c2∧x.Calls.length≤c2∧rdS vL H A2 x.Calls:=by
 obtain ⟨_,_,rfl,rfl,⟨_,_,rfl,rfl,⟨A0,c0,rfl,l0,r0⟩⟩⟩:=h;exact ⟨A0,c0,rfl,l0,r0⟩
theorem Fs {H:BM} {x:Call} {cs:List Value} (h:vL.rd H x cs):∃ A4 c4,cs=Ay x A4 c4∧x.Vals.length≤c4∧rdS (aJ .i64) H A4 x.Vals:=by
 obtain ⟨_,_,rfl,rfl,⟨_,_,rfl,rfl,⟨_,_,rfl,rfl,⟨_,_,rfl,rfl,⟨A0,c0,rfl,l0,r0⟩⟩⟩⟩⟩:=h;exact ⟨A0,c0,rfl,l0,r0⟩
theorem Dy (x:Txn) {R4:List bB} {c4:List Value} (h4:Mk (bz 60 kOp) R4 x.Ops c4):Mk jb ([]++([]++([]++([]++R4)))) x ([vI x.Proc]++([vI x.Status]++([vI x.From]++([vI x.To]++c4)))):=ww (g:=fun g:Txn=>(g.Proc,g.Status,g.From,g.To,g.Ops)) (x:=x) (eF (mQ _ _ rfl) (eF (mQ _ _ rfl) (eF (mQ _ _ rfl) (eF (mQ _ _ rfl) h4))))
theorem Ey (x:Op) {R4:List bB} {c4:List Value} (h4:Mk (bz 2 (aJ .i64)) R4 x.Vals c4):Mk kOp ([]++([]++([]++([]++R4)))) x ([vI x.Kind]++([vI x.Key]++([vI x.Arg]++([vB x.Got]++c4)))):=ww (g:=fun g:Op=>(g.Kind,g.Key,g.Arg,g.Got,g.Vals)) (x:=x) (eF (mQ _ _ rfl) (eF (mQ _ _ rfl) (eF (mQ _ _ rfl) (eF (mQ _ _ rfl) h4))))
theorem Fu (x:Ask) {R3:List bB} {c3:List Value} (h3:Mk (bz 2 (aJ .i64)) R3 x.Base c3):Mk sK ([]++([]++([]++R3))) x ([vI x.Txn]++([vI x.Place]++([vI x.Key]++c3))):=ww (g:=fun g:Ask=>(g.Txn,g.Place,g.Key,g.Base)) (x:=x) (eF (mQ _ _ rfl) (eF (mQ _ _ rfl) (eF (mQ _ _ rfl) h3)))
def jQ (a0:List ByteArray) (a1:ByteArray):Int→Option (Int ⊕ Int)
 | a2=>bif decide (a2 < (a0.length:Int)) then must (0≤a2∧a2 < (a0.length:Int)) (bif sEq a1 (idx a0 a2) then out (some a2) else (some (.inl (w64 (a2 + 1))))) else (out (some (-1)))
def slices_Index_string (a0:List ByteArray) (a1:ByteArray):Option Int :=
 iter (jQ a0 a1) 0
def slices_Contains_string (a0:List ByteArray) (a1:ByteArray):Option Bool :=
 (slices_Index_string a0 a1).bind fun y3=>some (decide (y3 ≥ 0))
def mr:Option aW :=
 some (⟨([]:List ByteArray),([]:List (ByteArray×Int)),([]:List Int),([]:List (bV×Unit)),([]:List (ByteArray×(List Int)))⟩:aW)
def sM (a0:Int):Option (Int×Int) :=
 bif (a0 == 5) then some (0,1) else (bif (a0 == 8) then some (1,1) else (some (0,64)))
def oG (a0:Call) (a1:Int) (a2:Bool):Option (Int ⊕ Bool) :=
 bif a2 then must (0≤w64 (a1 - 1)∧w64 (a1 - 1) < (a0.Vals.length:Int)) (must (0≤a1∧a1 < (a0.Vals.length:Int)) (bif decide (idx a0.Vals (w64 (a1 - 1)) ≥ idx a0.Vals a1) then out (some false) else (some (.inl (w64 (a1 + 1)))))) else (out (some true))
def oH (a0:Call):Int→Option (Int ⊕ Bool)
 | a1=>bif (a0.Kind == 7) then oG a0 a1 (decide (a1 < (a0.Vals.length:Int))) else (oG a0 a1 false)
def oI (a0:Call) (a1:Bool):Option Bool :=
 bif a1 then some false else (iter (oH a0) 1)
def oJ (a0:Call) (a2:Bool):Option Bool :=
 bif a2 then some false else (bif !a0.Got then some ((a0.Vals.length:Int) == 0) else ((sM a0.Kind).bind fun a1=>bif decide ((a0.Vals.length:Int) < a1.1) then oI a0 true else (oI a0 (decide ((a0.Vals.length:Int) > a1.2)))))
def ky (a0:Call) (a1:Int) (a2:Bool):Option Bool :=
 bif a2 then some false else (bif decide (a0.Kind≤4) then bif !a0.Got then bif ((a0.Vals.length:Int) == 0) then bif (a0.Kind != 4) then some true else (bif decide ((-1048576)≤a0.Arg) then some (decide (a0.Arg≤1048576)) else (some false)) else (some false) else (some false) else (bif (a0.Arg != 0) then oJ a0 true else (oJ a0 (a0.Got != (a1 == 1)))))
def bJ (a0:Call) (a1:Int):Option Bool :=
 bif decide (a0.Kind < 1) then ky a0 a1 true else (bif decide (a0.Kind > 8) then ky a0 a1 true else (bif sEq a0.Key (⟨#[]⟩:ByteArray) then ky a0 a1 true else (ky a0 a1 (decide ((a0.Key.size:Int) > 32)))))
def pW (a0:Call) (a1:Event):Option Bool :=
 (bJ a0 a1.Kind).bind fun y5=>some (!y5)
def eD (a0:List Call) (a1c0:Event):Int→Option (Int ⊕ Int)
 | a1=>bif decide (a1 < (a0.length:Int)) then must (0≤a1∧a1 < (a0.length:Int)) ((pW (idx a0 a1) a1c0).bind fun a2=>bif a2 then out (some a1) else (some (.inl (w64 (a1 + 1))))) else (out (some (-1)))
def bv (a0:List Call) (a1c0:Event):Option Int :=
 iter (eD a0 a1c0) 0
def cz (a0:List Call) (a1c0:Event):Option Bool :=
 (bv a0 a1c0).bind fun y3=>some (decide (y3 ≥ 0))
def ma (a0:List Event) (a1:Int) (a3:Bool):Option (Int ⊕ Int) :=
 bif a3 then out (some 1) else ((cz ((idx a0 a1).Calls) (idx a0 a1)).bind fun a2=>bif a2 then out (some 1) else (some (.inl (w64 (a1 + 1)))))
def rz (a0:List Event):Int→Option (Int ⊕ Int)
 | a1=>bif decide (a1 < (a0.length:Int)) then must (0≤a1∧a1 < (a0.length:Int)) (bif decide ((idx a0 a1).Kind < 0) then ma a0 a1 true else (bif decide ((idx a0 a1).Kind > 3) then ma a0 a1 true else (ma a0 a1 (decide ((((idx a0 a1).Calls).length:Int) > 16))))) else (out (some 0))
def fe (a0:List Event):Option Int :=
 bif decide ((a0.length:Int) > 256) then some 1 else (iter (rz a0) 0)
def qd (a0:History) (a1:Txn) (a3:List Call) (a2:Int):Option ((List Call×Int) ⊕ (Event×Bool)) :=
 some (.inl (a3++([(⟨(idx a1.Ops a2).Kind,idx a0.Keys ((idx a1.Ops a2).Key),(idx a1.Ops a2).Arg,(idx a1.Ops a2).Got,(idx a1.Ops a2).Vals⟩:Call)]:List Call),w64 (a2 + 1)))
def nD (a0:History) (a1:Txn) (a2:List Call) (a3:Int) (a4:Bool):Option ((List Call×Int) ⊕ (Event×Bool)) :=
 bif a4 then out (some ((⟨0,a1.Status,a2⟩:Event),false)) else (must (0≤(idx a1.Ops a3).Key∧(idx a1.Ops a3).Key < (a0.Keys.length:Int)) (must (((a2.length + 1) + (a2.length + 1) / 4 + 192) * 64≤281474976710656∧a2.length + 1≤9223372036854775807) (qd a0 a1 a2 a3)))
def qf (a0:History) (a1:Txn):(List Call×Int)→Option ((List Call×Int) ⊕ (Event×Bool))
 | (a3,a2)=>bif decide (a2 < (a1.Ops.length:Int)) then must (0≤a2∧a2 < (a1.Ops.length:Int)) (bif decide ((idx a1.Ops a2).Key < 0) then nD a0 a1 a3 a2 true else (nD a0 a1 a3 a2 (decide ((idx a1.Ops a2).Key ≥ (a0.Keys.length:Int))))) else ((fe ([(⟨0,a1.Status,a3⟩:Event)]:List Event)).bind fun a4=>out (some ((⟨0,a1.Status,a3⟩:Event),(a4 == 0))))
def dI (a0:History) (a1:Txn):Option (Event×Bool) :=
 iter (qf a0 a1) ([],0)
def nE (a0:Txn) (a1:Txn):Option Bool :=
 bif (a0.Proc == a1.Proc) then bif (a0.To == (-1)) then some true else (some (decide (a0.To ≥ a1.From))) else (some false)
def dY (a0:List Txn) (a1c0:Txn):Int→Option (Int ⊕ Int)
 | a1=>bif decide (a1 < (a0.length:Int)) then must (0≤a1∧a1 < (a0.length:Int)) ((nE (idx a0 a1) a1c0).bind fun a2=>bif a2 then out (some a1) else (some (.inl (w64 (a1 + 1))))) else (out (some (-1)))
def aZ (a0:List Txn) (a1c0:Txn):Option Int :=
 iter (dY a0 a1c0) 0
def bY (a0:List Txn) (a1c0:Txn):Option Bool :=
 (aZ a0 a1c0).bind fun y3=>some (decide (y3 ≥ 0))
def kg (a0:List Txn) (a1:Txn) (a2:Bool):Option Bool :=
 bif a2 then some false else ((bY a0 a1).bind fun a3=>some (!a3))
def mD (a0:List Txn) (a1:Txn):Option Bool :=
 bif decide (a1.From < 0) then kg a0 a1 true else (bif decide ((a0.length:Int) > 0) then must (0≤w64 ((a0.length:Int) - 1)∧w64 ((a0.length:Int) - 1) < (a0.length:Int)) (kg a0 a1 (decide ((idx a0 (w64 ((a0.length:Int) - 1))).From ≥ a1.From))) else (kg a0 a1 false))
def mE (a0:List Txn) (a1:Txn) (a2:Bool):Option Bool :=
 bif a2 then some false else (mD a0 a1)
def mF (a0:List Txn) (a1:Txn) (a2:Bool):Option Bool :=
 bif a2 then bif decide (a1.To≤a1.From) then some false else (mD a0 a1) else (bif (a1.Status == 3) then bif (a1.To != (-1)) then mE a0 a1 (decide (a1.To≤a1.From)) else (mE a0 a1 false) else (some false))
def bG (a0:List Txn) (a1:Txn):Option Bool :=
 bif (a1.Status == 1) then mF a0 a1 (a1.Status == 1) else (mF a0 a1 (a1.Status == 2))
def lw (a0:Int):Option Int :=
 some (w64 ((uS .i64 (w64 (a0 - 1)) 3) + 1))
def fM (a4:List ByteArray) (a1:List (ByteArray×Int)) (a2:List Int) (a3:List (bV×Unit)) (a5:List (ByteArray×(List Int))):Option (Int×aW) :=
 some (0,(⟨a4,a1,a2,a3,a5⟩:aW))
def kD (a0:aW) (a1:Call) (a2:List ByteArray) (a4:List (ByteArray×Int)) (a3:List Int):Option (Int×aW) :=
 bif ku a0.facts (⟨a1.Key,a1.Arg⟩:bV) then some (3,(⟨a2,a4,a3,a0.facts,a0.incs⟩:aW)) else (fM a2 a4 a3 (fG a0.facts (⟨a1.Key,a1.Arg⟩:bV) ()) a0.incs)
def iI (a0:aW) (a1:Call) (a3:List ByteArray) (a5:List (ByteArray×Int)) (a4:List Int) (a2:List (ByteArray×(List Int))):Option (Int×aW) :=
 bif decide (((mat a2 a1.Key).length:Int) > 8) then some (51,(⟨a3,a5,a4,a0.facts,a2⟩:aW)) else (fM a3 a5 a4 a0.facts a2)
def iL (a0:aW) (a1:Call) (a2:Int) (a3:List ByteArray) (a5:List (ByteArray×Int)) (a4:List Int) (a6:Bool):Option (Int×aW) :=
 bif a6 then must (((((mat a0.incs a1.Key).length) + 1) + (((mat a0.incs a1.Key).length) + 1) / 4 + 192) * 8≤281474976710656∧((mat a0.incs a1.Key).length) + 1≤9223372036854775807) (iI a0 a1 a3 a5 a4 (fG a0.incs a1.Key ((mat a0.incs a1.Key)++([a2]:List Int)))) else (iI a0 a1 a3 a5 a4 a0.incs)
def iO (a0:aW) (a1:Call) (a2:Int) (a3:List ByteArray) (a5:List (ByteArray×Int)) (a4:List Int) (a6:Bool):Option (Int×aW) :=
 bif a6 then kD a0 a1 a3 a5 a4 else (bif (a1.Kind == 4) then bif (((mat a0.incs a1.Key).length:Int) == 0) then iL a0 a1 a2 a3 a5 a4 true else (must (0≤w64 (((mat a0.incs a1.Key).length:Int) - 1)∧w64 (((mat a0.incs a1.Key).length:Int) - 1) < ((mat a0.incs a1.Key).length:Int)) (iL a0 a1 a2 a3 a5 a4 (idx (mat a0.incs a1.Key) (w64 (((mat a0.incs a1.Key).length:Int) - 1)) != a2))) else (fM a3 a5 a4 a0.facts a0.incs))
def fO (a0:aW) (a1:Call) (a2:Int) (a6:List ByteArray) (a4:List (ByteArray×Int)) (a3:List Int) (a5:Int):Option (Int×aW) :=
 must (0≤a5∧a5 < (a3.length:Int)) ((lw a1.Kind).bind fun a7=>bif (idx a3 a5 != a7) then some (50,(⟨a6,a4,a3,a0.facts,a0.incs⟩:aW)) else (bif (a1.Kind == 2) then iO a0 a1 a2 a6 a4 a3 (a1.Kind == 2) else (iO a0 a1 a2 a6 a4 a3 (a1.Kind == 3))))
def kE (a0:aW) (a1:Call) (a2:Int):Option (Int×aW) :=
 (lw a1.Kind).bind fun a3=>must (((a0.types.length + 1) + (a0.types.length + 1) / 4 + 192) * 8≤281474976710656∧a0.types.length + 1≤9223372036854775807) (fO a0 a1 a2 (a0.keys++([a1.Key]:List ByteArray)) (fG a0.at_ a1.Key (a0.keys.length:Int)) (a0.types++([a3]:List Int)) (a0.keys.length:Int))
def aA (a0:aW) (a1:Call) (a2:Int):Option (Int×aW) :=
 bif !(ku a0.at_ a1.Key) then bif ((a0.keys.length:Int) == 32) then some (2,a0) else (must (((a0.keys.length + 1) + (a0.keys.length + 1) / 4 + 192) * 16≤281474976710656∧a0.keys.length + 1≤9223372036854775807) (kE a0 a1 a2)) else (fO a0 a1 a2 a0.keys a0.at_ a0.types (mat a0.at_ a1.Key))
def kV (a1:Int) (a2:Bool):Option (Int ⊕ Int) :=
 bif a2 then out (some 1) else (some (.inl (w64 (a1 + 1))))
def nG (a4:Int) (a3:Event×Bool):(List ByteArray×(List (ByteArray×Int))×List Int×(List (bV×Unit))×(List (ByteArray×(List Int)))×Int)→Option ((List ByteArray×(List (ByteArray×Int))×List Int×(List (bV×Unit))×(List (ByteArray×(List Int)))×Int) ⊕ ((List ByteArray×(List (ByteArray×Int))×List Int×(List (bV×Unit))×(List (ByteArray×(List Int)))×Int) ⊕ (Int ⊕ Int)))
 | (a8,a6,a5,a7,a9,a2)=>bif decide (a2 < (a3.1.Calls.length:Int)) then must (0≤a2∧a2 < (a3.1.Calls.length:Int)) ((aA (⟨a8,a6,a5,a7,a9⟩:aW) (idx a3.1.Calls a2) a4).bind fun a1=>bif (a1.1 != 0) then out (out (out (some 1))) else (some (.inl (a1.2.keys,a1.2.at_,a1.2.types,a1.2.facts,a1.2.incs,w64 (a2 + 1))))) else (out (some (.inl (a8,a6,a5,a7,a9,w64 (a4 + 1)))))
def nH (a6:List ByteArray) (a5:List (ByteArray×Int)) (a4:List Int) (a7:List (bV×Unit)) (a3:List (ByteArray×(List Int))) (a2:Int) (a8:Event×Bool) (a1:Bool):Option ((List ByteArray×(List (ByteArray×Int))×List Int×(List (bV×Unit))×(List (ByteArray×(List Int)))×Int) ⊕ (Int ⊕ Int)) :=
 bif a1 then out (out (some 1)) else (iter (nG a2 a8) (a6,a5,a4,a7,a3,0))
def kW (a0:History):(List ByteArray×(List (ByteArray×Int))×List Int×(List (bV×Unit))×(List (ByteArray×(List Int)))×Int)→Option ((List ByteArray×(List (ByteArray×Int))×List Int×(List (bV×Unit))×(List (ByteArray×(List Int)))×Int) ⊕ (Int ⊕ Int))
 | (a6,a5,a4,a7,a3,a1)=>bif decide (a1 < (a0.Txns.length:Int)) then must (0≤a1∧a1 < (a0.Txns.length:Int)) ((dI a0 (idx a0.Txns a1)).bind fun a2=>bif !a2.2 then nH a6 a5 a4 a7 a3 a1 a2 true else (must (0≤(0:Int)∧(0:Int)≤a1∧a1≤(a0.Txns.length:Int)) ((bG (di a0.Txns (0:Int) a1) (idx a0.Txns a1)).bind fun a8=>nH a6 a5 a4 a7 a3 a1 a2 (!a8)))) else (out (out (some 0)))
def qg (a0:History):Int→Option (Int ⊕ Int)
 | a1=>bif decide (a1 < (a0.Keys.length:Int)) then must (0≤a1∧a1 < (a0.Keys.length:Int)) (bif sEq (idx a0.Keys a1) (⟨#[]⟩:ByteArray) then kV a1 true else (bif decide (((idx a0.Keys a1).size:Int) > 32) then kV a1 true else (must (0≤(0:Int)∧(0:Int)≤a1∧a1≤(a0.Keys.length:Int)) ((slices_Contains_string (di a0.Keys (0:Int) a1) (idx a0.Keys a1)).bind fun a3=>kV a1 a3)))) else ((mr).bind fun a2=>iter (kW a0) (a2.keys,a2.at_,a2.types,a2.facts,a2.incs,0))
def nI (a0:History) (b7:Bool):Option Int :=
 bif b7 then some 1 else (iter (qg a0) 0)
def aN (a0:History):Option Int :=
 bif decide ((a0.Keys.length:Int) > 32) then nI a0 true else (nI a0 (decide ((a0.Txns.length:Int) > 32)))
def dZ (a0:List Int):Option (List Int) :=
 must (a0.length * 8≤140737488355328) (some a0)
def jf (a0:Int):Option Int :=
 bif (a0 == 1) then some 188 else (bif (a0 == 2) then some 189 else (bif (a0 == 3) then some 190 else (bif (a0 == 4) then some 191 else (some (-1)))))
def jg (a0:Unit) (a1:List Int):Option Bool :=
 some (decide ((a1.length:Int)≤1))
def lC (a0:Unit) (a1:List Int):Option Bool :=
 some (decide ((a1.length:Int)≤64))
def mU (a1:List Int):Int→Option (Int ⊕ Bool)
 | a2=>bif decide (a2 < (a1.length:Int)) then must (0≤w64 (a2 - 1)∧w64 (a2 - 1) < (a1.length:Int)) (must (0≤a2∧a2 < (a1.length:Int)) (bif decide (idx a1 (w64 (a2 - 1)) ≥ idx a1 a2) then out (some false) else (some (.inl (w64 (a2 + 1)))))) else (out (some (decide ((a1.length:Int)≤64))))
def eU (a0:Unit) (a1:List Int):Option Bool :=
 iter (mU a1) 1
def jB (a0:Unit) (a1:List Int):Option Bool :=
 some ((a1.length:Int) == 1)
def jh (a0:Int) (a1:List Int):Option Int :=
 (jf a0).bind fun y8=>bif (y8 == (188:Int)) then (jg () a1).bind fun a3=>bif !a3 then some 80 else (some 0) else (bif (y8 == (189:Int)) then (lC () a1).bind fun a4=>bif !a4 then some 80 else (some 0) else (bif (y8 == (190:Int)) then (eU () a1).bind fun a2=>bif !a2 then some 80 else (some 0) else (bif (y8 == (191:Int)) then (jB () a1).bind fun a5=>bif !a5 then some 80 else (some 0) else (bif (y8 == ((-1):Int)) then some 1 else none))))
def fu (a0:Unit) (a1:List Int) (a2:List Int):Option (List Int×Bool) :=
 bif ((a1.length:Int) == 1) then must (0≤(0:Int)∧(0:Int) < (a1.length:Int)) (must (0≤w64 ((a2.length:Int) - 1)∧w64 ((a2.length:Int) - 1) < (a2.length:Int)) (some (([]:List Int),(idx a1 (0:Int) == idx a2 (w64 ((a2.length:Int) - 1)))))) else (some (([]:List Int),false))
def oq (a0:List Int) (a1:List Int):Int→Option (Int ⊕ Bool)
 | a2=>bif decide (a2 < (a0.length:Int)) then must (0≤a2∧a2 < (a0.length:Int)) (must (0≤a2∧a2 < (a1.length:Int)) (bif (idx a0 a2 != idx a1 a2) then out (some false) else (some (.inl (w64 (a2 + 1)))))) else (out (some true))
def dQ (a0:List Int) (a1:List Int):Option Bool :=
 bif ((a0.length:Int) != (a1.length:Int)) then some false else (iter (oq a0 a1) 0)
def fP (a1:List Int) (a2:List Int) (a4:Bool):Option (List Int×Bool) :=
 bif a4 then some (([]:List Int),false) else (must (0≤(0:Int)∧(0:Int)≤(w64 ((a1.length:Int) - (a2.length:Int)))∧(w64 ((a1.length:Int) - (a2.length:Int)))≤(a1.length:Int)) ((dZ (di a1 (0:Int) (w64 ((a1.length:Int) - (a2.length:Int))))).bind fun a3=>some (a3,true)))
def dm (a0:Unit) (a1:List Int) (a2:List Int):Option (List Int×Bool) :=
 bif decide (w64 ((a1.length:Int) - (a2.length:Int)) < 0) then fP a1 a2 true else (must (0≤(w64 ((a1.length:Int) - (a2.length:Int)))∧(w64 ((a1.length:Int) - (a2.length:Int)))≤(a1.length:Int)∧(a1.length:Int)≤(a1.length:Int)) ((dQ (di a1 (w64 ((a1.length:Int) - (a2.length:Int))) (a1.length:Int)) a2).bind fun a3=>fP a1 a2 (!a3)))
def ko (a0:Int):Option Bool :=
 some (a0 != a0)
def kX (a0:Int) (a1:Int):Option Bool :=
 (ko a0).bind fun y7=>bif y7 then (ko a1).bind fun a2=>bif !a2 then some true else (some (decide (a0 < a1))) else (some (decide (a0 < a1)))
def iC (a0:Int):Option Bool :=
 some (a0 != a0)
def gT (a2:Int) (a1:Int):Option ((Int×Int) ⊕ (Int×Bool)) :=
 some (.inl (a2,a1))
def gU (a0:List Int) (a1:Int):(Int×Int)→Option ((Int×Int) ⊕ (Int×Bool))
 | (a2,a3)=>bif decide (a2 < a3) then must (0≤(1:Int)∧(1:Int) < (far:Int)) (must (0≤w64 (qC .u64 (IntKind.wrap .u64 (w64 (a2 + a3))) (1:Int))∧w64 (qC .u64 (IntKind.wrap .u64 (w64 (a2 + a3))) (1:Int)) < (a0.length:Int)) ((kX (idx a0 (w64 (qC .u64 (IntKind.wrap .u64 (w64 (a2 + a3))) (1:Int)))) a1).bind fun a4=>bif a4 then gT (w64 ((w64 (qC .u64 (IntKind.wrap .u64 (w64 (a2 + a3))) (1:Int))) + 1)) a3 else (gT a2 (w64 (qC .u64 (IntKind.wrap .u64 (w64 (a2 + a3))) (1:Int)))))) else (bif decide (a2 < (a0.length:Int)) then must (0≤a2∧a2 < (a0.length:Int)) (bif (idx a0 a2 == a1) then out (some (a2,true)) else ((iC (idx a0 a2)).bind fun a5=>bif a5 then (iC a1).bind fun a6=>out (some (a2,a6)) else (out (some (a2,false))))) else (out (some (a2,false))))
def bu (a0:List Int) (a1:Int):Option (Int×Bool) :=
 iter (gU a0 a1) (0,(a0.length:Int))
def gV (a0:List Int) (a1 a2:Int):Option (List Int) :=
 must (0≤a1∧a1≤a2∧a2≤(a0.length:Int)) (some (a0.take a1.toNat++a0.drop a2.toNat))
def ji (a2:List Int):(List Int×Int)→Option ((List Int×Int) ⊕ (List Int×Bool))
 | (a4,a1)=>bif decide (a1 < (a2.length:Int)) then must (0≤a1∧a1 < (a2.length:Int)) ((bu a4 (idx a2 a1)).bind fun a3=>bif !a3.2 then out (some (([]:List Int),false)) else ((gV a4 a3.1 (w64 (a3.1 + 1))).bind fun a5=>some (.inl (a5,w64 (a1 + 1))))) else (out (some (a4,true)))
def dN (a0:Unit) (a1:List Int) (a2:List Int):Option (List Int×Bool) :=
 (dZ a1).bind fun y7=>iter (ji a2) (y7,0)
def gu (a2:List Int):(Int×Int)→Option ((Int×Int) ⊕ (List Int×Bool))
 | (a3,a1)=>bif decide (a1 < (a2.length:Int)) then must (0≤a1∧a1 < (a2.length:Int)) (some (.inl (w64 (a3 - (idx a2 a1)),w64 (a1 + 1)))) else (out (some (([a3]:List Int),true)))
def dw (a0:Unit) (a1:List Int) (a2:List Int):Option (List Int×Bool) :=
 must (0≤(0:Int)∧(0:Int) < (a1.length:Int)) (iter (gu a2) (idx a1 (0:Int),0))
def jd (a0:Int) (a1:List Int) (a2:List Int) (b9:Bool):Option (List Int×Bool) :=
 bif b9 then some (([]:List Int),false) else ((jf a0).bind fun a3=>bif (a3 == (188:Int)) then (fu () a1 a2).bind fun a5=>some (a5.1,a5.2) else (bif (a3 == (189:Int)) then (dm () a1 a2).bind fun a4=>some (a4.1,a4.2) else (bif (a3 == (190:Int)) then (dN () a1 a2).bind fun a7=>some (a7.1,a7.2) else (bif (a3 == (191:Int)) then (dw () a1 a2).bind fun a6=>some (a6.1,a6.2) else (bif (a3 == ((-1):Int)) then none else none)))))
def eX (a0:Int) (a1:List Int) (a2:List Int):Option (List Int×Bool) :=
 (jh a0 a1).bind fun a3=>bif (a3 != 0) then jd a0 a1 a2 true else (jd a0 a1 a2 ((a2.length:Int) == 0))
def fD (a1:Int) (a4:List Ask) (a3:List eZ) (a2:List (Int×(List Int))):Option ((List Ask×List eZ×(List (Int×(List Int)))×Int) ⊕ dK) :=
 some (.inl (a4,a3,a2,w64 (a1 + 1)))
def jC (a1:History) (a2:Int) (a5:List Ask) (a4:List eZ) (a6:List (Int×(List Int))) (a3:Int) (a8:List Int) (a7:Bool):Option ((List Ask×List eZ×(List (Int×(List Int)))×Int) ⊕ dK) :=
 bif !a7 then must (((a4.length + 1) + (a4.length + 1) / 4 + 192) * 16≤281474976710656∧a4.length + 1≤9223372036854775807) (fD a3 a5 (a4++([(⟨a2,a3⟩:eZ)]:List eZ)) a6) else (must (((a5.length + 1) + (a5.length + 1) / 4 + 192) * 48≤281474976710656∧a5.length + 1≤9223372036854775807) (fD a3 (a5++([(⟨a2,a3,(idx ((idx a1.Txns a2).Ops) a3).Key,a8⟩:Ask)]:List Ask)) a4 a6))
def jD (a1:History) (a2:Int) (a7:List Ask) (a5:List eZ) (a3:List (Int×(List Int))) (a4:Int) (a6:List Int×Bool) (a8:Bool):Option ((List Ask×List eZ×(List (Int×(List Int)))×Int) ⊕ dK) :=
 bif a8 then fD a4 a7 a5 a3 else (jC a1 a2 a7 a5 a3 a4 a6.1 a6.2)
def lL (a1:History) (a2:Int):(List Ask×List eZ×(List (Int×(List Int)))×Int)→Option ((List Ask×List eZ×(List (Int×(List Int)))×Int) ⊕ dK)
 | (a6,a5,a4,a3)=>bif decide (a3 < (((idx a1.Txns a2).Ops).length:Int)) then must (0≤a3∧a3 < (((idx a1.Txns a2).Ops).length:Int)) (bif decide ((idx ((idx a1.Txns a2).Ops) a3).Kind≤4) then must (((((mat a4 ((idx ((idx a1.Txns a2).Ops) a3).Key)).length) + 1) + (((mat a4 ((idx ((idx a1.Txns a2).Ops) a3).Key)).length) + 1) / 4 + 192) * 8≤281474976710656∧((mat a4 ((idx ((idx a1.Txns a2).Ops) a3).Key)).length) + 1≤9223372036854775807) (fD a3 a6 a5 (fG a4 ((idx ((idx a1.Txns a2).Ops) a3).Key) ((mat a4 ((idx ((idx a1.Txns a2).Ops) a3).Key))++([(idx ((idx a1.Txns a2).Ops) a3).Arg]:List Int)))) else ((dZ ((idx ((idx a1.Txns a2).Ops) a3).Vals)).bind fun a8=>bif decide (((mat a4 ((idx ((idx a1.Txns a2).Ops) a3).Key)).length:Int) > 0) then (eX (w64 (((idx ((idx a1.Txns a2).Ops) a3).Kind) - 4)) ((idx ((idx a1.Txns a2).Ops) a3).Vals) (mat a4 ((idx ((idx a1.Txns a2).Ops) a3).Key))).bind fun a7=>bif a7.2 then jD a1 a2 a6 a5 a4 a3 a7 ((idx ((idx a1.Txns a2).Ops) a3).Kind == 5) else (jD a1 a2 a6 a5 a4 a3 a7 false) else (jC a1 a2 a6 a5 a4 a3 a8 true))) else (out (some (⟨a6,a5⟩:dK)))
def aS (a0:dK) (a1:History) (a2:Int):Option dK :=
 must (0≤a2∧a2 < (a1.Txns.length:Int)) (bif ((idx a1.Txns a2).Status != 1) then some a0 else (iter (lL a1 a2) (a0.asks,a0.bad,[],0)))
def sN (a0:History):(List Ask×List eZ×Int)→Option ((List Ask×List eZ×Int) ⊕ (dK×Int))
 | (a3,a4,a1)=>bif decide (a1 < (a0.Txns.length:Int)) then (aS (⟨a3,a4⟩:dK) a0 a1).bind fun a2=>some (.inl (a2.asks,a2.bad,w64 (a1 + 1))) else (out (some ((⟨a3,a4⟩:dK),0)))
def jK (a0:History):Option (dK×Int) :=
 (aN a0).bind fun a1=>bif (a1 != 0) then some ((⟨([]:List Ask),([]:List eZ)⟩:dK),a1) else (iter (sN a0) ([],[],0))
def jR (a0:History):Option (List Ask×Int) :=
 (jK a0).bind fun a1=>some (a1.1.asks,a1.2)
def rQ (a0:History):Option (List eZ×Int) :=
 (jK a0).bind fun a1=>some (a1.1.bad,a1.2)
def oN (a0:History) (a1:List Int) (a3:List (Int×Int)) (a2:Int) (a4:Bool):Option (((List (Int×Int))×Int) ⊕ (bN×Bool)) :=
 bif a4 then out (some ((⟨a0,a1,a3⟩:bN),false)) else (some (.inl (fG a3 (idx a1 a2) a2,w64 (a2 + 1))))
def qP (a0:History) (a1:List Int) (a3:List (Int×Int)) (a2:Int) (a4:Bool):Option (Int ⊕ (((List (Int×Int))×Int) ⊕ (bN×Bool))) :=
 bif a4 then out (out (some ((⟨a0,a1,a3⟩:bN),false))) else (some (.inl (w64 (a2 + 1))))
def qQ (a0:History) (a1:List Int) (a3:List (Int×Int)):Int→Option (Int ⊕ (((List (Int×Int))×Int) ⊕ (bN×Bool)))
 | a2=>bif decide (a2 < (a0.Txns.length:Int)) then must (0≤a2∧a2 < (a0.Txns.length:Int)) (bif !(ku a3 a2) then qP a0 a1 a3 a2 ((idx a0.Txns a2).Status == 1) else (qP a0 a1 a3 a2 false)) else (out (out (some ((⟨a0,a1,a3⟩:bN),true))))
def uu (a0:History) (a1:List Int):((List (Int×Int))×Int)→Option (((List (Int×Int))×Int) ⊕ (bN×Bool))
 | (a3,a2)=>bif decide (a2 < (a1.length:Int)) then must (0≤a2∧a2 < (a1.length:Int)) (bif decide (idx a1 a2 < 0) then oN a0 a1 a3 a2 true else (bif decide (idx a1 a2 ≥ (a0.Txns.length:Int)) then oN a0 a1 a3 a2 true else (must (0≤idx a1 a2∧idx a1 a2 < (a0.Txns.length:Int)) (oN a0 a1 a3 a2 ((idx a0.Txns (idx a1 a2)).Status == 2))))) else (bif ((a3.length:Int) != (a1.length:Int)) then out (some ((⟨a0,a1,a3⟩:bN),false)) else (iter (qQ a0 a1 a3) 0))
def dS (a0:History) (a1:List Int):Option (bN×Bool) :=
 iter (uu a0 a1) ([],0)
def ig (a1:Int) (a2:List (Int×Int)):Option (((List (Int×Int))×Int) ⊕ Bool) :=
 some (.inl (a2,w64 (a1 + 1)))
def ik (a0:bN) (a2:List (Int×Int)) (a1:Int) (a3:Bool):Option (((List (Int×Int))×Int) ⊕ Bool) :=
 bif a3 then out (some false) else (ig a1 (fG a2 ((idx a0.h.Txns a1).Proc) (yD (mat a0.at_ a1) (mat a2 ((idx a0.h.Txns a1).Proc)))))
def jS (a0:bN):((List (Int×Int))×Int)→Option (((List (Int×Int))×Int) ⊕ Bool)
 | (a2,a1)=>bif decide (a1 < (a0.h.Txns.length:Int)) then must (0≤a1∧a1 < (a0.h.Txns.length:Int)) (bif !(ku a0.at_ a1) then ig a1 a2 else (bif ku a2 ((idx a0.h.Txns a1).Proc) then ik a0 a2 a1 (decide (mat a2 ((idx a0.h.Txns a1).Proc) > mat a0.at_ a1)) else (ik a0 a2 a1 false))) else (out (some true))
def aY (a0:bN):Option Bool :=
 iter (jS a0) ([],0)
def nJ (a2:Int) (a1:List Int):Option ((List Int×Int) ⊕ (List Int)) :=
 some (.inl (a1,w64 (a2 + 1)))
def nK (a0:Txn) (a1:List Int) (a2:Int) (a3:Bool):Option ((List Int×Int) ⊕ (List Int)) :=
 bif a3 then must (((a1.length + 1) + (a1.length + 1) / 4 + 192) * 8≤281474976710656∧a1.length + 1≤9223372036854775807) (nJ a2 (a1++([(idx a0.Ops a2).Arg]:List Int))) else (nJ a2 a1)
def qh (a0:Txn) (a1:Int):(List Int×Int)→Option ((List Int×Int) ⊕ (List Int))
 | (a3,a2)=>bif decide (a2 < (a0.Ops.length:Int)) then must (0≤a2∧a2 < (a0.Ops.length:Int)) (bif ((idx a0.Ops a2).Key == a1) then nK a0 a3 a2 (decide ((idx a0.Ops a2).Kind≤4)) else (nK a0 a3 a2 false)) else (out (some a3))
def dA (a0:Txn) (a1:Int):Option (List Int) :=
 iter (qh a0 a1) ([],0)
def kY (a0:History) (a1:Int) (a2:Int) (a4:Bool):Option (List Int×Bool) :=
 bif a4 then some (([]:List Int),false) else (must (0≤a1∧a1 < (a0.Txns.length:Int)) ((dA (idx a0.Txns a1) a2).bind fun a3=>some (a3,decide ((a3.length:Int) > 0))))
def gF (a0:History) (a1:Int) (a2:Int):Option (List Int×Bool) :=
 bif decide (a1 < 0) then kY a0 a1 a2 true else (bif decide (a1 ≥ (a0.Txns.length:Int)) then kY a0 a1 a2 true else ((aN a0).bind fun a3=>kY a0 a1 a2 (a3 != 0)))
def jE (a0:bN) (a1:Ask) (a2:Int) (b9:Bool):Option Bool :=
 bif b9 then some false else ((gF a0.h a2 a1.Key).bind fun a3=>some a3.2)
def dU (a0:bN) (a1:Ask) (a2:Int):Option Bool :=
 bif !(ku a0.at_ a2) then jE a0 a1 a2 true else (jE a0 a1 a2 (decide (mat a0.at_ a2 ≥ mat a0.at_ a1.Txn)))
def rA (a0:History) (a1:Int) (a3:Int):Int→Option (Int ⊕ (Int ⊕ Int))
 | a2=>bif decide (a2 < (((idx a0.Txns a3).Ops).length:Int)) then must (0≤a2∧a2 < (((idx a0.Txns a3).Ops).length:Int)) (bif ((idx ((idx a0.Txns a3).Ops) a2).Key == a1) then (lw ((idx ((idx a0.Txns a3).Ops) a2).Kind)).bind fun a4=>out (out (some a4)) else (some (.inl (w64 (a2 + 1))))) else (out (some (.inl (w64 (a3 + 1)))))
def rC (a0:History) (a1:Int):Int→Option (Int ⊕ Int)
 | a2=>bif decide (a2 < (a0.Txns.length:Int)) then must (0≤a2∧a2 < (a0.Txns.length:Int)) (iter (rA a0 a1 a2) 0) else (out (some 0))
def eO (a0:History) (a1:Int):Option Int :=
 (aN a0).bind fun y8=>bif (y8 != 0) then some 0 else (iter (rC a0 a1) 0)
def nL (a0:List Int):Option (List Int):=must (a0.length < 4611686018427387904) (some (a0.mergeSort fun x y=>decide (x≤y)))
def iP (a1:List Int):Option (List Int) :=
 some a1
def kF (a2:List Int):(Int×Int)→Option ((Int×Int) ⊕ (List Int))
 | (a3,a1)=>bif decide (a1 < (a2.length:Int)) then must (0≤a1∧a1 < (a2.length:Int)) (some (.inl (w64 (a3 + (idx a2 a1)),w64 (a1 + 1)))) else (out (some ([a3]:List Int)))
def fQ (a0:bN) (a1:Int) (a2:List Int):Option (List Int) :=
 (eO a0.h a1).bind fun a3=>bif (a3 == 1) then must (0≤(yD 0 (w64 ((a2.length:Int) - 1)))∧(yD 0 (w64 ((a2.length:Int) - 1)))≤(a2.length:Int)∧(a2.length:Int)≤(a2.length:Int)) (some (di a2 (yD 0 (w64 ((a2.length:Int) - 1))) (a2.length:Int))) else (bif (a3 == 3) then (nL a2).bind fun a4=>iP a4 else (bif (a3 == 4) then iter (kF a2) (0,0) else (iP a2)))
def iQ (a2:Int) (a1:List Int):Option ((List Int×Int) ⊕ ((List Int×Int) ⊕ (List Int))) :=
 some (.inl (a1,w64 (a2 + 1)))
def iR (a0:bN) (a2:Int) (a4:Int) (a1:List Int) (a3:Int) (a5:Bool):Option ((List Int×Int) ⊕ ((List Int×Int) ⊕ (List Int))) :=
 bif a5 then must (((a1.length + 1) + (a1.length + 1) / 4 + 192) * 8≤281474976710656∧a1.length + 1≤9223372036854775807) (iQ a3 (a1++([(idx ((idx a0.h.Txns (idx (di a0.order (0:Int) (w64 ((mat a0.at_ a2) + 1))) a4)).Ops) a3).Arg]:List Int))) else (iQ a3 a1)
def kG (a0:bN) (a1:Int) (a2:Int) (a3:Int):(List Int×Int)→Option ((List Int×Int) ⊕ ((List Int×Int) ⊕ (List Int)))
 | (a5,a4)=>bif decide (a4 < (((idx a0.h.Txns (idx (di a0.order (0:Int) (w64 ((mat a0.at_ a2) + 1))) a3)).Ops).length:Int)) then must (0≤a4∧a4 < (((idx a0.h.Txns (idx (di a0.order (0:Int) (w64 ((mat a0.at_ a2) + 1))) a3)).Ops).length:Int)) (bif ((idx ((idx a0.h.Txns (idx (di a0.order (0:Int) (w64 ((mat a0.at_ a2) + 1))) a3)).Ops) a4).Key == a1) then iR a0 a2 a3 a5 a4 (decide ((idx ((idx a0.h.Txns (idx (di a0.order (0:Int) (w64 ((mat a0.at_ a2) + 1))) a3)).Ops) a4).Kind≤4)) else (iR a0 a2 a3 a5 a4 false)) else (out (some (.inl (a5,w64 (a3 + 1)))))
def kH (a0:bN) (a1:Int) (a2:Int):(List Int×Int)→Option ((List Int×Int) ⊕ (List Int))
 | (a4,a3)=>bif decide (a3 < ((di a0.order (0:Int) (w64 ((mat a0.at_ a2) + 1))).length:Int)) then must (0≤a3∧a3 < ((di a0.order (0:Int) (w64 ((mat a0.at_ a2) + 1))).length:Int)) (must (0≤idx (di a0.order (0:Int) (w64 ((mat a0.at_ a2) + 1))) a3∧idx (di a0.order (0:Int) (w64 ((mat a0.at_ a2) + 1))) a3 < (a0.h.Txns.length:Int)) (iter (kG a0 a1 a2 a3) (a4,0))) else (out (fQ a0 a1 a4))
def aB (a0:bN) (a1:Int) (a2:Int):Option (List Int) :=
 bif decide (a2 ≥ 0) then must (0≤(0:Int)∧(0:Int)≤(w64 ((mat a0.at_ a2) + 1))∧(w64 ((mat a0.at_ a2) + 1))≤(a0.order.length:Int)) (iter (kH a0 a1 a2) ([],0)) else (fQ a0 a1 [])
def qR (a1:Exec) (a3:List Ask×Int) (a4:bN×Bool) (a2:Int) (a6:Bool):Option (Int ⊕ (Int×Int)) :=
 bif a6 then out (some (5,0)) else (must (0≤a2∧a2 < (a1.Picks.length:Int)) ((aB a4.1 ((idx a3.1 a2).Key) (idx a1.Picks a2)).bind fun a7=>(dQ a7 ((idx a3.1 a2).Base)).bind fun a5=>bif !a5 then out (some (6,0)) else (some (.inl (w64 (a2 + 1))))))
def qU (a1:Exec) (a3:List Ask×Int) (a4:bN×Bool):Int→Option (Int ⊕ (Int×Int))
 | a2=>bif decide (a2 < (a3.1.length:Int)) then must (0≤a2∧a2 < (a3.1.length:Int)) (must (0≤a2∧a2 < (a1.Picks.length:Int)) (bif (idx a1.Picks a2 != (-1)) then (dU a4.1 (idx a3.1 a2) (idx a1.Picks a2)).bind fun a5=>qR a1 a3 a4 a2 (!a5) else (qR a1 a3 a4 a2 false))) else (out (some (0,0)))
def fT (a0:History) (a1:Exec):Option (Int×Int) :=
 (jR a0).bind fun a2=>bif (a2.2 != 0) then some (0,a2.2) else ((rQ a0).bind fun a4=>bif decide ((a4.1.length:Int) > 0) then some (1,0) else ((dS a0 a1.Order).bind fun a3=>bif !a3.2 then some (2,0) else (bif ((a1.Picks.length:Int) != (a2.1.length:Int)) then some (3,0) else ((aY a3.1).bind fun a5=>bif !a5 then some (4,0) else (iter (qU a1 a2 a3) 0)))))
def lD (a2:Int) (a1:List Int):Option ((List Int×Int) ⊕ (List Int)) :=
 some (.inl (a1,w64 (a2 + 1)))
def lF (a1:List Int) (a2:Int) (a3:Bool):Option ((List Int×Int) ⊕ (List Int)) :=
 bif a3 then must (((a1.length + 1) + (a1.length + 1) / 4 + 192) * 8≤281474976710656∧a1.length + 1≤9223372036854775807) (lD a2 (a1++([a2]:List Int))) else (lD a2 a1)
def oD (a0:History) (a1:Int):(List Int×Int)→Option ((List Int×Int) ⊕ (List Int))
 | (a3,a2)=>bif decide (a2 < (a0.Txns.length:Int)) then must (0≤a2∧a2 < (a0.Txns.length:Int)) (bif ((idx a0.Txns a2).Status != 2) then (dA (idx a0.Txns a2) a1).bind fun a4=>lF a3 a2 (decide ((a4.length:Int) > 0)) else (lF a3 a2 false)) else (out (some a3))
def bX (a0:History) (a1:Int):Option (List Int) :=
 (aN a0).bind fun y8=>bif (y8 != 0) then some ([]:List Int) else (iter (oD a0 a1) ([],0))
def mG (a2:Int) (a1:List Int):Option ((List Int×Int) ⊕ ((List Int×List Int×List Int×Int×Int) ⊕ (bF×Int))) :=
 some (.inl (a1,w64 (a2 + 1)))
def mH (a0:History) (a1:Exec) (a7:List Int) (a6:List Int) (a5:Int) (a2:Int):(List Int×Int)→Option ((List Int×Int) ⊕ ((List Int×List Int×List Int×Int×Int) ⊕ (bF×Int)))
 | (a4,a3)=>bif decide (a3 < ((di a1.Order (0:Int) a2).length:Int)) then must (0≤a3∧a3 < ((di a1.Order (0:Int) a2).length:Int)) (must (0≤idx (di a1.Order (0:Int) a2) a3∧idx (di a1.Order (0:Int) a2) a3 < (a0.Txns.length:Int)) (must (0≤idx a1.Order a2∧idx a1.Order a2 < (a0.Txns.length:Int)) (bif ((idx a0.Txns (idx (di a1.Order (0:Int) a2) a3)).Proc == (idx a0.Txns (idx a1.Order a2)).Proc) then must (0≤idx (di a1.Order (0:Int) a2) a3∧idx (di a1.Order (0:Int) a2) a3 < (far:Int)) (mG a3 (pQ 32 a4 (idx a1.Order a2) (bOr .u32 (idx a4 (idx a1.Order a2)) (oP .u32 1 (idx (di a1.Order (0:Int) a2) a3))))) else (mG a3 a4)))) else (must (0≤idx a1.Order a2∧idx a1.Order a2 < (far:Int)) (out (some (.inl ((pQ 32 a7 (idx a1.Order a2) (w64 (a2 + 1))),(pQ 32 a6 (idx a1.Order a2) a5),a4,bOr .u32 a5 (oP .u32 1 (idx a1.Order a2)),w64 (a2 + 1))))))
def mI (a1:Int) (a2:List Int):Option ((List Int×Int) ⊕ ((List Int×List Int×List Int×Int×Int) ⊕ (bF×Int))) :=
 some (.inl (a2,w64 (a1 + 1)))
def mJ (a1:Int) (a2:List (Int×Int)):Option (((List (Int×Int))×Int) ⊕ (((List (Int×Int))×Int) ⊕ ((List Int×Int) ⊕ ((List Int×List Int×List Int×Int×Int) ⊕ (bF×Int))))) :=
 some (.inl (a2,w64 (a1 + 1)))
def oW (a5:List Int) (a4:Int) (a2:List Int):((List (Int×Int))×Int)→Option (((List (Int×Int))×Int) ⊕ (((List (Int×Int))×Int) ⊕ ((List Int×Int) ⊕ ((List Int×List Int×List Int×Int×Int) ⊕ (bF×Int)))))
 | (a3,a1)=>bif decide (a1 < (a2.length:Int)) then must (0≤a1∧a1 < (a2.length:Int)) (must (0≤(idx a2 a1)∧(idx a2 a1) < ((32:Nat):Int)) (bif decide (idx a5 (idx a2 a1) > 0) then must (0≤idx a2 a1∧idx a2 a1 < (far:Int)) (mJ a1 (fG a3 a4 (bOr .u32 (mat a3 a4) (oP .u32 1 (idx a2 a1))))) else (mJ a1 a3))) else (out (some (.inl (a3,w64 (a4 + 1)))))
def oZ (a0:History) (a1:Exec) (a8:List Ask×Int) (a4:List Int) (a5:List Int) (a6:List Int):((List (Int×Int))×Int)→Option (((List (Int×Int))×Int) ⊕ ((List Int×Int) ⊕ ((List Int×List Int×List Int×Int×Int) ⊕ (bF×Int))))
 | (a3,a2)=>bif decide (a2 < (a0.Keys.length:Int)) then (bX a0 a2).bind fun a7=>iter (oW a4 a2 a7) (a3,0) else (out (out (out (some ((⟨a0,a1,a8.1,a4,a5,a6,a3⟩:bF),0)))))
def pg (a0:History) (a1:Exec) (a3:List Ask×Int) (a6:List Int) (a5:List Int):(List Int×Int)→Option ((List Int×Int) ⊕ ((List Int×List Int×List Int×Int×Int) ⊕ (bF×Int)))
 | (a4,a2)=>bif decide (a2 < (a3.1.length:Int)) then must (0≤a2∧a2 < (a3.1.length:Int)) (must (0≤a2∧a2 < (a1.Picks.length:Int)) (bif decide (idx a1.Picks a2 ≥ 0) then must (0≤((idx a3.1 a2).Txn)∧((idx a3.1 a2).Txn) < ((32:Nat):Int)) (must (0≤idx a1.Picks a2∧idx a1.Picks a2 < (far:Int)) (mI a2 (pQ 32 a4 ((idx a3.1 a2).Txn) (bOr .u32 (idx a4 ((idx a3.1 a2).Txn)) (oP .u32 1 (idx a1.Picks a2)))))) else (mI a2 a4))) else (iter (oZ a0 a1 a3 a6 a5 a4) ([],0))
def pq (a0:History) (a1:Exec) (a7:List Ask×Int):(List Int×List Int×List Int×Int×Int)→Option ((List Int×List Int×List Int×Int×Int) ⊕ (bF×Int))
 | (a4,a3,a5,a6,a2)=>bif decide (a2 < (a1.Order.length:Int)) then must (0≤a2∧a2 < (a1.Order.length:Int)) (must (0≤(idx a1.Order a2)∧(idx a1.Order a2) < ((32:Nat):Int)) (must (0≤(0:Int)∧(0:Int)≤a2∧a2≤(a1.Order.length:Int)) (iter (mH a0 a1 a4 a3 a6 a2) (a5,0)))) else (iter (pg a0 a1 a7 a4 a3) (a5,0))
def mK (a0:History) (a1:Exec) (a2:Bool):Option (bF×Int) :=
 bif a2 then some ((default:bF),1) else ((jR a0).bind fun a3=>iter (pq a0 a1 a3) (([]:List Int),([]:List Int),([]:List Int),0,0))
def aM (a0:History) (a1:Exec):Option (bF×Int) :=
 (fT a0 a1).bind fun a2=>bif (a2.2 != 0) then mK a0 a1 true else (mK a0 a1 (a2.1 != 0))
def jk (a1:Int) (a2:Int):Option ((Int×Int) ⊕ Int) :=
 some (.inl (a2,w64 (a1 + 1)))
def gG (a0:bF) (a2:Int) (a1:Int) (a3:Bool):Option ((Int×Int) ⊕ Int) :=
 bif a3 then must (0≤a1∧a1 < (a0.x.Picks.length:Int)) (must (0≤idx a0.x.Picks a1∧idx a0.x.Picks a1 < (far:Int)) (jk a1 (bOr .u32 a2 (oP .u32 1 (idx a0.x.Picks a1))))) else (jk a1 a2)
def kZ (a0:bF) (a1:Int):(Int×Int)→Option ((Int×Int) ⊕ Int)
 | (a3,a2)=>bif decide (a2 < (a0.asks.length:Int)) then must (0≤a2∧a2 < (a0.asks.length:Int)) (must (0≤a1∧a1 < (a0.asks.length:Int)) (bif ((idx a0.asks a2).Txn == (idx a0.asks a1).Txn) then bif decide ((idx a0.asks a2).Place < (idx a0.asks a1).Place) then must (0≤a2∧a2 < (a0.x.Picks.length:Int)) (gG a0 a3 a2 (decide (idx a0.x.Picks a2 ≥ 0))) else (gG a0 a3 a2 false) else (gG a0 a3 a2 false))) else (out (some a3))
def bf (a0:bF) (a1:Int):Option Int :=
 iter (kZ a0 a1) (0,0)
def mM {σ:Type} (a2:Int) (a4:Int) (a3:Bool) (a1:σ):Option ((Int×Int×σ) ⊕ σ) :=
 bif a3 then out (some a1) else (must (0≤(1:Int)∧(1:Int) < (far:Int)) (some (.inl (qC .u32 a2 (1:Int),w64 (a4 + 1),a1))))
def pu {σ:Type} (Y:σ→Int→Option (Bool×σ)):(Int×Int×σ)→Option ((Int×Int×σ) ⊕ σ)
 | (a1,a3,a2)=>bif (a1 != 0) then bif (uS .u32 a1 1 == 1) then (Y a2 a3).bind fun a4=>mM a1 a3 (!a4.1) a4.2 else (mM a1 a3 false a2) else (out (some a2))
def dz {σ:Type} (Y:σ→Int→Option (Bool×σ)) (a1:Int) (s0:σ):Option σ :=
 iter (pu Y) (a1,0,s0)
def lc (a0:Int):Option Unit :=
 some ()
def kM (a0:bF):(Int ⊕ Unit)→Int→Option (Bool×(Int ⊕ Unit))
 | .inl a2,a1=>must (0≤a1∧a1 < ((32:Nat):Int)) (some (true,.inl (bOr .u32 a2 (idx a0.near a1))))
 | .inr _,_=>none
def nM (a2:Int):(Int ⊕ Unit)→Option (Int ⊕ Int)
 | .inl a1=>bif (a1 == a2) then out (some a2) else (some (.inl a1))
 | .inr _=>none
def nN (a0:bF):Int→Option (Int ⊕ Int)
 | a1=>(lc a1).bind fun a3=>(dz (kM a0) a1 (.inl a1)).bind fun a2=>nM a1 a2
def bW (a0:bF) (a1:Int):Option Int :=
 must (0≤a1∧a1 < ((32:Nat):Int)) (iter (nN a0) (idx a0.near a1))
def jT (a0:bF):(Int ⊕ Unit)→Int→Option (Bool×(Int ⊕ Unit))
 | .inl a2,a1=>must (0≤a1∧a1 < ((32:Nat):Int)) (some (true,.inl (bOr .u32 a2 (idx a0.behind a1))))
 | .inr _,_=>none
def qi:(Int ⊕ Unit)→Option Int
 | .inl a1=>some a1
 | .inr _=>none
def dh (a0:bF) (a1:Int):Option Int :=
 (lc a1).bind fun a3=>(dz (jT a0) a1 (.inl a1)).bind fun a2=>qi a2
def dL.m1 (a0:bF) (a1:Int):Int→(Int×Int)→Option Int
 | a2,p62=>must (0≤a1∧a1 < (far:Int)) (bif (uS .u32 (qC .u32 p62.2 a1) 1 == 1) then must (0≤a1∧a1 < ((32:Nat):Int)) (some (bOr .u32 a2 (uS .u32 p62.2 (idx a0.behind a1)))) else (some a2))
def dL (a0:bF) (a1:Int):Option Int :=
 (wW (dL.m1 a0 a1) 0 a0.writes).bind fun a2=>some a2
def lg (a0:bF) (a1:Int) (a2:Int):Option Int :=
 must (0≤a2∧a2 < (a0.asks.length:Int)) (bif (a1 == 1) then (bf a0 a2).bind fun a3=>some a3 else (bif (a1 == 2) then must (0≤(idx a0.asks a2).Txn∧(idx a0.asks a2).Txn < (far:Int)) (bif (uS .u32 (qC .u32 (mat a0.writes ((idx a0.asks a2).Key)) ((idx a0.asks a2).Txn)) 1 == 1) then must (0≤((idx a0.asks a2).Txn)∧((idx a0.asks a2).Txn) < ((32:Nat):Int)) (some (idx a0.behind ((idx a0.asks a2).Txn))) else ((bf a0 a2).bind fun a7=>some a7)) else (bif (a1 == 3) then must (0≤((idx a0.asks a2).Txn)∧((idx a0.asks a2).Txn) < ((32:Nat):Int)) (some (idx a0.near ((idx a0.asks a2).Txn))) else (bif (a1 == 4) then (bW a0 ((idx a0.asks a2).Txn)).bind fun a8=>some a8 else (bif (a1 == 5) then must (0≤((idx a0.asks a2).Txn)∧((idx a0.asks a2).Txn) < ((32:Nat):Int)) ((dh a0 (idx a0.near ((idx a0.asks a2).Txn))).bind fun a4=>some a4) else (bif (a1 == 6) then must (0≤((idx a0.asks a2).Txn)∧((idx a0.asks a2).Txn) < ((32:Nat):Int)) ((dL a0 ((idx a0.asks a2).Txn)).bind fun a5=>(dh a0 (bOr .u32 (idx a0.near ((idx a0.asks a2).Txn)) a5)).bind fun a6=>some a6) else (must (0≤((idx a0.asks a2).Txn)∧((idx a0.asks a2).Txn) < ((32:Nat):Int)) (some (idx a0.behind ((idx a0.asks a2).Txn))))))))))
def jF (a1:Int):Option (Int ⊕ ((Int×Int×Int)×Bool)) :=
 some (.inl (w64 (a1 + 1)))
def lM (a0:bF) (a2:Int) (a3:Int):Int→Option (Int ⊕ (Int ⊕ ((Int×Int×Int)×Bool)))
 | a1=>bif decide (a1 < (a0.x.Order.length:Int)) then must (0≤a1∧a1 < (a0.x.Order.length:Int)) (must (0≤idx a0.x.Order a1∧idx a0.x.Order a1 < (far:Int)) (bif (uS .u32 (qC .u32 a3 (idx a0.x.Order a1)) 1 == 1) then out (out (some (((idx a0.x.Order a1,idx a0.x.Picks a2,a2):Int×Int×Int),true))) else (some (.inl (w64 (a1 + 1)))))) else (out (jF a2))
def gW (a0:bF) (a2:Int) (a1:Int):Option (Int ⊕ ((Int×Int×Int)×Bool)) :=
 bif (a1 == 0) then jF a2 else (iter (lM a0 a2 a1) 0)
def lN (a0:bF) (a1:Int) (a2:Int):Option (Int ⊕ ((Int×Int×Int)×Bool)) :=
 bif decide (idx a0.x.Picks a1 ≥ 0) then must (0≤idx a0.x.Picks a1∧idx a0.x.Picks a1 < (far:Int)) (must (0≤(idx a0.x.Picks a1)∧(idx a0.x.Picks a1) < ((32:Nat):Int)) (gW a0 a1 (qY .u32 a2 (bOr .u32 (oP .u32 1 (idx a0.x.Picks a1)) (idx a0.behind (idx a0.x.Picks a1)))))) else (gW a0 a1 a2)
def lQ (a0:bF) (a1:Int):Int→Option (Int ⊕ ((Int×Int×Int)×Bool))
 | a2=>bif decide (a2 < (a0.asks.length:Int)) then must (0≤a2∧a2 < (a0.asks.length:Int)) (must (0≤a2∧a2 < (a0.x.Picks.length:Int)) ((lg a0 a1 a2).bind fun a3=>must (0≤(idx a0.asks a2).Txn∧(idx a0.asks a2).Txn < (far:Int)) (lN a0 a2 (qY .u32 (uS .u32 a3 (mat a0.writes ((idx a0.asks a2).Key))) (oP .u32 1 ((idx a0.asks a2).Txn)))))) else (out (some (((0,0,0):Int×Int×Int),false)))
def aR (a0:bF) (a1:Int):Option ((Int×Int×Int)×Bool) :=
 iter (lQ a0 a1) 0
def gP (a2:Int) (a1:Int) (a3:Bool):Option (Int ⊕ (Int ⊕ ((Int×Int×Int)×Bool))) :=
 bif a3 then out (out (some (((a2,a1,(-1)):Int×Int×Int),true))) else (some (.inl (w64 (a1 + 1))))
def nO (a0:bF) (a2:Int):Int→Option (Int ⊕ (Int ⊕ ((Int×Int×Int)×Bool)))
 | a1=>bif decide (a1 < (a0.h.Txns.length:Int)) then must (0≤a1∧a1 < (a0.h.Txns.length:Int)) (bif ((idx a0.h.Txns a2).Status == 1) then bif decide ((idx a0.h.Txns a2).To < (idx a0.h.Txns a1).From) then must (0≤a1∧a1 < ((32:Nat):Int)) (bif decide (idx a0.at_ a1 > 0) then must (0≤a2∧a2 < ((32:Nat):Int)) (gP a2 a1 (decide (idx a0.at_ a1 < idx a0.at_ a2))) else (gP a2 a1 false)) else (gP a2 a1 false) else (gP a2 a1 false)) else (out (some (.inl (w64 (a2 + 1)))))
def nP (a0:bF):Int→Option (Int ⊕ ((Int×Int×Int)×Bool))
 | a1=>bif decide (a1 < (a0.h.Txns.length:Int)) then must (0≤a1∧a1 < (a0.h.Txns.length:Int)) (iter (nO a0 a1) 0) else (out (some (((0,0,0):Int×Int×Int),false)))
def bL (a0:bF):Option ((Int×Int×Int)×Bool) :=
 iter (nP a0) 0
def mO (a2:Int) (a3:Int) (a4:Int) (a1:Bool):Option ((Int×Int×Int)×Bool×Int) :=
 some (((a2,a3,a4):Int×Int×Int),a1,0)
def mP (a3:bF×Int) (a2:(Int×Int×Int)×Bool) (a4:Bool):Option ((Int×Int×Int)×Bool×Int) :=
 bif a4 then (bL a3.1).bind fun a1=>mO a1.1.1 a1.1.2.1 a1.1.2.2 a1.2 else (mO a2.1.1 a2.1.2.1 a2.1.2.2 a2.2)
def je (a2:Int) (a1:bF×Int) (a4:Bool):Option ((Int×Int×Int)×Bool×Int) :=
 bif a4 then some (((0,0,0):Int×Int×Int),false,1) else ((aR a1.1 a2).bind fun a3=>bif !a3.2 then mP a1 a3 (a2 == 8) else (mP a1 a3 false))
def bH (a0:History) (a1:Exec) (a2:Int):Option ((Int×Int×Int)×Bool×Int) :=
 (aM a0 a1).bind fun a3=>bif (a3.2 != 0) then je a2 a3 true else (bif decide (a2 < 1) then je a2 a3 true else (je a2 a3 (decide (a2 > 8))))
def uw (a0:History) (a1:Exec) (a2:Int):Option (Bool×Int) :=
 (bH a0 a1 a2).bind fun y8=>bif (y8.2.2 == 0) then some (!y8.2.1,y8.2.2) else (some (false,y8.2.2))
def lG (a0:Int):Option Op :=
 some (⟨5,0,0,true,([a0]:List Int)⟩:Op)
def oF:Option (History×Exec) :=
 (lG 1).bind fun a2=>(lG 1).bind fun a1=>some ((⟨([(⟨#[120]⟩:ByteArray)]:List ByteArray),([(⟨0,1,0,1,([(⟨1,0,1,false,([]:List Int)⟩:Op)]:List Op)⟩:Txn),(⟨1,1,2,5,([a2,(⟨1,0,2,false,([]:List Int)⟩:Op)]:List Op)⟩:Txn),(⟨2,1,3,4,([a1,(⟨1,0,3,false,([]:List Int)⟩:Op)]:List Op)⟩:Txn)]:List Txn)⟩:History),(⟨([0,1,2]:List Int),([0,0]:List Int)⟩:Exec))
def kN:Option Bool :=
 (oF).bind fun a2=>(bH a2.1 a2.2 7).bind fun a1=>(uw a2.1 a2.2 5).bind fun a3=>bif (a1.2.2 == 0) then bif a1.2.1 then bif ((a1.1.1 == 1) && ((a1.1.2.1 == 0) && ((a1.1.2.2 == 1) && true))) then bif (a3.2 == 0) then some a3.1 else (some false) else (some false) else (some false) else (some false)
def lS (a0:History) (a4:List Txn) (a1:Int):(List Op×Int)→Option ((List Op×Int) ⊕ ((List Txn×Int) ⊕ History))
 | (a3,a2)=>bif decide (a2 < (((idx a0.Txns a1).Ops).length:Int)) then must (0≤a2∧a2 < (((idx a0.Txns a1).Ops).length:Int)) (must (((0 + (((idx ((idx a0.Txns a1).Ops) a2).Vals).length)) + (0 + (((idx ((idx a0.Txns a1).Ops) a2).Vals).length)) / 4 + 192) * 8≤281474976710656∧0 + (((idx ((idx a0.Txns a1).Ops) a2).Vals).length)≤9223372036854775807) (must (((a3.length + 1) + (a3.length + 1) / 4 + 192) * 56≤281474976710656∧a3.length + 1≤9223372036854775807) (some (.inl (a3++([(⟨(idx ((idx a0.Txns a1).Ops) a2).Kind,(idx ((idx a0.Txns a1).Ops) a2).Key,(idx ((idx a0.Txns a1).Ops) a2).Arg,(idx ((idx a0.Txns a1).Ops) a2).Got,([]:List Int)++((idx ((idx a0.Txns a1).Ops) a2).Vals)⟩:Op)]:List Op),w64 (a2 + 1)))))) else (must (((a4.length + 1) + (a4.length + 1) / 4 + 192) * 56≤281474976710656∧a4.length + 1≤9223372036854775807) (out (some (.inl (a4++([(⟨(idx a0.Txns a1).Proc,(idx a0.Txns a1).Status,(idx a0.Txns a1).From,(idx a0.Txns a1).To,a3⟩:Txn)]:List Txn),w64 (a1 + 1))))))
def lT (a0:History):(List Txn×Int)→Option ((List Txn×Int) ⊕ History)
 | (a2,a1)=>bif decide (a1 < (a0.Txns.length:Int)) then must (0≤a1∧a1 < (a0.Txns.length:Int)) (iter (lS a0 a2 a1) ([],0)) else (out (some (⟨([]:List ByteArray)++a0.Keys,a2⟩:History)))
def df (a0:History):Option History :=
 must (((0 + a0.Keys.length) + (0 + a0.Keys.length) / 4 + 192) * 16≤281474976710656∧0 + a0.Keys.length≤9223372036854775807) (iter (lT a0) ([],0))
def lU (a0:List ByteArray) (a1:ByteArray):Int→Option (Int ⊕ Int)
 | a2=>bif decide (a2 < (a0.length:Int)) then must (0≤a2∧a2 < (a0.length:Int)) (bif sEq (idx a0 a2) a1 then out (some a2) else (some (.inl (w64 (a2 + 1))))) else (out (some (-1)))
def dM (a0:List ByteArray) (a1:ByteArray):Option Int :=
 iter (lU a0 a1) 0
def gH (a2:Int) (a1:Bool):Option (Int ⊕ Bool) :=
 bif a1 then out (some false) else (some (.inl (w64 (a2 + 1))))
def lh (a0:List ByteArray):Int→Option (Int ⊕ Bool)
 | a1=>bif decide (a1 < (a0.length:Int)) then must (0≤a1∧a1 < (a0.length:Int)) (bif decide (((idx a0 a1).size:Int) < 1) then gH a1 true else (bif decide (((idx a0 a1).size:Int) > 32) then gH a1 true else (must (0≤(0:Int)∧(0:Int)≤a1∧a1≤(a0.length:Int)) ((dM (di a0 (0:Int) a1) (idx a0 a1)).bind fun a2=>gH a1 (decide (a2 ≥ 0)))))) else (out (some (decide ((a0.length:Int)≤32))))
def bO (a0:List ByteArray):Option Bool :=
 iter (lh a0) 0
def fU (a1:Int) (a2:Bool):Option (Int ⊕ Bool) :=
 bif a2 then out (some false) else (some (.inl (w64 (a1 + 1))))
def iT (a0:List Txn) (a1:Int):Int→Option (Int ⊕ Bool)
 | a2=>bif decide (a2 < a1) then must (0≤a2∧a2 < (a0.length:Int)) (bif ((idx a0 a2).Proc == (idx a0 a1).Proc) then bif ((idx a0 a2).To == (-1)) then fU a2 true else (fU a2 (decide ((idx a0 a2).To ≥ (idx a0 a1).From))) else (fU a2 false)) else (out (some true))
def iU (a0:List Txn) (a1:Int) (a2:Bool):Option Bool :=
 bif a2 then some false else (iter (iT a0 a1) 0)
def cK (a0:List Txn) (a1:Int) (a2:Bool):Option Bool :=
 bif a2 then some false else (bif decide (a1 > 0) then must (0≤w64 (a1 - 1)∧w64 (a1 - 1) < (a0.length:Int)) (iU a0 a1 (decide ((idx a0 a1).From≤(idx a0 (w64 (a1 - 1))).From))) else (iU a0 a1 false))
def aK (a0:List Txn) (a1:Int):Option Bool :=
 must (0≤a1∧a1 < (a0.length:Int)) (bif decide ((idx a0 a1).Status < 1) then cK a0 a1 true else (bif decide ((idx a0 a1).Status > 3) then cK a0 a1 true else (bif decide ((idx a0 a1).From < 0) then cK a0 a1 true else (bif ((idx a0 a1).To != (-1)) then bif decide ((idx a0 a1).To≤(idx a0 a1).From) then cK a0 a1 true else (bif ((idx a0 a1).To == (-1)) then cK a0 a1 ((idx a0 a1).Status != 3) else (cK a0 a1 false)) else (bif ((idx a0 a1).To == (-1)) then cK a0 a1 ((idx a0 a1).Status != 3) else (cK a0 a1 false))))))
def gX (a0:Call):Option Bool :=
 some (decide ((a0.Vals.length:Int)≤64))
def jG (a0:Call):Int→Option (Int ⊕ Bool)
 | a1=>bif decide (a1 < (a0.Vals.length:Int)) then must (0≤a1∧a1 < (a0.Vals.length:Int)) (must (0≤w64 (a1 - 1)∧w64 (a1 - 1) < (a0.Vals.length:Int)) (bif decide (idx a0.Vals a1≤idx a0.Vals (w64 (a1 - 1))) then out (some false) else (some (.inl (w64 (a1 + 1)))))) else (out (gX a0))
def fE (a0:Call) (a1:Bool):Option Bool :=
 bif a1 then some false else (bif (a0.Kind == 5) then some (decide ((a0.Vals.length:Int)≤1)) else (bif (a0.Kind == 8) then bif !a0.Got then some true else (some ((a0.Vals.length:Int) == 1)) else (bif (a0.Kind == 7) then iter (jG a0) 1 else (gX a0))))
def fF (a0:Call) (a1:Int) (a2:Bool):Option Bool :=
 bif a2 then some false else (bif decide (a0.Kind≤4) then bif !a0.Got then bif ((a0.Vals.length:Int) == 0) then bif (a0.Kind != 4) then some true else (bif decide (a0.Arg ≥ (-1048576)) then some (decide (a0.Arg≤1048576)) else (some false)) else (some false) else (some false) else (bif (a0.Arg != 0) then fE a0 true else (bif (a0.Got != (a1 == 1)) then fE a0 true else (bif !a0.Got then fE a0 (decide ((a0.Vals.length:Int) > 0)) else (fE a0 false)))))
def aQ (a0:Call) (a1:Int):Option Bool :=
 bif decide (a0.Kind < 1) then fF a0 a1 true else (bif decide (a0.Kind > 8) then fF a0 a1 true else (bif decide ((a0.Key.size:Int) < 1) then fF a0 a1 true else (fF a0 a1 (decide ((a0.Key.size:Int) > 32)))))
def jl (a0:Event):Int→Option (Int ⊕ Bool)
 | a1=>bif decide (a1 < (a0.Calls.length:Int)) then must (0≤a1∧a1 < (a0.Calls.length:Int)) ((aQ (idx a0.Calls a1) a0.Kind).bind fun a2=>bif !a2 then out (some false) else (some (.inl (w64 (a1 + 1))))) else (out (some true))
def gI (a0:Event) (b9:Bool):Option Bool :=
 bif b9 then some false else (iter (jl a0) 0)
def bI (a0:Event):Option Bool :=
 bif decide (a0.Kind < 0) then gI a0 true else (bif decide (a0.Kind > 3) then gI a0 true else (gI a0 (decide ((a0.Calls.length:Int) > 16))))
def lm (a0:List Event):Int→Option (Int ⊕ Int)
 | a1=>bif decide (a1 < (a0.length:Int)) then must (0≤a1∧a1 < (a0.length:Int)) ((bI (idx a0 a1)).bind fun a2=>bif !a2 then out (some 1) else (some (.inl (w64 (a1 + 1))))) else (out (some 0))
def dX (a0:List Event):Option Int :=
 bif decide ((a0.length:Int) > 256) then some 1 else (iter (lm a0) 0)
def iD (a0:Int):Option Int :=
 some (w64 (((w64 (a0 - 1)).tmod (4:Int)) + 1))
def eG (a4:List ByteArray) (a2:List Int) (a1:List (List Int)) (a3:List Int) (a5:List Int):Option (Int×aD) :=
 some (0,(⟨a4,a2,a1,a3,a5⟩:aD))
def eH (a2:Int) (a7:List ByteArray) (a6:List Int) (a3:List Int) (a4:List Int) (a1:Int) (a5:List (List Int)) (a8:Bool):Option (Int×aD) :=
 bif a8 then must (0≤a1∧a1 < (a4.length:Int)) (must (0≤a1∧a1 < (a3.length:Int)) (bif decide (idx (a3.set a1.toNat (w64 ((idx a3 a1) + 1))) a1 > 8) then some (51,(⟨a7,a6,a5,a3.set a1.toNat (w64 ((idx a3 a1) + 1)),a4.set a1.toNat a2⟩:aD)) else (eG a7 a6 a5 (a3.set a1.toNat (w64 ((idx a3 a1) + 1))) (a4.set a1.toNat a2)))) else (eG a7 a6 a5 a3 a4)
def dP (a1:Call) (a2:Int) (a8:List ByteArray) (a7:List Int) (a6:List Int) (a4:List Int) (a3:Int) (a5:List (List Int)):Option (Int×aD) :=
 bif (a1.Kind == 4) then must (0≤a3∧a3 < (a4.length:Int)) (eH a2 a8 a7 a6 a4 a3 a5 (idx a4 a3 != a2)) else (eH a2 a8 a7 a6 a4 a3 a5 false)
def fH (a1:Call) (a2:Int) (a9:List ByteArray) (a8:List Int) (a4:List (List Int)) (a7:List Int) (a6:List Int) (a3:Int):Int→Option (Int ⊕ (Int×aD))
 | a5=>must (0≤a3∧a3 < (a4.length:Int)) (bif decide (a5 < ((idx a4 a3).length:Int)) then must (0≤a5∧a5 < ((idx a4 a3).length:Int)) (bif (idx (idx a4 a3) a5 == a1.Arg) then out (some (3,(⟨a9,a8,a4,a7,a6⟩:aD))) else (some (.inl (w64 (a5 + 1))))) else (must (((((idx a4 a3).length) + 1) + (((idx a4 a3).length) + 1) / 4 + 192) * 8≤281474976710656∧((idx a4 a3).length) + 1≤9223372036854775807) (out (dP a1 a2 a9 a8 a7 a6 a3 (a4.set a3.toNat ((idx a4 a3)++([a1.Arg]:List Int)))))))
def fI (a1:Call) (a2:Int) (a7:List ByteArray) (a5:List Int) (a8:List (List Int)) (a4:List Int) (a3:List Int) (a6:Int) (a9:Bool):Option (Int×aD) :=
 bif a9 then iter (fH a1 a2 a7 a5 a8 a4 a3 a6) 0 else (dP a1 a2 a7 a5 a4 a3 a6 a8)
def dD (a1:Call) (a2:Int) (a7:List ByteArray) (a3:List Int) (a8:List (List Int)) (a6:List Int) (a5:List Int) (a4:Int):Option (Int×aD) :=
 must (0≤a4∧a4 < (a3.length:Int)) ((iD a1.Kind).bind fun a9=>bif (idx a3 a4 != a9) then some (50,(⟨a7,a3,a8,a6,a5⟩:aD)) else (bif (a1.Kind == 2) then fI a1 a2 a7 a3 a8 a6 a5 a4 true else (fI a1 a2 a7 a3 a8 a6 a5 a4 (a1.Kind == 3))))
def fJ (a0:aD) (a1:Call) (a2:Int) (a3:List Int):Option (Int×aD) :=
 must (((a0.wrote.length + 1) + (a0.wrote.length + 1) / 4 + 192) * 24≤281474976710656∧a0.wrote.length + 1≤9223372036854775807) (must (((a0.incs.length + 1) + (a0.incs.length + 1) / 4 + 192) * 8≤281474976710656∧a0.incs.length + 1≤9223372036854775807) (must (((a0.last_.length + 1) + (a0.last_.length + 1) / 4 + 192) * 8≤281474976710656∧a0.last_.length + 1≤9223372036854775807) (dD a1 a2 (a0.keys++([a1.Key]:List ByteArray)) a3 (a0.wrote++([([]:List Int)]:List (List Int))) (a0.incs++([0]:List Int)) (a0.last_++([(-1)]:List Int)) (a0.keys.length:Int))))
def fK (a0:aD) (a1:Call) (a2:Int):Option (Int×aD) :=
 (iD a1.Kind).bind fun a3=>must (((a0.types.length + 1) + (a0.types.length + 1) / 4 + 192) * 8≤281474976710656∧a0.types.length + 1≤9223372036854775807) (fJ a0 a1 a2 (a0.types++([a3]:List Int)))
def ag (a0:aD) (a1:Call) (a2:Int):Option (Int×aD) :=
 (dM a0.keys a1.Key).bind fun y5=>bif decide (y5 < 0) then bif decide ((a0.keys.length:Int) ≥ 32) then some (2,a0) else (must (((a0.keys.length + 1) + (a0.keys.length + 1) / 4 + 192) * 16≤281474976710656∧a0.keys.length + 1≤9223372036854775807) (fK a0 a1 a2)) else (dD a1 a2 a0.keys a0.types a0.wrote a0.incs a0.last_ y5)
def lq (a0:History) (a2:Int) (a3:List Call) (a1:Int):Option ((List Call×Int) ⊕ ((List ByteArray×List Int×(List (List Int))×List Int×List Int×Int) ⊕ Int)) :=
 some (.inl (a3++([(⟨(idx ((idx a0.Txns a2).Ops) a1).Kind,idx a0.Keys ((idx ((idx a0.Txns a2).Ops) a1).Key),(idx ((idx a0.Txns a2).Ops) a1).Arg,(idx ((idx a0.Txns a2).Ops) a1).Got,(idx ((idx a0.Txns a2).Ops) a1).Vals⟩:Call)]:List Call),w64 (a1 + 1)))
def jm (a0:History) (a3:Int) (a1:List Call) (a2:Int) (a4:Bool):Option ((List Call×Int) ⊕ ((List ByteArray×List Int×(List (List Int))×List Int×List Int×Int) ⊕ Int)) :=
 bif a4 then out (out (some 1)) else (must (0≤(idx ((idx a0.Txns a3).Ops) a2).Key∧(idx ((idx a0.Txns a3).Ops) a2).Key < (a0.Keys.length:Int)) (must (((a1.length + 1) + (a1.length + 1) / 4 + 192) * 64≤281474976710656∧a1.length + 1≤9223372036854775807) (lq a0 a3 a1 a2)))
def ed (a9:Int) (a3:List Call):(List ByteArray×List Int×(List (List Int))×List Int×List Int×Int)→Option ((List ByteArray×List Int×(List (List Int))×List Int×List Int×Int) ⊕ ((List Call×Int) ⊕ ((List ByteArray×List Int×(List (List Int))×List Int×List Int×Int) ⊕ Int)))
 | (a4,a6,a8,a5,a7,a2)=>bif decide (a2 < (a3.length:Int)) then must (0≤a2∧a2 < (a3.length:Int)) ((ag (⟨a4,a6,a8,a5,a7⟩:aD) (idx a3 a2) a9).bind fun a1=>bif (a1.1 != 0) then out (out (out (some 1))) else (some (.inl (a1.2.keys,a1.2.types,a1.2.wrote,a1.2.incs,a1.2.last_,w64 (a2 + 1))))) else (out (out (some (.inl (a4,a6,a8,a5,a7,w64 (a9 + 1))))))
def eu (a0:History) (a7:List ByteArray) (a8:List Int) (a5:List (List Int)) (a6:List Int) (a4:List Int) (a1:Int):(List Call×Int)→Option ((List Call×Int) ⊕ ((List ByteArray×List Int×(List (List Int))×List Int×List Int×Int) ⊕ Int))
 | (a3,a2)=>bif decide (a2 < (((idx a0.Txns a1).Ops).length:Int)) then must (0≤a2∧a2 < (((idx a0.Txns a1).Ops).length:Int)) (bif decide ((idx ((idx a0.Txns a1).Ops) a2).Key < 0) then jm a0 a1 a3 a2 true else (jm a0 a1 a3 a2 (decide ((idx ((idx a0.Txns a1).Ops) a2).Key ≥ (a0.Keys.length:Int))))) else ((dX ([(⟨0,(idx a0.Txns a1).Status,a3⟩:Event)]:List Event)).bind fun a9=>bif (a9 != 0) then out (out (some 1)) else (iter (ed a1 a3) (a7,a8,a5,a6,a4,0)))
def gJ (a0:History) (a4:List ByteArray) (a6:List Int) (a2:List (List Int)) (a3:List Int) (a1:List Int) (a7:Int) (a5:Bool):Option ((List ByteArray×List Int×(List (List Int))×List Int×List Int×Int) ⊕ Int) :=
 bif a5 then out (some 1) else (iter (eu a0 a4 a6 a2 a3 a1 a7) ([],0))
def gL (a0:History):(List ByteArray×List Int×(List (List Int))×List Int×List Int×Int)→Option ((List ByteArray×List Int×(List (List Int))×List Int×List Int×Int) ⊕ Int)
 | (a5,a6,a3,a4,a2,a1)=>bif decide (a1 < (a0.Txns.length:Int)) then must (0≤a1∧a1 < (a0.Txns.length:Int)) ((aK a0.Txns a1).bind fun a7=>bif !a7 then gJ a0 a5 a6 a3 a4 a2 a1 true else (gJ a0 a5 a6 a3 a4 a2 a1 (decide ((((idx a0.Txns a1).Ops).length:Int) > 16)))) else (out (some 0))
def fo (a0:History) (a1:Bool):Option Int :=
 bif a1 then some 1 else (iter (gL a0) ([],[],[],[],[],0))
def au (a0:History):Option Int :=
 (bO a0.Keys).bind fun a1=>bif !a1 then fo a0 true else (fo a0 (decide ((a0.Txns.length:Int) > 32)))
def gp (a0:Int):Option Bool :=
 some (decide (a0≤4))
def dE (a1:Bool):Option Int :=
 bif !a1 then some 80 else (some 0)
def lu (a1:Int) (a2:Bool):Option ((Bool×Int) ⊕ Int) :=
 some (.inl (a2,w64 (a1 + 1)))
def jo (a1:List Int):(Bool×Int)→Option ((Bool×Int) ⊕ Int)
 | (a3,a2)=>bif decide (a2 < (a1.length:Int)) then bif a3 then must (0≤w64 (a2 - 1)∧w64 (a2 - 1) < (a1.length:Int)) (must (0≤a2∧a2 < (a1.length:Int)) (lu a2 (decide (idx a1 (w64 (a2 - 1)) < idx a1 a2)))) else (lu a2 false) else (out (dE a3))
def dF (a0:Int) (a1:List Int) (b5:Bool):Option Int :=
 bif b5 then some 1 else (bif (a0 == 1) then dE (decide ((a1.length:Int)≤1)) else (bif (a0 == 4) then dE ((a1.length:Int) == 1) else (bif (a0 == 3) then iter (jo a1) (decide ((a1.length:Int)≤64),1) else (dE (decide ((a1.length:Int)≤64))))))
def aH (a0:Int) (a1:List Int):Option Int :=
 bif decide (a0 < 1) then dF a0 a1 true else (dF a0 a1 (decide (a0 > 4)))
def nQ (a0:List Int) (a1:Int):Int→Option (Int ⊕ Bool)
 | a2=>bif decide (a2 < (a0.length:Int)) then must (0≤a2∧a2 < (a0.length:Int)) (bif (idx a0 a2 == a1) then out (some true) else (some (.inl (w64 (a2 + 1))))) else (out (some false))
def eB (a0:List Int) (a1:Int):Option Bool :=
 iter (nQ a0 a1) 0
def ou (a2:List Int):(Int×Int)→Option ((Int×Int) ⊕ (List Int×Bool))
 | (a3,a1)=>bif decide (a1 < (a2.length:Int)) then must (0≤a1∧a1 < (a2.length:Int)) (some (.inl (w64 (a3 - (idx a2 a1)),w64 (a1 + 1)))) else (out (some (([a3]:List Int),true)))
def iV (a1:List Int) (a2:List Int):Int→Option (Int ⊕ (List Int×Bool))
 | a3=>bif decide (a3 < (a2.length:Int)) then must (0≤w64 ((w64 ((a1.length:Int) - (a2.length:Int))) + a3)∧w64 ((w64 ((a1.length:Int) - (a2.length:Int))) + a3) < (a1.length:Int)) (must (0≤a3∧a3 < (a2.length:Int)) (bif (idx a1 (w64 ((w64 ((a1.length:Int) - (a2.length:Int))) + a3)) != idx a2 a3) then out (some (([]:List Int),false)) else (some (.inl (w64 (a3 + 1)))))) else (must (0≤(0:Int)∧(0:Int)≤(w64 ((a1.length:Int) - (a2.length:Int)))∧(w64 ((a1.length:Int) - (a2.length:Int)))≤(a1.length:Int)) (must (((0 + ((di a1 (0:Int) (w64 ((a1.length:Int) - (a2.length:Int)))).length)) + (0 + ((di a1 (0:Int) (w64 ((a1.length:Int) - (a2.length:Int)))).length)) / 4 + 192) * 8≤281474976710656∧0 + ((di a1 (0:Int) (w64 ((a1.length:Int) - (a2.length:Int)))).length)≤9223372036854775807) (out (some (([]:List Int)++(di a1 (0:Int) (w64 ((a1.length:Int) - (a2.length:Int)))),true)))))
def fV (a2:Int) (a1:Bool):Option (Int ⊕ (List Int×Bool)) :=
 bif a1 then out (some (([]:List Int),false)) else (some (.inl (w64 (a2 + 1))))
def kI (a1:Int) (a2:List Int):Option ((List Int×Int) ⊕ (Int ⊕ (List Int×Bool))) :=
 some (.inl (a2,w64 (a1 + 1)))
def iX (a1:List Int) (a2:List Int):(List Int×Int)→Option ((List Int×Int) ⊕ (Int ⊕ (List Int×Bool)))
 | (a4,a3)=>bif decide (a3 < (a1.length:Int)) then must (0≤a3∧a3 < (a1.length:Int)) ((eB a2 (idx a1 a3)).bind fun a5=>bif !a5 then must (((a4.length + 1) + (a4.length + 1) / 4 + 192) * 8≤281474976710656∧a4.length + 1≤9223372036854775807) (kI a3 (a4++([idx a1 a3]:List Int))) else (kI a3 a4)) else (out (out (some (a4,true))))
def iY (a1:List Int) (a2:List Int):Int→Option (Int ⊕ (List Int×Bool))
 | a3=>bif decide (a3 < (a2.length:Int)) then must (0≤a3∧a3 < (a2.length:Int)) ((eB a1 (idx a2 a3)).bind fun a5=>bif !a5 then fV a3 true else (must (0≤(0:Int)∧(0:Int)≤a3∧a3≤(a2.length:Int)) ((eB (di a2 (0:Int) a3) (idx a2 a3)).bind fun a4=>fV a3 a4))) else (iter (iX a1 a2) ([],0))
def eT (a0:Int) (a1:List Int) (a2:List Int) (b9:Bool):Option (List Int×Bool) :=
 bif b9 then some (([]:List Int),false) else (bif (a0 == 1) then bif ((a1.length:Int) == 1) then must (0≤(0:Int)∧(0:Int) < (a1.length:Int)) (must (0≤w64 ((a2.length:Int) - 1)∧w64 ((a2.length:Int) - 1) < (a2.length:Int)) (some (([]:List Int),(idx a1 (0:Int) == idx a2 (w64 ((a2.length:Int) - 1)))))) else (some (([]:List Int),false)) else (bif (a0 == 4) then must (0≤(0:Int)∧(0:Int) < (a1.length:Int)) (iter (ou a2) (idx a1 (0:Int),0)) else (bif (a0 == 2) then bif decide ((a2.length:Int) > (a1.length:Int)) then some (([]:List Int),false) else (iter (iV a1 a2) 0) else (iter (iY a1 a2) 0))))
def aC (a0:Int) (a1:List Int) (a2:List Int):Option (List Int×Bool) :=
 (aH a0 a1).bind fun a3=>bif (a3 != 0) then eT a0 a1 a2 true else (eT a0 a1 a2 ((a2.length:Int) == 0))
def fw (a1:Int) (a3:List Ask) (a2:List eZ):Option ((List Ask×List eZ×Int) ⊕ (List Ask×List eZ)) :=
 some (.inl (a3,a2,w64 (a1 + 1)))
def kP (a1:Int) (a2:List Int):Option ((List Int×Int) ⊕ ((List Ask×List eZ×Int) ⊕ (List Ask×List eZ))) :=
 some (.inl (a2,w64 (a1 + 1)))
def kQ (a0:History) (a1:Int) (a3:List Int) (a2:Int) (a4:Bool):Option ((List Int×Int) ⊕ ((List Ask×List eZ×Int) ⊕ (List Ask×List eZ))) :=
 bif a4 then must (0≤a2∧a2 < (((idx a0.Txns a1).Ops).length:Int)) (must (((a3.length + 1) + (a3.length + 1) / 4 + 192) * 8≤281474976710656∧a3.length + 1≤9223372036854775807) (kP a2 (a3++([(idx ((idx a0.Txns a1).Ops) a2).Arg]:List Int)))) else (kP a2 a3)
def kR (a0:History) (a1:Int) (a2:List Ask) (a5:List eZ) (a3:Int) (a4:List Int):Option ((List Int×Int) ⊕ ((List Ask×List eZ×Int) ⊕ (List Ask×List eZ))) :=
 must (((a2.length + 1) + (a2.length + 1) / 4 + 192) * 48≤281474976710656∧a2.length + 1≤9223372036854775807) (out (fw a3 (a2++([(⟨a1,a3,(idx ((idx a0.Txns a1).Ops) a3).Key,a4⟩:Ask)]:List Ask)) a5))
def nR (a0:History) (a1:Int) (a5:List Ask) (a3:List eZ) (a2:Int):(List Int×Int)→Option ((List Int×Int) ⊕ ((List Ask×List eZ×Int) ⊕ (List Ask×List eZ)))
 | (a6,a4)=>bif decide (a4 < a2) then must (0≤a4∧a4 < (((idx a0.Txns a1).Ops).length:Int)) (bif ((idx ((idx a0.Txns a1).Ops) a4).Key == (idx ((idx a0.Txns a1).Ops) a2).Key) then (gp ((idx ((idx a0.Txns a1).Ops) a4).Kind)).bind fun a8=>kQ a0 a1 a6 a4 a8 else (kQ a0 a1 a6 a4 false)) else (must (((0 + (((idx ((idx a0.Txns a1).Ops) a2).Vals).length)) + (0 + (((idx ((idx a0.Txns a1).Ops) a2).Vals).length)) / 4 + 192) * 8≤281474976710656∧0 + (((idx ((idx a0.Txns a1).Ops) a2).Vals).length)≤9223372036854775807) (bif decide ((a6.length:Int) > 0) then (iD ((idx ((idx a0.Txns a1).Ops) a2).Kind)).bind fun a9=>(aC a9 ((idx ((idx a0.Txns a1).Ops) a2).Vals) a6).bind fun a7=>bif !a7.2 then must (((a3.length + 1) + (a3.length + 1) / 4 + 192) * 16≤281474976710656∧a3.length + 1≤9223372036854775807) (out (fw a2 a5 (a3++([(⟨a1,a2⟩:eZ)]:List eZ)))) else (bif ((idx ((idx a0.Txns a1).Ops) a2).Kind == 5) then out (fw a2 a5 a3) else (kR a0 a1 a5 a3 a2 a7.1)) else (kR a0 a1 a5 a3 a2 (([]:List Int)++((idx ((idx a0.Txns a1).Ops) a2).Vals)))))
def nS (a0:History) (a1:Int):(List Ask×List eZ×Int)→Option ((List Ask×List eZ×Int) ⊕ (List Ask×List eZ))
 | (a4,a3,a2)=>bif decide (a2 < (((idx a0.Txns a1).Ops).length:Int)) then must (0≤a2∧a2 < (((idx a0.Txns a1).Ops).length:Int)) ((gp ((idx ((idx a0.Txns a1).Ops) a2).Kind)).bind fun a5=>bif a5 then fw a2 a4 a3 else (iter (nR a0 a1 a4 a3 a2) ([],0))) else (out (some (a4,a3)))
def aP (a0:History) (a1:Int):Option (List Ask×List eZ) :=
 must (0≤a1∧a1 < (a0.Txns.length:Int)) (bif ((idx a0.Txns a1).Status != 1) then some (([]:List Ask),([]:List eZ)) else (iter (nS a0 a1) ([],[],0)))
def mV (a0:History):(List Ask×List eZ×Int)→Option ((List Ask×List eZ×Int) ⊕ (List Ask×List eZ))
 | (a3,a2,a4)=>bif decide (a4 < (a0.Txns.length:Int)) then (aP a0 a4).bind fun a1=>must (((a3.length + a1.1.length) + (a3.length + a1.1.length) / 4 + 192) * 48≤281474976710656∧a3.length + a1.1.length≤9223372036854775807) (must (((a2.length + a1.2.length) + (a2.length + a1.2.length) / 4 + 192) * 16≤281474976710656∧a2.length + a1.2.length≤9223372036854775807) (some (.inl (a3++a1.1,a2++a1.2,w64 (a4 + 1))))) else (out (some (a3,a2)))
def eY (a0:History):Option (List Ask×List eZ) :=
 iter (mV a0) ([],[],0)
def iy (a0:History):Option (List Ask×Int) :=
 (au a0).bind fun y8=>bif (y8 != 0) then some (([]:List Ask),1) else ((eY a0).bind fun a1=>some (a1.1,0))
def gQ (a0:List Int) (a1:List Int):Int→Option (Int ⊕ Bool)
 | a2=>bif decide (a2 < (a0.length:Int)) then must (0≤a2∧a2 < (a0.length:Int)) (must (0≤a2∧a2 < (a1.length:Int)) (bif (idx a0 a2 != idx a1 a2) then out (some false) else (some (.inl (w64 (a2 + 1)))))) else (out (some true))
def bT (a0:List Int) (a1:List Int):Option Bool :=
 bif ((a0.length:Int) != (a1.length:Int)) then some false else (iter (gQ a0 a1) 0)
def eP (a1:Int) (a2:Bool):Option (Int ⊕ (Int ⊕ (Int ⊕ Bool))) :=
 bif a2 then out (out (out (some false))) else (some (.inl (w64 (a1 + 1))))
def lV (a0:History) (a1:History) (a3:Int) (a2:Int):Option (Int ⊕ (Int ⊕ (Int ⊕ Bool))) :=
 bif ((idx ((idx a0.Txns a3).Ops) a2).Kind != (idx ((idx a1.Txns a3).Ops) a2).Kind) then eP a2 true else (bif ((idx ((idx a0.Txns a3).Ops) a2).Key != (idx ((idx a1.Txns a3).Ops) a2).Key) then eP a2 true else (bif ((idx ((idx a0.Txns a3).Ops) a2).Arg != (idx ((idx a1.Txns a3).Ops) a2).Arg) then eP a2 true else (bif ((idx ((idx a0.Txns a3).Ops) a2).Got != (idx ((idx a1.Txns a3).Ops) a2).Got) then eP a2 true else ((bT ((idx ((idx a0.Txns a3).Ops) a2).Vals) ((idx ((idx a1.Txns a3).Ops) a2).Vals)).bind fun a4=>eP a2 (!a4)))))
def lW (a0:History) (a1:History) (a3:Int):Int→Option (Int ⊕ (Int ⊕ (Int ⊕ Bool)))
 | a2=>bif decide (a2 < (((idx a0.Txns a3).Ops).length:Int)) then must (0≤a2∧a2 < (((idx a0.Txns a3).Ops).length:Int)) (must (0≤a2∧a2 < (((idx a1.Txns a3).Ops).length:Int)) (lV a0 a1 a3 a2)) else (out (some (.inl (w64 (a3 + 1)))))
def eQ (a0:History) (a1:History) (a3:Int) (a2:Bool):Option (Int ⊕ (Int ⊕ Bool)) :=
 bif a2 then out (out (some false)) else (iter (lW a0 a1 a3) 0)
def lX (a0:History) (a1:History) (a2:Int):Option (Int ⊕ (Int ⊕ Bool)) :=
 bif ((idx a0.Txns a2).Proc != (idx a1.Txns a2).Proc) then eQ a0 a1 a2 true else (bif ((idx a0.Txns a2).Status != (idx a1.Txns a2).Status) then eQ a0 a1 a2 true else (bif ((idx a0.Txns a2).From != (idx a1.Txns a2).From) then eQ a0 a1 a2 true else (bif ((idx a0.Txns a2).To != (idx a1.Txns a2).To) then eQ a0 a1 a2 true else (eQ a0 a1 a2 ((((idx a0.Txns a2).Ops).length:Int) != (((idx a1.Txns a2).Ops).length:Int))))))
def lY (a0:History) (a1:History):Int→Option (Int ⊕ (Int ⊕ Bool))
 | a2=>bif decide (a2 < (a0.Txns.length:Int)) then must (0≤a2∧a2 < (a0.Txns.length:Int)) (must (0≤a2∧a2 < (a1.Txns.length:Int)) (lX a0 a1 a2)) else (out (out (some true)))
def lZ (a0:History) (a1:History):Int→Option (Int ⊕ Bool)
 | a2=>bif decide (a2 < (a0.Keys.length:Int)) then must (0≤a2∧a2 < (a0.Keys.length:Int)) (must (0≤a2∧a2 < (a1.Keys.length:Int)) (bif !(sEq (idx a0.Keys a2) (idx a1.Keys a2)) then out (some false) else (some (.inl (w64 (a2 + 1)))))) else (iter (lY a0 a1) 0)
def jH (a0:History) (a1:History) (b9:Bool):Option Bool :=
 bif b9 then some false else (iter (lZ a0 a1) 0)
def az (a0:History) (a1:History):Option Bool :=
 bif ((a0.Keys.length:Int) != (a1.Keys.length:Int)) then jH a0 a1 true else (jH a0 a1 ((a0.Txns.length:Int) != (a1.Txns.length:Int)))
def jL (a0:List Int) (a1:List Int):Int→Option (Int ⊕ Bool)
 | a2=>bif decide (a2 < (a0.length:Int)) then must (0≤a2∧a2 < (a0.length:Int)) (must (0≤a2∧a2 < (a1.length:Int)) (bif (idx a0 a2 != idx a1 a2) then out (some false) else (some (.inl (w64 (a2 + 1)))))) else (out (some true))
def bA (a0:List Int) (a1:List Int):Option Bool :=
 bif ((a0.length:Int) != (a1.length:Int)) then some false else (iter (jL a0 a1) 0)
def jc (a0:History) (a1:Exec) (a2:Int) (a5:History):Option Bool :=
 (bH a5 (⟨([]:List Int)++a1.Order,([]:List Int)++a1.Picks⟩:Exec) a2).bind fun a3=>(bH a5 (⟨([]:List Int)++a1.Order,([]:List Int)++a1.Picks⟩:Exec) a2).bind fun a4=>(iy a0).bind fun a7=>bif ((a3.1.1 == a4.1.1) && ((a3.1.2.1 == a4.1.2.1) && ((a3.1.2.2 == a4.1.2.2) && true))) then bif (a3.2.1 == a4.2.1) then bif (a3.2.2 == a4.2.2) then bif !a3.2.1 then (az a5 a0).bind fun b0=>bif b0 then (bA (([]:List Int)++a1.Order) a1.Order).bind fun a6=>bif a6 then (bA (([]:List Int)++a1.Picks) a1.Picks).bind fun b1=>some b1 else (some false) else (some false) else (bif (a3.2.2 == 0) then bif decide (a3.1.2.2 < (a7.1.length:Int)) then (az a5 a0).bind fun a9=>bif a9 then (bA (([]:List Int)++a1.Order) a1.Order).bind fun a8=>bif a8 then (bA (([]:List Int)++a1.Picks) a1.Picks).bind fun b2=>some b2 else (some false) else (some false) else (some false) else (some false)) else (some false) else (some false) else (some false)
def dG (a0:History) (a1:Exec) (a2:Int):Option Bool :=
 (kN).bind fun a4=>bif !a4 then some false else ((df a0).bind fun a3=>must (((0 + a1.Order.length) + (0 + a1.Order.length) / 4 + 192) * 8≤281474976710656∧0 + a1.Order.length≤9223372036854775807) (must (((0 + a1.Picks.length) + (0 + a1.Picks.length) / 4 + 192) * 8≤281474976710656∧0 + a1.Picks.length≤9223372036854775807) (jc a0 a1 a2 a3)))
end
end Go.Proofs.YtmfgddafcgflaaaGreatT
