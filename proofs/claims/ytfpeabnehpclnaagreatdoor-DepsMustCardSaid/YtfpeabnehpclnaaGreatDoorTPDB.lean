import Derived.Test.YtfpeabnehpclnaaGreatDoorTPLD
namespace Go.Proofs.YtfpeabnehpclnaaGreatDoorT
open Go Go.Proofs Go.Proofs.YtfpeabnehpclnaaGreatDoorE
set_option linter.unusedVariables false
set_option linter.unusedSimpArgs false
def eH (h:History) (t:Int) (key:Int):List Int:=vR (idx h.Txns t).Ops key (idx h.Txns t).Ops.length
theorem zt {h:History} {t key:Int}:(eH h t key).length≤(idx h.Txns t).Ops.length:=zo
theorem EE {x:Txn} {key:Int} (ho:x.Ops.length≤16):eF x key=some (vR x.Ops key x.Ops.length):=by
 refine eY.1 ?_;unfold eF;refine bN (k0:=0) x.Ops.length (fun k s=>s=(vR x.Ops key k,(k:Int))) (Nat.zero_le _) rfl ?_;rintro k s hk rfl;have hw:w64 ((k:Int) + 1)=((k + 1:Nat):Int):=aQ (by omega);have l3:=zo (ops:=x.Ops) (key:=key) (p:=k);have hn:k < x.Ops.length→vR x.Ops key (k + 1)=_:=fun hk=>zY hk;unfold vk qX qW
 dsimp only
 rw [hw]
 refine ai (fun a2 => ?_) (fun a2 => ?_)
 ·have a1:k < x.Ops.length:=by omega
  replace hn:=hn a1
  repeat' (first | contradiction | with_reducible refine ai (fun hq => ?_) (fun hq => ?_) | with_reducible refine ag (by first | omega | grind [bW]) ?_ | with_reducible refine au ?_ | with_reducible refine cZ ?_ | with_reducible refine dH ?_ | with_reducible refine dF ?_ | with_reducible refine dI ?_ | with_reducible refine af ?_)
  all_goals (refine ⟨a1,?_⟩; dsimp only; grind)
 ·have:k=x.Ops.length:=by omega
  subst this
  repeat' (first | contradiction | with_reducible refine ai (fun hq => ?_) (fun hq => ?_) | with_reducible refine ag (by first | omega | grind [bW]) ?_ | with_reducible refine au ?_ | with_reducible refine cZ ?_ | with_reducible refine dH ?_ | with_reducible refine dF ?_ | with_reducible refine dI ?_ | with_reducible refine af ?_)
  all_goals rfl
theorem yu {h:History} {t key:Int} (ht:0≤t∧t < (h.Txns.length:Int)) (ho:(idx h.Txns t).Ops.length≤16):aW h t key=some (eH h t key):=by
 refine eY.1 ?_;unfold aW eH;generalize hx:(idx h.Txns t).Ops=ops at ho ⊢;refine bN (k0:=0) ops.length (fun k s=>s=(vR ops key k,(k:Int))) (Nat.zero_le _) rfl ?_;rintro k s hk rfl;have hw:w64 ((k:Int) + 1)=((k + 1:Nat):Int):=aQ (by omega);have l3:=zo (ops:=ops) (key:=key) (p:=k);have hn:k < ops.length→vR ops key (k + 1)=_:=fun hk=>zY hk;unfold tY ow ou vD
 simp only [hx,hw,Option.bind_some]
 refine ag ht ?_;refine ai (fun a2 => ?_) (fun a2 => ?_)
 ·have a1:k < ops.length:=by omega
  replace hn:=hn a1
  repeat' (first | contradiction | with_reducible refine ai (fun hq => ?_) (fun hq => ?_) | with_reducible refine ag (by first | omega | grind [bW]) ?_ | with_reducible refine au ?_ | with_reducible refine cZ ?_ | with_reducible refine dH ?_ | with_reducible refine dF ?_ | with_reducible refine dI ?_ | with_reducible refine af ?_)
  all_goals (refine ⟨a1,?_⟩; dsimp only; grind)
 ·have:k=ops.length:=by omega
  subst this
  repeat' (first | contradiction | with_reducible refine ai (fun hq => ?_) (fun hq => ?_) | with_reducible refine ag (by first | omega | grind [bW]) ?_ | with_reducible refine au ?_ | with_reducible refine cZ ?_ | with_reducible refine dH ?_ | with_reducible refine dF ?_ | with_reducible refine dI ?_ | with_reducible refine af ?_)
  all_goals rfl
def IP (h:History) (key:Int) (t:Nat):Bool:=decide ((idx h.Txns (t:Int)).Status≠2∧0 < (eH h (t:Int) key).length)
def gq (h:History) (key:Int) (k:Nat):List Int:=((List.range k).filter (IP h key)).map (fun t:Nat=>(t:Int))
def jL (h:History) (a:Ask) (k:Nat):List Int:=(gq h a.Key k).filter (fun t=>decide (t≠a.Txn))
theorem zu {h:History} {key:Int} {k:Nat}:gq h key (k + 1)=if IP h key k then gq h key k++[(k:Int)] else gq h key k:=by
 unfold gq
 rw [List.range_succ,List.filter_append,List.map_append]
 by_cases hw:IP h key k=true <;> simp [hw]
theorem mV {h:History} {key:Int} {k:Nat}:(gq h key k).length≤k:=by
 unfold gq
 rw [List.length_map]
 exact Nat.le_trans (List.length_filter_le _ _) (by simp)
theorem FP {h:History} {a:Ask} {k:Nat}:jL h a (k + 1)=if IP h a.Key k∧(k:Int)≠a.Txn then jL h a k++[(k:Int)] else jL h a k:=by
 unfold jL
 rw [zu]
 by_cases hw:IP h a.Key k=true <;> by_cases hn:(k:Int)=a.Txn <;> simp [hw,hn]
theorem uR {h:History} {a:Ask} {k:Nat}:(jL h a k).length≤k:=Nat.le_trans (List.length_filter_le _ _) mV
theorem ug {h:History} {key:Int} {k:Nat} {t:Int}:t ∈ gq h key k↔0≤t∧t < (k:Int)∧(idx h.Txns t).Status≠2∧0 < (eH h t key).length:=by
 unfold gq
 simp only [List.mem_map,List.mem_filter,List.mem_range,IP,decide_eq_true_eq]
 constructor
 ·rintro ⟨n,⟨hn,h1,h2⟩,rfl⟩;exact ⟨by omega,by omega,h1,h2⟩
 ·rintro ⟨h0,h1,h2,h3⟩;refine ⟨t.toNat,⟨by omega,?_⟩,by omega⟩
  rw [show ((t.toNat:Nat):Int)=t by omega]
  exact ⟨h2,h3⟩
theorem jM {h:History} {a:Ask} {k:Nat} {t:Int}:t ∈ jL h a k↔(0≤t∧t < (k:Int)∧(idx h.Txns t).Status≠2∧0 < (eH h t a.Key).length)∧t≠a.Txn:=by
 unfold jL
 rw [List.mem_filter,ug,decide_eq_true_eq]
theorem yw {h:History} (hS:dB h) (hc:az h=some 0) {key:Int}:dG h key=some (gq h key h.Txns.length):=by
 have a3:=hS.len;refine eY.1 ?_;unfold dG;refine aZ hc ?_
 rw [bne_self_eq_false,cond_false]
 refine bN (k0:=0) h.Txns.length (fun k s=>s=(gq h key k,(k:Int))) (Nat.zero_le _) rfl ?_;rintro k s hk rfl;have hw:w64 ((k:Int) + 1)=((k + 1:Nat):Int):=aQ (by omega);have l3:=mV (h:=h) (key:=key) (k:=k);have hn:=zu (h:=h) (key:=key) (k:=k);unfold IP eH at hn;unfold sK oL oK
 dsimp only
 rw [hw]
 refine ai (fun a2 => ?_) (fun a2 => ?_)
 ·have a1:k < h.Txns.length:=by omega
  have hwt:=EE (x:=idx h.Txns (k:Int)) (key:=key) (hS.txn k a1).ops.1
  simp only [hwt,Option.bind_some]
  repeat' (first | contradiction | with_reducible refine ai (fun hq => ?_) (fun hq => ?_) | with_reducible refine ag (by first | omega | grind [bW]) ?_ | with_reducible refine au ?_ | with_reducible refine cZ ?_ | with_reducible refine dH ?_ | with_reducible refine dF ?_ | with_reducible refine dI ?_ | with_reducible refine af ?_)
  all_goals (refine ⟨a1,?_⟩; dsimp only; grind)
 ·have:k=h.Txns.length:=by omega
  subst this
  repeat' (first | contradiction | with_reducible refine ai (fun hq => ?_) (fun hq => ?_) | with_reducible refine ag (by first | omega | grind [bW]) ?_ | with_reducible refine au ?_ | with_reducible refine cZ ?_ | with_reducible refine dH ?_ | with_reducible refine dF ?_ | with_reducible refine dI ?_ | with_reducible refine af ?_)
  all_goals rfl
theorem zw {h:History} (hS:dB h) {a:Ask}:aX h a=some (jL h a h.Txns.length):=by
 have a3:=hS.len;refine eY.1 ?_;unfold aX;refine bN (k0:=0) h.Txns.length (fun k s=>s=(jL h a k,(k:Int))) (Nat.zero_le _) rfl ?_;rintro k s hk rfl;have hw:w64 ((k:Int) + 1)=((k + 1:Nat):Int):=aQ (by omega);have l3:=uR (h:=h) (a:=a) (k:=k);have hn:=FP (h:=h) (a:=a) (k:=k);unfold IP at hn;unfold sj jX nu
 dsimp only
 rw [hw]
 refine ai (fun a2 => ?_) (fun a2 => ?_)
 ·have a1:k < h.Txns.length:=by omega
  have hwt:=yu (h:=h) (t:=(k:Int)) (key:=a.Key) ⟨by omega,by omega⟩ (hS.txn k a1).ops.1
  simp only [hwt,Option.bind_some]
  repeat' (first | contradiction | with_reducible refine ai (fun hq => ?_) (fun hq => ?_) | with_reducible refine ag (by first | omega | grind [bW]) ?_ | with_reducible refine au ?_ | with_reducible refine cZ ?_ | with_reducible refine dH ?_ | with_reducible refine dF ?_ | with_reducible refine dI ?_ | with_reducible refine af ?_)
  all_goals (refine ⟨a1,?_⟩; dsimp only; grind)
 ·have:k=h.Txns.length:=by omega
  subst this
  repeat' (first | contradiction | with_reducible refine ai (fun hq => ?_) (fun hq => ?_) | with_reducible refine ag (by first | omega | grind [bW]) ?_ | with_reducible refine au ?_ | with_reducible refine cZ ?_ | with_reducible refine dH ?_ | with_reducible refine dF ?_ | with_reducible refine dI ?_ | with_reducible refine af ?_)
  all_goals rfl
theorem EF {h:History} (hS:dB h) (hc:az h=some 0) {t key:Int}:iw h t key =
  some (if 0≤t∧t < (h.Txns.length:Int) then (eH h t key,decide (0 < (eH h t key).length)) else ([],false)):=by
 refine eY.1 ?_;unfold iw nX
 simp only [hc,Option.bind_some]
 by_cases ht:0≤t∧t < (h.Txns.length:Int)
 ·have h2:t=((t.toNat:Nat):Int):=by omega
  have ho:=(hS.txn t.toNat (by omega)).ops.1
  rw [← h2] at ho
  have hwt:=EE (x:=idx h.Txns t) (key:=key) ho
  simp only [hwt,Option.bind_some]
  rw [if_pos ht]
  unfold eH
  repeat' (first | contradiction | with_reducible refine ai (fun hq => ?_) (fun hq => ?_) | with_reducible refine ag (by first | omega | grind [bW]) ?_ | with_reducible refine au ?_ | with_reducible refine cZ ?_ | with_reducible refine dH ?_ | with_reducible refine dF ?_ | with_reducible refine dI ?_ | with_reducible refine af ?_)
  all_goals (first | omega | simp)
 ·rw [if_neg ht]
  repeat' (first | contradiction | with_reducible refine ai (fun hq => ?_) (fun hq => ?_) | with_reducible refine ag (by first | omega | grind [bW]) ?_ | with_reducible refine au ?_ | with_reducible refine cZ ?_ | with_reducible refine dH ?_ | with_reducible refine dF ?_ | with_reducible refine dI ?_ | with_reducible refine af ?_)
  all_goals (first | omega | rfl | simp)
def zx (h:History) (a:Ask) (l:List Int):List aP:=l.map (fun t=>⟨t,eH h t a.Key⟩)
theorem zy {h:History} (hS:dB h) (hc:az h=some 0) {a:Ask}:bY h a=some (zx h a (jL h a h.Txns.length)):=by
 have a3:=hS.len;refine eY.1 ?_;unfold bY;refine aZ (yw hS hc) ?_;obtain ⟨W,hW⟩:∃ W,W=gq h a.Key h.Txns.length:=⟨_,rfl⟩;have hWl:=mV (h:=h) (key:=a.Key) (k:=h.Txns.length);have hWm:∀ j:Nat,j < W.length→idx W (j:Int) ∈ gq h a.Key h.Txns.length:=by
  intro j hj
  rw [← hW,bS (n:=j) (by omega) (by omega)]
  exact List.getElem_mem _
 unfold jL
 rw [← hW] at hWl ⊢
 refine bN (k0:=0) W.length (fun k s=>s=(zx h a ((W.take k).filter (fun t=>decide (t≠a.Txn))),(k:Int))) (Nat.zero_le _) (by simp [zx]) ?_;rintro k s hk rfl;have hw:w64 ((k:Int) + 1)=((k + 1:Nat):Int):=aQ (by omega);have l3:(zx h a ((W.take k).filter (fun t=>decide (t≠a.Txn)))).length≤32:=by
  unfold zx
  rw [List.length_map]
  exact Nat.le_trans (List.length_filter_le _ _) (by rw [List.length_take]; omega)
 unfold sM oN oM
 dsimp only
 rw [hw]
 refine ai (fun a2 => ?_) (fun a2 => ?_)
 ·have a1:k < W.length:=by omega
  have hm:=ug.1 (hWm k a1);have hn:zx h a ((W.take (k + 1)).filter (fun t=>decide (t≠a.Txn)))=if idx W (k:Int)≠a.Txn then zx h a ((W.take k).filter (fun t=>decide (t≠a.Txn)))++[⟨idx W (k:Int),eH h (idx W (k:Int)) a.Key⟩] else zx h a ((W.take k).filter (fun t=>decide (t≠a.Txn))):=by
   rw [List.take_succ_eq_append_getElem a1,List.filter_append]
   have:W[k]=idx W (k:Int):=(bS (n:=k) (by omega) a1).symm
   rw [this]
   unfold zx
   by_cases hq:idx W (k:Int)=a.Txn <;> simp [hq]
  simp only [EF hS hc,Option.bind_some,if_pos (show 0≤idx W (k:Int)∧idx W (k:Int) < (h.Txns.length:Int) from ⟨hm.1,hm.2.1⟩)]
  repeat' (first | contradiction | with_reducible refine ai (fun hq => ?_) (fun hq => ?_) | with_reducible refine ag (by first | omega | grind [bW]) ?_ | with_reducible refine au ?_ | with_reducible refine cZ ?_ | with_reducible refine dH ?_ | with_reducible refine dF ?_ | with_reducible refine dI ?_ | with_reducible refine af ?_)
  all_goals (refine ⟨a1,?_⟩; dsimp only; grind)
 ·have:k=W.length:=by omega
  subst this
  repeat' (first | contradiction | with_reducible refine ai (fun hq => ?_) (fun hq => ?_) | with_reducible refine ag (by first | omega | grind [bW]) ?_ | with_reducible refine au ?_ | with_reducible refine cZ ?_ | with_reducible refine dH ?_ | with_reducible refine dF ?_ | with_reducible refine dI ?_ | with_reducible refine af ?_)
  all_goals exact (by rw [List.take_length]:zx h a ((W.take W.length).filter (fun t=>decide (t≠a.Txn)))=zx h a (W.filter (fun t=>decide (t≠a.Txn))))
end Go.Proofs.YtfpeabnehpclnaaGreatDoorT
namespace Go.Proofs.YtfpeabnehpclnaaGreatDoorT
open Go Go.Proofs Go.Proofs.YtfpeabnehpclnaaGreatDoorE
set_option linter.unusedVariables false
set_option linter.unusedSimpArgs false
def opAt (h:History) (t p:Int):Op:=idx (idx h.Txns t).Ops p
theorem Lt {h:History} {n t p:Nat} (ht:t < n) (hp:p < (idx h.Txns (t:Int)).Ops.length):(xy h (opAt h (t:Int) (p:Int)),(t:Int)) ∈ uM h n:=by
 unfold uM Ay dO opAt
 rw [List.mem_flatMap]
 refine ⟨t,List.mem_range.2 ht,?_⟩
 rw [List.map_map,List.mem_map]
 refine ⟨idx (idx h.Txns (t:Int)).Ops (p:Int),?_,rfl⟩
 rw [bS (n:=p) rfl hp]
 exact List.getElem_mem _
theorem NV {L:List (Call×Int)} (h:qF [] L) {e f:Call×Int} (he:e ∈ L) (hf:f ∈ L) (hk:e.1.Key=f.1.Key):typ e.1.Kind=typ f.1.Kind:=by
 obtain ⟨i,hi,rfl⟩:=List.getElem_of_mem he;obtain ⟨j,hj,rfl⟩:=List.getElem_of_mem hf;rcases Nat.lt_trichotomy i j with hij | hij | hij
 ·have:=(h j hj).1 L[i] (by rw [List.nil_append]; exact List.mem_take_iff_getElem.2 ⟨i,by omega,rfl⟩) (by rw [bS (n:=j) rfl hj]; exact hk)
  rwa [bS (n:=j) rfl hj] at this
 ·subst hij; rfl
 ·have:=(h i hi).1 L[j] (by rw [List.nil_append]; exact List.mem_take_iff_getElem.2 ⟨j,by omega,rfl⟩) (by rw [bS (n:=i) rfl hi]; exact hk.symm)
  rw [bS (n:=i) rfl hi] at this
  exact this.symm
theorem IQ {h:History} (hS:dB h) {t p t' p':Nat} (ht:t < h.Txns.length) (hp:p < (idx h.Txns (t:Int)).Ops.length) (ht':t' < h.Txns.length) (hp':p' < (idx h.Txns (t':Int)).Ops.length)
  (hk:(opAt h (t:Int) (p:Int)).Key=(opAt h (t':Int) (p':Int)).Key):typ (opAt h (t:Int) (p:Int)).Kind=typ (opAt h (t':Int) (p':Int)).Kind :=
 NV hS.ents (Lt ht hp) (Lt ht' hp') (by show idx h.Keys _=idx h.Keys _; rw [hk])
theorem Aa {h:History} (hS:dB h) {t p:Nat} (ht:t < h.Txns.length) (hp:p < (idx h.Txns (t:Int)).Ops.length):1≤(opAt h (t:Int) (p:Int)).Kind∧(opAt h (t:Int) (p:Int)).Kind≤8:=by
 obtain ⟨h1,h2⟩:=(hS.txn t ht).ops;have:=h2 p hp;exact ⟨this.1,this.2.1⟩
theorem Gd {h:History} (hS:dB h) {a:Ask} {t p:Nat} (ht:t < h.Txns.length) (hp:p < (idx h.Txns (t:Int)).Ops.length) (e1:a.Txn=(t:Int)) (e2:a.Place=(p:Int)) :
  oP h a=some (typ (opAt h (t:Int) (p:Int)).Kind):=by
 obtain ⟨k1,k2⟩:=Aa hS ht hp;refine eY.1 ?_;unfold oP
 rw [e1,e2]
 refine ag (by omega) (ag (by omega) ?_);exact aZ (Eb k1 k2) (af rfl)
theorem Ab {h:History} (hS:dB h) (hc:az h=some 0) {key:Int} {t0 p0:Nat} (a5:t0 < h.Txns.length) (a6:p0 < (idx h.Txns (t0:Int)).Ops.length) (a3:(opAt h (t0:Int) (p0:Int)).Key=key) :
  eO h key=some (typ (opAt h (t0:Int) (p0:Int)).Kind):=by
 have b1:=hS.len;refine eY.1 ?_;unfold eO;refine aZ hc ?_
 rw [bne_self_eq_false,cond_false]
 refine bN (k0:=0) h.Txns.length (fun k s=>s=(k:Int)∧∀ t p:Nat,t < k→p < (idx h.Txns (t:Int)).Ops.length→(opAt h (t:Int) (p:Int)).Key≠key) (Nat.zero_le _) ⟨rfl,fun t p h=>absurd h (Nat.not_lt_zero _)⟩ ?_;rintro k s hk ⟨rfl,hno⟩;have hw:w64 ((k:Int) + 1)=((k + 1:Nat):Int):=aQ (by omega);unfold xc;refine ai (fun a8 => ?_) (fun a8 => ?_)
 ·have a1:k < h.Txns.length:=by omega
  refine ag (by omega) ?_;have b0:=(hS.txn k a1).ops.1;refine bN (k0:=0) (idx h.Txns (k:Int)).Ops.length (fun m s=>s=(m:Int)∧∀ p:Nat,p < m→(opAt h (k:Int) (p:Int)).Key≠key) (Nat.zero_le _) ⟨rfl,fun p h=>absurd h (Nat.not_lt_zero _)⟩ ?_;rintro m s hm ⟨rfl,a4⟩;have a7:w64 ((m:Int) + 1)=((m + 1:Nat):Int):=aQ (by omega);unfold wZ
  dsimp only
  rw [hw,a7]
  refine ai (fun a9 => ?_) (fun a9 => ?_)
  ·have a2:m < (idx h.Txns (k:Int)).Ops.length:=by omega
   refine ag (by omega) ?_;refine ai (fun he => ?_) (fun he => ?_)
   ·obtain ⟨k1,k2⟩:=Aa hS a1 a2;refine aZ (zn k1 k2) (au (au (af ?_)));exact IQ hS a1 a2 a5 a6 ((show (opAt h (k:Int) (m:Int)).Key=key from he).trans a3.symm)
   ·refine af ⟨a2,rfl,fun p hp => ?_⟩;rcases Nat.lt_or_ge p m with h1 | h1
    ·exact a4 p h1
    ·have:p=m:=by omega
     subst this;exact he
  ·have:m=(idx h.Txns (k:Int)).Ops.length:=by omega
   subst this;refine au (af ⟨a1,rfl,fun t p ht hp => ?_⟩);rcases Nat.lt_or_ge t k with h1 | h1
   ·exact hno t p h1 hp
   ·have:t=k:=by omega
    subst this;exact a4 p hp
 ·have:k=h.Txns.length:=by omega
  subst this;exact absurd a3 (hno t0 p0 a5 a6)
end Go.Proofs.YtfpeabnehpclnaaGreatDoorT
namespace Go.Proofs.YtfpeabnehpclnaaGreatDoorT
open Go Go.Proofs Go.Proofs.YtfpeabnehpclnaaGreatDoorE
set_option linter.unusedVariables false
set_option linter.unusedSimpArgs false
def IR (h:History) (key ty:Int):Prop:=∀ t p:Nat,t < h.Txns.length→p < (idx h.Txns (t:Int)).Ops.length→(opAt h (t:Int) (p:Int)).Key=key→typ (opAt h (t:Int) (p:Int)).Kind=ty
def Apart (e f:Call×Int):Prop:=e.1.Key=f.1.Key→(e.1.Kind=2∨e.1.Kind=3)→(f.1.Kind=2∨f.1.Kind=3)→e.1.Arg≠f.1.Arg
theorem EG {L:List (Call×Int)} (h:qF [] L):L.Pairwise Apart:=by
 rw [List.pairwise_iff_getElem]
 intro i j hi hj hij hk h1 h2;have:=(h j hj).2.1
 rw [bS (n:=j) rfl hj] at this
 exact this h2 L[i] (by rw [List.nil_append]; exact List.mem_take_iff_getElem.2 ⟨i,by omega,rfl⟩) hk h1
theorem Gf {h:History} {t key v:Int}:v ∈ eH h t key↔∃ o ∈ (idx h.Txns t).Ops,o.Key=key∧o.Kind≤4∧o.Arg=v:=by
 unfold eH vR
 rw [List.take_length]
 simp only [List.mem_map,List.mem_filter,decide_eq_true_eq]
 constructor
 ·rintro ⟨o,⟨h1,h2,h3⟩,h4⟩; exact ⟨o,h1,h2,h3,h4⟩
 ·rintro ⟨o,h1,h2,h3,h4⟩; exact ⟨o,⟨h1,h2,h3⟩,h4⟩
theorem SG {h:History} {t:Nat} {o:Op} (ho:o ∈ (idx h.Txns (t:Int)).Ops):∃ p:Nat,p < (idx h.Txns (t:Int)).Ops.length∧opAt h (t:Int) (p:Int)=o:=by
 obtain ⟨p,hp,rfl⟩:=List.getElem_of_mem ho;exact ⟨p,hp,bS rfl hp⟩
theorem Ec {h:History} (hS:dB h) {key ty:Int} (hty:IR h key ty) (a1:ty=2∨ty=3) {t:Nat} (ht:t < h.Txns.length) {o:Op} (ho:o ∈ (idx h.Txns (t:Int)).Ops) (hk:o.Key=key) (h4:o.Kind≤4):o.Kind=2∨o.Kind=3:=by
 obtain ⟨p,hp,rfl⟩:=SG ho;have h1:=hty t p ht hp hk;obtain ⟨k1,k2⟩:=Aa hS ht hp;unfold typ at h1
 omega
theorem IU {h:History} (hS:dB h) {key ty:Int} (hty:IR h key ty) (a1:ty=2∨ty=3) {t:Nat} (ht:t < h.Txns.length):(eH h (t:Int) key).Nodup:=by
 have hp:=(List.pairwise_flatMap.1 (EG hS.ents)).1 t (List.mem_range.2 ht);unfold Ay dO at hp
 rw [List.map_map,List.pairwise_map] at hp
 unfold eH vR
 rw [List.take_length]
 unfold List.Nodup
 rw [List.pairwise_map,List.pairwise_filter]
 refine List.Pairwise.imp_of_mem (fun {x y} hx hy hR => ?_) hp;intro h1 h2
 rw [decide_eq_true_eq] at h1 h2
 refine hR ?_ (Ec hS hty a1 ht hx h1.1 h1.2) (Ec hS hty a1 ht hy h2.1 h2.2)
 show idx h.Keys _=idx h.Keys _
 rw [h1.1,h2.1]
theorem IV {h:History} (hS:dB h) {key ty:Int} (hty:IR h key ty) (a2:ty=2∨ty=3) {t u:Nat} (ht:t < h.Txns.length) (hu:u < h.Txns.length) (hn:t≠u) {v:Int}
  (h1:v ∈ eH h (t:Int) key):v ∉ eH h (u:Int) key:=by
 intro h2;have hp:=(List.pairwise_flatMap.1 (EG hS.ents)).2;obtain ⟨o,ho,k1,k2,k3⟩:=Gf.1 h1;obtain ⟨o',ho',l1,l2,l3⟩:=Gf.1 h2;have a1:∀ {t u:Nat} (ht:t < h.Txns.length) (hu:u < h.Txns.length),t < u→∀ {o o':Op},o ∈ (idx h.Txns (t:Int)).Ops→o' ∈ (idx h.Txns (u:Int)).Ops→o.Key=key→o'.Key=key→o.Kind≤4→o'.Kind≤4→o.Arg≠o'.Arg:=by
  intro t u ht hu htu o o' ho ho' e1 e2 e3 e4;have:=(List.pairwise_iff_getElem.1 hp) t u (by simpa using ht) (by simpa using hu) htu
  rw [List.getElem_range,List.getElem_range] at this
  refine this (xy h o,(t:Int)) ?_ (xy h o',(u:Int)) ?_ ?_ (Ec hS hty a2 ht ho e1 e3) (Ec hS hty a2 hu ho' e2 e4)
  ·unfold Ay dO; rw [List.map_map]; exact List.mem_map.2 ⟨o,ho,rfl⟩
  ·unfold Ay dO; rw [List.map_map]; exact List.mem_map.2 ⟨o',ho',rfl⟩
  ·show idx h.Keys _=idx h.Keys _
   rw [e1,e2]
 rcases Nat.lt_or_gt_of_ne hn with hlt | hlt
 ·exact a1 ht hu hlt ho ho' k1 l1 k2 l2 (k3.trans l3.symm)
 ·exact a1 hu ht hlt ho' ho l1 k1 l2 k2 (l3.trans k3.symm)
structure BB (h:History) (a:Ask) (t p:Nat):Prop where
 tl:t < h.Txns.length
 pl:p < (idx h.Txns (t:Int)).Ops.length
 e1:a.Txn=(t:Int)
 e2:a.Place=(p:Int)
 e3:a.Key=(opAt h (t:Int) (p:Int)).Key
 rd:5≤(opAt h (t:Int) (p:Int)).Kind
 b64:a.Base.length≤64
 b4:typ (opAt h (t:Int) (p:Int)).Kind=4→a.Base.length=1
 b3:typ (opAt h (t:Int) (p:Int)).Kind=3→a.Base.Nodup
theorem Gg {s:List Int} (h:Asc s):s.Nodup:=by
 exact (zX.1 h).imp (fun h=>by omega)
theorem yx {h:History} (hS:dB h) {a:Ask} (ha:a ∈ aU h h.Txns.length):∃ t p,BB h a t p:=by
 unfold aU at ha;obtain ⟨t,ht,ha⟩:=List.mem_flatMap.1 ha;have ht:=List.mem_range.1 ht;unfold xz at ha
 split at ha
 case isFalse=>cases ha
 case isTrue hst =>
 unfold vT at ha;obtain ⟨p,hp,ha⟩:=List.mem_flatMap.1 ha;have hp:=List.mem_range.1 hp;refine ⟨t,p,?_⟩;obtain ⟨k1,k8⟩:=Aa hS ht hp;obtain ⟨_,_,_,_,_,hcs⟩:=hS.txn t ht;have hc:=hcs p (by simpa [Av,dO] using hp)
 dsimp only [Av,dO] at hc
 rw [yD hp] at hc
 unfold uE xy at hc
 dsimp only at hc
 unfold Dl at ha
 dsimp only at ha
 have ho:idx (idx h.Txns (t:Int)).Ops (p:Int)=opAt h (t:Int) (p:Int):=rfl
 rw [ho] at ha hc
 generalize opAt h (t:Int) (p:Int)=o at ha hc k1 k8 ho;obtain ⟨c1,c8,c3,c4,c5,c6⟩:=hc;have hoo:opAt h (t:Int) (p:Int)=o:=ho
 split at ha
 ·cases ha
 ·rename_i h4
  obtain ⟨d1,d2,d3,d4⟩:=c6 (by omega);have hg:o.Got=true:=d2.2 hst;obtain ⟨f1,f2,f3,f4⟩:=d4 hg
  split at ha
  ·rw [List.mem_singleton] at ha
   subst ha;exact ⟨ht,hp,rfl,rfl,by rw [hoo],by rw [hoo]; omega,f4,fun h=>f2 (by rw [hoo] at h; unfold typ at h; omega),fun h=>Gg (f3 (by rw [hoo] at h; unfold typ at h; omega))⟩
  ·split at ha
   ·rename_i hb
    rw [List.mem_singleton] at ha
    subst ha;obtain ⟨hb,h5⟩:=hb;refine ⟨ht,hp,rfl,rfl,by rw [hoo],by rw [hoo]; omega,?_,fun h => ?_,fun h => ?_⟩
    ·dsimp only
     unfold before;have:=List.length_filter_le (fun x=>decide (x ∉ vR (idx h.Txns (t:Int)).Ops o.Key p)) o.Vals
     split
     ·simp
     ·split
      ·simp
      ·split
       ·split
        ·simp; omega
        ·simp
       ·split
        ·split
         ·dsimp only; omega
         ·simp
        ·simp
    ·have h8:o.Kind=8:=by rw [hoo] at h; unfold typ at h; omega
     dsimp only
     unfold before at hb ⊢
     rw [h8] at hb ⊢
     split at hb
     ·cases hb
     ·rename_i hq
      rw [if_neg hq]
      simp
    ·have h7:o.Kind=7:=by rw [hoo] at h; unfold typ at h; omega
     have hnd:=Gg (f3 h7)
     dsimp only
     unfold before
     rw [h7]
     split
     ·simp
     ·simp only [show ¬ ((7:Int) - 4=1) by omega,show ¬ ((7:Int) - 4=2) by omega,if_false]
      split
      ·split
       ·exact hnd.filter _
       ·simp
      ·rename_i h0
       exact absurd (show (7:Int) - 4=3 by omega) h0
   ·cases ha
end Go.Proofs.YtfpeabnehpclnaaGreatDoorT
namespace Go.Proofs.YtfpeabnehpclnaaGreatDoorT
open Go Go.Proofs Go.Proofs.YtfpeabnehpclnaaGreatDoorE
set_option linter.unusedVariables false
set_option linter.unusedSimpArgs false
theorem CF {α:Type} [Inhabited α] {l:List α} {k:Nat}:dW l (k:Int) (l.length:Int)=l.drop k:=by
 unfold dW
 simp
theorem CG {l:List Int} {v:Int} (hl:l.length < 2 ^ 60):slices_Contains_int l v=some (decide (v ∈ l)):=by
 have h1:Tri (slices_Index_int l v) (fun r=>0≤r↔∃ j:Nat,j < l.length∧idx l (j:Int)=v):=by
  unfold slices_Index_int;refine oW l.length (fun j=>idx l (j:Int)≠v) ?_;intro k hk hJ;unfold lD
  dsimp only
  repeat' (first | contradiction | with_reducible refine ai (fun hq => ?_) (fun hq => ?_) | with_reducible refine ag (by first | omega | grind [bW]) ?_ | with_reducible refine au ?_ | with_reducible refine cZ ?_ | with_reducible refine dH ?_ | with_reducible refine dF ?_ | with_reducible refine dI ?_ | with_reducible refine af ?_)
  all_goals grind [Nxt,bW]
 refine eY.1 ?_;unfold slices_Contains_int;refine bU h1 (fun r hr=>af ?_);have:(∃ j:Nat,j < l.length∧idx l (j:Int)=v)↔v ∈ l:=by
  rw [List.mem_iff_getElem]
  constructor
  ·rintro ⟨j,hj,e⟩; exact ⟨j,hj,by rw [← e,bS (n:=j) rfl hj]⟩
  ·rintro ⟨j,hj,e⟩; exact ⟨j,hj,by rw [← e,bS (n:=j) rfl hj]⟩
 rw [decide_eq_decide]
 exact hr.trans this
theorem IW {s p:List Int} (hs:s.length < 2 ^ 60):qz s p=some (decide (p <+: s)):=by
 refine eY.1 ?_;unfold qz;refine ai (fun h => ?_) (fun h => ?_)
 ·refine af ?_
  rw [eq_comm,decide_eq_false_iff_not]
  intro hp;have:=hp.length_le
  omega
 ·have hl:p.length≤s.length:=by omega
  refine ag (by omega) ?_;have hsv:dV (dW s (0:Int) (p.length:Int)) p=some (decide (dW s (0:Int) (p.length:Int)=p)):=FO (by rw [lm hl,List.length_take]; omega);refine aZ hsv (af ?_)
  rw [decide_eq_decide,lm hl,List.prefix_iff_eq_take,eq_comm]
structure Parts (O:List Int) (W:Int→List Int):Prop where
 ne:∀ t ∈ O,0 < (W t).length
 ap:∀ t ∈ O,∀ u ∈ O,∀ v,v ∈ W t→v ∈ W u→t=u
 nd:∀ t ∈ O,(W t).Nodup
 ol:O.length≤32
 wl:∀ t ∈ O,(W t).length≤16
 pos:∀ t ∈ O,0≤t
theorem zz {h:History} (hS:dB h) {a:Ask} {t p:Nat} (ha:BB h a t p) (a1:typ (opAt h (t:Int) (p:Int)).Kind=2∨typ (opAt h (t:Int) (p:Int)).Kind=3) :
  Parts (jL h a h.Txns.length) (fun t=>eH h t a.Key):=by
 have a2:=hS.len;have hty:IR h a.Key (typ (opAt h (t:Int) (p:Int)).Kind):=fun t' p' ht' hp' hk=>IQ hS ht' hp' ha.tl ha.pl (hk.trans ha.e3);have hm:∀ u ∈ jL h a h.Txns.length,∃ n:Nat,u=(n:Int)∧n < h.Txns.length∧0 < (eH h u a.Key).length:=by
  intro u hu;obtain ⟨⟨h0,h1,_,h3⟩,_⟩:=jM.1 hu;exact ⟨u.toNat,by omega,by omega,h3⟩
 refine ⟨fun u hu => ?_,fun u hu v hv x h1 h2 => ?_,fun u hu => ?_,Nat.le_trans uR a2,fun u hu => ?_,fun u hu=>(jM.1 hu).1.1⟩
 ·obtain ⟨n,_,_,h3⟩:=hm u hu; exact h3
 ·obtain ⟨n,rfl,hn,_⟩:=hm u hu;obtain ⟨m,rfl,hm',_⟩:=hm v hv
  by_cases hne:n=m
  ·rw [hne]
  ·exact absurd h2 (IV hS hty a1 hn hm' hne h1)
 ·obtain ⟨n,rfl,hn,_⟩:=hm u hu;exact IU hS hty a1 hn
 ·obtain ⟨n,rfl,hn,_⟩:=hm u hu;exact Nat.le_trans zt (hS.txn n hn).ops.1
section
variable {O:List Int} {W:Int→List Int}
def BC (O:List Int) (W:Int→List Int):List aP:=O.map (fun t=>⟨t,W t⟩)
theorem xL:(BC O W).length=O.length:=List.length_map _
theorem Ac {j:Nat} (hj:j < O.length):idx (BC O W) (j:Int)=⟨idx O (j:Int),W (idx O (j:Int))⟩:=yD hj
theorem dJ {l:List Int} {j:Nat} (hj:j < l.length):idx l (j:Int) ∈ l:=by rw [bS (n:=j) rfl hj]; exact List.getElem_mem _
theorem oU {l:List Int} {t:Int} (h:t ∈ l):∃ j:Nat,j < l.length∧idx l (j:Int)=t:=by
 obtain ⟨j,hj,e⟩:=List.getElem_of_mem h;exact ⟨j,hj,(bS rfl hj).trans e⟩
theorem pU {p s:List Int} (hp:p <+: s) (h0:0 < p.length):idx p 0=idx s 0:=by
 obtain ⟨r,rfl⟩:=hp;exact (kZ (j:=0) h0).symm
theorem MN (hP:Parts O W) {rest:List Int} (hr:0 < rest.length):Tri (bI (BC O W) rest)
  (fun y=>(∃ j:Nat,j < O.length∧y=(j:Int)∧idx (W (idx O (j:Int))) 0=idx rest 0)∨(y = -1∧∀ t ∈ O,idx (W t) 0≠idx rest 0)):=by
 have hol:=hP.ol;unfold bI;refine bN (k0:=0) O.length (fun k s=>s=(k:Int)∧∀ j:Nat,j < k→idx (W (idx O (j:Int))) 0≠idx rest 0) (Nat.zero_le _) ⟨rfl,fun j h=>absurd h (Nat.not_lt_zero _)⟩ ?_;rintro k s hk ⟨rfl,hno⟩;have hw:w64 ((k:Int) + 1)=((k + 1:Nat):Int):=aQ (by omega);unfold fM tF
 dsimp only
 rw [hw,xL]
 refine ai (fun a2 => ?_) (fun a2 => ?_)
 ·have a1:k < O.length:=by omega
  have h0:=hP.ne _ (dJ a1)
  rw [Ac a1]
  refine ag (by omega) ?_
  simp only [iL _ (show 0≤(0:Int)∧(0:Int) < ((W (idx O (k:Int))).length:Int) by omega),iL _ (show 0≤(0:Int)∧(0:Int) < (rest.length:Int) by omega),Option.bind_some]
  refine ai (fun he => ?_) (fun he => ?_)
  ·exact au (af (.inl ⟨k,a1,rfl,he⟩))
  ·refine af ⟨a1,rfl,fun j hj => ?_⟩;rcases Nat.lt_or_ge j k with h1 | h1
   ·exact hno j h1
   ·have:j=k:=by omega
    subst this;exact he
 ·have:k=O.length:=by omega
  subst this;refine au (af (.inr ⟨rfl,fun t ht => ?_⟩));obtain ⟨j,hj,rfl⟩:=oU ht;exact hno j hj
theorem sP (hP:Parts O W) {rest:List Int} {t u:Int} (ht:t ∈ O) (hu:u ∈ O) (h1:idx (W t) 0=idx rest 0) (h2:idx (W u) 0=idx rest 0):t=u:=by
 have e1:=hP.ne t ht;have e2:=hP.ne u hu;refine hP.ap t ht u hu (idx rest 0) ?_ ?_
 ·rw [← h1]; exact dJ (j:=0) e1
 ·rw [← h2]; exact dJ (j:=0) e2
end
end Go.Proofs.YtfpeabnehpclnaaGreatDoorT
namespace Go.Proofs.YtfpeabnehpclnaaGreatDoorT
open Go Go.Proofs Go.Proofs.YtfpeabnehpclnaaGreatDoorE
set_option linter.unusedVariables false
set_option linter.unusedSimpArgs false
def Stp (O:List Int) (W:Int→List Int) (rest l:List Int):Option (Option Int)→Prop
 | none=>rest.length=0
 | some none=>0 < rest.length∧∀ t ∈ O,W t <+: rest→t ∈ l
 | some (some t)=>0 < rest.length∧t ∈ O∧W t <+: rest∧t ∉ l
section
variable {O:List Int} {W:Int→List Int} {rest l:List Int}
theorem Stp.det (hP:Parts O W) {x y:Option (Option Int)} (hx:Stp O W rest l x) (hy:Stp O W rest l y):x=y:=by
 match x,y,hx,hy with
 | none,none,_,_=>rfl
 | none,some none,h1,h2=>exact absurd (show rest.length=0 from h1) (by have:0 < rest.length:=h2.1; omega)
 | none,some (some t),h1,h2=>exact absurd (show rest.length=0 from h1) (by have:0 < rest.length:=h2.1; omega)
 | some none,none,h1,h2=>exact absurd (show rest.length=0 from h2) (by have:0 < rest.length:=h1.1; omega)
 | some (some t),none,h1,h2=>exact absurd (show rest.length=0 from h2) (by have:0 < rest.length:=h1.1; omega)
 | some none,some none,_,_=>rfl
 | some none,some (some t),h1,h2=>exact absurd (h1.2 t h2.2.1 h2.2.2.1) h2.2.2.2
 | some (some t),some none,h1,h2=>exact absurd (h2.2 t h1.2.1 h1.2.2.1) h1.2.2.2
 | some (some t),some (some u),h1,h2 =>
  rw [sP hP h1.2.1 h2.2.1 (pU h1.2.2.1 (hP.ne t h1.2.1)) (pU h2.2.2.1 (hP.ne u h2.2.1))]
def Tn (W:Int→List Int) (rest l:List Int):Option (Option Int)→(List Int×List Int) ⊕ (List Int×Bool)
 | none => .inr (l,true)
 | some none => .inr ([],false)
 | some (some t) => .inl (rest.drop (W t).length,l++[t])
def Tp (W:Int→List Int) (rest l:List Int):Option (Option Int)→(List Int×List Int) ⊕ (List Int×Bool)
 | none => .inr (l,true)
 | some none => .inr ([],false)
 | some (some t) => .inl (l++[t],rest.drop (W t).length)
theorem MO (hP:Parts O W) (hr:rest.length≤64) (hl:l.length≤64):Tri (qY (BC O W) (rest,l)) (fun x=>∃ o,Stp O W rest l o∧x=Tn W rest l o):=by
 have hol:=hP.ol;unfold qY
 dsimp only
 refine ai (fun h0 => ?_) (fun h0 => ?_)
 ·have h0:0 < rest.length:=by omega
  refine bU (MN hP h0) (fun y hy => ?_);unfold lM
  rw [xL]
  rcases hy with ⟨j,hj,rfl,hh⟩ | ⟨rfl,hno⟩
  ·have a1:=hP.wl _ (dJ hj);refine ai (fun h1=>absurd h1 (by omega)) (fun _ => ?_);refine ag (by omega) ?_
   rw [Ac hj]
   dsimp only
   generalize hg:idx O (j:Int)=t at *;have ht:t ∈ O:=hg ▸ dJ hj;refine ai (fun h2 => ?_) (fun h2 => ?_)
   ·refine au (af ⟨some none,⟨h0,fun u hu hp => ?_⟩,rfl⟩);have:=sP hP hu ht (pU hp (hP.ne u hu)) hh;subst this;have:=hp.length_le
    omega
   ·have h2:(W t).length≤rest.length:=by omega
    refine ag (by omega) ?_;refine aZ (yn (by omega)) ?_
    rw [lm h2]
    refine ai (fun h3 => ?_) (fun h3 => ?_)
    ·refine au (af ⟨some none,⟨h0,fun u hu hp => ?_⟩,rfl⟩);have:=sP hP hu ht (pU hp (hP.ne u hu)) hh;subst this;have:=List.prefix_iff_eq_take.1 hp;exact absurd this (by simpa using h3)
    ·have h3:W t=rest.take (W t).length:=by simpa using h3
     refine aZ (CG (by omega)) ?_;refine ai (fun h4 => ?_) (fun h4 => ?_)
     ·refine au (af ⟨some none,⟨h0,fun u hu hp => ?_⟩,rfl⟩);have:=sP hP hu ht (pU hp (hP.ne u hu)) hh;subst this;exact h4
     ·refine ag (by omega) (ag (by omega) (ag (by omega) ?_))
      rw [CF]
      exact af ⟨some (some t),⟨h0,ht,List.prefix_iff_eq_take.2 h3,h4⟩,rfl⟩
  ·refine ai (fun h1 => ?_) (fun h1=>absurd h1 (by omega));exact au (af ⟨some none,⟨h0,fun u hu hp=>absurd (pU hp (hP.ne u hu)) (hno u hu)⟩,rfl⟩)
 ·exact au (af ⟨none,by show rest.length=0; omega,rfl⟩)
theorem NW {h:History} {a:Ask} (hP:Parts O W) (hW:∀ t ∈ O,aW h t a.Key=some (W t)) (hr:rest.length≤64) (hl:l.length≤64) :
  Tri (lI h a O (l,rest)) (fun x=>∃ o,Stp O W rest l o∧x=Tp W rest l o):=by
 have hol:=hP.ol;unfold lI
 dsimp only
 refine ai (fun h0 => ?_) (fun h0 => ?_)
 ·have h0:0 < rest.length:=by omega
  refine bN (k0:=0) O.length (fun k s=>s.2=(k:Int)∧((s.1 = -1∧∀ j:Nat,j < k → ¬ W (idx O (j:Int)) <+: rest)∨(s.1 ∈ O∧W s.1 <+: rest))) (Nat.zero_le _) ⟨rfl,.inl ⟨rfl,fun j h=>absurd h (Nat.not_lt_zero _)⟩⟩ ?_;rintro k ⟨x,y⟩ hk ⟨e,hx⟩
  dsimp only at e hx
  subst e;have hw:w64 ((k:Int) + 1)=((k + 1:Nat):Int):=aQ (by omega);unfold uK pJ
  dsimp only
  rw [hw]
  refine ai (fun a4 => ?_) (fun a4 => ?_)
  ·have a1:k < O.length:=by omega
   refine ag (by omega) ?_;refine aZ (hW _ (dJ a1)) ?_;refine aZ (IW (by omega)) ?_;refine ai (fun h1 => ?_) (fun h1 => ?_)
   ·exact af ⟨a1,rfl,.inr ⟨dJ a1,h1⟩⟩
   ·refine af ⟨a1,rfl,?_⟩;rcases hx with ⟨e,hx⟩ | hx
    ·refine .inl ⟨e,fun j hj => ?_⟩;rcases Nat.lt_or_ge j k with h2 | h2
     ·exact hx j h2
     ·have:j=k:=by omega
      subst this;exact h1
    ·exact .inr hx
  ·have:k=O.length:=by omega
   subst this;rcases hx with ⟨rfl,hx⟩ | ⟨hx,hp⟩
   ·refine ai (fun _ => ?_) (fun h1=>absurd h1 (by omega));refine au (au (af ⟨some none,⟨h0,fun t ht hp => ?_⟩,rfl⟩));obtain ⟨j,hj,rfl⟩:=oU ht;exact absurd hp (hx j hj)
   ·have h2:=hP.pos x hx;have h3:=hp.length_le;refine ai (fun h1=>absurd h1 (by omega)) (fun _ => ?_);refine bN (k0:=0) l.length (fun k s=>s=(k:Int)∧∀ j:Nat,j < k→idx l (j:Int)≠x) (Nat.zero_le _) ⟨rfl,fun j h=>absurd h (Nat.not_lt_zero _)⟩ ?_;rintro m s hm ⟨rfl,hno⟩;have a3:w64 ((m:Int) + 1)=((m + 1:Nat):Int):=aQ (by omega);unfold uJ
    dsimp only
    rw [a3]
    refine ai (fun a5 => ?_) (fun a5 => ?_)
    ·have a2:m < l.length:=by omega
     refine ag (by omega) ?_;refine ai (fun h4 => ?_) (fun h4 => ?_)
     ·refine au (au (au (af ⟨some none,⟨h0,fun u hu hq => ?_⟩,rfl⟩)))
      rw [sP hP hu hx (pU hq (hP.ne u hu)) (pU hp (hP.ne x hx)),← h4]
      exact dJ a2
     ·refine af ⟨a2,rfl,fun j hj => ?_⟩;rcases Nat.lt_or_ge j m with h5 | h5
      ·exact hno j h5
      ·have:j=m:=by omega
       subst this;exact h4
    ·have:m=l.length:=by omega
     subst this;refine ag (by omega) ?_;refine aZ (hW x hx) ?_;refine ag (by omega) ?_
     rw [CF]
     refine au (au (af ⟨some (some x),⟨h0,hx,hp,fun hmem => ?_⟩,rfl⟩));obtain ⟨j,hj,e⟩:=oU hmem;exact hno j hj e
 ·exact au (af ⟨none,by show rest.length=0; omega,rfl⟩)
end
end Go.Proofs.YtfpeabnehpclnaaGreatDoorT
namespace Go.Proofs.YtfpeabnehpclnaaGreatDoorT
open Go Go.Proofs Go.Proofs.YtfpeabnehpclnaaGreatDoorE
set_option linter.unusedVariables false
set_option linter.unusedSimpArgs false
def AA (O:List Int) (W:Int→List Int) (base m:List Int):Prop:=(∀ t ∈ m,t ∈ O)∧m.Nodup∧base=m.flatMap W
def zA (O:List Int) (W:Int→List Int) (base:List Int) (r:List Int×Bool):Prop:=(r.2=true∧AA O W base r.1)∨(r=([],false)∧∀ m,¬ AA O W base m)
section
variable {O:List Int} {W:Int→List Int} {rest l:List Int}
theorem MP (hP:Parts O W) {m:List Int} (hm:∀ t ∈ m,t ∈ O) (hr:0 < rest.length) (e:rest=m.flatMap W):∃ u m',m=u::m'∧u ∈ O∧W u <+: rest∧idx (W u) 0=idx rest 0:=by
 cases m with
 | nil=>rw [e] at hr; simp at hr
 | cons u m' =>
  have hu:=hm u (by simp);have hp:W u <+: rest:=⟨m'.flatMap W,by rw [e,List.flatMap_cons]⟩
  exact ⟨u,m',rfl,hu,hp,pU hp (hP.ne u hu)⟩
theorem CJ (hP:Parts O W) {h:History} {a:Ask} (hW:∀ t ∈ O,aW h t a.Key=some (W t)) (ho:aX h a=some O) (hb:a.Base.length≤64) :
  ∃ r,fo a.Base (BC O W)=some r∧cK h a=some r∧zA O W a.Base r:=by
 have key:Tri (fo a.Base (BC O W)) (fun r=>Tri (iter (lI h a O) ([],a.Base)) (fun r'=>r=r'∧zA O W a.Base r)):=by
  unfold fo;refine Db (k0:=0) a.Base.length (fun (k:Nat) (s t:List Int×List Int)=>s.1=t.2∧s.2=t.1∧s.1.length + k≤a.Base.length∧s.2.length≤k∧(∀ t ∈ s.2,t ∈ O)∧s.2.Nodup∧a.Base=s.2.flatMap W++s.1∧∀ m,AA O W a.Base m→∃ m',m=s.2++m')
   (Nat.zero_le _) ⟨rfl,rfl,Nat.le_refl _,Nat.le_refl _,fun t h=>(nomatch h),List.nodup_nil,by simp,fun m _=>⟨m,rfl⟩⟩ ?_
  rintro k ⟨rest,l⟩ ⟨l',rest'⟩ hk ⟨e1,e2,i1,i2,i3,i4,i5,i6⟩
  dsimp only at e1 e2 i1 i2 i3 i4 i5 i6
  subst e1 e2;refine eX (MO hP (by omega) (by omega)) ?_;rintro x ⟨o,hs,rfl⟩;refine eX (NW hP hW (by omega) (by omega)) ?_;rintro y ⟨o',hs',rfl⟩;obtain rfl:=Stp.det hP hs hs';have nxt:∀ m,AA O W a.Base m→0 < rest.length→∃ u m',m=l++u::m'∧u ∈ O∧W u <+: rest∧idx (W u) 0=idx rest 0:=by
   intro m hm hr;obtain ⟨m',rfl⟩:=i6 m hm;obtain ⟨h1,h2,h3⟩:=hm
   rw [i5,List.flatMap_append,List.append_cancel_left_eq] at h3
   obtain ⟨u,m2,rfl,q1,q2,q3⟩:=MP hP (fun t ht=>h1 t (List.mem_append_right _ ht)) hr h3;exact ⟨u,m2,rfl,q1,q2,q3⟩
  match o,hs with
  | none,hs =>
   refine ⟨rfl,.inl ⟨rfl,i3,i4,?_⟩⟩
   rw [i5,List.length_eq_zero_iff.1 (show rest.length=0 from hs),List.append_nil]
  | some none,hs =>
   refine ⟨rfl,.inr ⟨rfl,fun m hm => ?_⟩⟩;obtain ⟨u,m',rfl,q1,q2,q3⟩:=nxt m hm hs.1;have:=(List.nodup_append.1 hm.2.1).2.2;exact this u (hs.2 u q1 q2) u (by simp) rfl
  | some (some t),⟨s1,s2,s3,s4⟩ =>
   have h1:=hP.ne t s2;have h2:=s3.length_le;refine ⟨by omega,rfl,rfl,by rw [List.length_drop]; omega,by rw [List.length_append,List.length_singleton]; omega,fun u hu => ?_,?_,?_,fun m hm => ?_⟩
   ·rcases List.mem_append.1 hu with hu | hu
    ·exact i3 u hu
    ·rw [List.mem_singleton.1 hu]; exact s2
   ·rw [List.nodup_append]
    refine ⟨i4,List.nodup_cons.2 ⟨by simp,List.nodup_nil⟩,fun u hu v hv => ?_⟩
    rw [List.mem_singleton.1 hv]
    intro e;exact s4 (e ▸ hu)
   ·dsimp only
    rw [List.flatMap_append,List.append_assoc,i5]
    congr 1
    rw [List.flatMap_cons,List.flatMap_nil,List.append_nil]
    obtain ⟨z,hz⟩:=s3
    rw [← hz,List.drop_left]
   ·obtain ⟨u,m',rfl,q1,q2,q3⟩:=nxt m hm s1;have:=sP hP q1 s2 q3 (pU s3 h1);subst this;exact ⟨m',by simp⟩
 obtain ⟨r,hr,r',hr',rfl,ht⟩:=key;refine ⟨r,hr,?_,ht⟩;unfold cK
 rw [ho]
 exact hr'
end
end Go.Proofs.YtfpeabnehpclnaaGreatDoorT
namespace Go.Proofs.YtfpeabnehpclnaaGreatDoorT
open Go Go.Proofs Go.Proofs.YtfpeabnehpclnaaGreatDoorE
set_option linter.unusedVariables false
set_option linter.unusedSimpArgs false
theorem ql {l:List Int}:∀ {m:List Int},l.Nodup→(∀ x ∈ l,x ∈ m)→l.length≤m.length:=by
 induction l with
 | nil=>intro m _ _; simp
 | cons x l ih =>
  intro m hn hs;obtain ⟨h1,h2⟩:=List.nodup_cons.1 hn;have hx:=hs x (by simp);have:=ih (m:=m.erase x) h2 (fun y hy=>(List.mem_erase_of_ne (fun (e:y=x)=>h1 (e ▸ hy))).2 (hs y (by simp [hy])))
  rw [List.length_erase_of_mem hx] at this
  have:0 < m.length:=List.length_pos_of_mem hx
  simp
  omega
def keysOf (m:List (Int×Unit)):List Int:=m.map (·.1)
theorem Gh {m:List (Int×Unit)} {x:Int}:kC m x=true↔x ∈ keysOf m:=by
 unfold kC keysOf
 simp [List.any_eq_true]
theorem CK {x:Int}:∀ {m:List (Int×Unit)},keysOf (DT m x)=(keysOf m).erase x
 | []=>rfl
 | p::m=>by
  unfold DT keysOf
  rw [List.map_cons,List.erase_cons]
  by_cases e:p.1=x
  ·simp [e]
  ·rw [if_neg e,if_neg (by simpa using e),List.map_cons]
   congr 1
   exact CK
theorem Gi {x:Int}:∀ {m:List (Int×Unit)},x ∉ keysOf m→keysOf (gG m x ())=keysOf m++[x]
 | [],_=>rfl
 | p::m,h=>by
  have h1:¬ p.1=x:=fun e=>h (by simp [keysOf,e]);have h2:x ∉ keysOf m:=fun h'=>h (by simp only [keysOf,List.map_cons,List.mem_cons]; exact .inr h');unfold gG
  rw [if_neg h1]
  show p.1::keysOf (gG m x ())=p.1::keysOf m++[x]
  rw [Gi h2]
  rfl
def cnt (base w:List Int):Nat:=(w.filter (fun v=>decide (v ∈ base))).length
theorem EH {base w:List Int}:cnt base w≤w.length:=List.length_filter_le _ _
theorem IX {base w:List Int} {i:Nat} (hi:i < w.length):cnt base (w.take (i + 1))=if idx w (i:Int) ∈ base then cnt base (w.take i) + 1 else cnt base (w.take i):=by
 unfold cnt
 rw [List.take_succ_eq_append_getElem hi,List.filter_append,List.length_append,(bS (n:=i) rfl hi:idx w (i:Int)=w[i])]
 by_cases h:w[i] ∈ base <;> simp [h]
def Whole (O:List Int) (W:Int→List Int) (base:List Int):Prop:=(∀ t ∈ O,cnt base (W t)=0∨cnt base (W t)=(W t).length)∧∀ v ∈ base,∃ t ∈ O,v ∈ W t
def vU (O:List Int) (W:Int→List Int) (base:List Int):List Int:=O.filter (fun t=>decide (0 < cnt base (W t)))
def qm (O:List Int) (W:Int→List Int) (base:List Int) (r:List Int×Bool):Prop:=(r=(vU O W base,true)∧Whole O W base)∨(r=([],false) ∧ ¬ Whole O W base)
theorem qm.det {O:List Int} {W:Int→List Int} {base:List Int} {r s:List Int×Bool} (h1:qm O W base r) (h2:qm O W base s):r=s:=by
 rcases h1 with ⟨rfl,h1⟩ | ⟨rfl,h1⟩ <;> rcases h2 with ⟨rfl,h2⟩ | ⟨rfl,h2⟩
 ·rfl
 ·exact absurd h1 h2
 ·exact absurd h2 h1
 ·rfl
section
variable {O:List Int} {W:Int→List Int} {base:List Int}
theorem EI {k:Nat} (hk:k < O.length):vU (O.take (k + 1)) W base=if 0 < cnt base (W (idx O (k:Int))) then vU (O.take k) W base++[idx O (k:Int)] else vU (O.take k) W base:=by
 unfold vU
 rw [List.take_succ_eq_append_getElem hk,List.filter_append,(bS (n:=k) rfl hk:idx O (k:Int)=O[k])]
 by_cases h:0 < cnt base (W O[k]) <;> simp [h]
theorem Gj {k:Nat}:(vU (O.take k) W base).length≤O.length:=Nat.le_trans (List.length_filter_le _ _) (by rw [List.length_take]; omega)
theorem GX {i j:Nat} (hn:O.Nodup) (hi:i < O.length) (hj:j < O.length) (e:idx O (i:Int)=idx O (j:Int)):i=j:=by
 rw [bS (n:=i) rfl hi,bS (n:=j) rfl hj] at e
 have hp:=List.pairwise_iff_getElem.1 hn;rcases Nat.lt_trichotomy i j with h | h | h
 ·exact absurd e (hp i j hi hj h)
 ·exact h
 ·exact absurd e.symm (hp j i hj hi h)
theorem NY (hP:Parts O W) (hO:O.Nodup) (hb:base.length≤64) (hn:base.Nodup):Tri (df base (BC O W)) (qm O W base):=by
 have hol:=hP.ol;unfold df;refine bN (k0:=0) base.length (fun k s=>s.2=(k:Int)∧keysOf s.1=base.take k) (Nat.zero_le _) ⟨rfl,rfl⟩ ?_;rintro k ⟨m,x⟩ hk ⟨e,hm⟩
 dsimp only at e hm
 subst e;have hw:w64 ((k:Int) + 1)=((k + 1:Nat):Int):=aQ (by omega);unfold xh
 dsimp only
 rw [hw]
 refine ai (fun a3 => ?_) (fun a3 => ?_)
 ·have a1:k < base.length:=by omega
  refine ag (by omega) (af ⟨a1,rfl,?_⟩);have hni:idx base (k:Int) ∉ keysOf m:=by
   rw [hm]
   intro h;obtain ⟨i,hi,e⟩:=List.mem_take_iff_getElem.1 h;have:=GX (i:=i) (j:=k) hn (by omega) a1 ((bS rfl (by omega)).trans e)
   omega
  dsimp only
  rw [Gi hni,hm,List.take_succ_eq_append_getElem a1,(bS (n:=k) rfl a1:idx base (k:Int)=base[k])]
 ·have:k=base.length:=by omega
  subst this
  rw [List.take_length] at hm
  refine bN (k0:=0) O.length (fun k s=>s.1=vU (O.take k) W base∧(keysOf s.2.1).Nodup∧(∀ v,v ∈ keysOf s.2.1↔v ∈ base∧∀ j:Nat,j < k→v ∉ W (idx O (j:Int)))∧s.2.2=(k:Int)∧∀ j:Nat,j < k→cnt base (W (idx O (j:Int)))=0∨cnt base (W (idx O (j:Int)))=(W (idx O (j:Int))).length)
   (Nat.zero_le _) ⟨by simp [vU],by rw [hm]; exact hn,fun v=>by rw [hm]; exact ⟨fun h=>⟨h,fun j h=>absurd h (Nat.not_lt_zero _)⟩,fun h=>h.1⟩,rfl,fun j h=>absurd h (Nat.not_lt_zero _)⟩ ?_
  rintro k ⟨l,m,x⟩ hk ⟨e1,e2,e3,e4,e5⟩
  dsimp only at e1 e2 e3 e4 e5
  subst e1 e4;have hw:w64 ((k:Int) + 1)=((k + 1:Nat):Int):=aQ (by omega);have hsl:=Gj (O:=O) (W:=W) (base:=base) (k:=k);unfold xg
  dsimp only
  rw [xL]
  refine ai (fun a3 => ?_) (fun a3 => ?_)
  ·have a1:k < O.length:=by omega
   refine ag (by omega) ?_;have ht:=dJ a1;have hss:=EI (W:=W) (base:=base) a1;generalize hg:idx O (k:Int)=t at ht hss;have hwl:=hP.wl t ht;have hwn:=hP.nd t ht;refine bN (k0:=0) (W t).length (fun i s=>(keysOf s.1).Nodup∧(∀ v,v ∈ keysOf s.1↔(v ∈ base∧∀ j:Nat,j < k→v ∉ W (idx O (j:Int)))∧v ∉ (W t).take i)∧s.2.1=(cnt base ((W t).take i):Int)∧s.2.2=(i:Int))
    (Nat.zero_le _) ⟨e2,fun v=>⟨fun h=>⟨(e3 v).1 h,by simp⟩,fun h=>(e3 v).2 h.1⟩,by simp [cnt],rfl⟩ ?_
   rintro i ⟨m2,c,x⟩ hi ⟨f1,f2,f3,f4⟩
   dsimp only at f1 f2 f3 f4
   subst f3 f4;have hcl:cnt base ((W t).take i)≤i:=Nat.le_trans EH (by rw [List.length_take]; omega);have b0:w64 ((i:Int) + 1)=((i + 1:Nat):Int):=aQ (by omega);have a6:w64 ((cnt base ((W t).take i):Int) + 1)=((cnt base ((W t).take i) + 1:Nat):Int):=aQ (by omega);unfold xe tJ tK tH
   dsimp only
   rw [b0,a6,Ac a1,hg]
   dsimp only
   refine ai (fun a7 => ?_) (fun a7 => ?_)
   ·have a2:i < (W t).length:=by omega
    refine ag (by omega) ?_;have hct:=IX (base:=base) a2;have hmem:∀ v,v ∈ (W t).take (i + 1)↔v ∈ (W t).take i∨v=idx (W t) (i:Int):=by
     intro v
     rw [List.take_succ_eq_append_getElem a2,(bS (n:=i) rfl a2:idx (W t) (i:Int)=(W t)[i]),List.mem_append,List.mem_singleton]
    have hni:idx (W t) (i:Int) ∉ (W t).take i:=by
     intro h;obtain ⟨j,hj,e⟩:=List.mem_take_iff_getElem.1 h;have:=GX (i:=j) (j:=i) hwn (by omega) a2 ((bS rfl (by omega)).trans e)
     omega
    have hout:∀ j:Nat,j < k→idx (W t) (i:Int) ∉ W (idx O (j:Int)):=by
     intro j hj h;have:=hP.ap _ (dJ (show j < O.length by omega)) t ht _ h (dJ a2)
     rw [← hg] at this
     have:=GX hO (by omega) a1 this
     omega
    have a4:idx (W t) (i:Int) ∈ keysOf m2↔idx (W t) (i:Int) ∈ base:=by
     rw [f2]
     exact ⟨fun h=>h.1.1,fun h=>⟨⟨h,hout⟩,hni⟩⟩
    cases hmh:kC m2 (idx (W t) (i:Int))
    ·have hnb:idx (W t) (i:Int) ∉ base:=fun h=>by rw [Gh.2 (a4.2 h)] at hmh; cases hmh
     rw [cond_false]
     refine af ⟨a2,f1,fun v => ?_,?_,rfl⟩
     ·dsimp only
      rw [f2,hmem]
      constructor
      ·rintro ⟨h1,h2⟩;refine ⟨h1,?_⟩;rintro (h3 | h3)
       ·exact h2 h3
       ·subst h3;exact hnb h1.1
      ·rintro ⟨h1,h2⟩;exact ⟨h1,fun h=>h2 (.inl h)⟩
     ·dsimp only
      rw [hct,if_neg hnb]
    ·have hib:idx (W t) (i:Int) ∈ base:=a4.1 (Gh.1 hmh)
     rw [cond_true]
     refine af ⟨a2,?_,fun v => ?_,?_,rfl⟩
     ·dsimp only
      rw [CK]
      exact f1.erase _
     ·dsimp only
      rw [CK,List.Nodup.mem_erase_iff f1,f2,hmem]
      constructor
      ·rintro ⟨h1,h2,h3⟩;exact ⟨h2,fun h=>h.elim h3 h1⟩
      ·rintro ⟨h1,h2⟩;exact ⟨fun h=>h2 (.inr h),h1,fun h=>h2 (.inl h)⟩
     ·dsimp only
      rw [hct,if_pos hib]
   ·have:i=(W t).length:=by omega
    subst this
    rw [List.take_length] at f2 ⊢
    have hcw:cnt base (W t)≤(W t).length:=EH;have fin:∀ (hc:cnt base (W t)=0∨cnt base (W t)=(W t).length) (l':List Int),l'=vU (O.take (k + 1)) W base→Upm O.length k (fun k s=>s.1=vU (O.take k) W base∧(keysOf s.2.1).Nodup∧(∀ v,v ∈ keysOf s.2.1↔v ∈ base∧∀ j:Nat,j < k→v ∉ W (idx O (j:Int)))∧s.2.2=(k:Int)∧∀ j:Nat,j < k→cnt base (W (idx O (j:Int)))=0∨cnt base (W (idx O (j:Int)))=(W (idx O (j:Int))).length) (qm O W base) (.inl (l',m2,((k + 1:Nat):Int))):=by
     intro hc l' hl';refine ⟨a1,hl',f1,fun v => ?_,rfl,fun j hj => ?_⟩
     ·dsimp only
      rw [f2]
      constructor
      ·rintro ⟨⟨h1,h2⟩,h3⟩;refine ⟨h1,fun j hj => ?_⟩;rcases Nat.lt_or_ge j k with h4 | h4
       ·exact h2 j h4
       ·have:j=k:=by omega
        subst this
        rw [hg]; exact h3
      ·rintro ⟨h1,h2⟩;exact ⟨⟨h1,fun j hj=>h2 j (by omega)⟩,by have:=h2 k (by omega); rwa [hg] at this⟩
     ·rcases Nat.lt_or_ge j k with h4 | h4
      ·exact e5 j h4
      ·have:j=k:=by omega
       subst this
       rw [hg]; exact hc
    have bad:¬ (cnt base (W t)=0∨cnt base (W t)=(W t).length)→qm O W base ([],false):=fun hc => .inr ⟨rfl,fun hW=>hc (hW.1 t ht)⟩
    rw [hw]
    refine ai (fun h1 => ?_) (fun h1 => ?_)
    ·refine ai (fun h2 => ?_) (fun h2 => ?_)
     ·exact au (au (au (af (bad (by omega)))))
     ·refine ai (fun h3 => ?_) (fun h3 => ?_)
      ·refine ag (by omega) ?_;refine au (af (fin (by omega) _ ?_))
       rw [hss,if_pos (by omega)]
      ·exact absurd h1 h3
    ·rw [cond_false]
     refine ai (fun h3=>absurd h3 h1) (fun h3 => ?_);refine au (af (fin (by omega) _ ?_))
     rw [hss,if_neg (by omega)]
  ·have:k=O.length:=by omega
   subst this
   rw [List.take_length]
   have hml:0 < m.length↔∃ v,v ∈ keysOf m:=by
    unfold keysOf;cases m with
    | nil=>simp
    | cons p m=>exact ⟨fun _=>⟨p.1,by simp⟩,fun _=>by simp⟩
   have hall:(∀ t ∈ O,cnt base (W t)=0∨cnt base (W t)=(W t).length):=by
    intro t ht;obtain ⟨j,hj,rfl⟩:=oU ht;exact e5 j hj
   refine ai (fun h1 => ?_) (fun h1 => ?_)
   ·refine au (au (af (.inr ⟨rfl,fun hW => ?_⟩)));obtain ⟨v,hv⟩:=hml.1 (by omega);obtain ⟨a8,a9⟩:=(e3 v).1 hv;obtain ⟨t,ht,a5⟩:=hW.2 v a8;obtain ⟨j,hj,rfl⟩:=oU ht;exact a9 j hj a5
   ·refine au (au (af (.inl ⟨rfl,hall,fun v hv => ?_⟩)))
    apply Classical.byContradiction
    intro hno;refine h1 ?_;have:=hml.2 ⟨v,(e3 v).2 ⟨hv,fun j hj h=>hno ⟨_,dJ hj,h⟩⟩⟩
    omega
end
end Go.Proofs.YtfpeabnehpclnaaGreatDoorT
namespace Go.Proofs.YtfpeabnehpclnaaGreatDoorT
open Go Go.Proofs Go.Proofs.YtfpeabnehpclnaaGreatDoorE
set_option linter.unusedVariables false
set_option linter.unusedSimpArgs false
theorem Ko {l:List Int} {v:Int} (hl:l.length < 2 ^ 60):jg l v=some (decide (v ∈ l)):=by
 refine eY.1 ?_;unfold jg;refine bN (k0:=0) l.length (fun k s=>s=(k:Int)∧∀ j:Nat,j < k→idx l (j:Int)≠v) (Nat.zero_le _) ⟨rfl,fun j h=>absurd h (Nat.not_lt_zero _)⟩ ?_;rintro k s hk ⟨rfl,hno⟩;have hw:w64 ((k:Int) + 1)=((k + 1:Nat):Int):=aQ (by omega);unfold tZ
 dsimp only
 rw [hw]
 refine ai (fun a2 => ?_) (fun a2 => ?_)
 ·have a1:k < l.length:=by omega
  refine ag (by omega) ?_;refine ai (fun h1 => ?_) (fun h1 => ?_)
  ·refine au (af ?_)
   show true=decide (v ∈ l)
   rw [eq_comm,decide_eq_true_iff,← h1]
   exact dJ a1
  ·refine af ⟨a1,rfl,fun j hj => ?_⟩;rcases Nat.lt_or_ge j k with h2 | h2
   ·exact hno j h2
   ·have:j=k:=by omega
    subst this;exact h1
 ·have:k=l.length:=by omega
  subst this;refine au (af ?_)
  show false=decide (v ∈ l)
  rw [eq_comm,decide_eq_false_iff_not]
  intro h;obtain ⟨j,hj,e⟩:=oU h;exact hno j hj e
section
variable {O:List Int} {W:Int→List Int} {base:List Int}
def hits (O:List Int) (W:Int→List Int) (base:List Int):List Int:=O.flatMap (fun t=>(W t).filter (fun v=>decide (v ∈ base)))
theorem Gl {k:Nat} (hk:k < O.length):(hits (O.take (k + 1)) W base).length=(hits (O.take k) W base).length + cnt base (W (idx O (k:Int))):=by
 unfold hits cnt
 rw [List.take_succ_eq_append_getElem hk,List.flatMap_append,List.length_append,(bS (n:=k) rfl hk:idx O (k:Int)=O[k])]
 simp
theorem Kq (hP:Parts O W):∀ k,k≤O.length→(hits (O.take k) W base).length≤16 * k:=by
 intro k
 induction k with
 | zero=>intro _; simp [hits]
 | succ k ih =>
  intro hk
  rw [Gl (by omega)]
  have:=ih (by omega);have h1:=hP.wl _ (dJ (show k < O.length by omega));have h2:cnt base (W (idx O (k:Int)))≤_:=EH
  omega
theorem EJ {v:Int}:v ∈ hits O W base↔∃ t ∈ O,v ∈ W t∧v ∈ base:=by
 unfold hits
 simp only [List.mem_flatMap,List.mem_filter,decide_eq_true_eq]
theorem Kr (hP:Parts O W) (hO:O.Nodup):(hits O W base).Nodup:=by
 unfold hits List.Nodup
 rw [List.pairwise_flatMap]
 refine ⟨fun t ht=>(hP.nd t ht).filter _,List.Pairwise.imp_of_mem (fun {t u} ht hu hne => ?_) hO⟩;intro x hx y hy e;subst e
 rw [List.mem_filter] at hx hy
 exact hne (hP.ap t ht u hu x hx.1 hy.1)
theorem MQ (hP:Parts O W) (hO:O.Nodup) (hn:base.Nodup):(hits O W base).length=base.length↔∀ v ∈ base,∃ t ∈ O,v ∈ W t:=by
 have hN:=Kr (base:=base) hP hO;have hS:∀ v ∈ hits O W base,v ∈ base:=fun v hv=>by obtain ⟨_,_,_,h⟩:=EJ.1 hv; exact h
 constructor
 ·intro e v hv
  apply Classical.byContradiction
  intro hno;have h1:v ∉ hits O W base:=fun h=>by
   obtain ⟨t,ht,h2,_⟩:=EJ.1 h;exact hno ⟨t,ht,h2⟩
  have:=ql (l:=v::hits O W base) (m:=base) (List.nodup_cons.2 ⟨h1,hN⟩) (fun x hx=>by
   rcases List.mem_cons.1 hx with rfl | hx
   ·exact hv
   ·exact hS x hx)
  simp at this
  omega
 ·intro hc;refine Nat.le_antisymm (ql hN hS) (ql hn (fun v hv => ?_));obtain ⟨t,ht,h⟩:=hc v hv;exact EJ.2 ⟨t,ht,h,hv⟩
theorem QF {h:History} {a:Ask} (hP:Parts O W) (hO:O.Nodup) (hW:∀ t ∈ O,aW h t a.Key=some (W t)) (ho:aX h a=some O) (hb:a.Base.length≤64) (hn:a.Base.Nodup) :
  Tri (bT h a) (qm O W a.Base):=by
 have hol:=hP.ol;unfold bT;refine aZ ho ?_;refine bN (k0:=0) O.length (fun k s=>s.1=vU (O.take k) W a.Base∧s.2.1=((hits (O.take k) W a.Base).length:Int)∧s.2.2=(k:Int)∧∀ j:Nat,j < k→cnt a.Base (W (idx O (j:Int)))=0∨cnt a.Base (W (idx O (j:Int)))=(W (idx O (j:Int))).length)
  (Nat.zero_le _) ⟨by simp [vU],by simp [hits],rfl,fun j h=>absurd h (Nat.not_lt_zero _)⟩ ?_
 rintro k ⟨l,n,x⟩ hk ⟨e1,e2,e4,e5⟩
 dsimp only at e1 e2 e4 e5
 subst e1 e2 e4;have hw:w64 ((k:Int) + 1)=((k + 1:Nat):Int):=aQ (by omega);have hsl:=Gj (O:=O) (W:=W) (base:=a.Base) (k:=k);have hsm:=Kq (base:=a.Base) hP k hk;unfold vG
 dsimp only
 refine ai (fun a5 => ?_) (fun a5 => ?_)
 ·have a1:k < O.length:=by omega
  refine ag (by omega) ?_;have ht:=dJ a1;have hss:=EI (W:=W) (base:=a.Base) a1;have hhs:=Gl (W:=W) (base:=a.Base) a1;refine aZ (hW _ ht) ?_;generalize hg:idx O (k:Int)=t at ht hss hhs;have hwl:=hP.wl t ht;refine bN (k0:=0) (W t).length (fun i s=>s.1=(cnt a.Base ((W t).take i):Int)∧s.2=(i:Int)) (Nat.zero_le _) ⟨by simp [cnt],rfl⟩ ?_
  rintro i ⟨c,x⟩ hi ⟨f3,f4⟩
  dsimp only at f3 f4
  subst f3 f4;have hcl:cnt a.Base ((W t).take i)≤i:=Nat.le_trans EH (by rw [List.length_take]; omega);have a7:w64 ((i:Int) + 1)=((i + 1:Nat):Int):=aQ (by omega);have a4:w64 ((cnt a.Base ((W t).take i):Int) + 1)=((cnt a.Base ((W t).take i) + 1:Nat):Int):=aQ (by omega);unfold vF qB qC qA
  dsimp only
  rw [a7,a4,hg]
  refine ai (fun a6 => ?_) (fun a6 => ?_)
  ·have a2:i < (W t).length:=by omega
   refine ag (by omega) ?_;have hct:=IX (base:=a.Base) a2;refine aZ (Ko (by omega)) ?_;refine ai (fun h1 => ?_) (fun h1 => ?_)
   ·refine af ⟨a2,?_,rfl⟩
    dsimp only
    rw [hct,if_pos h1]
   ·refine af ⟨a2,?_,rfl⟩
    dsimp only
    rw [hct,if_neg h1]
  ·have:i=(W t).length:=by omega
   subst this
   rw [List.take_length]
   have hcw:cnt a.Base (W t)≤(W t).length:=EH;have a3:w64 (((hits (O.take k) W a.Base).length:Int) + (cnt a.Base (W t):Int))=(((hits (O.take k) W a.Base).length + cnt a.Base (W t):Nat):Int):=by rw [oD (by omega) (by omega)]; omega
   have bad:¬ (cnt a.Base (W t)=0∨cnt a.Base (W t)=(W t).length)→qm O W a.Base ([],false):=fun hc => .inr ⟨rfl,fun hW=>hc (hW.1 t ht)⟩;have five:(cnt a.Base (W t)=0∨cnt a.Base (W t)=(W t).length)→∀ j:Nat,j < k + 1→cnt a.Base (W (idx O (j:Int)))=0∨cnt a.Base (W (idx O (j:Int)))=(W (idx O (j:Int))).length:=by
    intro hc j hj;rcases Nat.lt_or_ge j k with h4 | h4
    ·exact e5 j h4
    ·have:j=k:=by omega
     subst this
     rw [hg]; exact hc
   rw [hw,a3]
   refine ai (fun h1 => ?_) (fun h1 => ?_)
   ·refine ai (fun h2 => ?_) (fun h2 => ?_)
    ·exact au (au (af (bad (by omega))))
    ·refine ai (fun h3 => ?_) (fun h3=>absurd h1 h3);refine ag (by omega) ?_;refine au (af ⟨a1,?_,?_,rfl,five (by omega)⟩)
     ·dsimp only
      rw [hss,if_pos (by omega)]
     ·dsimp only
      rw [hhs]
   ·rw [cond_false]
    refine ai (fun h3=>absurd h3 h1) (fun h3 => ?_);refine au (af ⟨a1,?_,?_,rfl,five (by omega)⟩)
    ·dsimp only
     rw [hss,if_neg (by omega)]
    ·dsimp only
     rw [hhs]
     omega
 ·have:k=O.length:=by omega
  subst this
  rw [List.take_length]
  have hall:(∀ t ∈ O,cnt a.Base (W t)=0∨cnt a.Base (W t)=(W t).length):=by
   intro t ht;obtain ⟨j,hj,rfl⟩:=oU ht;exact e5 j hj
  have hfull:=MQ hP hO hn;refine ai (fun h1 => ?_) (fun h1 => ?_)
  ·refine au (af (.inr ⟨rfl,fun hW => ?_⟩));have:=hfull.2 hW.2
   omega
  ·exact au (af (.inl ⟨rfl,hall,hfull.1 (by omega)⟩))
theorem EK {h:History} {a:Ask} (hP:Parts O W) (hO:O.Nodup) (hW:∀ t ∈ O,aW h t a.Key=some (W t)) (ho:aX h a=some O) (hb:a.Base.length≤64) (hn:a.Base.Nodup) :
  ∃ r,df a.Base (BC O W)=some r∧bT h a=some r∧qm O W a.Base r:=by
 obtain ⟨r,hr,h1⟩:=NY hP hO hb hn;obtain ⟨s,hs,h2⟩:=QF hP hO hW ho hb hn;obtain rfl:=h1.det h2;exact ⟨r,hr,hs,h1⟩
end
theorem AB {h:History} {key:Int} {k:Nat}:(gq h key k).Nodup:=by
 unfold gq List.Nodup
 rw [List.pairwise_map]
 refine ((List.nodup_range (n:=k)).filter _).imp (fun {a b} hne e=>hne (by omega))
theorem rR {h:History} {a:Ask} {k:Nat}:(jL h a k).Nodup:=AB.filter _
end Go.Proofs.YtfpeabnehpclnaaGreatDoorT
namespace Go.Proofs.YtfpeabnehpclnaaGreatDoorT
open Go Go.Proofs Go.Proofs.YtfpeabnehpclnaaGreatDoorE
set_option linter.unusedVariables false
set_option linter.unusedSimpArgs false
def yz (s:Int) (w:List Int):Int:=w.foldl (fun x v=>w64 (x + v)) s
theorem CL {s:Int} {w:List Int} {k:Nat} (hk:k < w.length):yz s (w.take (k + 1))=w64 (yz s (w.take k) + idx w (k:Int)):=by
 unfold yz
 rw [List.take_succ_eq_append_getElem hk,List.foldl_append,(bS (n:=k) rfl hk:idx w (k:Int)=w[k])]
 rfl
def Win (want:Int):List (List Int)→Int→(Nat→Prop)→Nat→Nat→Prop
 | [],s,p,_,j=>s=want∧p j
 | w::ls,s,p,i,j=>Win want ls s p (i + 1) j∨Win want ls (yz s w) (fun j=>p j∨j=i) (i + 1) j
section
variable {O:List Int} {W:Int→List Int} {want:Int}
theorem CO (hol:O.length≤32) (hwl:∀ t ∈ O,(W t).length≤16):∀ (k i:Nat),i≤O.length→O.length - i < k→∀ (sum tk wi:Int) (p q:Nat→Prop),Wd tk p→Wd wi q →
  Tri (gp k (i:Int) sum tk (BC O W) want wi) (fun r=>Wd r (fun j=>q j∨Win want ((O.drop i).map W) sum p i j))
 | 0,i,_,hk=>by omega
 | k + 1,i,hi,hk=>by
  intro sum tk wi p q hp hq;have hw:w64 ((i:Int) + 1)=((i + 1:Nat):Int):=aQ (by omega);unfold gp jS
  rw [xL,hw]
  refine ai (fun h1 => ?_) (fun h1 => ?_)
  ·have:i=O.length:=by omega
   subst this
   rw [List.drop_length,List.map_nil]
   refine ai (fun h2 => ?_) (fun h2 => ?_)
   ·exact af ((hq.or hp).congr fun j=>by show q j∨p j↔q j∨(sum=want∧p j); simp [h2])
   ·exact af (hq.congr fun j=>by show q j↔q j∨(sum=want∧p j); simp [h2])
  ·have a1:i < O.length:=by omega
   have hd:(O.drop i).map W=W (idx O (i:Int))::(O.drop (i + 1)).map W:=by
    rw [List.drop_eq_getElem_cons a1,List.map_cons,(bS (n:=i) rfl a1:idx O (i:Int)=O[i])]
   have a4:=hwl _ (dJ a1);refine bU (CO hol hwl k (i + 1) (by omega) (by omega) sum tk wi p q hp hq) (fun y hy => ?_);refine ag (by omega) ?_;refine bN (k0:=0) (W (idx O (i:Int))).length (fun m s=>s.1=yz sum ((W (idx O (i:Int))).take m)∧s.2=(m:Int)) (Nat.zero_le _) ⟨by simp [yz],rfl⟩ ?_
   rintro m ⟨s,x⟩ hm ⟨f1,f2⟩
   dsimp only at f1 f2
   subst f1 f2;have a3:w64 ((m:Int) + 1)=((m + 1:Nat):Int):=aQ (by omega);unfold pz
   dsimp only
   rw [Ac a1,a3,hw]
   dsimp only
   refine ai (fun h2 => ?_) (fun h2 => ?_)
   ·have a2:m < (W (idx O (i:Int))).length:=by omega
    refine ag (by omega) (af ⟨a2,?_,rfl⟩)
    dsimp only
    rw [CL a2]
   ·have:m=(W (idx O (i:Int))).length:=by omega
    subst this
    rw [List.take_length]
    refine ag (by unfold far; omega) ?_;refine bU (CO hol hwl k (i + 1) (by omega) (by omega) _ _ y _ _ (hp.or (Wd.bit (n:=i) rfl (by omega))) hy) (fun z hz => ?_);refine au (af (hz.congr fun j => ?_))
    rw [hd]
    show (q j∨Win want _ sum p (i + 1) j)∨_↔q j∨Win want _ sum p (i + 1) j∨_
    exact or_assoc
def picks (O:List Int) (f:Nat→Prop) [DecidablePred f] (k:Nat):List Int:=((List.range k).filter (fun j=>decide (f j))).map (fun j:Nat=>idx O (j:Int))
theorem EL {f:Nat→Prop} [DecidablePred f] {k:Nat}:picks O f (k + 1)=if f k then picks O f k++[idx O (k:Int)] else picks O f k:=by
 unfold picks
 rw [List.range_succ,List.filter_append,List.map_append]
 by_cases h:f k <;> simp [h]
theorem CP {f:Nat→Prop} [DecidablePred f] {k:Nat}:(picks O f k).length≤k:=by
 unfold picks
 rw [List.length_map]
 exact Nat.le_trans (List.length_filter_le _ _) (by simp)
open Classical in
theorem GY (hol:O.length≤32) (hwl:∀ t ∈ O,(W t).length≤16):eT want (BC O W)=some (picks O (Win want (O.map W) 0 (fun _=>False) 0) O.length):=by
 refine eY.1 ?_;unfold eT bE;have:=CO (want:=want) hol hwl 64 0 (Nat.zero_le _) (by omega) 0 0 0 _ _ Wd.zero Wd.zero;refine bU this (fun y hy => ?_)
 rw [List.drop_zero] at hy
 replace hy:Wd y (Win want (O.map W) 0 (fun _=>False) 0):=hy.congr fun j=>by simp
 generalize Win want (O.map W) 0 (fun _=>False) 0=f at hy ⊢;refine bN (k0:=0) O.length (fun k s=>s=(picks O f k,(k:Int))) (Nat.zero_le _) (by simp [picks]) ?_;rintro k s hk rfl;have hw:w64 ((k:Int) + 1)=((k + 1:Nat):Int):=aQ (by omega);have hl:=CP (O:=O) (f:=f) (k:=k);have hs:=EL (O:=O) (f:=f) (k:=k);unfold qZ nG
 dsimp only
 rw [xL,hw]
 refine ai (fun h1 => ?_) (fun h1 => ?_)
 ·have a1:k < O.length:=by omega
  refine ag (by omega) (ag (by unfold far; omega) ?_)
  rw [Ac a1]
  rcases hy.look (i:=(k:Int)) (n:=k) rfl (by omega) with ⟨e,hf⟩ | ⟨e,hf⟩
  ·rw [e]
   refine ai (fun _ => ?_) (fun h=>absurd rfl h);refine ag (by omega) (af ⟨a1,?_⟩)
   dsimp only
   rw [hs,if_pos hf]
  ·rw [e]
   refine ai (fun h=>absurd h (by decide)) (fun _ => ?_);refine af ⟨a1,?_⟩
   dsimp only
   rw [hs,if_neg hf]
 ·have:k=O.length:=by omega
  subst this;exact au (af rfl)
end
end Go.Proofs.YtfpeabnehpclnaaGreatDoorT
namespace Go.Proofs.YtfpeabnehpclnaaGreatDoorT
open Go Go.Proofs Go.Proofs.YtfpeabnehpclnaaGreatDoorE
set_option linter.unusedVariables false
set_option linter.unusedSimpArgs false
theorem wbm (x:Int):w64 x=Int.bmod x 18446744073709551616:=by
 unfold w64 IntKind.wrap
 simp only [IntKind.bits,IntKind.signed,Bool.true_and,Int.bmod_def]
 have h1:(2 ^ 64:Int)=18446744073709551616:=by decide
 have h2:=Int.emod_nonneg x (show (18446744073709551616:Int)≠0 by decide);have h3:=Int.emod_lt_of_pos x (show (0:Int) < 18446744073709551616 by decide)
 simp only [h1]
 by_cases h:x % 18446744073709551616 < 9223372036854775808
 ·rw [if_neg (by simp; omega),if_pos (by simp; omega)]
  rfl
 ·rw [if_pos (by simp; omega),if_neg (by simp; omega)]
  rfl
theorem NZ (x y:Int):w64 (w64 x + y)=w64 (x + y):=by rw [wbm,wbm,wbm,Int.bmod_add_bmod]
theorem RL (x y:Int):w64 (x + w64 y)=w64 (x + y):=by rw [Int.add_comm,NZ,Int.add_comm]
theorem CQ:∀ (w:List Int) (s:Int),yz (w64 s) w=w64 (s + w.sum)
 | [],s=>by simp [yz]
 | v::w,s=>by
  show yz (w64 (w64 s + v)) w=_
  rw [NZ,CQ w,List.sum_cons,Int.add_assoc]
theorem CR (w:List Int):yz 0 w=w64 w.sum:=by
 have h:=CQ w 0
 rw [Int.zero_add] at h
 exact h
theorem Lu {m i:Nat} (hm:m < 2 ^ 62) (hi:i < 62):cz .i64 (ed .i64 (m:Int) (i:Int)) 1=if m.testBit i then 1 else 0:=by
 have h1:ed .i64 (m:Int) (i:Int)=((m >>> i:Nat):Int):=by
  unfold ed
  rw [show IntKind.bits .i64=64 from rfl,Int.toNat_natCast,Nat.min_eq_left (by omega),Nat.shiftRight_eq_div_pow]
  have:(2:Int) ^ i=((2 ^ i:Nat):Int):=(Int.natCast_pow 2 i).symm
  rw [this,Int.fdiv_eq_ediv_of_nonneg _ (Int.natCast_nonneg _)]
  exact (Int.natCast_ediv m (2 ^ i)).symm
 have h2:m >>> i < 2 ^ 62:=Nat.lt_of_le_of_lt (Nat.shiftRight_le _ _) hm;have h3:cz .i64 ((m >>> i:Nat):Int) ((1:Nat):Int)=(((m >>> i) &&& 1:Nat):Int):=by
  unfold cz
  rw [show IntKind.bits .i64=64 from rfl,BitVec.ofInt_natCast,BitVec.ofInt_natCast,BitVec.toNat_and,BitVec.toNat_ofNat,BitVec.toNat_ofNat,Nat.mod_eq_of_lt (by omega),Nat.mod_eq_of_lt (by decide)]
  have h4:(m >>> i) &&& 1≤1:=Nat.and_le_right;exact oD (by omega) (by omega)
 rw [h1,show (1:Int)=((1:Nat):Int) from rfl,h3,Hw]
 cases m.testBit i <;> rfl
theorem QG {n:Nat} (hn:n≤32):jH .i64 1 (n:Int)=((2 ^ n:Nat):Int):=by
 unfold jH
 rw [show IntKind.bits .i64=64 from rfl,Int.toNat_natCast,Nat.min_eq_left (by omega)]
 have h1:(1:Int) * 2 ^ n=((2 ^ n:Nat):Int):=by rw [Int.one_mul]; exact (Int.natCast_pow 2 n).symm
 rw [h1]
 have h2:2 ^ n≤2 ^ 32:=Nat.pow_le_pow_right (by decide) hn;generalize 2 ^ n=q at h2;exact oD (by omega) (by omega)
section
variable {O:List Int} {W:Int→List Int} {want:Int}
def rT (O:List Int) (W:Int→List Int) (f:Nat→Bool):Nat→Int
 | 0=>0
 | k + 1=>if f k then w64 (rT O W f k + yz 0 (W (idx O (k:Int)))) else rT O W f k
theorem xM {f:Nat→Bool} {k:Nat}:rT O W f (k + 1)=if f k then w64 (rT O W f k + yz 0 (W (idx O (k:Int)))) else rT O W f k:=rfl
theorem Oa {f:Nat→Bool}:∀ k,w64 (rT O W f k)=rT O W f k
 | 0=>rfl
 | k + 1=>by
  unfold rT
  split
  ·have h:=NZ (rT O W f k + yz 0 (W (idx O (k:Int)))) 0
   rw [Int.add_zero,Int.add_zero] at h
   exact h
  ·exact Oa k
theorem yA {f g:Nat→Bool}:∀ k,(∀ a,a < k→f a=g a)→rT O W f k=rT O W g k
 | 0,_=>rfl
 | k + 1,h=>by
  unfold rT
  rw [h k (by omega),yA k (fun a ha=>h a (by omega))]
theorem Ed (f:Nat→Bool):∀ (d i j:Nat) (f:Nat→Bool) (p:Nat→Prop),i + d=O.length→(∀ a,p a↔a < i∧f a=true) →
  (Win want ((O.drop i).map W) (rT O W f i) p i j↔∃ g:Nat→Bool,(∀ a,a < i→g a=f a)∧rT O W g O.length=want∧j < O.length∧g j=true)
 | 0,i,j,f,p,e,hp=>by
  have:i=O.length:=by omega
  subst this
  rw [List.drop_length,List.map_nil]
  show (rT O W f O.length=want∧p j)↔_
  rw [hp j]
  constructor
  ·rintro ⟨h1,h2,h3⟩; exact ⟨f,fun a _=>rfl,h1,h2,h3⟩
  ·rintro ⟨g,h1,h2,h3,h4⟩
   rw [yA O.length h1] at h2
   exact ⟨h2,h3,(h1 j h3) ▸ h4⟩
 | d + 1,i,j,f,p,e,hp=>by
  have hi:i < O.length:=by omega
  have hd:(O.drop i).map W=W (idx O (i:Int))::(O.drop (i + 1)).map W:=by
   rw [List.drop_eq_getElem_cons hi,List.map_cons,(bS (n:=i) rfl hi:idx O (i:Int)=O[i])]
  rw [hd]
  show Win want _ (rT O W f i) p (i + 1) j∨Win want _ (yz (rT O W f i) (W (idx O (i:Int)))) (fun j=>p j∨j=i) (i + 1) j↔_
  have hag:∀ b:Bool,rT O W (fun a=>if a=i then b else f a) i=rT O W f i:=fun b=>yA i (fun a ha=>if_neg (by omega));have e0:rT O W (fun a=>if a=i then false else f a) (i + 1)=rT O W f i:=by
   rw [xM,hag]
   simp
  have e1:rT O W (fun a=>if a=i then true else f a) (i + 1)=yz (rT O W f i) (W (idx O (i:Int))):=by
   rw [xM,hag,if_pos (if_pos rfl),← Oa i,CQ,CR,RL,NZ]
  have i0:=Ed f d (i + 1) j (fun a=>if a=i then false else f a) p (by omega) (fun a=>by
   rw [hp a]
   by_cases h:a=i
   ·subst h; simp
   ·simp only [if_neg h]
    constructor
    ·rintro ⟨h1,h2⟩; exact ⟨by omega,h2⟩
    ·rintro ⟨h1,h2⟩; exact ⟨by omega,h2⟩)
  have i1:=Ed f d (i + 1) j (fun a=>if a=i then true else f a) (fun j=>p j∨j=i) (by omega) (fun a=>by
   rw [hp a]
   by_cases h:a=i
   ·subst h; simp
   ·simp only [if_neg h,or_iff_left h]
    constructor
    ·rintro ⟨h1,h2⟩; exact ⟨by omega,h2⟩
    ·rintro ⟨h1,h2⟩; exact ⟨by omega,h2⟩)
  rw [e0] at i0
  rw [e1] at i1
  rw [i0,i1]
  constructor
  ·rintro (⟨g,h1,h2⟩ | ⟨g,h1,h2⟩)
   ·exact ⟨g,fun a ha=>by rw [h1 a (by omega),if_neg (by omega)],h2⟩
   ·exact ⟨g,fun a ha=>by rw [h1 a (by omega),if_neg (by omega)],h2⟩
  ·rintro ⟨g,h1,h2⟩;cases hgi:g i
   ·refine .inl ⟨g,fun a ha => ?_,h2⟩
    by_cases h:a=i
    ·subst h; rw [if_pos rfl,hgi]
    ·rw [if_neg h,h1 a (by omega)]
   ·refine .inr ⟨g,fun a ha => ?_,h2⟩
    by_cases h:a=i
    ·subst h; rw [if_pos rfl,hgi]
    ·rw [if_neg h,h1 a (by omega)]
theorem Lv (g:Nat→Bool):∀ n:Nat,∃ m:Nat,m < 2 ^ n∧∀ a,a < n→m.testBit a=g a
 | 0=>⟨0,by decide,fun a h=>absurd h (Nat.not_lt_zero _)⟩
 | n + 1=>by
  obtain ⟨m,h1,h2⟩:=Lv g n;have hp:2 ^ (n + 1)=2 ^ n + 2 ^ n:=by rw [Nat.pow_succ]; omega
  cases hg:g n
  ·refine ⟨m,by omega,fun a ha => ?_⟩
   by_cases h:a=n
   ·subst h; rw [hg]; exact Nat.testBit_lt_two_pow h1
   ·exact h2 a (by omega)
  ·refine ⟨2 ^ n + m,by omega,fun a ha => ?_⟩
   by_cases h:a=n
   ·subst h
    rw [Nat.testBit_two_pow_add_eq,hg,Nat.testBit_lt_two_pow h1]
    rfl
   ·rw [Nat.testBit_two_pow_add_gt (by omega)]
    exact h2 a (by omega)
def Msk (O:List Int) (W:Int→List Int) (want:Int) (m j:Nat):Prop:=rT O W m.testBit O.length=want∧m.testBit j=true
theorem Ob {j:Nat} (hj:j < O.length):Win want (O.map W) 0 (fun _=>False) 0 j↔∃ m:Nat,1≤m∧m < 2 ^ O.length∧Msk O W want m j:=by
 have h:=Ed (O:=O) (W:=W) (want:=want) (fun _=>false) O.length 0 j (fun _=>false) (fun _=>False) (by omega) (fun a=>by simp)
 rw [List.drop_zero] at h
 refine Iff.trans h ?_
 constructor
 ·rintro ⟨g,_,h2,h3,h4⟩;obtain ⟨m,m1,m2⟩:=Lv g O.length;refine ⟨m,?_,m1,?_,?_⟩
  ·apply Nat.lt_of_not_le
   intro h0;have:m=0:=by omega
   subst this
   rw [← m2 j hj,Nat.zero_testBit] at h4
   cases h4
  ·rw [yA O.length m2]; exact h2
  ·rw [m2 j hj]; exact h4
 ·rintro ⟨m,_,m1,m2,m3⟩;exact ⟨m.testBit,fun a ha=>absurd ha (Nat.not_lt_zero _),m2,hj,m3⟩
end
end Go.Proofs.YtfpeabnehpclnaaGreatDoorT
namespace Go.Proofs.YtfpeabnehpclnaaGreatDoorT
open Go Go.Proofs Go.Proofs.YtfpeabnehpclnaaGreatDoorE
set_option linter.unusedVariables false
set_option linter.unusedSimpArgs false
theorem Oc {h:History} {t key:Int} {w:List Int} (hW:aW h t key=some w) (hl:w.length≤16):kI h t key=some (yz 0 w):=by
 refine eY.1 ?_;unfold kI;refine aZ hW ?_;refine bN (k0:=0) w.length (fun m s=>s.1=yz 0 (w.take m)∧s.2=(m:Int)) (Nat.zero_le _) ⟨by simp [yz],rfl⟩ ?_
 rintro m ⟨s,x⟩ hm ⟨f1,f2⟩
 dsimp only at f1 f2
 subst f1 f2;have a2:w64 ((m:Int) + 1)=((m + 1:Nat):Int):=aQ (by omega);unfold vE
 dsimp only
 rw [a2]
 refine ai (fun h2 => ?_) (fun h2 => ?_)
 ·have a1:m < w.length:=by omega
  refine ag (by omega) (af ⟨a1,?_,rfl⟩)
  dsimp only
  rw [CL a1]
 ·have:m=w.length:=by omega
  subst this;exact au (af (by rw [List.take_length]; rfl))
section
variable {O:List Int} {W:Int→List Int}
open Classical in
theorem IY (hol:O.length≤32) (hwl:∀ t ∈ O,(W t).length≤16) {h:History} {a:Ask} (hW:∀ t ∈ O,aW h t a.Key=some (W t)) (ho:aX h a=some O) (hb:0 < a.Base.length) :
  aR h a=some (picks O (Win (idx a.Base 0) (O.map W) 0 (fun _=>False) 0) O.length):=by
 refine eY.1 ?_;have a5:2 ^ O.length≤2 ^ 32:=Nat.pow_le_pow_right (by decide) hol;have a4:0 < 2 ^ O.length:=Nat.two_pow_pos _;unfold aR;refine aZ ho ?_;refine ag (by omega) ?_;have hfin:∀ j,j < O.length→(Win (idx a.Base 0) (O.map W) 0 (fun _=>False) 0 j↔∃ m:Nat,1≤m∧m < 2 ^ O.length∧Msk O W (idx a.Base 0) m j):=fun j hj=>Ob hj;generalize Win (idx a.Base 0) (O.map W) 0 (fun _=>False) 0=f at hfin ⊢;have hshl:=QG hol;generalize 2 ^ O.length=N at a5 a4 hfin hshl;refine bN (k0:=1) N (fun m s=>s.1.length=O.length∧s.2=(m:Int)∧∀ j,j < O.length→(idx s.1 (j:Int)=true↔∃ m':Nat,1≤m'∧m' < m∧Msk O W (idx a.Base 0) m' j)) a4 ⟨by simp,rfl,fun j hj => ?_⟩ ?_
 ·dsimp only
  rw [Int.toNat_natCast,bS (n:=j) rfl (by simpa using hj)]
  simp
  intro m' h1 h2
  omega
 rintro m ⟨ok,x⟩ hm ⟨e1,e2,e3⟩
 dsimp only at e1 e2 e3
 subst e2;unfold sF
 dsimp only
 rw [hshl]
 refine ag (by unfold far; omega) ?_;refine ai (fun h1 => ?_) (fun h1 => ?_)
 ·have a6:m < N:=by omega
  have hwm:w64 ((m:Int) + 1)=((m + 1:Nat):Int):=aQ (by omega);refine bN (k0:=0) O.length (fun i s=>s.1=rT O W m.testBit i∧s.2=(i:Int)) (Nat.zero_le _) ⟨rfl,rfl⟩ ?_;rintro i ⟨s,x⟩ hi ⟨f1,f2⟩
  dsimp only at f1 f2
  subst f1 f2;have hwi:w64 ((i:Int) + 1)=((i + 1:Nat):Int):=aQ (by omega);unfold sw ny
  dsimp only
  rw [hwi]
  refine ai (fun h2 => ?_) (fun h2 => ?_)
  ·have a1:i < O.length:=by omega
   refine ag (by unfold far; omega) ?_
   rw [Lu (by omega) (by omega)]
   cases hbit:m.testBit i
   ·refine ai (fun h3=>absurd h3 (by simp)) (fun _ => ?_);refine af ⟨a1,?_,rfl⟩
    dsimp only
    rw [xM,hbit]
    rfl
   ·refine ai (fun _ => ?_) (fun h3=>absurd (by simp) h3);refine ag (by omega) ?_;refine aZ (Oc (hW _ (dJ a1)) (hwl _ (dJ a1))) (af ⟨a1,?_,rfl⟩)
    dsimp only
    rw [xM,hbit]
    rfl
  ·have:i=O.length:=by omega
   subst this;have fin:∀ l:List Bool,l.length=O.length→(∀ j,j < O.length→(idx l (j:Int)=true↔idx ok (j:Int)=true∨Msk O W (idx a.Base 0) m j)) →
     Upm N m (fun m s=>s.1.length=O.length∧s.2=(m:Int)∧∀ j,j < O.length→(idx s.1 (j:Int)=true↔∃ m':Nat,1≤m'∧m' < m∧Msk O W (idx a.Base 0) m' j)) (fun b=>b=picks O f O.length) (.inl (l,((m + 1:Nat):Int))):=by
    intro l hl hj;refine ⟨a6,hl,rfl,fun j a3 => ?_⟩
    dsimp only
    rw [hj j a3,e3 j a3]
    constructor
    ·rintro (⟨m',h1,h2,h3⟩ | h3)
     ·exact ⟨m',h1,by omega,h3⟩
     ·refine ⟨m,?_,by omega,h3⟩
      apply Nat.lt_of_not_le
      intro h0;have:m=0:=by omega
      subst this;have:=h3.2
      rw [Nat.zero_testBit] at this
      cases this
    ·rintro ⟨m',h1,h2,h3⟩;rcases Nat.lt_or_ge m' m with h4 | h4
     ·exact .inl ⟨m',h1,h4,h3⟩
     ·have:m'=m:=by omega
      subst this;exact .inr h3
   refine bN (k0:=0) O.length (fun i s=>s.1.length=O.length∧s.2=(i:Int)∧∀ j,j < O.length→(idx s.1 (j:Int)=true↔idx ok (j:Int)=true∨(rT O W m.testBit O.length=idx a.Base 0∧j < i∧m.testBit j=true))) (Nat.zero_le _)
    ⟨e1,rfl,fun j hj=>⟨fun h => .inl h,fun h=>h.elim id (fun h=>absurd h.2.1 (Nat.not_lt_zero _))⟩⟩ ?_
   rintro i ⟨l,x⟩ hi ⟨f1,f2,f3⟩
   dsimp only at f1 f2 f3
   subst f2;have hwi:w64 ((i:Int) + 1)=((i + 1:Nat):Int):=aQ (by omega);unfold su nA nz
   dsimp only
   rw [hwi,hwm]
   refine ai (fun h3 => ?_) (fun h3 => ?_)
   ·have a1:i < O.length:=by omega
    refine ag (by omega) ?_;refine ai (fun h4 => ?_) (fun h4 => ?_)
    ·refine ag (by omega) ?_
     rw [Int.toNat_natCast,Lu (by omega) (by omega)]
     have step:∀ v:Bool,(v=true↔idx l (i:Int)=true∨m.testBit i=true)→∀ j,j < O.length→(idx (l.set i v) (j:Int)=true↔idx ok (j:Int)=true∨(rT O W m.testBit O.length=idx a.Base 0∧j < i + 1∧m.testBit j=true)):=by
      intro v hv j hj
      rw [uk (by omega)]
      by_cases e:j=i
      ·subst e
       rw [if_pos rfl,hv,f3 j hj]
       constructor
       ·rintro ((h | ⟨_,h,_⟩) | h)
        ·exact .inl h
        ·omega
        ·exact .inr ⟨h4,by omega,h⟩
       ·rintro (h | ⟨_,_,h⟩)
        ·exact .inl (.inl h)
        ·exact .inr h
      ·rw [if_neg e,f3 j hj]
       constructor
       ·rintro (h | ⟨h,h',h''⟩)
        ·exact .inl h
        ·exact .inr ⟨h,by omega,h''⟩
       ·rintro (h | ⟨h,h',h''⟩)
        ·exact .inl h
        ·exact .inr ⟨h,by omega,h''⟩
     cases hli:idx l (i:Int)
     ·rw [cond_false]
      refine ag (by unfold far; omega) (af ⟨a1,by simp [f1],rfl,step _ ?_⟩)
      rw [hli]
      cases m.testBit i <;> simp
     ·rw [cond_true]
      refine af ⟨a1,by simp [f1],rfl,step _ ?_⟩
      rw [hli]
      simp
    ·refine au (au (af (fin l f1 fun j hj => ?_)))
     rw [f3 j hj]
     unfold Msk;exact or_congr Iff.rfl ⟨fun h=>absurd h.1 h4,fun h=>absurd h.1 h4⟩
   ·have:i=O.length:=by omega
    subst this
    rw [cond_false]
    refine au (au (af (fin l f1 fun j hj => ?_)))
    rw [f3 j hj]
    unfold Msk;exact or_congr Iff.rfl ⟨fun h=>⟨h.1,h.2.2⟩,fun h=>⟨h.1,hj,h.2⟩⟩
 ·have hmN:m=N:=by omega
  subst hmN;have e4:∀ j,j < O.length→(idx ok (j:Int)=true↔f j):=fun j hj=>(e3 j hj).trans (hfin j hj).symm;refine bN (k0:=0) O.length (fun k s=>s=(picks O f k,(k:Int))) (Nat.zero_le _) (by simp [picks]) ?_;rintro k s hk rfl;have hw:w64 ((k:Int) + 1)=((k + 1:Nat):Int):=aQ (by omega);have hl:=CP (O:=O) (f:=f) (k:=k);have hs:=EL (O:=O) (f:=f) (k:=k);unfold sD nC
  dsimp only
  rw [hw]
  refine ai (fun h1 => ?_) (fun h1 => ?_)
  ·have a2:k < O.length:=by omega
   refine ag (by omega) ?_;cases hok:idx ok (k:Int)
   ·rw [cond_false]
    refine af ⟨a2,?_⟩
    dsimp only
    rw [hs,if_neg (fun hf=>by rw [(e4 k a2).2 hf] at hok; cases hok)]
   ·rw [cond_true]
    refine ag (by omega) (ag (by omega) (af ⟨a2,?_⟩))
    dsimp only
    rw [hs,if_pos ((e4 k a2).1 hok)]
  ·have:k=O.length:=by omega
   subst this;exact au (au (af rfl))
end
end Go.Proofs.YtfpeabnehpclnaaGreatDoorT
namespace Go.Proofs.YtfpeabnehpclnaaGreatDoorT
open Go Go.Proofs Go.Proofs.YtfpeabnehpclnaaGreatDoorE
set_option linter.unusedVariables false
set_option linter.unusedSimpArgs false
def wS (w:List Int):Int:=idx w ((w.length - 1:Nat):Int)
section
variable {O:List Int} {W:Int→List Int}
def lasts (O:List Int) (W:Int→List Int) (v:Int):List Int:=O.filter (fun t=>decide (wS (W t)=v))
theorem EM {v:Int} {k:Nat} (hk:k < O.length):lasts (O.take (k + 1)) W v=if wS (W (idx O (k:Int)))=v then lasts (O.take k) W v++[idx O (k:Int)] else lasts (O.take k) W v:=by
 unfold lasts
 rw [List.take_succ_eq_append_getElem hk,List.filter_append,(bS (n:=k) rfl hk:idx O (k:Int)=O[k])]
 by_cases h:wS (W O[k])=v <;> simp [h]
theorem Gm {v:Int} {k:Nat}:(lasts (O.take k) W v).length≤O.length:=Nat.le_trans (List.length_filter_le _ _) (by rw [List.length_take]; omega)
theorem Od (hol:O.length≤32) (hne:∀ t ∈ O,0 < (W t).length) (hwl:∀ t ∈ O,(W t).length≤16) {a:Ask} (hb:0 < a.Base.length) :
  iter (nJ a (BC O W)) ([],0)=some (lasts O W (idx a.Base 0)):=by
 refine eY.1 ?_;refine bN (k0:=0) O.length (fun k s=>s.1=lasts (O.take k) W (idx a.Base 0)∧s.2=(k:Int)) (Nat.zero_le _) ⟨by simp [lasts],rfl⟩ ?_
 rintro k ⟨l,x⟩ hk ⟨e1,e2⟩
 dsimp only at e1 e2
 subst e1 e2;have hw:w64 ((k:Int) + 1)=((k + 1:Nat):Int):=aQ (by omega);have hl:=Gm (O:=O) (W:=W) (v:=idx a.Base 0) (k:=k);unfold nJ nI fK
 dsimp only
 rw [xL,hw]
 refine ai (fun h1 => ?_) (fun h1 => ?_)
 ·have a1:k < O.length:=by omega
  have h0:=hne _ (dJ a1);have a2:=hwl _ (dJ a1);have hs:=EM (W:=W) (v:=idx a.Base 0) a1
  rw [Ac a1]
  dsimp only
  have hp:w64 (((W (idx O (k:Int))).length:Int) - 1)=(((W (idx O (k:Int))).length - 1:Nat):Int):=mP (by omega) (by omega)
  rw [hp]
  refine ag (by omega) (ag (by omega) (ag (by omega) ?_));refine ai (fun h2 => ?_) (fun h2 => ?_)
  ·refine ag (by omega) (af ⟨a1,?_,rfl⟩)
   dsimp only
   rw [hs,if_pos (show wS _=_ from h2)]
  ·refine af ⟨a1,?_,rfl⟩
   dsimp only
   rw [hs,if_neg (show ¬ wS _=_ from h2)]
 ·have:k=O.length:=by omega
  subst this;exact au (af (by rw [List.take_length]; rfl))
theorem QH (hol:O.length≤32) (hne:∀ t ∈ O,0 < (W t).length) (hwl:∀ t ∈ O,(W t).length≤16) {h:History} {a:Ask} (hW:∀ t ∈ O,aW h t a.Key=some (W t)) (hb:0 < a.Base.length) :
  iter (rH h a O) ([],0)=some (lasts O W (idx a.Base 0)):=by
 refine eY.1 ?_;refine bN (k0:=0) O.length (fun k s=>s.1=lasts (O.take k) W (idx a.Base 0)∧s.2=(k:Int)) (Nat.zero_le _) ⟨by simp [lasts],rfl⟩ ?_
 rintro k ⟨l,x⟩ hk ⟨e1,e2⟩
 dsimp only at e1 e2
 subst e1 e2;have hw:w64 ((k:Int) + 1)=((k + 1:Nat):Int):=aQ (by omega);have hl:=Gm (O:=O) (W:=W) (v:=idx a.Base 0) (k:=k);unfold rH rG jh
 dsimp only
 rw [hw]
 refine ai (fun h1 => ?_) (fun h1 => ?_)
 ·have a1:k < O.length:=by omega
  have h0:=hne _ (dJ a1);have a2:=hwl _ (dJ a1);have hs:=EM (W:=W) (v:=idx a.Base 0) a1;refine ag (by omega) (aZ (hW _ (dJ a1)) ?_);have hp:w64 (((W (idx O (k:Int))).length:Int) - 1)=(((W (idx O (k:Int))).length - 1:Nat):Int):=mP (by omega) (by omega)
  rw [hp]
  refine ag (by omega) (ag (by omega) ?_);refine ai (fun h2 => ?_) (fun h2 => ?_)
  ·refine ag (by omega) (af ⟨a1,?_,rfl⟩)
   dsimp only
   rw [hs,if_pos (show wS _=_ from h2)]
  ·refine af ⟨a1,?_,rfl⟩
   dsimp only
   rw [hs,if_neg (show ¬ wS _=_ from h2)]
 ·have:k=O.length:=by omega
  subst this;exact au (af (by rw [List.take_length]; rfl))
end
abbrev oth (h:History) (a:Ask):List Int:=jL h a h.Txns.length
abbrev wro (h:History) (a:Ask):Int→List Int:=fun t=>eH h t a.Key
open Classical in
def xN (h:History) (a:Ask) (ty:Int) (s:List Int):Prop :=
 if ty=4 then s=(if idx a.Base 0=0 then [-1] else [])++picks (oth h a) (Win (idx a.Base 0) ((oth h a).map (wro h a)) 0 (fun _=>False) 0) (oth h a).length
 else if a.Base.length=0 then s=[-1]
 else if ty=1 then s=lasts (oth h a) (wro h a) (idx a.Base 0)
 else if ty=2 then ∃ r,zA (oth h a) (wro h a) a.Base r∧s=if r.2=true then [wS r.1] else []
 else ∃ r,qm (oth h a) (wro h a) a.Base r∧s=r.1
theorem yB {h:History} (hS:dB h) (hc:az h=some 0) {a:Ask} {t p:Nat} (ha:BB h a t p) :
  ∃ s,bf h a=some s∧cO h a=some s∧xN h a (typ (opAt h (t:Int) (p:Int)).Kind) s:=by
 have a8:=hS.len;obtain ⟨k1,k8⟩:=Aa hS ha.tl ha.pl;have hT:eO h a.Key=some (typ (opAt h (t:Int) (p:Int)).Kind):=Ab hS hc ha.tl ha.pl ha.e3.symm;have hK:=Gd hS ha.tl ha.pl ha.e1 ha.e2;have hF:bY h a=some (BC (oth h a) (wro h a)):=zy hS hc;have hO:aX h a=some (oth h a):=zw hS;have hol:(oth h a).length≤32:=Nat.le_trans uR a8;have hmem:∀ u ∈ oth h a,∃ n:Nat,u=(n:Int)∧n < h.Txns.length∧0 < (wro h a u).length:=fun u hu=>by
  obtain ⟨⟨h0,h1,_,h3⟩,_⟩:=jM.1 hu;exact ⟨u.toNat,by omega,by omega,h3⟩
 have hwl:∀ u ∈ oth h a,(wro h a u).length≤16:=fun u hu=>by
  obtain ⟨n,rfl,hn,_⟩:=hmem u hu;exact Nat.le_trans zt (hS.txn n hn).ops.1
 have hne:∀ u ∈ oth h a,0 < (wro h a u).length:=fun u hu=>by obtain ⟨n,_,_,h3⟩:=hmem u hu; exact h3
 have hW:∀ u ∈ oth h a,aW h u a.Key=some (wro h a u):=fun u hu=>by
  obtain ⟨n,rfl,hn,_⟩:=hmem u hu;exact yu ⟨by omega,by omega⟩ (hS.txn n hn).ops.1
 have hP:=fun a7=>zz (a:=a) hS ha a7;have a4:=ha.b64;have a5:=ha.b4;have a6:=ha.b3;have hty:typ (opAt h (t:Int) (p:Int)).Kind=1∨typ (opAt h (t:Int) (p:Int)).Kind=2∨typ (opAt h (t:Int) (p:Int)).Kind=3∨typ (opAt h (t:Int) (p:Int)).Kind=4:=by unfold typ; omega
 generalize typ (opAt h (t:Int) (p:Int)).Kind=ty at hT hK a5 a6 hty hP;have bz:0 < a.Base.length→((a.Base.length:Int) == 0)=false:=fun h=>by rw [beq_eq_false_iff_ne]; omega
 have b0:a.Base.length=0→((a.Base.length:Int) == 0)=true:=fun h=>by rw [beq_iff_eq]; omega
 unfold bf cO gL
 simp only [hT,hK,hF,hO,Option.bind_some]
 by_cases h0:a.Base.length=0∧ty≠4
 ·obtain ⟨h0,h4⟩:=h0;refine ⟨[-1],?_,?_,?_⟩
  ·rw [b0 h0,beq_eq_false_iff_ne.2 h4]; rfl
  ·rw [b0 h0,beq_eq_false_iff_ne.2 h4]; rfl
  ·unfold xN; rw [if_neg h4,if_pos h0]
 ·rcases hty with rfl | rfl | rfl | rfl
  ·have hb:0 < a.Base.length:=by omega
   rw [bz hb]
   refine ⟨lasts (oth h a) (wro h a) (idx a.Base 0),Od (W:=wro h a) hol hne hwl (a:=a) hb,QH (W:=wro h a) hol hne hwl hW hb,?_⟩;unfold xN
   rw [if_neg (by decide),if_neg (by omega),if_pos rfl]
  ·have hb:0 < a.Base.length:=by omega
   rw [bz hb]
   obtain ⟨⟨l,b⟩,a2,a3,a1⟩:=CJ (hP (.inl rfl)) hW hO a4;have hsrc:xN h a 2 (if b=true then [wS l] else []):=by
    unfold xN
    rw [if_neg (by decide),if_neg (by omega),if_neg (by decide),if_pos rfl]
    exact ⟨_,a1,rfl⟩
   refine ⟨_,?_,?_,hsrc⟩
   ·rw [a2]
    refine eY.1 ?_
    show Tri (bif b then _ else _) _
    cases b
    ·exact af rfl
    ·have hl:0 < l.length∧l.length≤32:=by
      rcases a1 with ⟨_,h1,h2,h3⟩ | ⟨h1,_⟩
      ·refine ⟨?_,Nat.le_trans (ql h2 h1) hol⟩
       apply Nat.lt_of_not_le
       intro hle;have:l=[]:=List.length_eq_zero_iff.1 (by omega);subst this
       rw [h3] at hb
       simp at hb
      ·cases h1
     have hp:w64 ((l.length:Int) - 1)=((l.length - 1:Nat):Int):=mP (by omega) (by omega)
     dsimp only
     rw [hp]
     refine ag (by omega) (af ?_)
     rw [CF]
     show l.drop (l.length - 1)=[wS l]
     rw [List.drop_eq_getElem_cons (by omega),List.drop_eq_nil_of_le (by omega)]
     unfold wS
     rw [bS (n:=l.length - 1) rfl (by omega)]
   ·rw [a3]
    refine eY.1 ?_
    show Tri (bif b then _ else _) _
    cases b
    ·exact af rfl
    ·have hl:0 < l.length∧l.length≤32:=by
      rcases a1 with ⟨_,h1,h2,h3⟩ | ⟨h1,_⟩
      ·refine ⟨?_,Nat.le_trans (ql h2 h1) hol⟩
       apply Nat.lt_of_not_le
       intro hle;have:l=[]:=List.length_eq_zero_iff.1 (by omega);subst this
       rw [h3] at hb
       simp at hb
      ·cases h1
     have hp:w64 ((l.length:Int) - 1)=((l.length - 1:Nat):Int):=mP (by omega) (by omega)
     dsimp only
     rw [hp]
     exact ag (by omega) (ag (by omega) (af rfl))
  ·have hb:0 < a.Base.length:=by omega
   rw [bz hb]
   obtain ⟨⟨l,b⟩,a2,a3,a1⟩:=EK (hP (.inr rfl)) rR hW hO a4 (a6 rfl);have hsrc:xN h a 3 l:=by
    unfold xN
    rw [if_neg (by decide),if_neg (by omega),if_neg (by decide),if_neg (by decide)]
    exact ⟨_,a1,rfl⟩
   refine ⟨_,?_,?_,hsrc⟩
   ·rw [a2]; rfl
   ·rw [a3]
    refine eY.1 ?_
    show Tri (bif b then _ else _) _
    cases b
    ·refine af ?_;rcases a1 with ⟨h1,_⟩ | ⟨h1,_⟩
     ·cases h1
     ·cases h1; rfl
    ·exact af rfl
  ·classical
   have hb:0 < a.Base.length:=by have:=a5 rfl; omega
   have hcc:=GY (W:=wro h a) (want:=idx a.Base 0) hol hwl;have hcr:=IY (W:=wro h a) hol hwl hW hO hb;generalize hpk:picks (oth h a) (Win (idx a.Base 0) ((oth h a).map (wro h a)) 0 (fun _=>False) 0) (oth h a).length=pk at hcc hcr;have hpl:pk.length≤32:=by rw [← hpk]; exact Nat.le_trans CP hol
   have hsrc:xN h a 4 ((if idx a.Base 0=0 then [-1] else [])++pk):=by
    unfold xN
    rw [if_pos rfl,← hpk]
   refine ⟨_,?_,?_,hsrc⟩
   ·refine eY.1 ?_;unfold nH fK
    simp only [hF,hcc,Option.bind_some]
    refine ag (by omega) ?_;refine ai (fun h1 => ?_) (fun h1 => ?_)
    ·refine ag (by omega) (ag (by omega) (ag ?_ (af ?_)))
     ·simp only [List.length_append,List.length_singleton,List.length_nil]; omega
     ·rw [if_pos h1]; rfl
    ·refine ag (by omega) (ag ?_ (af ?_))
     ·simp only [List.length_nil]; omega
     ·rw [if_neg h1]
   ·refine eY.1 ?_;unfold rF
    simp only [hcr,Option.bind_some]
    refine ag (by omega) ?_;refine ai (fun h1 => ?_) (fun h1 => ?_)
    ·refine ag (by omega) (af ?_)
     rw [if_pos h1]
    ·refine af ?_
     rw [if_neg h1]; rfl
end Go.Proofs.YtfpeabnehpclnaaGreatDoorT
namespace Go.Proofs.YtfpeabnehpclnaaGreatDoorT
open Go Go.Proofs Go.Proofs.YtfpeabnehpclnaaGreatDoorE
set_option linter.unusedVariables false
set_option linter.unusedSimpArgs false
noncomputable def oz (h:History) (a:Ask):List Int:=(bf h a).getD []
theorem MR {h:History} (hS:dB h) (hc:az h=some 0) {a:Ask} (ha:a ∈ aU h h.Txns.length):bf h a=some (oz h a)∧cO h a=some (oz h a):=by
 obtain ⟨t,p,hk⟩:=yx hS ha;obtain ⟨s,h1,h2,_⟩:=yB hS hc hk;unfold oz
 rw [h1,h2]
 exact ⟨rfl,rfl⟩
def isEmpty (h:History) (a:Ask):Prop:=oz h a=[]
theorem uh {l:List Ask} {j:Nat} (hj:j < l.length):idx l (j:Int) ∈ l:=by rw [bS (n:=j) rfl hj]; exact List.getElem_mem _
section
variable {h:History}
end
end Go.Proofs.YtfpeabnehpclnaaGreatDoorT
namespace Go.Proofs.YtfpeabnehpclnaaGreatDoorT
open Go Go.Proofs Go.Proofs.YtfpeabnehpclnaaGreatDoorE
set_option linter.unusedVariables false
set_option linter.unusedSimpArgs false
theorem IZ {b a:Ask} (ha:a.Base.length < 2 ^ 60):Tri (nW b a) (fun r=>r=true↔a=b):=by
 unfold nW
 rw [yn (by omega)]
 obtain ⟨a1,a2,a3,a4⟩:=a;obtain ⟨b1,b2,b3,b4⟩:=b
 dsimp only
 refine ai (fun e1 => ?_) (fun e1=>af ?_)
 ·refine ai (fun e2 => ?_) (fun e2=>af ?_)
  ·refine ai (fun e3=>af ?_) (fun e3=>af ?_)
   ·simp [e1,e2,e3]
   ·simp [e3]
  ·simp [e2]
 ·simp [e1]
theorem FQ {l:List Ask} {a:Ask} (ha:a.Base.length < 2 ^ 60) (hl:l.length < 2 ^ 60):Tri (dQ l a) (fun r=>r=true↔a ∈ l):=by
 have h1:Tri (bL l a) (fun r=>0≤r↔a ∈ l):=by
  unfold bL;refine bN (k0:=0) l.length (fun k s=>s=(k:Int)∧∀ j:Nat,j < k→a≠idx l (j:Int)) (Nat.zero_le _) ⟨rfl,fun j h=>absurd h (Nat.not_lt_zero _)⟩ ?_;rintro k s hk ⟨rfl,hno⟩;have hw:w64 ((k:Int) + 1)=((k + 1:Nat):Int):=aQ (by omega);unfold fQ
  dsimp only
  rw [hw]
  refine ai (fun h1 => ?_) (fun h1 => ?_)
  ·have a1:k < l.length:=by omega
   refine ag (by omega) (bU (IZ ha) (fun r hr => ?_));refine ai (fun h2 => ?_) (fun h2 => ?_)
   ·refine au (af ⟨fun _ => ?_,fun _=>by omega⟩)
    rw [hr.1 h2]
    exact uh a1
   ·refine af ⟨a1,rfl,fun j hj => ?_⟩;rcases Nat.lt_or_ge j k with h3 | h3
    ·exact hno j h3
    ·have:j=k:=by omega
     subst this;exact fun e=>h2 (hr.2 e)
  ·have:k=l.length:=by omega
   subst this;refine au (af ⟨fun h=>absurd h (by decide),fun h => ?_⟩);obtain ⟨j,hj,e⟩:=List.getElem_of_mem h;exact absurd (e.symm.trans (bS rfl hj).symm) (hno j hj)
 unfold dQ;refine bU h1 (fun r hr=>af ?_)
 rw [decide_eq_true_iff]
 exact hr
theorem EN {h:History} (hs:qE h) (hS:dB h) (hc:az h=some 0) {a:Ask} (ha:a.Base.length < 2 ^ 60) :
  Tri (oJ h a) (fun r=>(r=0∧a ∈ aU h h.Txns.length)∨(r=1∧a ∉ aU h h.Txns.length)):=by
 have a1:=hS.len;obtain ⟨i1,_,_⟩:=qM hS h.Txns.length (Nat.le_refl _);have hA:gm h=some (aU h h.Txns.length,0):=by unfold gm; rw [zq hs hS hc]; rfl
 unfold oJ;refine aZ hA ?_;refine ai (fun h1=>absurd rfl h1) (fun _ => ?_);refine bU (FQ ha (by dsimp only; omega)) (fun r hr => ?_);refine ai (fun h1 => ?_) (fun h1 => ?_)
 ·exact af (.inl ⟨rfl,hr.1 h1⟩)
 ·exact af (.inr ⟨rfl,fun h2=>h1 (hr.2 h2)⟩)
theorem Ja {h:History} (hS:dB h) {a:Ask} (ha:a ∈ aU h h.Txns.length):a.Base.length < 2 ^ 60:=by
 obtain ⟨t,p,hk⟩:=yx hS ha;have:=hk.b64
 omega
theorem GZ {h:History} (hs:qE h) (hS:dB h) (hc:az h=some 0) {a:Ask} (ha:a ∈ aU h h.Txns.length):nY h a=some (oz h a,0):=by
 refine eY.1 ?_;unfold nY;refine bU (EN hs hS hc (Ja hS ha)) (fun r hr => ?_);rcases hr with ⟨rfl,_⟩ | ⟨_,h1⟩
 ·refine ai (fun h1=>absurd rfl h1) (fun _ => ?_);exact aZ (MR hS hc ha).1 (af rfl)
 ·exact absurd ha h1
end Go.Proofs.YtfpeabnehpclnaaGreatDoorT
namespace Go.Proofs.YtfpeabnehpclnaaGreatDoorT
open Go Go.Proofs Go.Proofs.YtfpeabnehpclnaaGreatDoorE
set_option linter.unusedVariables false
set_option linter.unusedSimpArgs false
end Go.Proofs.YtfpeabnehpclnaaGreatDoorT
namespace Go.Proofs.YtfpeabnehpclnaaGreatDoorT
open Go Go.Proofs Go.Proofs.YtfpeabnehpclnaaGreatDoorE
set_option linter.unusedVariables false
set_option linter.unusedSimpArgs false
theorem MS {O:List Int} {W:Int→List Int} {base:List Int}:(vU O W base).length≤O.length:=List.length_filter_le _ _
theorem EO {O:List Int} {W:Int→List Int} {base:List Int} {r:List Int×Bool} (h:zA O W base r):r.1.length≤O.length:=by
 rcases h with ⟨_,h1,h2,_⟩ | ⟨rfl,_⟩
 ·exact ql h2 h1
 ·exact Nat.zero_le _
theorem Gn {O:List Int} {W:Int→List Int} {base:List Int} {r:List Int×Bool} (h:qm O W base r):r.1.length≤O.length:=by
 rcases h with ⟨rfl,_⟩ | ⟨rfl,_⟩
 ·exact MS
 ·exact Nat.zero_le _
theorem Ha {h:History} (hS:dB h) {a:Ask}:(oth h a).length≤32:=Nat.le_trans uR hS.len
def Hd (h:History) (a:Ask) (ty:Int) (r:List Int×Bool):Prop :=
 (ty=2→zA (oth h a) (wro h a) a.Base r)∧(ty=3→qm (oth h a) (wro h a) a.Base r)∧(ty≠2→ty≠3→r=([],false))
theorem Kt {h:History} (hS:dB h) (hc:az h=some 0) {a:Ask} {t p:Nat} (ha:BB h a t p) :
  ∃ r,gL h a=some r∧r.1.length≤32∧Hd h a (typ (opAt h (t:Int) (p:Int)).Kind) r:=by
 have a7:=hS.len;have hT:eO h a.Key=some (typ (opAt h (t:Int) (p:Int)).Kind):=Ab hS hc ha.tl ha.pl ha.e3.symm;have hF:bY h a=some (BC (oth h a) (wro h a)):=zy hS hc;have hO:aX h a=some (oth h a):=zw hS;have hol:=Ha hS (a:=a);have hW:∀ u ∈ oth h a,aW h u a.Key=some (wro h a u):=fun u hu=>by
  obtain ⟨⟨h0,h1,_,h3⟩,_⟩:=jM.1 hu;have hn:u.toNat < h.Txns.length:=by omega
  have e:u=(u.toNat:Int):=by omega
  rw [e]
  exact yu ⟨by omega,by omega⟩ (hS.txn u.toNat hn).ops.1
 have hP:=fun a5=>zz (a:=a) hS ha a5;have a3:=ha.b64;have a4:=ha.b3;generalize typ (opAt h (t:Int) (p:Int)).Kind=ty at hT a4 hP;unfold gL
 simp only [hT,hF,Option.bind_some]
 by_cases h2:ty=2
 ·subst h2;obtain ⟨r,a2,a6,a1⟩:=CJ (hP (.inl rfl)) hW hO a3;refine ⟨r,?_,Nat.le_trans (EO a1) hol,fun _=>a1,fun h=>absurd h (by decide),fun h=>absurd rfl h⟩
  rw [a2]; rfl
 ·by_cases h3:ty=3
  ·subst h3;obtain ⟨r,a2,a6,a1⟩:=EK (hP (.inr rfl)) rR hW hO a3 (a4 rfl);refine ⟨r,?_,Nat.le_trans (Gn a1) hol,fun h=>absurd h (by decide),fun _=>a1,fun _ h=>absurd rfl h⟩
   rw [a2]; rfl
  ·refine ⟨([],false),?_,Nat.zero_le _,fun h=>absurd h h2,fun h=>absurd h h3,fun _ _=>rfl⟩
   rw [beq_eq_false_iff_ne.2 h2,beq_eq_false_iff_ne.2 h3]; rfl
theorem Ku {h:History} (hS:dB h) (hc:az h=some 0) {a:Ask} {t p:Nat} (ha:BB h a t p) :
  ∃ r,gL h a=some r∧sO h a=some r∧r.1.length≤32∧Hd h a (typ (opAt h (t:Int) (p:Int)).Kind) r:=by
 have a7:=hS.len;have hT:eO h a.Key=some (typ (opAt h (t:Int) (p:Int)).Kind):=Ab hS hc ha.tl ha.pl ha.e3.symm;have hK:=Gd hS ha.tl ha.pl ha.e1 ha.e2;have hF:bY h a=some (BC (oth h a) (wro h a)):=zy hS hc;have hO:aX h a=some (oth h a):=zw hS;have hol:=Ha hS (a:=a);have hW:∀ u ∈ oth h a,aW h u a.Key=some (wro h a u):=fun u hu=>by
  obtain ⟨⟨h0,h1,_,h3⟩,_⟩:=jM.1 hu;have hn:u.toNat < h.Txns.length:=by omega
  have e:u=(u.toNat:Int):=by omega
  rw [e]
  exact yu ⟨by omega,by omega⟩ (hS.txn u.toNat hn).ops.1
 have hP:=fun a6=>zz (a:=a) hS ha a6;have a4:=ha.b64;have a5:=ha.b3;generalize typ (opAt h (t:Int) (p:Int)).Kind=ty at hT hK a5 hP;unfold gL sO
 simp only [hT,hK,hF,Option.bind_some]
 by_cases h2:ty=2
 ·subst h2;obtain ⟨r,a2,a3,a1⟩:=CJ (hP (.inl rfl)) hW hO a4;refine ⟨r,?_,?_,Nat.le_trans (EO a1) hol,fun _=>a1,fun h=>absurd h (by decide),fun h=>absurd rfl h⟩
  ·rw [a2]; rfl
  ·rw [a3]; rfl
 ·by_cases h3:ty=3
  ·subst h3;obtain ⟨r,a2,a3,a1⟩:=EK (hP (.inr rfl)) rR hW hO a4 (a5 rfl);refine ⟨r,?_,?_,Nat.le_trans (Gn a1) hol,fun h=>absurd h (by decide),fun _=>a1,fun _ h=>absurd rfl h⟩
   ·rw [a2]; rfl
   ·rw [a3]; rfl
  ·refine ⟨([],false),?_,?_,Nat.zero_le _,fun h=>absurd h h2,fun h=>absurd h h3,fun _ _=>rfl⟩
   ·rw [beq_eq_false_iff_ne.2 h2,beq_eq_false_iff_ne.2 h3]; rfl
   ·rw [beq_eq_false_iff_ne.2 h2,beq_eq_false_iff_ne.2 h3]; rfl
noncomputable def pts (h:History) (a:Ask):List Int×Bool:=(gL h a).getD ([],false)
theorem Oe {h:History} (hS:dB h) (hc:az h=some 0) {a:Ask} (ha:a ∈ aU h h.Txns.length):gL h a=some (pts h a)∧sO h a=some (pts h a)∧(pts h a).1.length≤32:=by
 obtain ⟨t,p,hk⟩:=yx hS ha;obtain ⟨r,h1,h2,h3,_⟩:=Ku hS hc hk;have e:pts h a=r:=by unfold pts; rw [h1]; rfl
 rw [e]
 exact ⟨h1,h2,h3⟩
section
variable {h:History}
end
end Go.Proofs.YtfpeabnehpclnaaGreatDoorT
namespace Go.Proofs.YtfpeabnehpclnaaGreatDoorT
open Go Go.Proofs Go.Proofs.YtfpeabnehpclnaaGreatDoorE
set_option linter.unusedVariables false
set_option linter.unusedSimpArgs false
def pos (l:List Int) (t:Int):Nat:=l.findIdx (fun x=>decide (x=t))
theorem nE {l:List Int} {t:Int}:pos l t < l.length↔t ∈ l:=by
 unfold pos
 rw [List.findIdx_lt_length]
 constructor
 ·rintro ⟨x,hx,h⟩;have:x=t:=by simpa using h
  exact this ▸ hx
 ·intro h;exact ⟨t,h,by simp⟩
theorem qo {l:List Int} {t:Int} (h:t ∈ l):idx l (pos l t:Int)=t:=by
 have hl:=nE.2 h
 rw [bS (n:=pos l t) rfl hl]
 have:=List.findIdx_getElem (xs:=l) (p:=fun x=>decide (x=t)) (w:=hl);exact of_decide_eq_true this
theorem EP {l:List Int} {i j:Nat} (hn:l.Nodup) (hi:i < l.length) (hj:j < l.length) (e:idx l (i:Int)=idx l (j:Int)):i=j:=by
 rw [bS (n:=i) rfl hi,bS (n:=j) rfl hj] at e
 have hp:=List.pairwise_iff_getElem.1 hn;rcases Nat.lt_trichotomy i j with h | h | h
 ·exact absurd e (hp i j hi hj h)
 ·exact h
 ·exact absurd e.symm (hp j i hj hi h)
theorem He {l:List Int} (hn:l.Nodup) {j:Nat} (hj:j < l.length):pos l (idx l (j:Int))=j:=by
 have hm:idx l (j:Int) ∈ l:=dJ hj;exact EP hn (nE.2 hm) hj (qo hm)
theorem Og {l:List Int} (hn:l.Nodup) {t:Int} {j:Nat} (hj:j < l.length) (e:idx l (j:Int)=t):pos l t=j:=by rw [← e]; exact He hn hj
theorem EQ {l:List Int} {k:Nat} {t:Int}:t ∈ l.take k↔∃ j:Nat,j < k∧j < l.length∧idx l (j:Int)=t:=by
 constructor
 ·intro h;obtain ⟨j,hj,e⟩:=List.getElem_of_mem h
  rw [List.length_take] at hj
  refine ⟨j,by omega,by omega,?_⟩
  rw [bS (n:=j) rfl (by omega),← e,List.getElem_take]
 ·rintro ⟨j,h1,h2,e⟩
  rw [bS (n:=j) rfl h2] at e
  rw [← e]
  exact List.mem_iff_getElem.2 ⟨j,by rw [List.length_take]; omega,by rw [List.getElem_take]⟩
structure oC (h:History) (l:List Int):Prop where
 nd:l.Nodup
 rg:∀ t ∈ l,0≤t∧t < (h.Txns.length:Int)∧(idx h.Txns t).Status≠2
 dn:∀ t:Nat,t < h.Txns.length→(idx h.Txns (t:Int)).Status=1→(t:Int) ∈ l
theorem oC.len {h:History} {l:List Int} (ho:oC h l):l.length≤h.Txns.length:=by
 have h1:∀ x ∈ l,x ∈ (List.range h.Txns.length).map (fun j:Nat=>(j:Int)):=fun x hx=>by
  have:=ho.rg x hx;exact List.mem_map.2 ⟨x.toNat,List.mem_range.2 (by omega),by omega⟩
 have:=ql ho.nd h1
 simpa using this
section
variable {h:History} {l:List Int}
abbrev sJ (m:List (Int×Int)):List Int:=m.map (·.1)
theorem vV {x v:Int}:∀ {m:List (Int×Int)},sJ (gG m x v)=if x ∈ sJ m then sJ m else sJ m++[x]
 | []=>by simp [gG]
 | p::m=>by
  unfold gG
  by_cases e:p.1=x
  ·simp [e]
  ·rw [if_neg e]
   show p.1::sJ (gG m x v)=_
   rw [vV]
   have e':¬ x=p.1:=fun h=>e h.symm
   by_cases hx:x ∈ sJ m
   ·simp [hx]
   ·simp [hx,e']
theorem Lx {x:Int} {m:List (Int×Int)}:kC m x=true↔x ∈ sJ m:=by
 unfold kC
 simp [List.any_eq_true]
structure zB (l:List Int) (k:Nat) (m:List (Int×Int)):Prop where
 nd:(sJ m).Nodup
 mem:∀ x,x ∈ sJ m↔x ∈ l.take k
 at_:∀ j:Nat,j < k→(∀ i:Nat,j < i→i < k→idx l (i:Int)≠idx l (j:Int))→mat m (idx l (j:Int))=(j:Int)
theorem zB.zero:zB l 0 []:=⟨List.nodup_nil,fun x=>by simp,fun j hj=>absurd hj (Nat.not_lt_zero _)⟩
theorem zB.put {k:Nat} {m:List (Int×Int)} (hm:zB l k m) (hk:k < l.length):zB l (k + 1) (gG m (idx l (k:Int)) (k:Int)):=by
 refine ⟨?_,fun x => ?_,fun j hj hno => ?_⟩
 ·rw [vV]
  split
  ·exact hm.nd
  ·rename_i hx
   rw [List.nodup_append]
   exact ⟨hm.nd,by simp,by intro a ha b hb; rw [List.mem_singleton.1 hb]; intro e; exact hx (e ▸ ha)⟩
 ·rw [vV,iQ hk,List.mem_append,List.mem_singleton]
  split
  ·rename_i hx
   rw [hm.mem]
   constructor
   ·exact .inl
   ·rintro (h | rfl)
    ·exact h
    ·exact (hm.mem _).1 hx
  ·rw [List.mem_append,List.mem_singleton,hm.mem]
 ·rw [qp]
  split
  ·rename_i e
   rcases Nat.lt_or_ge j k with h1 | h1
   ·exact absurd e.symm (hno k h1 (by omega))
   ·have:j=k:=by omega
    rw [this]
  ·rename_i e
   rcases Nat.lt_or_ge j k with h1 | h1
   ·exact hm.at_ j h1 (fun i h2 h3=>hno i h2 (by omega))
   ·have:j=k:=by omega
    subst this;exact absurd rfl e
theorem zB.len {m:List (Int×Int)} (hm:zB l l.length m):m.length=l.length↔l.Nodup:=by
 have hmem:∀ x,x ∈ sJ m↔x ∈ l:=fun x=>by rw [hm.mem,List.take_length]
 have hl:(sJ m).length=m.length:=List.length_map _
 constructor
 ·intro he
  apply Classical.byContradiction
  intro hn;have:∃ i j:Nat,i < j∧j < l.length∧idx l (i:Int)=idx l (j:Int):=by
   apply Classical.byContradiction
   intro hno;refine hn (List.pairwise_iff_getElem.2 fun i j hi hj hij e=>hno ⟨i,j,hij,hj,?_⟩)
   rw [bS (n:=i) rfl hi,bS (n:=j) rfl hj,e]
  obtain ⟨i,j,hij,hj,e⟩:=this;have hsub:∀ x ∈ sJ m,x ∈ l.eraseIdx j:=fun x hx=>by
   have hx:=(hmem x).1 hx;obtain ⟨q,hq,rfl⟩:=oU hx
   rw [List.mem_eraseIdx_iff_getElem]
   by_cases hqj:q=j
   ·subst hqj;exact ⟨i,by omega,by omega,by rw [← bS (n:=i) rfl (by omega:i < l.length)]; exact e⟩
   ·exact ⟨q,by omega,by omega,(bS (n:=q) rfl hq).symm⟩
  have:=ql hm.nd hsub
  rw [List.length_eraseIdx,if_pos hj] at this
  omega
 ·intro hn;have h1:=ql hm.nd (fun x hx=>(hmem x).1 hx);have h2:=ql hn (fun x hx=>(hmem x).2 hx)
  omega
structure zC (l:List Int) (m:List (Int×Int)):Prop where
 has:∀ x,kC m x=true↔x ∈ l
 at_:∀ x ∈ l,mat m x=(pos l x:Int)
theorem zB.ord {m:List (Int×Int)} (hm:zB l l.length m) (hn:l.Nodup):zC l m:=by
 refine ⟨fun x=>by rw [Lx,hm.mem,List.take_length],fun x hx => ?_⟩
 have hl:=nE.2 hx;have:=hm.at_ (pos l x) hl (fun i h1 h2 e=>by have:=EP hn h2 hl e; omega)
 rwa [qo hx] at this
theorem zC.hasB {m:List (Int×Int)} (hm:zC l m) (x:Int):kC m x=decide (x ∈ l):=by
 by_cases hx:x ∈ l
 ·rw [(hm.has x).2 hx,decide_eq_true hx]
 ·rw [decide_eq_false hx]
  cases e:kC m x with
  | false=>rfl
  | true=>exact absurd ((hm.has x).1 e) hx
theorem MU (a3:h.Txns.length≤32) (hl:l.length < 2 ^ 60):Tri (fF h l) (fun r=>r.1.h=h∧r.1.order=l∧(r.2=true↔oC h l)∧(r.2=true→zC l r.1.at_)):=by
 unfold fF;refine bN (k0:=0) l.length (fun k s=>s.2=(k:Int)∧zB l k s.1∧∀ t ∈ l.take k,0≤t∧t < (h.Txns.length:Int)∧(idx h.Txns t).Status≠2) (Nat.zero_le _) ⟨rfl,zB.zero,fun t ht=>by simp at ht⟩ ?_
 rintro k ⟨m,x⟩ hk ⟨rfl,hm,hrg⟩;have hw:w64 ((k:Int) + 1)=((k + 1:Nat):Int):=aQ (by omega);unfold yV tQ
 dsimp only at hm ⊢
 rw [hw]
 have bad:∀ t ∈ l,¬ (0≤t∧t < (h.Txns.length:Int)∧(idx h.Txns t).Status≠2) → ¬ oC h l:=fun t ht hn ho=>hn (ho.rg t ht);have no:∀ {m:List (Int×Int)},¬ oC h l→(⟨h,l,m⟩:dE).h=h∧(⟨h,l,m⟩:dE).order=l∧((false:Bool)=true↔oC h l)∧((false:Bool)=true→zC l (⟨h,l,m⟩:dE).at_):=fun hn=>⟨rfl,rfl,⟨fun h=>(nomatch h),fun h=>absurd h hn⟩,fun h=>(nomatch h)⟩;refine ai (fun h1 => ?_) (fun h1 => ?_)
 ·have a1:k < l.length:=by omega
  have hmem:idx l (k:Int) ∈ l:=dJ a1;refine ag (by omega) ?_;refine ai (fun h2 => ?_) (fun h2 => ?_)
  ·exact ai (fun _=>au (af (no (bad _ hmem (fun h3=>by omega))))) (fun h3=>absurd trivial h3)
  ·refine ai (fun h3 => ?_) (fun h3 => ?_)
   ·exact ai (fun _=>au (af (no (bad _ hmem (fun h3=>by omega))))) (fun h3=>absurd trivial h3)
   ·refine ag (by omega) ?_;refine ai (fun h4=>au (af (no (bad _ hmem (fun h5=>h5.2.2 h4))))) (fun h4 => ?_);refine af ⟨a1,rfl,hm.put a1,fun t ht => ?_⟩
    rw [iQ a1,List.mem_append,List.mem_singleton] at ht
    rcases ht with ht | rfl
    ·exact hrg t ht
    ·exact ⟨by omega,by omega,h4⟩
 ·have:k=l.length:=by omega
  subst this
  rw [List.take_length] at hrg
  refine ai (fun h2 => ?_) (fun h2 => ?_)
  ·exact au (af (no (fun ho=>h2 (by have:=hm.len.2 ho.nd; omega))))
  ·have hnd:l.Nodup:=hm.len.1 (by omega);have hom:=hm.ord hnd;have hb:=hom.hasB
   suffices hs:Tri (iter (wJ h l m) 0) (fun y:(List (Int×Int)×Int) ⊕ (dE×Bool)=>∃ b,y = .inr (⟨h,l,m⟩,b)∧(b=true↔oC h l)) from
    eX hs (by rintro y ⟨b,rfl,hb⟩; exact ⟨rfl,rfl,hb,fun _=>hom⟩)
   refine bN (k0:=0) h.Txns.length (fun j s=>s=(j:Int)∧∀ t:Nat,t < j→(idx h.Txns (t:Int)).Status=1→(t:Int) ∈ l) (Nat.zero_le _) ⟨rfl,fun t ht=>absurd ht (Nat.not_lt_zero _)⟩ ?_;rintro j s hj ⟨rfl,hdn⟩;have hw:w64 ((j:Int) + 1)=((j + 1:Nat):Int):=aQ (by omega);unfold wJ wI
   dsimp only
   rw [hw,hb]
   refine ai (fun h3 => ?_) (fun h3 => ?_)
   ·have a2:j < h.Txns.length:=by omega
    have next:((idx h.Txns (j:Int)).Status=1→(j:Int) ∈ l)→Upm h.Txns.length j (fun j s=>s=(j:Int)∧∀ t:Nat,t < j→(idx h.Txns (t:Int)).Status=1→(t:Int) ∈ l) (fun y:(List (Int×Int)×Int) ⊕ (dE×Bool)=>∃ b,y = .inr (⟨h,l,m⟩,b)∧(b=true↔oC h l)) (.inl ((j + 1:Nat):Int)):=fun h4=>⟨a2,rfl,fun t ht hst=>by
     rcases Nat.lt_or_ge t j with h5 | h5
     ·exact hdn t h5 hst
     ·have:t=j:=by omega
      subst this;exact h4 hst⟩
    refine ag (by omega) ?_;refine ai (fun h4 => ?_) (fun h4 => ?_)
    ·refine ai (fun h5 => ?_) (fun h5=>af (next (fun h6=>absurd h6 h5)));refine au (au (af ⟨false,rfl,fun h=>(nomatch h),fun ho=>absurd (ho.dn j a2 h5) h4⟩))
    ·refine ai (fun h5=>absurd h5 (by simp)) (fun h5=>af (next (fun _=>Classical.byContradiction h4)))
   ·have:j=h.Txns.length:=by omega
    subst this;exact au (au (af ⟨true,rfl,fun _=>⟨hnd,hrg,hdn⟩,fun _=>rfl⟩))
end
end Go.Proofs.YtfpeabnehpclnaaGreatDoorT
namespace Go.Proofs.YtfpeabnehpclnaaGreatDoorT
open Go Go.Proofs Go.Proofs.YtfpeabnehpclnaaGreatDoorE
set_option linter.unusedVariables false
set_option linter.unusedSimpArgs false
abbrev srt (l:List Int):List Int:=l.mergeSort fun x y=>decide (x≤y)
def fin (ty:Int) (w:List Int):List Int:=if ty=1 then w.drop (w.length - 1) else if ty=3 then srt w else if ty=4 then [w64 w.sum] else w
theorem QI {ty:Int} {w:List Int}:(fin ty w).length≤w.length + 1:=by
 unfold fin
 split
 ·rw [List.length_drop]; omega
 ·split
  ·rw [List.length_mergeSort]; omega
  ·split
   ·simp
   ·omega
theorem Oh {α:Type} (l:List α) {n:Nat} (hn:n≤l.length):dW l (n:Int) (l.length:Int)=l.drop n:=by
 unfold dW
 rw [Int.toNat_natCast,Int.toNat_natCast,List.take_length]
theorem Jb {st:dE} {key ty:Int} {w:List Int} (hT:eO st.h key=some ty) (hw:w.length < 2 ^ 40):iH st key w=some (fin ty w):=by
 refine eY.1 ?_;unfold iH;refine aZ hT ?_;unfold fin;refine ai (fun h1 => ?_) (fun h1 => ?_)
 ·rw [if_pos h1]
  have e:DN 0 (w64 ((w.length:Int) - 1))=((w.length - 1:Nat):Int):=by
   rw [oD (by omega) (by omega)]
   unfold DN
   split <;> omega
  rw [e]
  refine ag (by omega) (af ?_);exact Oh w (by omega)
 ·rw [if_neg h1]
  refine ai (fun h2 => ?_) (fun h2 => ?_)
  ·rw [if_pos h2]
   unfold ry jT
   rw [iL _ (by omega)]
   exact cZ (af rfl)
  ·rw [if_neg h2]
   refine ai (fun h3 => ?_) (fun h3 => ?_)
   ·rw [if_pos h3]
    refine bN (k0:=0) w.length (fun k s=>s.2=(k:Int)∧s.1=yz 0 (w.take k)) (Nat.zero_le _) ⟨rfl,rfl⟩ ?_;rintro k ⟨x,i⟩ hk ⟨rfl,hx⟩
    dsimp only at hx
    have hw:w64 ((k:Int) + 1)=((k + 1:Nat):Int):=aQ (by omega);unfold mY
    dsimp only
    rw [hw]
    refine ai (fun h4 => ?_) (fun h4 => ?_)
    ·have a1:k < w.length:=by omega
     exact ag (by omega) (af ⟨a1,rfl,by dsimp only; rw [CL a1,hx]⟩)
    ·have:k=w.length:=by omega
     subst this;refine au (af ?_)
     rw [hx,List.take_length,CR]
     rfl
   ·rw [if_neg h3]
    exact af rfl
def wrs (h:History) (l:List Int) (key:Int):List Int:=l.flatMap (fun o=>eH h o key)
def qG (h:History) (l:List Int) (key t:Int):List Int:=if 0≤t then wrs h (l.take (pos l t + 1)) key else []
section
variable {h:History} {l:List Int}
theorem Jc {key:Int} {k:Nat} (hk:k < l.length):wrs h (l.take (k + 1)) key=wrs h (l.take k) key++eH h (idx l (k:Int)) key:=by
 unfold wrs
 rw [iQ hk,List.flatMap_append]
 simp
theorem SH (hS:dB h) {o key:Int} (ho:0≤o∧o < (h.Txns.length:Int)):(eH h o key).length≤16:=by
 obtain ⟨n,rfl⟩:∃ n:Nat,o=(n:Int):=⟨o.toNat,by omega⟩
 exact Nat.le_trans zt (hS.txn n (by omega)).ops.1
theorem Ee (hS:dB h) (ho:oC h l) {key:Int}:∀ k,k≤l.length→(wrs h (l.take k) key).length≤16 * k
 | 0,_=>by simp [wrs]
 | k + 1,hk=>by
  have h1:=Ee hS ho (key:=key) k (by omega);have h2:=ho.rg _ (dJ (show k < l.length by omega));have h3:=SH hS (key:=key) ⟨h2.1,h2.2.1⟩
  rw [Jc (by omega),List.length_append]
  omega
theorem Jd (hS:dB h) (ho:oC h l) {key t:Int}:(qG h l key t).length≤512:=by
 unfold qG
 split
 ·have h1:=ho.len;have h2:=hS.len;rcases Nat.lt_or_ge (pos l t) l.length with h3 | h3
  ·have:=Ee hS ho (key:=key) (pos l t + 1) (by omega)
   omega
  ·have:=Ee hS ho (key:=key) l.length (Nat.le_refl _)
   rw [List.take_of_length_le (by omega)]
   rw [List.take_length] at this
   omega
 ·simp
theorem Hf (hS:dB h) (ho:oC h l) {m:List (Int×Int)} (hm:zC l m) {key ty t:Int} (hT:eO h key=some ty) (ht:t < 0∨t ∈ l) :
  aH ⟨h,l,m⟩ key t=some (fin ty (qG h l key t)):=by
 have hll:=ho.len;have a6:=hS.len;have ha:=Jd hS ho (key:=key) (t:=t);refine eY.1 ?_;unfold aH;refine ai (fun h1 => ?_) (fun h1 => ?_)
 ·have htm:t ∈ l:=by rcases ht with h | h; omega; exact h
  have hp:=nE.2 htm;have e:w64 (mat m t + 1)=((pos l t + 1:Nat):Int):=by rw [hm.at_ t htm]; exact aQ (by omega)
  dsimp only
  rw [e]
  refine ag (by omega) ?_;have haa:qG h l key t=wrs h (l.take (pos l t + 1)) key:=if_pos (by omega)
  rw [haa] at ha ⊢
  refine bN (k0:=0) (pos l t + 1) (fun k s=>s=(wrs h (l.take k) key,(k:Int))) (Nat.zero_le _) rfl ?_;rintro k s hk rfl;have hw:w64 ((k:Int) + 1)=((k + 1:Nat):Int):=aQ (by omega);have hkl:=Ee hS ho (key:=key) k (by omega);have hsub:dW l (0:Int) ((pos l t + 1:Nat):Int)=l.take (pos l t + 1):=lm (by omega);unfold ng
  dsimp only
  rw [e,hsub,List.length_take,Nat.min_eq_left (by omega)]
  refine ai (fun h2 => ?_) (fun h2 => ?_)
  ·have a2:k < pos l t + 1:=by omega
   rw [vY a2]
   have hr:=ho.rg _ (dJ (show k < l.length by omega));refine ag (by omega) (ag ⟨hr.1,hr.2.1⟩ ?_);have a5:(idx h.Txns (idx l (k:Int))).Ops.length≤16:=by
    obtain ⟨n,hn⟩:∃ n:Nat,idx l (k:Int)=(n:Int):=⟨(idx l (k:Int)).toNat,by omega⟩
    rw [hn] at hr ⊢
    exact (hS.txn n (by omega)).ops.1
   refine bN (k0:=0) (idx h.Txns (idx l (k:Int))).Ops.length (fun p s=>s=(wrs h (l.take k) key++vR (idx h.Txns (idx l (k:Int))).Ops key p,(p:Int))) (Nat.zero_le _) (by rw [ML,List.append_nil]; rfl) ?_;rintro p s a4 rfl;have a3:w64 ((p:Int) + 1)=((p + 1:Nat):Int):=aQ (by omega);have hol:=zo (ops:=(idx h.Txns (idx l (k:Int))).Ops) (key:=key) (p:=p);unfold mZ jV jU
   dsimp only
   rw [e,hsub,vY a2,a3]
   refine ai (fun h3 => ?_) (fun h3 => ?_)
   ·have a1:p < (idx h.Txns (idx l (k:Int))).Ops.length:=by omega
    have hos:=zY (key:=key) a1;refine ag (by omega) ?_;refine ai (fun h4 => ?_) (fun h4 => ?_)
    ·refine ai (fun h5 => ?_) (fun h5 => ?_)
     ·refine ag (by rw [List.length_append]; omega) (af ⟨a1,?_⟩)
      rw [if_pos ⟨h4,h5⟩] at hos
      rw [hos,List.append_assoc]
     ·refine af ⟨a1,?_⟩
      rw [if_neg (fun h=>h5 h.2)] at hos
      rw [hos]
    ·refine ai (fun h5=>absurd h5 (by simp)) (fun h5=>af ⟨a1,?_⟩)
     rw [if_neg (fun h=>h4 h.1)] at hos
     rw [hos]
   ·have:p=(idx h.Txns (idx l (k:Int))).Ops.length:=by omega
    subst this;refine au (af ⟨a2,?_⟩)
    dsimp only
    rw [hw,Jc (by omega)]
    rfl
  ·have:k=pos l t + 1:=by omega
   subst this;exact au (eY.2 (Jb hT (by omega)))
 ·have haa:qG h l key t=[]:=if_neg (by omega)
  rw [haa]
  exact eY.2 (Jb hT (by simp))
end
end Go.Proofs.YtfpeabnehpclnaaGreatDoorT
namespace Go.Proofs.YtfpeabnehpclnaaGreatDoorT
open Go Go.Proofs Go.Proofs.YtfpeabnehpclnaaGreatDoorE
set_option linter.unusedVariables false
set_option linter.unusedSimpArgs false
theorem Oi {m:List (Int×Int)} {x:Int} (h:kC m x=false):mat m x=0 :=
 (xU (fun k hk e=>by
  have:=Lx.2 (e ▸ hk)
  rw [h] at this
  cases this)).1
theorem BD {h:History} {a:Ask} (ha:a ∈ aU h h.Txns.length):∃ t:Nat,a.Txn=(t:Int)∧t < h.Txns.length∧(idx h.Txns (t:Int)).Status=1:=by
 unfold aU at ha;obtain ⟨t,ht,ha⟩:=List.mem_flatMap.1 ha;have ht:=List.mem_range.1 ht;unfold xz at ha
 split at ha
 case isFalse=>cases ha
 case isTrue hst =>
 unfold vT at ha;obtain ⟨p,hp,ha⟩:=List.mem_flatMap.1 ha;refine ⟨t,?_,ht,hst⟩;unfold Dl at ha
 dsimp only at ha
 split at ha
 ·cases ha
 ·split at ha
  ·rw [List.mem_singleton] at ha
   rw [ha]
  ·split at ha
   ·rw [List.mem_singleton] at ha
    rw [ha]
   ·cases ha
def Oj (h:History) (l:List Int):Prop:=∀ i k:Nat,k < i→i < h.Txns.length→(idx h.Txns (i:Int)).Proc=(idx h.Txns (k:Int)).Proc→(i:Int) ∈ l→(k:Int) ∈ l→pos l (k:Int) < pos l (i:Int)
def Ahead (h:History) (l:List Int) (a:Ask) (p:Int):Prop:=p ∈ l∧pos l p < pos l a.Txn∧0 < (eH h p a.Key).length
def kd (h:History) (a:Ask):Int:=typ (opAt h a.Txn a.Place).Kind
def ver (h:History) (l:List Int) (a:Ask) (p:Int):List Int:=fin (kd h a) (qG h l a.Key p)
open Classical in
noncomputable def xO (h:History) (l:List Int) (a:Ask) (p:Int):Int:=if p ≠ -1 ∧ ¬ Ahead h l a p then 5 else if ver h l a p≠a.Base then 6 else 0
def First (n:Nat) (v:Nat→Int) (r:Int):Prop:=(r=0∧∀ i,i < n→v i=0)∨(∃ i,i < n∧v i=r∧r≠0∧∀ j,j < i→v j=0)
theorem First.det {n:Nat} {v:Nat→Int} {r s:Int} (h1:First n v r) (h2:First n v s):r=s:=by
 rcases h1 with ⟨rfl,h1⟩ | ⟨i,hi,e1,n1,b1⟩ <;> rcases h2 with ⟨rfl,h2⟩ | ⟨j,hj,e2,n2,b2⟩
 ·rfl
 ·exact absurd (e2.symm.trans (h1 j hj)) n2
 ·exact absurd (e1.symm.trans (h2 i hi)) n1
 ·rcases Nat.lt_trichotomy i j with h | h | h
  ·exact absurd (e1.symm.trans (b2 i h)) n1
  ·subst h; exact e1.symm.trans e2
  ·exact absurd (e2.symm.trans (b1 j h)) n2
inductive Why (h:History) (x:Exec):Int→Prop
 | bad:jK h h.Txns.length≠[]→Why h x 1
 | order:jK h h.Txns.length=[] → ¬ oC h x.Order→Why h x 2
 | picks:jK h h.Txns.length=[]→oC h x.Order→x.Picks.length≠(aU h h.Txns.length).length→Why h x 3
 | sess:jK h h.Txns.length=[]→oC h x.Order→x.Picks.length=(aU h h.Txns.length).length → ¬ Oj h x.Order→Why h x 4
 | pick {r:Int}:jK h h.Txns.length=[]→oC h x.Order→x.Picks.length=(aU h h.Txns.length).length→Oj h x.Order →
   First (aU h h.Txns.length).length (fun i=>xO h x.Order (idx (aU h h.Txns.length) (i:Int)) (idx x.Picks (i:Int))) r→Why h x r
theorem Why.det {h:History} {x:Exec} {r s:Int} (h1:Why h x r) (h2:Why h x s):r=s:=by
 cases h1 <;> cases h2 <;> first | rfl | contradiction | exact First.det ‹_› ‹_›
section
variable {h:History} {l:List Int} {m:List (Int×Int)}
theorem Kv (hS:dB h) (hc:az h=some 0) (ho:oC h l) (hm:zC l m) {a:Ask} (ha:a ∈ aU h h.Txns.length) {p:Int}:Tri (fH ⟨h,l,m⟩ a p) (fun r=>r=true↔Ahead h l a p):=by
 obtain ⟨t,et,ht,hst⟩:=BD ha;have htl:=ho.dn t ht hst;unfold fH lF
 dsimp only
 rw [hm.hasB]
 refine ai (fun h1 => ?_) (fun h1 => ?_)
 ·rw [cond_true]
  exact af ⟨fun h=>(nomatch h),fun h2=>absurd h2.1 h1⟩
 ·have hp:p ∈ l:=Classical.byContradiction h1
  rw [hm.at_ p hp,et,hm.at_ _ htl]
  refine ai (fun h2=>af ⟨fun h=>(nomatch h),fun h3 => ?_⟩) (fun h2 => ?_)
  ·have:=h3.2.1
   rw [et] at this
   omega
  ·refine aZ (EF hS hc) (af ?_);have hr:=ho.rg p hp
   rw [if_pos ⟨hr.1,hr.2.1⟩]
   dsimp only
   rw [decide_eq_true_iff]
   exact ⟨fun h3=>⟨hp,by rw [et]; omega,h3⟩,fun h3=>h3.2.2⟩
theorem MV (ho:oC h l) (a2:h.Txns.length≤32) (hm:zC l m):Tri (bJ ⟨h,l,m⟩) (fun r=>r=true↔Oj h l):=by
 unfold bJ;refine bN (k0:=0) h.Txns.length (fun k s=>s.2=(k:Int)∧(∀ t:Nat,t < k→(t:Int) ∈ l→kC s.1 (idx h.Txns (t:Int)).Proc=true∧(pos l (t:Int):Int)≤mat s.1 (idx h.Txns (t:Int)).Proc) ∧
  (∀ q,kC s.1 q=true→∃ t:Nat,t < k∧(t:Int) ∈ l∧(idx h.Txns (t:Int)).Proc=q∧mat s.1 q=(pos l (t:Int):Int)) ∧
  ∀ i j:Nat,j < i→i < k→(idx h.Txns (i:Int)).Proc=(idx h.Txns (j:Int)).Proc→(i:Int) ∈ l→(j:Int) ∈ l→pos l (j:Int) < pos l (i:Int)) (Nat.zero_le _)
  ⟨rfl,fun t ht=>absurd ht (Nat.not_lt_zero _),fun q hq=>(by rw [Fb] at hq; cases hq),fun i j h1 h2=>absurd h2 (Nat.not_lt_zero _)⟩ ?_
 rintro k ⟨s,x⟩ hk ⟨rfl,i1,i2,i3⟩;have hw:w64 ((k:Int) + 1)=((k + 1:Nat):Int):=aQ (by omega)
 dsimp only at i1 i2 i3
 unfold mi jE jD
 dsimp only
 rw [hw,hm.hasB]
 refine ai (fun h1 => ?_) (fun h1 => ?_)
 ·have a1:k < h.Txns.length:=by omega
  refine ag (by omega) ?_;refine ai (fun h2 => ?_) (fun h2 => ?_)
  ·refine af ⟨a1,rfl,fun t ht htl => ?_,fun q hq => ?_,fun i j hij hi hp hil hjl => ?_⟩
   ·have:t≠k:=fun e=>h2 (e ▸ htl);exact i1 t (by omega) htl
   ·obtain ⟨t,q1,q2⟩:=i2 q hq;exact ⟨t,by omega,q2⟩
   ·have:i≠k:=fun e=>h2 (e ▸ hil);exact i3 i j hij (by omega) hp hil hjl
  ·have hkl:(k:Int) ∈ l:=Classical.byContradiction h2
   rw [hm.at_ _ hkl]
   have go:(∀ t:Nat,t < k→(t:Int) ∈ l→(idx h.Txns (k:Int)).Proc=(idx h.Txns (t:Int)).Proc→pos l (t:Int) < pos l (k:Int)) →
     Upm h.Txns.length k (fun k s=>s.2=(k:Int)∧(∀ t:Nat,t < k→(t:Int) ∈ l→kC s.1 (idx h.Txns (t:Int)).Proc=true∧(pos l (t:Int):Int)≤mat s.1 (idx h.Txns (t:Int)).Proc) ∧
      (∀ q,kC s.1 q=true→∃ t:Nat,t < k∧(t:Int) ∈ l∧(idx h.Txns (t:Int)).Proc=q∧mat s.1 q=(pos l (t:Int):Int)) ∧
      ∀ i j:Nat,j < i→i < k→(idx h.Txns (i:Int)).Proc=(idx h.Txns (j:Int)).Proc→(i:Int) ∈ l→(j:Int) ∈ l→pos l (j:Int) < pos l (i:Int)) (fun r=>r=true↔Oj h l)
      (.inl (gG s (idx h.Txns (k:Int)).Proc (DN (pos l (k:Int):Int) (mat s (idx h.Txns (k:Int)).Proc)),((k + 1:Nat):Int))):=fun hno=>by
    have hmax:DN (pos l (k:Int):Int) (mat s (idx h.Txns (k:Int)).Proc)=(pos l (k:Int):Int):=by
     unfold DN
     split
     ·rename_i hlt
      by_cases hh:kC s (idx h.Txns (k:Int)).Proc=true
      ·obtain ⟨t,q1,q2,q3,q4⟩:=i2 _ hh;have:=hno t q1 q2 q3.symm
       omega
      ·have e0:mat s (idx h.Txns (k:Int)).Proc=0:=Oi (by simpa using hh)
       omega
     ·rfl
    rw [hmax]
    refine ⟨a1,rfl,fun t ht htl => ?_,fun q hq => ?_,fun i j hij hi hp hil hjl => ?_⟩
    ·dsimp only
     rw [xQ,qp]
     by_cases hp:(idx h.Txns (t:Int)).Proc=(idx h.Txns (k:Int)).Proc
     ·rw [if_pos hp]
      refine ⟨.inl hp,?_⟩
      by_cases htk:t=k
      ·rw [htk]; omega
      ·have:=hno t (by omega) htl hp.symm
       omega
     ·rw [if_neg hp]
      have htk:t≠k:=fun e=>hp (by rw [e]);obtain ⟨q1,q2⟩:=i1 t (by omega) htl;exact ⟨.inr q1,q2⟩
    ·dsimp only at hq ⊢
     rw [xQ] at hq
     rw [qp]
     by_cases hp:q=(idx h.Txns (k:Int)).Proc
     ·rw [if_pos hp]
      exact ⟨k,by omega,hkl,hp.symm,rfl⟩
     ·rw [if_neg hp]
      rcases hq with hq | hq
      ·exact absurd hq hp
      ·obtain ⟨t,q1,q2⟩:=i2 q hq;exact ⟨t,by omega,q2⟩
    ·rcases Nat.lt_or_ge i k with h5 | h5
     ·exact i3 i j hij h5 hp hil hjl
     ·have:i=k:=by omega
      subst this;exact hno j hij hjl hp
   refine ai (fun h3 => ?_) (fun h3 => ?_)
   ·obtain ⟨t,q1,q2,q3,q4⟩:=i2 _ h3;refine ai (fun h4 => ?_) (fun h4=>af (go (fun u hu hul hpu => ?_)))
    ·refine au (af ⟨fun h=>(nomatch h),fun hs => ?_⟩);have:=hs k t q1 a1 q3.symm hkl q2
     omega
    ·have h5:=(i1 u hu hul).2
     rw [← hpu] at h5
     have h6:pos l (u:Int)≠pos l (k:Int):=fun e=>by
      have h7:=qo hul
      rw [e,qo hkl] at h7
      omega
     omega
   ·refine ai (fun h4=>absurd h4 (by simp)) (fun h4=>af (go (fun u hu hul hpu => ?_)));have h5:=(i1 u hu hul).1
    rw [← hpu] at h5
    exact absurd h5 h3
 ·have:k=h.Txns.length:=by omega
  subst this;exact au (af ⟨fun _=>i3,fun _=>rfl⟩)
theorem LA {a:Ask} {t p:Nat} (hk:BB h a t p):kd h a=typ (opAt h (t:Int) (p:Int)).Kind:=by
 unfold kd
 rw [hk.e1,hk.e2]
theorem Je (hS:dB h) (hc:az h=some 0) {a:Ask} (ha:a ∈ aU h h.Txns.length):eO h a.Key=some (kd h a):=by
 obtain ⟨t,p,hk⟩:=yx hS ha
 rw [LA hk]
 exact Ab hS hc hk.tl hk.pl hk.e3.symm
theorem QJ (hS:dB h) (ho:oC h l) {a:Ask} {p:Int}:(ver h l a p).length≤513:=by
 have h1:=QI (ty:=kd h a) (w:=qG h l a.Key p);have h2:=Jd hS ho (key:=a.Key) (t:=p);unfold ver
 omega
theorem Ol (hs:qE h) (hS:dB h) (hc:az h=some 0) {x:Exec} (hl:x.Order.length < 2 ^ 50) (hpl:x.Picks.length < 2 ^ 50):Tri (gy h x) (fun r=>r.2=0∧Why h x r.1):=by
 have a2:=hS.len;obtain ⟨n1,n2,_⟩:=qM hS h.Txns.length (Nat.le_refl _);have hA:gm h=some (aU h h.Txns.length,0):=by unfold gm; rw [zq hs hS hc]; rfl
 have hB:xD h=some (jK h h.Txns.length,0):=by unfold xD; rw [zq hs hS hc]; rfl
 unfold gy;refine aZ hA ?_;refine ai (fun h1=>absurd rfl h1) (fun _ => ?_);refine aZ hB ?_;refine ai (fun h1 => ?_) (fun h1 => ?_)
 ·exact af ⟨rfl,.bad (fun e=>by dsimp only at h1; rw [e] at h1; simp at h1)⟩
 have hsp:jK h h.Txns.length=[]:=List.length_eq_zero_iff.1 (by dsimp only at h1; omega);refine bU (MU a2 (by omega)) (fun r hr => ?_);obtain ⟨⟨rh,ro,rm⟩,rb⟩:=r;obtain ⟨e1,e2,e3,e4⟩:=hr
 dsimp only at e1 e2 e3 e4
 subst e1 e2;refine ai (fun h2 => ?_) (fun h2 => ?_)
 ·exact af ⟨rfl,.order hsp (fun ho=>h2 (e3.2 ho))⟩
 have ho:=e3.1 (by simpa using h2);have hm:=e4 (by simpa using h2)
 dsimp only
 refine ai (fun h3 => ?_) (fun h3 => ?_)
 ·exact af ⟨rfl,.picks hsp ho (fun e=>h3 (by rw [e]))⟩
 have hpe:x.Picks.length=(aU rh rh.Txns.length).length:=by
  have:¬ ¬ ((x.Picks.length:Int)=((aU rh rh.Txns.length).length:Int)):=h3
  omega
 refine bU (MV ho a2 hm) (fun b hb => ?_);refine ai (fun h4 => ?_) (fun h4 => ?_)
 ·exact af ⟨rfl,.sess hsp ho hpe (fun hq=>h4 (hb.2 hq))⟩
 have hq:=hb.1 (by simpa using h4);generalize hAs:aU rh rh.Txns.length=aL at hpe n1 hA
 suffices hloop:Tri (iter (wL x (aL,0) (⟨rh,x.Order,rm⟩,rb)) 0) (fun r=>r.2=0∧First aL.length (fun i=>xO rh x.Order (idx aL (i:Int)) (idx x.Picks (i:Int))) r.1) from
  eX hloop (fun r hr=>⟨hr.1,.pick hsp ho (by rw [hAs]; exact hpe) hq (by rw [hAs]; exact hr.2)⟩)
 refine bN (k0:=0) aL.length (fun k s=>s=(k:Int)∧∀ i,i < k→xO rh x.Order (idx aL (i:Int)) (idx x.Picks (i:Int))=0) (Nat.zero_le _) ⟨rfl,fun i hi=>absurd hi (Nat.not_lt_zero _)⟩ ?_;rintro k s hk ⟨rfl,hz⟩;have hw:w64 ((k:Int) + 1)=((k + 1:Nat):Int):=aQ (by omega);unfold wL wK
 dsimp only
 rw [hw]
 refine ai (fun h5 => ?_) (fun h5 => ?_)
 ·have a1:k < aL.length:=by omega
  have ham:idx aL (k:Int) ∈ aU rh rh.Txns.length:=by rw [hAs]; exact uh a1
  refine ag (by omega) (ag (by omega) ?_);generalize hpv:idx x.Picks (k:Int)=p;have tail:(p ≠ -1→Ahead rh x.Order (idx aL (k:Int)) p)→Tri (must (0≤(k:Int)∧(k:Int) < (x.Picks.length:Int)) ((aH ⟨rh,x.Order,rm⟩ ((idx aL (k:Int)).Key) p).bind fun y=>(dY y ((idx aL (k:Int)).Base)).bind fun z=>bif !z then out (some (6,0)) else (some (.inl ((k + 1:Nat):Int)))))
    (Upm aL.length k (fun k s=>s=(k:Int)∧∀ i,i < k→xO rh x.Order (idx aL (i:Int)) (idx x.Picks (i:Int))=0) (fun r:Int×Int=>r.2=0∧First aL.length (fun i=>xO rh x.Order (idx aL (i:Int)) (idx x.Picks (i:Int))) r.1)):=fun hah=>by
   have hv:aH ⟨rh,x.Order,rm⟩ ((idx aL (k:Int)).Key) p=some (ver rh x.Order (idx aL (k:Int)) p) :=
    Hf hS ho hm (Je hS hc ham) (by
     by_cases hp:p = -1
     ·left; omega
     ·exact .inr (hah hp).1)
   have hvl:=QJ hS ho (a:=idx aL (k:Int)) (p:=p);refine ag (by omega) (aZ hv (aZ (yn (by omega)) ?_));refine ai (fun h6 => ?_) (fun h6 => ?_)
   ·refine au (af ⟨rfl,.inr ⟨k,a1,?_,by decide,hz⟩⟩)
    show xO rh x.Order (idx aL (k:Int)) (idx x.Picks (k:Int))=6
    rw [hpv]
    unfold xO
    rw [if_neg (fun h=>h.2 (hah h.1)),if_pos h6]
   ·refine af ⟨a1,rfl,fun i hi => ?_⟩;rcases Nat.lt_or_ge i k with h7 | h7
    ·exact hz i h7
    ·have:i=k:=by omega
     subst this
     rw [hpv]
     unfold xO
     rw [if_neg (fun h=>h.2 (hah h.1)),if_neg h6]
  refine ai (fun h6 => ?_) (fun h6 => ?_)
  ·refine bU (Kv hS hc ho hm ham) (fun b hb => ?_);refine ai (fun h7 => ?_) (fun h7 => ?_)
   ·refine au (af ⟨rfl,.inr ⟨k,a1,?_,by decide,hz⟩⟩)
    show xO rh x.Order (idx aL (k:Int)) (idx x.Picks (k:Int))=5
    rw [hpv]
    unfold xO
    rw [if_pos ⟨h6,fun h=>h7 (hb.2 h)⟩]
   ·exact tail (fun _=>hb.1 (by simpa using h7))
  ·rw [cond_false]
   exact tail (fun h=>absurd h h6)
 ·have:k=aL.length:=by omega
  subst this;exact au (af ⟨rfl,.inl ⟨rfl,hz⟩⟩)
theorem QK (hc:az h=some 1) {x:Exec}:gy h x=some (0,1):=by
 unfold gy gm kF
 rw [hc]
 rfl
end
end Go.Proofs.YtfpeabnehpclnaaGreatDoorT
namespace Go.Proofs.YtfpeabnehpclnaaGreatDoorT
open Go Go.Proofs Go.Proofs.YtfpeabnehpclnaaGreatDoorE
set_option linter.unusedVariables false
set_option linter.unusedSimpArgs false
abbrev XG (x:Exec):Prop:=((∀ y ∈ (x).Order,(Lit.int .i64 y).wf=true)∧((x).Order).length * 8≤140737488351232)∧((∀ y ∈ (x).Picks,(Lit.int .i64 y).wf=true)∧((x).Picks).length * 8≤140737488351232)
section
variable {h:History} {l at_:List Int}
end
end Go.Proofs.YtfpeabnehpclnaaGreatDoorT
namespace Go.Proofs.YtfpeabnehpclnaaGreatDoorT
open Go Go.Proofs Go.Proofs.YtfpeabnehpclnaaGreatDoorE
set_option linter.unusedVariables false
set_option linter.unusedSimpArgs false
theorem Gp {l:List Int} {v:Int} (hl:l.length < 2 ^ 60):slices_Index_int l v=some (if v ∈ l then (pos l v:Int) else -1):=by
 refine eY.1 ?_;unfold slices_Index_int;refine bN (k0:=0) l.length (fun k s=>s=(k:Int)∧∀ j:Nat,j < k→v≠idx l (j:Int)) (Nat.zero_le _) ⟨rfl,fun j h=>absurd h (Nat.not_lt_zero _)⟩ ?_;rintro k s hk ⟨rfl,hno⟩;have hw:w64 ((k:Int) + 1)=((k + 1:Nat):Int):=aQ (by omega);unfold lD
 dsimp only
 rw [hw]
 refine ai (fun h1 => ?_) (fun h1 => ?_)
 ·have a1:k < l.length:=by omega
  refine ag (by omega) ?_;refine ai (fun h2 => ?_) (fun h2 => ?_)
  ·refine au (af ?_)
   show (k:Int)=_
   have hm:v ∈ l:=by rw [h2]; exact dJ a1
   rw [if_pos hm]
   have h3:=qo hm;have h4:=nE.2 hm;have h5:¬ pos l v < k:=fun h=>hno _ h h3.symm;have h6:¬ k < pos l v:=fun h=>by
    unfold pos at h;have:=List.not_of_lt_findIdx h
    rw [bS (n:=k) rfl a1] at h2
    simp [h2] at this
   omega
  ·refine af ⟨a1,rfl,fun j hj => ?_⟩;rcases Nat.lt_or_ge j k with h3 | h3
   ·exact hno j h3
   ·have:j=k:=by omega
    subst this;exact h2
 ·have:k=l.length:=by omega
  subst this;refine au (af ?_)
  show (-1:Int)=_
  rw [if_neg]
  intro hm;obtain ⟨j,hj,e⟩:=oU hm;exact hno j hj e.symm
end Go.Proofs.YtfpeabnehpclnaaGreatDoorT
namespace Go.Proofs.YtfpeabnehpclnaaGreatDoorT
open Go Go.Proofs Go.Proofs.YtfpeabnehpclnaaGreatDoorE
set_option linter.unusedVariables false
set_option linter.unusedSimpArgs false
section
variable {h:History}
abbrev don (h:History) (t:Nat):Prop:=(idx h.Txns (t:Int)).Status=1
def ff (h:History) (p:Int):Nat→Option Nat
 | 0=>none
 | d + 1=>if don h (h.Txns.length - (d + 1))∧(idx h.Txns ((h.Txns.length - (d + 1):Nat):Int)).Proc=p then some (h.Txns.length - (d + 1)) else ff h p d
theorem LB {p:Int}:∀ {d b:Nat},d≤h.Txns.length→ff h p d=some b→h.Txns.length - d≤b∧b < h.Txns.length∧don h b∧(idx h.Txns (b:Int)).Proc=p
 | 0,_,_,e=>nomatch e
 | d + 1,b,hd,e=>by
  unfold ff at e
  split at e
  ·rename_i hc
   cases e;exact ⟨Nat.le_refl _,by omega,hc.1,hc.2⟩
  ·obtain ⟨h1,h2,h3⟩:=LB (by omega) e;exact ⟨by omega,h2,h3⟩
def soE (h:History) (a:Nat):List Edge:=if don h a then (match ff h (idx h.Txns (a:Int)).Proc (h.Txns.length - 1 - a) with | some b=>[⟨a,b,1,-1⟩] | none=>[]) else []
def FR (h:History) (a b:Nat):List Edge:=if don h a∧don h b∧(idx h.Txns (a:Int)).To < (idx h.Txns (b:Int)).From then [⟨a,b,2,-1⟩] else []
def rtE (h:History) (a k:Nat):List Edge:=(List.range k).flatMap (FR h a)
def upE {β:Type} (f:Nat→List β) (k:Nat):List β:=(List.range k).flatMap f
theorem ui {β:Type} {f:Nat→List β} {k:Nat}:upE f (k + 1)=upE f k++f k:=by
 unfold upE
 rw [List.range_succ,List.flatMap_append]
 simp
theorem uS {β:Type} {f:Nat→List β} {m:Nat} (hf:∀ k,(f k).length≤m):∀ k,(upE f k).length≤k * m
 | 0=>by simp [upE]
 | k + 1=>by
  rw [ui,List.length_append,Nat.add_mul,Nat.one_mul]
  have:=uS hf k;have:=hf k
  omega
theorem QL {a:Nat}:(soE h a).length≤1:=by
 unfold soE
 split
 ·split <;> simp
 ·simp
theorem Om {a b:Nat}:(FR h a b).length≤1:=by
 unfold FR
 split <;> simp
theorem Jf {a k:Nat}:rtE h a (k + 1)=rtE h a k++FR h a k:=ui
theorem LC {a k:Nat}:(rtE h a k).length≤k:=by
 have:=uS (f:=FR h a) (fun k=>Om) k
 rwa [Nat.mul_one] at this
abbrev soL (h:History) (k:Nat):List Edge:=upE (soE h) k
abbrev rtL (h:History) (k:Nat):List Edge:=upE (fun a=>rtE h a h.Txns.length) k
theorem Ef {k:Nat}:(soL h k).length≤k:=by
 have:=uS (f:=soE h) (fun k=>QL) k
 rwa [Nat.mul_one] at this
theorem Hg (hS:dB h) {k:Nat} (hk:k≤h.Txns.length):(rtL h k).length≤1024:=by
 have a1:=hS.len;have h1:(rtL h k).length≤k * 32:=uS (fun k=>Nat.le_trans LC a1) k
 omega
theorem Eg {m:aC} {t:Nat} (ht:t < m.h.Txns.length):iy m (t:Int)=some (decide (don m.h t)):=by
 unfold iy
 rw [iL _ (by omega)]
 by_cases h1:don m.h t
 ·rw [decide_eq_true h1,show ((idx m.h.Txns (t:Int)).Status == 1)=true from beq_iff_eq.2 h1]
 ·rw [decide_eq_false h1,show ((idx m.h.Txns (t:Int)).Status == 1)=false from beq_eq_false_iff_ne.2 h1]
theorem CS {m:aC} {a b k y:Int} (hl:m.edges.length < 2 ^ 40):fD m a b k y=some ⟨m.h,m.asks,m.edges++[⟨a,b,k,y⟩]⟩:=by
 unfold fD
 rw [iL _ (by omega)]
def nx (h:History) (t:Nat):Int:=if don h t then (match ff h (idx h.Txns (t:Int)).Proc (h.Txns.length - 1 - t) with | some b=>(b:Int) | none => -1) else -1
theorem Sa {t:Nat}:soE h t=if nx h t ≥ 0 then [⟨t,nx h t,1,-1⟩] else []:=by
 unfold soE nx
 split
 ·split
  ·rename_i b _
   rw [if_pos (by omega)]
  ·rw [if_neg (by omega)]
 ·rw [if_neg (by omega)]
theorem FT {m:aC} (a7:m.h.Txns.length≤32) (hl:m.edges.length < 2 ^ 30):aO m=some ⟨m.h,m.asks,m.edges++soL m.h m.h.Txns.length⟩:=by
 refine eY.1 ?_;unfold aO;refine ag (by omega) ?_;have hn:(m.h.Txns.length:Int).toNat=m.h.Txns.length:=by omega
 rw [hn]
 by_cases h0:m.h.Txns.length=0
 ·
  rw [Aj]
  unfold jC
  dsimp only
  have hw:w64 ((m.h.Txns.length:Int) - 1) = -1:=by rw [h0]; decide
  rw [hw,decide_eq_false (by decide),cond_false,Aj]
  unfold jB
  dsimp only
  rw [List.length_replicate,decide_eq_false (by omega),cond_false]
  refine ⟨_,rfl,?_⟩
  rw [h0]
  simp [soL,upE]
 have hw:w64 ((m.h.Txns.length:Int) - 1)=((m.h.Txns.length:Int) - 1 - (0:Nat)):=by rw [oD (by omega) (by omega)]; omega
 rw [hw]
 refine bN (k0:=0) m.h.Txns.length (fun k s=>s.1.length=m.h.Txns.length∧s.2.2=(m.h.Txns.length:Int) - 1 - (k:Int)∧(∀ t:Nat,m.h.Txns.length - k≤t→t < m.h.Txns.length→idx s.1 (t:Int)=nx m.h t) ∧
  ∀ p:Int,(kC s.2.1 p=true↔(ff m.h p k).isSome=true)∧∀ b,ff m.h p k=some b→mat s.2.1 p=(b:Int)) (Nat.zero_le _)
  ⟨by simp,rfl,fun t h1 h2=>by omega,fun p=>⟨by simp [Fb,ff],fun b hb=>(nomatch hb)⟩⟩ ?_
 rintro k ⟨l,mp,x⟩ hk ⟨e1,rfl,e3,e4⟩
 dsimp only at e1 e3 e4
 unfold jC
 dsimp only
 refine ai (fun h1 => ?_) (fun h1 => ?_)
 ·have a2:k < m.h.Txns.length:=by omega
  obtain ⟨t,ht,hx⟩:∃ t:Nat,t < m.h.Txns.length∧(m.h.Txns.length:Int) - 1 - (k:Int)=(t:Int):=⟨m.h.Txns.length - 1 - k,by omega,by omega⟩
  have htk:t=m.h.Txns.length - (k + 1):=by omega
  have a3:m.h.Txns.length - 1 - t=k:=by omega
  rw [hx]
  have a5:w64 ((t:Int) - 1)=(m.h.Txns.length:Int) - 1 - ((k + 1:Nat):Int):=by rw [oD (by omega) (by omega)]; omega
  have hset:∀ v:Int,∀ u:Nat,u < m.h.Txns.length→idx (l.set t v) (u:Int)=if u=t then v else idx l (u:Int):=fun v u hu=>by
   rw [bS (n:=u) rfl (by simpa using by omega),List.getElem_set]
   by_cases e:t=u
   ·rw [if_pos e,if_pos e.symm]
   ·rw [if_neg e,if_neg (fun h=>e h.symm),bS (n:=u) rfl (by omega)]
  have hset2:∀ v v':Int,(l.set t v).set t v'=l.set t v':=fun v v'=>by simp
  have hto:(t:Int).toNat=t:=by omega
  refine ag (by omega) (aZ (Eg (m:=m) ht) ?_);unfold jy jw
  rw [a5,hto]
  have ffk:∀ p,ff m.h p (k + 1)=if don m.h t∧(idx m.h.Txns (t:Int)).Proc=p then some t else ff m.h p k:=fun p=>by
   have e:ff m.h p (k + 1)=if don m.h (m.h.Txns.length - (k + 1))∧(idx m.h.Txns ((m.h.Txns.length - (k + 1):Nat):Int)).Proc=p then some (m.h.Txns.length - (k + 1)) else ff m.h p k:=rfl
   rw [e,← htk]
  by_cases hd:don m.h t
  ·rw [decide_eq_true hd]
   refine ai (fun h=>absurd h (by simp)) (fun _ => ?_);refine ag (by omega) ?_;have last:∀ v,v=nx m.h t→Upm m.h.Txns.length k (fun (k:Nat) (s:List Int×List (Int×Int)×Int)=>s.1.length=m.h.Txns.length∧s.2.2=(m.h.Txns.length:Int) - 1 - (k:Int)∧(∀ t:Nat,m.h.Txns.length - k≤t→t < m.h.Txns.length→idx s.1 (t:Int)=nx m.h t) ∧
      ∀ p:Int,(kC s.2.1 p=true↔(ff m.h p k).isSome=true)∧∀ b,ff m.h p k=some b→mat s.2.1 p=(b:Int)) (fun b:aC=>b=⟨m.h,m.asks,m.edges++soL m.h m.h.Txns.length⟩)
     (.inl (l.set t v,gG mp (idx m.h.Txns (t:Int)).Proc (t:Int),(m.h.Txns.length:Int) - 1 - ((k + 1:Nat):Int))):=fun v hv=>by
    refine ⟨a2,by dsimp only; simp [e1],rfl,fun u a6 a1 => ?_,fun p => ?_⟩
    ·dsimp only
     rw [hset v u a1]
     by_cases e:u=t
     ·rw [if_pos e,hv,e]
     ·rw [if_neg e]; exact e3 u (by omega) a1
    ·dsimp only
     rw [xQ,qp,ffk p]
     by_cases e:(idx m.h.Txns (t:Int)).Proc=p
     ·rw [if_pos ⟨hd,e⟩,if_pos e.symm]
      exact ⟨by simp [e],fun b hb=>by cases hb; rfl⟩
     ·rw [if_neg (fun h=>e h.2),if_neg (fun h=>e h.symm)]
      refine ⟨⟨fun h => ?_,fun h => .inr ((e4 p).1.2 h)⟩,(e4 p).2⟩;rcases h with h | h
      ·exact absurd h.symm e
      ·exact (e4 p).1.1 h
   refine ai (fun h2 => ?_) (fun h2 => ?_)
   ·have h3:=(e4 (idx m.h.Txns (t:Int)).Proc).1.1 h2;obtain ⟨b,hb⟩:=Option.isSome_iff_exists.1 h3;have h4:=(e4 (idx m.h.Txns (t:Int)).Proc).2 b hb;refine ag (by simp [e1]; omega) (ag (by omega) (af ?_))
    rw [hset2,h4]
    refine last _ ?_;unfold nx
    rw [if_pos hd,a3,hb]
   ·refine ag (by omega) (af (last _ ?_));have h3:ff m.h (idx m.h.Txns (t:Int)).Proc k=none:=by
     cases h4:ff m.h (idx m.h.Txns (t:Int)).Proc k with
     | none=>rfl
     | some b=>exact absurd ((e4 _).1.2 (by rw [h4]; rfl)) (by simpa using h2)
    unfold nx
    rw [if_pos hd,a3,h3]
  ·rw [decide_eq_false hd]
   rw [Bool.not_false,cond_true]
   refine af ⟨a2,by dsimp only; simp [e1],rfl,fun u a6 a1 => ?_,fun p => ?_⟩
   ·dsimp only
    rw [hset _ u a1]
    by_cases e:u=t
    ·rw [if_pos e,e]; unfold nx; rw [if_neg hd]
    ·rw [if_neg e]; exact e3 u (by omega) a1
   ·rw [ffk p,if_neg (fun h=>hd h.1)]
    exact e4 p
 ·have:k=m.h.Txns.length:=by omega
  subst this;refine bN (k0:=0) l.length (fun k s=>s=(m.edges++soL m.h k,(k:Int))) (Nat.zero_le _) (by simp [soL,upE]) ?_;rintro k s hk ⟨rfl⟩;have a4:w64 ((k:Int) + 1)=((k + 1:Nat):Int):=aQ (by omega);have hsl:=Ef (h:=m.h) (k:=k);unfold jB jA
  dsimp only
  rw [a4]
  refine ai (fun h2 => ?_) (fun h2 => ?_)
  ·have a2:k < m.h.Txns.length:=by omega
   refine ag (by omega) ?_
   rw [e3 k (by omega) a2]
   have hsu:soL m.h (k + 1)=soL m.h k++soE m.h k:=ui
   rw [Sa] at hsu
   refine ai (fun h3 => ?_) (fun h3 => ?_)
   ·refine aZ (CS (by simp only [List.length_append]; omega)) (af ⟨by omega,?_⟩)
    dsimp only
    rw [hsu,if_pos h3,List.append_assoc]
   ·refine af ⟨by omega,?_⟩
    dsimp only
    rw [hsu,if_neg h3,List.append_nil]
  ·have:k=l.length:=by omega
   subst this;refine au (au (af ?_))
   show aC.mk _ _ _=_
   rw [e1]
theorem MW {m:aC} (hS:dB m.h) (hl:m.edges.length < 2 ^ 30):bP m=some ⟨m.h,m.asks,m.edges++rtL m.h m.h.Txns.length⟩:=by
 have a5:=hS.len;refine eY.1 ?_;unfold bP;refine bN (k0:=0) m.h.Txns.length (fun k s=>s=(m.edges++rtL m.h k,(k:Int))) (Nat.zero_le _) (by simp [rtL,upE]) ?_;rintro k s hk rfl;have hw:w64 ((k:Int) + 1)=((k + 1:Nat):Int):=aQ (by omega);have hrl:=Hg hS hk;unfold qy
 dsimp only
 refine ai (fun h1 => ?_) (fun h1 => ?_)
 ·have a2:k < m.h.Txns.length:=by omega
  refine ag (by omega) ?_;refine bN (k0:=0) m.h.Txns.length (fun q s=>s=(m.edges++rtL m.h k++rtE m.h k q,(q:Int))) (Nat.zero_le _) (by simp [rtE]) ?_;rintro q s hq rfl;have a3:w64 ((q:Int) + 1)=((q + 1:Nat):Int):=aQ (by omega);have hel:=LC (h:=m.h) (a:=k) (k:=q);unfold qx jJ mh
  dsimp only
  rw [hw,a3]
  refine ai (fun h2 => ?_) (fun h2 => ?_)
  ·have a1:q < m.h.Txns.length:=by omega
   refine ag (by omega) (aZ (Eg (m:=⟨m.h,m.asks,_⟩) a2) ?_);have no:¬ (don m.h k∧don m.h q∧(idx m.h.Txns (k:Int)).To < (idx m.h.Txns (q:Int)).From)→Tri (bif false then (fD (⟨m.h,m.asks,m.edges++rtL m.h k++rtE m.h k q⟩:aC) (k:Int) (q:Int) 2 (-1)).bind fun a4=>some (.inl (a4.edges,((q + 1:Nat):Int))) else some (.inl (m.edges++rtL m.h k++rtE m.h k q,((q + 1:Nat):Int))))
     (Upm m.h.Txns.length q (fun q s=>s=(m.edges++rtL m.h k++rtE m.h k q,(q:Int))) (Upm m.h.Txns.length k (fun k s=>s=(m.edges++rtL m.h k,(k:Int))) (fun b:aC=>b=⟨m.h,m.asks,m.edges++rtL m.h m.h.Txns.length⟩))):=fun hn=>by
    rw [cond_false]
    refine af ⟨a1,?_⟩
    dsimp only
    rw [Jf,FR,if_neg hn,List.append_nil]
   by_cases d1:don m.h k
   rotate_left
   ·rw [decide_eq_false d1,cond_false]; exact no (fun h=>d1 h.1)
   rw [decide_eq_true d1,cond_true]
   refine aZ (Eg (m:=⟨m.h,m.asks,_⟩) a1) ?_
   by_cases d2:don m.h q
   rotate_left
   ·rw [decide_eq_false d2,cond_false]; exact no (fun h=>d2 h.2.1)
   rw [decide_eq_true d2,cond_true]
   by_cases d3:(idx m.h.Txns (k:Int)).To < (idx m.h.Txns (q:Int)).From
   rotate_left
   ·rw [decide_eq_false d3]; exact no (fun h=>d3 h.2.2)
   rw [decide_eq_true d3,cond_true]
   refine aZ (CS (by simp only [List.length_append]; omega)) (af ⟨a1,?_⟩)
   dsimp only
   rw [Jf,FR,if_pos ⟨d1,d2,d3⟩,List.append_assoc]
  ·have:q=m.h.Txns.length:=by omega
   subst this;refine au (af ⟨a2,?_⟩);have e:rtL m.h (k + 1)=rtL m.h k++rtE m.h k m.h.Txns.length:=ui
   dsimp only
   rw [e,List.append_assoc]
 ·have:k=m.h.Txns.length:=by omega
  subst this;exact au (af rfl)
end
end Go.Proofs.YtfpeabnehpclnaaGreatDoorT
