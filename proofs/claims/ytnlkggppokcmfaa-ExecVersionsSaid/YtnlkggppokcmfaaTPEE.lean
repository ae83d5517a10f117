import Derived.Test.YtnlkggppokcmfaaTPEC
namespace Go.Proofs.YtnlkggppokcmfaaT
open Go Go.Proofs Go.Proofs.YtnlkggppokcmfaaE
set_option linter.unusedVariables false
set_option linter.unusedSimpArgs false
theorem GG {y:Int} (h:(Lit.int .i64 y).wf=true):y < 2 ^ 63:=by
 simp only [Lit.wf,Bool.and_eq_true,decide_eq_true_eq] at h
 have h2:IntKind.max .i64=2 ^ 63 - 1:=by decide
 rw [h2] at h
 omega
section
variable {h:History} {l:List Int}
theorem Dm (hs:tT h) (hS:si h) (hc:aN h=some 0) (hc':ag h=some 0) (key:Int):∃ ty,dJ h key=some ty∧bM h key=some ty:=by
 have a4:=hS.len;have hk:Tri (dJ h key) (fun r=>Tri (bM h key) (fun s=>r=s)):=by
  unfold dJ bM;refine dw hc ?_
  rw [hc']
  rw [bne_self_eq_false,cond_false]
  show Tri (iter (nD h key) 0) (fun r=>Tri (iter (ja h key) 0) (fun s=>r=s))
  refine uq (k0:=0) h.Txns.length (fun (k:Nat) (s t:Int)=>s=(k:Int)∧t=(k:Int)) (Nat.zero_le _) ⟨rfl,rfl⟩ ?_;rintro k s t hk ⟨rfl,rfl⟩;have hw:w64 ((k:Int) + 1)=((k + 1:Nat):Int):=dE (by omega);unfold nD ja
  dsimp only
  refine aB (fun h1 => ?_) (fun h1 => ?_)
  ·have a0:k < h.Txns.length:=by omega
   have a3:=(hS.txn k a0).ops.1
   rw [decide_eq_true h1,cond_true]
   refine az (by omega) ?_;refine uq (k0:=0) (idx h.Txns (k:Int)).Ops.length (fun (p:Nat) (s t:Int)=>s=(p:Int)∧t=(p:Int)) (Nat.zero_le _) ⟨rfl,rfl⟩ ?_;rintro p s t hp ⟨rfl,rfl⟩;have a2:w64 ((p:Int) + 1)=((p + 1:Nat):Int):=dE (by omega);unfold qy kX
   dsimp only
   rw [a2,hw,um _ (show 0≤(k:Int)∧(k:Int) < (h.Txns.length:Int) by omega)]
   refine aB (fun h2 => ?_) (fun h2 => ?_)
   ·have a1:p < (idx h.Txns (k:Int)).Ops.length:=by omega
    rw [decide_eq_true h2,cond_true]
    refine az (by omega) ?_
    rw [um _ (show 0≤(p:Int)∧(p:Int) < ((idx h.Txns (k:Int)).Ops.length:Int) by omega)]
    obtain ⟨k1,k8⟩:=EW hS a0 a1;have ho:idx (idx h.Txns (k:Int)).Ops (p:Int)=opAt h (k:Int) (p:Int):=rfl
    rw [ho]
    by_cases h3:(opAt h (k:Int) (p:Int)).Key=key
    ·rw [beq_iff_eq.2 h3,cond_true,cond_true,tQ k1 k8,xS k1 k8]
     exact bS (aJ (aJ (aj (bS (aJ (aJ (aj rfl)))))))
    ·rw [beq_eq_false_iff_ne.2 h3,cond_false,cond_false]
     exact aj (aj ⟨a1,rfl,rfl⟩)
   ·rw [decide_eq_false h2,cond_false]
    exact aJ (aj (aJ (aj ⟨a0,rfl,rfl⟩)))
  ·rw [decide_eq_false h1,cond_false]
   exact aJ (aj (aJ (aj rfl)))
 obtain ⟨r,h1,s,h2,rfl⟩:=hk;exact ⟨r,h1,h2⟩
theorem zO (hs:tT h) (hl:l.length < 2 ^ 50) (key t:Int) (ht:t < 2 ^ 63):∃ r:List Int×Bool,aZ h l key t=some r∧aG h l key t=some r∧r.1.length < 2 ^ 60:=by
 obtain ⟨v,hv,hv',a4,hiff⟩:=yx hs;have nope:Tri (dK h l key t true) (fun r=>r=([],false)):=by
  unfold dK; rw [cond_true]; exact aj rfl
 have nope':Tri (bR h l key t true) (fun r=>r=([],false)):=by
  unfold bR; rw [cond_true]; exact aj rfl
 have two:∀ {x y:Option (List Int×Bool)} {r:List Int×Bool},r.1.length < 2 ^ 60→Tri x (fun b=>b=r)→Tri y (fun b=>b=r)→∃ r:List Int×Bool,x=some r∧y=some r∧r.1.length < 2 ^ 60:=fun hr h1 h2=>⟨_,kZ.1 h1,kZ.1 h2,hr⟩;rcases a4 with rfl | rfl
 rotate_left
 ·refine two (r:=([],false)) (by simp) ?_ ?_
  ·unfold aZ; refine dw hv ?_; exact aB (fun _=>nope) (fun h=>absurd (by decide) h)
  ·unfold aG; refine dw hv' ?_; exact aB (fun _=>nope') (fun h=>absurd (by decide) h)
 have hS:=hiff.1 rfl;have a2:=hS.len;have a0:((0:Int) != 0)=false:=by decide
 by_cases hkey:key < 0∨(h.Keys.length:Int)≤key
 ·refine two (r:=([],false)) (by simp) ?_ ?_
  ·unfold aZ; refine dw hv ?_; rw [a0,cond_false];exact aB (fun _=>nope) (fun h1=>aB (fun _=>nope) (fun h2=>by omega))
  ·unfold aG; refine dw hv' ?_; rw [a0,cond_false];refine aB (fun _=>nope') (fun h1 => ?_)
   rw [decide_eq_true (by omega)]
   exact nope'
 obtain ⟨⟨⟨rh,ro,rm⟩,rb⟩,hset,e1,e2,e3,e4⟩:=zw a2 (h:=h) (l:=l) (by omega)
 dsimp only at e1 e2 e3 e4
 subst e1 e2;obtain ⟨⟨at_,pb⟩,hpl,p1,p2,p3⟩:=xB a2 (h:=rh) (l:=ro) (by omega)
 dsimp only at p1 p2 p3
 have code:aZ rh ro key t=dK rh ro key t (decide (t < -1)):=by
  unfold aZ
  rw [hv,Option.bind_some,a0,cond_false,decide_eq_false (by omega),cond_false,decide_eq_false (by omega),cond_false]
 have ref:aG rh ro key t=bR rh ro key t false:=by
  unfold aG
  rw [hv',Option.bind_some,a0,cond_false,decide_eq_false (by omega),cond_false,decide_eq_false (by omega)]
 rw [code,ref]
 have bad':Tri (bY rh ro key t true) (fun r=>r=(([]:List Int),false)):=by
  unfold bY; rw [cond_true]; exact aj rfl
 by_cases ho:jf rh ro
 rotate_left
 ·have eb:rb=false:=by cases rb with | false=>rfl | true=>exact absurd (e3.1 rfl) ho
  have ep:pb=false:=by cases pb with | false=>rfl | true=>exact absurd (p1.1 rfl) ho
  subst eb ep;refine two (r:=([],false)) (by simp) ?_ ?_
  ·unfold dK;refine aB (fun _=>aj rfl) (fun _=>dw hset ?_);refine aB (fun _ => ?_) (fun h=>absurd (by simp) h);unfold gL; rw [cond_true]; exact aj rfl
  ·unfold bR
   rw [cond_false]
   refine dw hpl ?_;exact aB (fun _=>bad') (fun h=>absurd (by simp) h)
 have eb:=e3.2 ho;have ep:=p1.2 ho;subst eb ep;have hm:=e4 rfl;have hp:=p2 rfl;have hlen:=hp.len
 by_cases htin:t = -1∨t ∈ ro
 ·obtain ⟨ty,hT,hT'⟩:=Dm hs hS hv hv' key;have h1:¬ t < -1:=by
   rcases htin with h | h
   ·omega
   ·have:=ho.rg t h; omega
  have h2:t < 0∨t ∈ ro:=htin.imp (fun h=>by omega) id;have hlv:=EZ (ty:=ty) (w:=lM rh ro key t);have hal:=Al hS ho (key:=key) (t:=t);refine two (r:=(fin ty (lM rh ro key t),true)) (by dsimp only; omega) ?_ ?_
  ·unfold dK gL
   rw [decide_eq_false h1,cond_false]
   refine dw hset ?_;refine aB (fun h=>absurd h (by simp)) (fun _ => ?_)
   dsimp only
   have hb:(bif decide (t ≥ 0) then (bif (!jX rm t) then some (([]:List Int),false) else (au ⟨rh,ro,rm⟩ key t).bind fun a1=>some (a1,true)) else (bif false then some (([]:List Int),false) else (au ⟨rh,ro,rm⟩ key t).bind fun a1=>some (a1,true)))=some (fin ty (lM rh ro key t),true):=by
    rw [zN hS ho hm hT h2,hm.hasB]
    rcases htin with h | h
    ·rw [decide_eq_false (by omega)]; rfl
    ·have:=ho.rg t h
     rw [decide_eq_true (by omega),decide_eq_true h]; rfl
   exact kZ.2 hb
  ·unfold bR bY
   rw [cond_false]
   refine dw hpl ?_;refine aB (fun h=>absurd h (by simp)) (fun _ => ?_);refine aB (fun h=>absurd h h1) (fun _ => ?_);have h3:¬ t ≥ (at_.length:Int):=by
    rcases htin with h | h
    ·omega
    ·have:=ho.rg t h; omega
   refine aB (fun h=>absurd h h3) (fun _ => ?_);have fini:Tri (bif false then some (([]:List Int),false) else ((bM rh key).bind fun a5=>(aC rh ro a5 key t).bind fun a6=>some (a6,true))) (fun b=>b=(fin ty (lM rh ro key t),true)):=by
    rw [cond_false]
    exact dw hT' (dw (Am hS ho h2) (aj rfl))
   refine aB (fun h4 => ?_) (fun h4=>fini);have htm:t ∈ ro:=htin.resolve_left (by omega);have hr:=ho.rg t htm;obtain ⟨q,rfl⟩:∃ q:Nat,t=(q:Int):=⟨t.toNat,by omega⟩
   have hatq:=hp.at_ q (by omega)
   rw [if_pos htm] at hatq
   dsimp only at hlen ⊢
   refine az (by omega) ?_
   rw [show (idx at_ (q:Int) == 0)=false by rw [beq_eq_false_iff_ne,hatq]; omega]
   exact fini
 ·have a7:t ≠ -1:=fun h=>htin (.inl h);have a3:t ∉ ro:=fun h=>htin (.inr h);refine two (r:=([],false)) (by simp) ?_ ?_
  ·unfold dK gL;refine aB (fun _=>aj rfl) (fun h1=>dw hset ?_);refine aB (fun h=>absurd h (by simp)) (fun _ => ?_)
   dsimp only
   rw [hm.hasB,decide_eq_false a3]
   refine aB (fun h2=>aj rfl) (fun h2=>by omega)
  ·unfold bR
   rw [cond_false]
   refine dw hpl ?_;refine aB (fun h=>absurd h (by simp)) (fun _ => ?_);refine aB (fun _=>bad') (fun h1 => ?_);refine aB (fun _=>bad') (fun h2 => ?_);refine aB (fun h3 => ?_) (fun h3=>by omega);refine az (by dsimp only at h2 ⊢; omega) ?_;obtain ⟨q,rfl⟩:∃ q:Nat,t=(q:Int):=⟨t.toNat,by omega⟩
   have hatq:=hp.at_ q (by dsimp only at h2; omega)
   rw [if_neg a3] at hatq
   dsimp only at h2 ⊢
   rw [show (idx at_ (q:Int) == 0)=true by rw [beq_iff_eq,hatq]]
   exact bad'
def vv (h:History) (l:List Int):Prop:=∀ i j:Nat,i < j→j < l.length→(idx h.Txns (idx l (j:Int))).Status=1 → ¬ (idx h.Txns (idx l (j:Int))).To < (idx h.Txns (idx l (i:Int))).From
theorem CB (hS:si h) (hc:aN h=some 0) (hl:l.length < 2 ^ 50):Tri (dF h l) (fun r=>r=true↔jf h l∧vv h l):=by
 have a2:=hS.len;unfold dF;refine dw hc ?_;refine aB (fun h=>absurd rfl h) (fun _ => ?_);refine gu (zw a2 (by omega)) (fun r hr => ?_);obtain ⟨⟨rh,ro,rm⟩,rb⟩:=r;obtain ⟨e1,e2,e3,e4⟩:=hr
 dsimp only at e1 e2 e3 e4
 subst e1 e2;refine aB (fun h2=>aj ⟨fun h=>(nomatch h),fun h=>absurd (e3.2 h.1) h2⟩) (fun h2 => ?_);have ho:=e3.1 (by simpa using h2);refine gG (k0:=0) ro.length (fun k s=>s=(k:Int)∧∀ i j:Nat,i < k→i < j→j < ro.length→(idx rh.Txns (idx ro (j:Int))).Status=1 → ¬ (idx rh.Txns (idx ro (j:Int))).To < (idx rh.Txns (idx ro (i:Int))).From) (Nat.zero_le _) ⟨rfl,fun i j h=>absurd h (Nat.not_lt_zero _)⟩ ?_;rintro k s hk ⟨rfl,hno⟩;have hw:w64 ((k:Int) + 1)=((k + 1:Nat):Int):=dE (by omega);unfold ry
 dsimp only
 rw [hw]
 refine aB (fun h3 => ?_) (fun h3 => ?_)
 ·have a0:k < ro.length:=by omega
  have hrk:=ho.rg _ (lJ a0);refine az (by omega) (az (by omega) ?_);have hsub:di ro ((k + 1:Nat):Int) (ro.length:Int)=ro.drop (k + 1):=yC ro (by omega);have hdl:(ro.drop (k + 1)).length=ro.length - (k + 1):=List.length_drop ..;have hdi:∀ q:Nat,q < ro.length - (k + 1)→idx (ro.drop (k + 1)) (q:Int)=idx ro ((k + 1 + q:Nat):Int):=fun q hq=>by
   rw [dL (n:=q) rfl (by omega),dL (n:=k + 1 + q) rfl (by omega),List.getElem_drop]
  refine gG (k0:=0) (ro.length - (k + 1)) (fun q s=>s=(q:Int)∧∀ p:Nat,p < q→(idx rh.Txns (idx ro ((k + 1 + p:Nat):Int))).Status=1 → ¬ (idx rh.Txns (idx ro ((k + 1 + p:Nat):Int))).To < (idx rh.Txns (idx ro (k:Int))).From) (Nat.zero_le _) ⟨rfl,fun p h=>absurd h (Nat.not_lt_zero _)⟩ ?_;rintro q s hq ⟨rfl,hnq⟩;have a3:w64 ((q:Int) + 1)=((q + 1:Nat):Int):=dE (by omega);unfold ru og
  dsimp only
  rw [hw,a3,hsub,hdl]
  refine aB (fun h4 => ?_) (fun h4 => ?_)
  ·have a1:q < ro.length - (k + 1):=by omega
   rw [hdi q a1]
   have hrq:=ho.rg _ (lJ (show k + 1 + q < ro.length by omega));have nx:((idx rh.Txns (idx ro ((k + 1 + q:Nat):Int))).Status=1 → ¬ (idx rh.Txns (idx ro ((k + 1 + q:Nat):Int))).To < (idx rh.Txns (idx ro (k:Int))).From) →
     Upm (ro.length - (k + 1)) q (fun q s=>s=(q:Int)∧∀ p:Nat,p < q→(idx rh.Txns (idx ro ((k + 1 + p:Nat):Int))).Status=1 → ¬ (idx rh.Txns (idx ro ((k + 1 + p:Nat):Int))).To < (idx rh.Txns (idx ro (k:Int))).From)
      (Upm ro.length k (fun k s=>s=(k:Int)∧∀ i j:Nat,i < k→i < j→j < ro.length→(idx rh.Txns (idx ro (j:Int))).Status=1 → ¬ (idx rh.Txns (idx ro (j:Int))).To < (idx rh.Txns (idx ro (i:Int))).From) (fun r:Bool=>r=true↔jf rh ro∧vv rh ro)) (.inl ((q + 1:Nat):Int)):=fun h5=>⟨a1,rfl,fun p hp=>by
    rcases Nat.lt_or_ge p q with h6 | h6
    ·exact hnq p h6
    ·have:p=q:=by omega
     subst this;exact h5⟩
   refine az (by omega) (az ⟨hrq.1,hrq.2.1⟩ ?_);refine aB (fun h5 => ?_) (fun h5 => ?_)
   ·refine az ⟨hrk.1,hrk.2.1⟩ ?_;refine aB (fun h6 => ?_) (fun h6=>aj (nx (fun _=>h6)));exact aJ (aJ (aj ⟨fun h=>(nomatch h),fun h=>absurd h6 (h.2 k (k + 1 + q) (by omega) (by omega) h5)⟩))
   ·exact aB (fun h6=>absurd h6 (by simp)) (fun _=>aj (nx (fun h6=>absurd h6 h5)))
  ·have:q=ro.length - (k + 1):=by omega
   subst this;refine aJ (aj ⟨a0,rfl,fun i j hi hij hj => ?_⟩);rcases Nat.lt_or_ge i k with h5 | h5
   ·exact hno i j h5 hij hj
   ·have:i=k:=by omega
    subst this;have e:i + 1 + (j - (i + 1))=j:=by omega
    have:=hnq (j - (i + 1)) (by omega)
    rwa [e] at this
 ·have:k=ro.length:=by omega
  subst this;refine aJ (aj ?_)
  rw [show ((ro.length:Int) == (ro.length:Int))=true from beq_iff_eq.2 rfl]
  exact ⟨fun _=>⟨ho,fun i j hij hj=>hno i j (by omega) hij hj⟩,fun _=>rfl⟩
theorem Dn (hS:si h) (hc:ag h=some 0) (hl:l.length < 2 ^ 50):Tri (fM h l) (fun r=>r=true↔jf h l∧vv h l):=by
 have a2:=hS.len;unfold fM;refine dw hc ?_;refine aB (fun h=>absurd rfl h) (fun _ => ?_);refine gu (xB a2 (by omega)) (fun r hr => ?_);obtain ⟨at_,b⟩:=r;obtain ⟨e1,e2,_⟩:=hr
 dsimp only at e1 e2 ⊢
 refine aB (fun h2 => ?_) (fun h2=>aj ⟨fun h=>(nomatch h),fun h=>absurd (e1.2 h.1) h2⟩);have ho:=e1.1 h2;have hp:=e2 h2;have hlen:=hp.len
 suffices hT:Tri (aU h at_) (fun r=>r=true↔vv h l) from gu hT (fun r hr=>aj ⟨fun h=>⟨ho,hr.1 h⟩,fun h=>hr.2 h.2⟩)
 unfold aU
 let bad:Nat→Nat→Prop:=fun a b=>(a:Int) ∈ l∧(b:Int) ∈ l∧(idx h.Txns (a:Int)).Status=1∧(idx h.Txns (a:Int)).To < (idx h.Txns (b:Int)).From∧pos l (b:Int)≤pos l (a:Int)
 have hR:vv h l↔∀ a b:Nat,a < h.Txns.length→b < h.Txns.length → ¬ bad a b:=by
  constructor
  ·rintro hr a b ha hb ⟨q1,q2,q3,q4,q5⟩
   by_cases hab:pos l (b:Int)=pos l (a:Int)
   ·have e:(b:Int)=(a:Int):=by rw [← qh q2,hab,qh q1]
    have e:b=a:=by omega
    subst e;obtain ⟨⟨_,_,_,f4,f5,_⟩,_⟩:=hS.txn b hb;have:(idx h.Txns (b:Int)).To ≠ -1:=fun e=>by have:=f4 e; omega
    have:=f5 this
    omega
   ·have:=hr (pos l (b:Int)) (pos l (a:Int)) (by omega) (vk.2 q1)
    rw [qh q1,qh q2] at this
    exact this q3 q4
  ·intro hr i j hij hj hst hlt;have hi:=ho.rg _ (lJ (show i < l.length by omega));have hj':=ho.rg _ (lJ hj);obtain ⟨a,ea⟩:∃ a:Nat,idx l (j:Int)=(a:Int):=⟨(idx l (j:Int)).toNat,by omega⟩
   obtain ⟨b,eb⟩:∃ b:Nat,idx l (i:Int)=(b:Int):=⟨(idx l (i:Int)).toNat,by omega⟩
   have pa:pos l (a:Int)=j:=Bl ho.nd hj ea;have pb:pos l (b:Int)=i:=Bl ho.nd (by omega) eb
   rw [ea] at hst hlt hj'
   rw [eb] at hlt hi
   exact hr a b (by omega) (by omega) ⟨by rw [← ea]; exact lJ hj,by rw [← eb]; exact lJ (by omega),hst,hlt,by omega⟩
 refine gG (k0:=0) at_.length (fun k s=>s=(k:Int)∧∀ a b:Nat,a < k→b < h.Txns.length → ¬ bad a b) (Nat.zero_le _) ⟨rfl,fun a b h=>absurd h (Nat.not_lt_zero _)⟩ ?_;rintro k s hk ⟨rfl,hno⟩;have hw:w64 ((k:Int) + 1)=((k + 1:Nat):Int):=dE (by omega);unfold kE
 dsimp only
 refine aB (fun h3 => ?_) (fun h3 => ?_)
 ·have a0:k < h.Txns.length:=by omega
  have hak:=hp.at_ k a0;refine gG (k0:=0) at_.length (fun q s=>s=(q:Int)∧∀ b:Nat,b < q → ¬ bad k b) (Nat.zero_le _) ⟨rfl,fun b h=>absurd h (Nat.not_lt_zero _)⟩ ?_;rintro q s hq ⟨rfl,hnq⟩;have a3:w64 ((q:Int) + 1)=((q + 1:Nat):Int):=dE (by omega);unfold kD dU
  dsimp only
  rw [hw,a3]
  refine aB (fun h4 => ?_) (fun h4 => ?_)
  ·have a1:q < h.Txns.length:=by omega
   have haq:=hp.at_ q a1;have nx:¬ bad k q→Upm at_.length q (fun q s=>s=(q:Int)∧∀ b:Nat,b < q → ¬ bad k b)
      (Upm at_.length k (fun k s=>s=(k:Int)∧∀ a b:Nat,a < k→b < h.Txns.length → ¬ bad a b) (fun r:Bool=>r=true↔vv h l)) (.inl ((q + 1:Nat):Int)):=fun h5=>⟨by omega,rfl,fun b hb=>by
    rcases Nat.lt_or_ge b q with h6 | h6
    ·exact hnq b h6
    ·have:b=q:=by omega
     subst this;exact h5⟩
   have off:¬ bad k q→Tri (bif false then out (out (some false)) else (some (.inl ((q + 1:Nat):Int)))) (Upm at_.length q (fun q s=>s=(q:Int)∧∀ b:Nat,b < q → ¬ bad k b)
      (Upm at_.length k (fun k s=>s=(k:Int)∧∀ a b:Nat,a < k→b < h.Txns.length → ¬ bad a b) (fun r:Bool=>r=true↔vv h l))):=fun h5=>by
    rw [cond_false]; exact aj (nx h5)
   refine az (by omega) ?_;refine aB (fun h5 => ?_) (fun h5=>off (fun hb=>by rw [if_pos hb.1] at hak; omega));refine az (by omega) ?_;refine aB (fun h6 => ?_) (fun h6=>off (fun hb=>by rw [if_pos hb.2.1] at haq; omega));refine az (by omega) ?_;refine aB (fun h7 => ?_) (fun h7=>off (fun hb=>h7 hb.2.2.1));refine az (by omega) ?_;refine aB (fun h8 => ?_) (fun h8=>off (fun hb=>h8 hb.2.2.2.1));have hkl:(k:Int) ∈ l:=Classical.byContradiction fun h9=>h5 (by rw [if_neg h9] at hak; exact hak);have hql:(q:Int) ∈ l:=Classical.byContradiction fun h9=>h6 (by rw [if_neg h9] at haq; exact haq)
   rw [if_pos hkl] at hak
   rw [if_pos hql] at haq
   refine aB (fun h9 => ?_) (fun h9=>aj (nx (fun hb=>by have:=hb.2.2.2.2; omega)));exact aJ (aJ (aj ⟨fun h=>(nomatch h),fun h=>absurd ⟨hkl,hql,h7,h8,by omega⟩ (hR.1 h k q a0 a1)⟩))
  ·have:q=at_.length:=by omega
   subst this;refine aJ (aj ⟨by omega,rfl,fun a b ha hb => ?_⟩);rcases Nat.lt_or_ge a k with h5 | h5
   ·exact hno a b h5 hb
   ·have:a=k:=by omega
    subst this;exact hnq b (by omega)
 ·have:k=at_.length:=by omega
  subst this;exact aJ (aj ⟨fun _=>hR.2 (fun a b ha hb=>hno a b (by omega) hb),fun _=>rfl⟩)
theorem CE (hs:tT h) (hl:l.length < 2 ^ 50):∃ b,dF h l=some b∧fM h l=some b:=by
 obtain ⟨v,hv,hv',a0,hiff⟩:=yx hs;rcases a0 with rfl | rfl
 ·have hS:=hiff.1 rfl;obtain ⟨b,h1,h2⟩:=CB hS hv hl;obtain ⟨b',h3,h4⟩:=Dn hS hv' hl;have:b=b':=by rw [Bool.eq_iff_iff,h2,h4]
  subst this;exact ⟨b,h1,h3⟩
 ·refine ⟨false,?_,?_⟩
  ·unfold dF; rw [hv]; rfl
  ·unfold fM; rw [hv']; rfl
theorem xn (h:History) (l:List Int) (s:dB) {K:ByteArray→Prop} (g:HG K h) (gl:(∀ y ∈ l,(Lit.int .i64 y).wf=true)∧(l).length * 8≤140737488351232) (gs:((Lit.int .i64 (s).Key).wf=true)∧((Lit.int .i64 (s).Txn).wf=true)):fP h l s=some true:=by
 have hs:=g.small;have gll:=gl.2;have gt:=gs.2;have ht:s.Txn < 2 ^ 63:=GG gt;obtain ⟨r,h1,h2,h3⟩:=zO hs (l:=l) (by omega) s.Key s.Txn ht;obtain ⟨b,h4,h5⟩:=CE hs (l:=l) (by omega);refine kZ.1 ?_;unfold fP
 rw [rz]
 refine bS ?_
 rw [Bool.not_true,cond_false]
 refine dw h1 (dw h2 ?_);refine aB (fun _ => ?_) (fun h=>absurd rfl h);refine dw (Cu (by omega)) ?_
 rw [decide_eq_true rfl,cond_true]
 refine dw h4 (dw h5 (aj ?_))
 simp
end
end Go.Proofs.YtnlkggppokcmfaaT
